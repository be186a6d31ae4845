/- Lemmas; no condition. -/
import Derived.Test.YtjcdknhejcbpiaaGreatSb34
set_option maxRecDepth 100000
set_option maxHeartbeats 4000000
namespace Go.Proofs.YtjcdknhejcbpiaaGreat
open Go.RowKit
set_option linter.unusedVariables false
set_option linter.unusedSimpArgs false
set_option linter.unusedSectionVars false
def seekV (ob zb rb:Nat):Value:=.func (.func 66) #[] #[.pointer (some ⟨ob,0,none⟩),.pointer (some ⟨zb,0,none⟩),.pointer (some ⟨rb,0,none⟩)]
theorem start_11 (g lb n j sg:Nat) (r:Rd) (l:List (Option Nat)) (x:Rv) (mv dv:Value) (ix cu:Int) (pos:Int) (w:World) (h:Blk w g 111 r.cells) (hs:r.sl=.slice (some ⟨lb,0,none⟩) n n) (hl:Blk w lb 140 (pinsA l)) (hop:r.op=⟨11,(j:Int),pos,0,0,0,⟨#[]⟩⟩) (hj:j < n) (hlj:l[j]?=some (some sg))
  (hsg:Blk w sg 144 #[.int .i64 x.num,.int .u64 x.at',.int .i64 x.h,.int .i64 x.b,.int .i64 x.r,.int .i64 x.l,mv,dv,.int .i64 ix,.int .i64 cu]) (h3:0<=pos) (hp:pos<=x.b) :
  Calls Tryz.prog 38 #[.pointer (some ⟨g,0,none⟩)] w (fun e w'=>∃ob zb rb,RdSet g { r with ph:=1,dv:=seekV ob zb rb } w (.tuple #[]) e w'/\Blk w' ob 26 (OpV.arr ⟨11,(j:Int),pos,0,0,0,⟨#[]⟩⟩)/\Blk w' zb 140 #[.pointer (some ⟨sg,0,none⟩)]/\Blk w' rb 45 #[.pointer (some ⟨g,0,none⟩)]/\w.heap.size<=rb/\rb < ob/\rb≠zb/\ob≠zb/\w.heap.size<=zb):=by
 have H:=hid h
 have HL:=hid hl
 have HS:=hid hs
 have HJ:=hid hlj
 have HSG:=hid hsg
 have hc:=h.cell
 have lg:=h.lt
 obtain ⟨d1,d2⟩:=dc_ltT (a:=j) (b:=n) (by omega)
 have HF:=hid (fm11 g lb n r (j:Int) pos HS.out (by omega) (by omega) h3)
 have o3:w.cell? ⟨g,3,none⟩=some (.int .u8 11):=(hc 3).trans (by simp [Rd.cells,hop])
 have o4:w.cell? ⟨g,4,none⟩=some (.int .i64 (j:Int)):=(hc 4).trans (by simp [Rd.cells,hop])
 have o5:w.cell? ⟨g,5,none⟩=some (.int .i64 pos):=(hc 5).trans (by simp [Rd.cells,hop])
 have o6:w.cell? ⟨g,6,none⟩=some (.int .i64 0):=(hc 6).trans (by simp [Rd.cells,hop])
 have o7:w.cell? ⟨g,7,none⟩=some (.int .u32 0):=(hc 7).trans (by simp [Rd.cells,hop])
 have o8:w.cell? ⟨g,8,none⟩=some (.int .u8 0):=(hc 8).trans (by simp [Rd.cells,hop])
 have o9:w.cell? ⟨g,9,none⟩=some (.string ⟨#[]⟩):=(hc 9).trans (by simp [Rd.cells,hop])
 clear h hc hop hl hs hlj hsg
 go_enter Tryz.func38,Tryz.ntmps38
 go_wp2_with fail
 refine calls_world fun W1 hW1=>?_
 have C1:=hid (show Ch (fun _=>False) w W1 from by rw [hW1];exact ((Ch.refl _ w).alloc _).alloc _)
 have R1:=hid (show Blk W1 w.heap.size 45 #[.pointer (some ⟨g,0,none⟩)] from by rw [hW1];exact (Blk.new w _ _).alloc _)
 obtain ⟨ob,hob⟩:∃x,x=w.heap.size+1:=⟨_,rfl⟩
 have T1:=hid (show Blk W1 ob 26 #[.int .u8 11,.int .i64 (j:Int),.int .i64 pos,.int .i64 0,.int .u32 0,.int .u8 0,.string ⟨#[]⟩] from by rw [hW1,hob];have t:=Blk.new (w.alloc (.cells #[.pointer (some ⟨g,0,none⟩)] 45)) 26 #[.int .u8 11,.int .i64 (j:Int),.int .i64 pos,.int .i64 0,.int .u32 0,.int .u8 0,.string ⟨#[]⟩];simpa using t)
 have lob:=hid (show w.heap.size < ob from by omega)
 rw [<-hob]
 clear hW1 hob o3 o4 o5 o6 o7 o8 o9
 have hck:=check_11 g lb n j sg r l x mv dv ix cu W1 (C1.out.blk H.out id) HS.out (C1.out.blk HL.out id) hj HJ.out (C1.out.blk HSG.out id) pos HF.out
 rw [if_neg (by omega)] at hck
 refine hck.mono ?_
 clear hck
 rintro e w2 ⟨rfl,hc⟩
 have C2:=hid (C1.out.trans hc (fun _ _ h=>h))
 have R2:=hid (hc.blk R1.out id)
 have T2:=hid (hc.blk T1.out id)
 have r0:w2.cell? ⟨w.heap.size,0,none⟩=some (.pointer (some ⟨g,0,none⟩)):=R2.out.cell 0
 have t0:w2.cell? ⟨ob,0,none⟩=some (.int .u8 11):=T2.out.cell 0
 clear hc
 go_wp2_with fail
 obtain ⟨S,hS⟩:∃S:Nat->Prop,∀k,S k↔k < w2.heap.size:=⟨_,fun _=>Iff.rfl⟩
 have hSp1:Mix.Has S w.heap.size:=(hS _).2 R2.out.lt
 have hSp2:Mix.Has S ob:=(hS _).2 T2.out.lt
 have hSp3:Mix.Has S g:=(hS _).2 (C2.out.blk H.out id).lt
 have hSp4:Mix.Has S lb:=(hS _).2 (C2.out.blk HL.out id).lt
 have HSS:=hid hS
 clear hS
 have t1:w2.cell? ⟨ob,1,none⟩=some (.int .i64 (j:Int)):=T2.out.cell 1
 have a2:w2.cell? ⟨g,2,none⟩=some (.slice (some ⟨lb,0,none⟩) n n):=((C2.out.blk H.out (fun e=>e)).cell 2).trans (by rw [<-HS.out];rfl)
 have lj:w2.cell? ⟨lb,j,none⟩=some (.pointer (some ⟨sg,0,none⟩)):=((C2.out.blk HL.out (fun e=>e)).cell j).trans (pinsA_at (o:=some sg) HJ.out)
 refine Mix.rg S [4,1,1,4,1,4,1,4,3,2] [0,1,2,3,4,5,6,7,8,9] ?_
 repeat ((first | refine Mix.zq ?_ | refine Mix.zp ?_ | refine Mix.zs ?_);go_big_quiet_step (fail);refine wpQuiet_nil ?_)
 refine Mix.za fun W3 hW3=>?_
 obtain ⟨k3,rfl⟩:=hW3
 go_wp2_with fail
 refine ⟨fun k hk=>Below.heap_alloc _ _ k ((HSS.out k).1 hk),Mix.mix_world fun W4 hW4=>?_⟩
 have C4:=hid (show Ch (fun _=>False) w W4 from by rw [hW4];first | exact (C2.out.drewN k3).alloc _ | exact C2.out.trans (Ch.push rfl rfl rfl rfl) (fun _ _ h=>h))
 have R4:=hid (show Blk W4 w.heap.size 45 #[.pointer (some ⟨g,0,none⟩)] from by rw [hW4];exact (R2.out.drewN k3).alloc _)
 have T4:=hid (show Blk W4 ob 26 #[.int .u8 11,.int .i64 (j:Int),.int .i64 pos,.int .i64 0,.int .u32 0,.int .u8 0,.string ⟨#[]⟩] from by rw [hW4];exact (T2.out.drewN k3).alloc _)
 obtain ⟨zb,hzb⟩:∃z,z=w2.heap.size:=⟨_,rfl⟩
 have Z4:=hid (show Blk W4 zb 140 #[.pointer none] from by rw [hW4,hzb];first | exact Blk.new (w2.drewN k3) _ _ | exact Blk.push rfl)
 have nz1:=hid (show w.heap.size≠zb from by have:=R2.out.lt;omega)
 have nz2:=hid (show ob≠zb from by have:=T2.out.lt;omega)
 have nz3:=hid (show w.heap.size<=zb from by have:=R2.out.lt;omega)
 rw [<-hzb]
 clear hW4 hzb r0 t0 t1 a2 lj
 have z0:W4.cell? ⟨zb,0,none⟩=some (.pointer none):=Z4.out.cell 0
 have z1:=Z4.out.free 0
 repeat ((first | refine Mix.zq ?_ | refine Mix.zp ?_ | refine Mix.zs ?_);go_big_quiet_step (fail);refine wpQuiet_nil ?_)
 refine Mix.ze fun W5 hW5=>?_
 obtain ⟨k5,rfl⟩:=hW5
 go_wp2_with fail
 intro k6
 refine at_world fun W7 hW7=>?_
 have C7:=hid (show Ch (fun _=>False) w W7 from by rw [hW7];exact ((C4.out.drewN k5).set (fun h=>absurd h (by have:=nz3.out;omega)) _).drewN k6)
 have R7:=hid (show Blk W7 w.heap.size 45 #[.pointer (some ⟨g,0,none⟩)] from by rw [hW7];exact ((R4.out.drewN k5).far nz1.out _).drewN k6)
 have T7:=hid (show Blk W7 ob 26 #[.int .u8 11,.int .i64 (j:Int),.int .i64 pos,.int .i64 0,.int .u32 0,.int .u8 0,.string ⟨#[]⟩] from by rw [hW7];exact ((T4.out.drewN k5).far nz2.out _).drewN k6)
 have Z7:=hid (show Blk W7 zb 140 #[.pointer (some ⟨sg,0,none⟩)] from by rw [hW7];exact ((Z4.out.drewN k5).put 0 _).drewN k6)
 clear hW7 z0 z1
 have G7:=hid (C7.out.blk H.out id)
 have SG7:=hid (C7.out.blk HSG.out id)
 have r0:W7.cell? ⟨w.heap.size,0,none⟩=some (.pointer (some ⟨g,0,none⟩)):=R7.out.cell 0
 obtain ⟨t0,-,t2,t3⟩:=T7.out.c4
 have z0:W7.cell? ⟨zb,0,none⟩=some (.pointer (some ⟨sg,0,none⟩)):=Z7.out.cell 0
 obtain ⟨-,-,-,s3,s4,s5,-,-,-,s9⟩:=SG7.out.c10
 clear s3 s4 s5 s9 hp
 go_wp2_with fail
 refine (rthen_any g r 1 _ _ _ W7 G7.out).mono ?_
 rintro e w3 ⟨rfl,hb,hc⟩
 go_wp2_with fail
 go_end0
 exact ⟨ob,zb,w.heap.size,⟨rfl,hb,(C7.out.mono (fun _ _ e=>e.elim)).trans hc (fun _ _ h=>h)⟩,hc.blk T7.out (fun e=>by have:=lob.out;omega),hc.blk Z7.out (fun e=>by have:=nz3.out;omega),hc.blk R7.out (fun e=>by omega),Nat.le_refl _,lob.out,nz1.out,nz2.out,nz3.out⟩
theorem start_12 (g lb n j sg:Nat) (r:Rd) (l:List (Option Nat)) (x:Rv) (mv dv:Value) (ix cu:Int) (num:Int) (w:World) (h:Blk w g 111 r.cells) (hs:r.sl=.slice (some ⟨lb,0,none⟩) n n) (hl:Blk w lb 140 (pinsA l)) (hop:r.op=⟨12,(j:Int),0,num,0,0,⟨#[]⟩⟩) (hj:j < n) (hlj:l[j]?=some (some sg))
  (hsg:Blk w sg 144 #[.int .i64 x.num,.int .u64 x.at',.int .i64 x.h,.int .i64 x.b,.int .i64 x.r,.int .i64 x.l,mv,dv,.int .i64 ix,.int .i64 cu]) (h4:0<=num) (hb0:x.b<=1000000) (hcu:0<=cu/\cu<=x.b) :
  Calls Tryz.prog 38 #[.pointer (some ⟨g,0,none⟩)] w (RdSet g (Rd.read g r x cu (min num (x.b - cu))) w (.tuple #[])):=by
 have H:=hid h
 have HL:=hid hl
 have HS:=hid hs
 have HJ:=hid hlj
 have HSG:=hid hsg
 have hc:=h.cell
 have lg:=h.lt
 obtain ⟨d1,d2⟩:=dc_ltT (a:=j) (b:=n) (by omega)
 have HF:=hid (fm12 g lb n r (j:Int) num HS.out (by omega) (by omega) h4)
 have o3:w.cell? ⟨g,3,none⟩=some (.int .u8 12):=(hc 3).trans (by simp [Rd.cells,hop])
 have o4:w.cell? ⟨g,4,none⟩=some (.int .i64 (j:Int)):=(hc 4).trans (by simp [Rd.cells,hop])
 have o5:w.cell? ⟨g,5,none⟩=some (.int .i64 0):=(hc 5).trans (by simp [Rd.cells,hop])
 have o6:w.cell? ⟨g,6,none⟩=some (.int .i64 num):=(hc 6).trans (by simp [Rd.cells,hop])
 have o7:w.cell? ⟨g,7,none⟩=some (.int .u32 0):=(hc 7).trans (by simp [Rd.cells,hop])
 have o8:w.cell? ⟨g,8,none⟩=some (.int .u8 0):=(hc 8).trans (by simp [Rd.cells,hop])
 have o9:w.cell? ⟨g,9,none⟩=some (.string ⟨#[]⟩):=(hc 9).trans (by simp [Rd.cells,hop])
 clear h hc hop hl hs hlj hsg
 go_enter Tryz.func38,Tryz.ntmps38
 go_wp2_with fail
 refine calls_world fun W1 hW1=>?_
 have C1:=hid (show Ch (fun _=>False) w W1 from by rw [hW1];exact ((Ch.refl _ w).alloc _).alloc _)
 have R1:=hid (show Blk W1 w.heap.size 45 #[.pointer (some ⟨g,0,none⟩)] from by rw [hW1];exact (Blk.new w _ _).alloc _)
 obtain ⟨ob,hob⟩:∃x,x=w.heap.size+1:=⟨_,rfl⟩
 have T1:=hid (show Blk W1 ob 26 #[.int .u8 12,.int .i64 (j:Int),.int .i64 0,.int .i64 num,.int .u32 0,.int .u8 0,.string ⟨#[]⟩] from by rw [hW1,hob];have t:=Blk.new (w.alloc (.cells #[.pointer (some ⟨g,0,none⟩)] 45)) 26 #[.int .u8 12,.int .i64 (j:Int),.int .i64 0,.int .i64 num,.int .u32 0,.int .u8 0,.string ⟨#[]⟩];simpa using t)
 have lob:=hid (show w.heap.size < ob from by omega)
 rw [<-hob]
 clear hW1 hob o3 o4 o5 o6 o7 o8 o9
 have hck:=check_held g lb n j sg r ⟨12,(j:Int),0,num,0,0,⟨#[]⟩⟩ l x mv dv ix cu W1 (C1.out.blk H.out id) HS.out (C1.out.blk HL.out id) rfl hj HJ.out (C1.out.blk HSG.out id) HF.out (.inr (.inl rfl))
 refine hck.mono ?_
 clear hck
 rintro e w2 ⟨rfl,hc⟩
 have C2:=hid (C1.out.trans hc (fun _ _ h=>h))
 have R2:=hid (hc.blk R1.out id)
 have T2:=hid (hc.blk T1.out id)
 have r0:w2.cell? ⟨w.heap.size,0,none⟩=some (.pointer (some ⟨g,0,none⟩)):=R2.out.cell 0
 have t0:w2.cell? ⟨ob,0,none⟩=some (.int .u8 12):=T2.out.cell 0
 clear hc
 go_wp2_with fail
 obtain ⟨S,hS⟩:∃S:Nat->Prop,∀k,S k↔k < w2.heap.size:=⟨_,fun _=>Iff.rfl⟩
 have hSp1:Mix.Has S w.heap.size:=(hS _).2 R2.out.lt
 have hSp2:Mix.Has S ob:=(hS _).2 T2.out.lt
 have hSp3:Mix.Has S g:=(hS _).2 (C2.out.blk H.out id).lt
 have hSp4:Mix.Has S lb:=(hS _).2 (C2.out.blk HL.out id).lt
 have HSS:=hid hS
 clear hS
 have t1:w2.cell? ⟨ob,1,none⟩=some (.int .i64 (j:Int)):=T2.out.cell 1
 have a2:w2.cell? ⟨g,2,none⟩=some (.slice (some ⟨lb,0,none⟩) n n):=((C2.out.blk H.out (fun e=>e)).cell 2).trans (by rw [<-HS.out];rfl)
 have lj:w2.cell? ⟨lb,j,none⟩=some (.pointer (some ⟨sg,0,none⟩)):=((C2.out.blk HL.out (fun e=>e)).cell j).trans (pinsA_at (o:=some sg) HJ.out)
 refine Mix.rg S [4,1,1,4,1,4,1,4,3,2] [0,1,2,3,4,5,6,7,8,9] ?_
 repeat ((first | refine Mix.zq ?_ | refine Mix.zp ?_ | refine Mix.zs ?_);go_big_quiet_step (fail);refine wpQuiet_nil ?_)
 refine Mix.za fun W3 hW3=>?_
 obtain ⟨k3,rfl⟩:=hW3
 go_wp2_with fail
 refine ⟨fun k hk=>Below.heap_alloc _ _ k ((HSS.out k).1 hk),Mix.mix_world fun W4 hW4=>?_⟩
 have C4:=hid (show Ch (fun _=>False) w W4 from by rw [hW4];first | exact (C2.out.drewN k3).alloc _ | exact C2.out.trans (Ch.push rfl rfl rfl rfl) (fun _ _ h=>h))
 have R4:=hid (show Blk W4 w.heap.size 45 #[.pointer (some ⟨g,0,none⟩)] from by rw [hW4];exact (R2.out.drewN k3).alloc _)
 have T4:=hid (show Blk W4 ob 26 #[.int .u8 12,.int .i64 (j:Int),.int .i64 0,.int .i64 num,.int .u32 0,.int .u8 0,.string ⟨#[]⟩] from by rw [hW4];exact (T2.out.drewN k3).alloc _)
 obtain ⟨zb,hzb⟩:∃z,z=w2.heap.size:=⟨_,rfl⟩
 have Z4:=hid (show Blk W4 zb 140 #[.pointer none] from by rw [hW4,hzb];first | exact Blk.new (w2.drewN k3) _ _ | exact Blk.push rfl)
 have nz1:=hid (show w.heap.size≠zb from by have:=R2.out.lt;omega)
 have nz2:=hid (show ob≠zb from by have:=T2.out.lt;omega)
 have nz3:=hid (show w.heap.size<=zb from by have:=R2.out.lt;omega)
 rw [<-hzb]
 clear hW4 hzb r0 t0 t1 a2 lj
 have z0:W4.cell? ⟨zb,0,none⟩=some (.pointer none):=Z4.out.cell 0
 have z1:=Z4.out.free 0
 repeat ((first | refine Mix.zq ?_ | refine Mix.zp ?_ | refine Mix.zs ?_);go_big_quiet_step (fail);refine wpQuiet_nil ?_)
 refine Mix.ze fun W5 hW5=>?_
 obtain ⟨k5,rfl⟩:=hW5
 go_wp2_with fail
 intro k6
 refine at_world fun W7 hW7=>?_
 have C7:=hid (show Ch (fun _=>False) w W7 from by rw [hW7];exact ((C4.out.drewN k5).set (fun h=>absurd h (by have:=nz3.out;omega)) _).drewN k6)
 have R7:=hid (show Blk W7 w.heap.size 45 #[.pointer (some ⟨g,0,none⟩)] from by rw [hW7];exact ((R4.out.drewN k5).far nz1.out _).drewN k6)
 have T7:=hid (show Blk W7 ob 26 #[.int .u8 12,.int .i64 (j:Int),.int .i64 0,.int .i64 num,.int .u32 0,.int .u8 0,.string ⟨#[]⟩] from by rw [hW7];exact ((T4.out.drewN k5).far nz2.out _).drewN k6)
 have Z7:=hid (show Blk W7 zb 140 #[.pointer (some ⟨sg,0,none⟩)] from by rw [hW7];exact ((Z4.out.drewN k5).put 0 _).drewN k6)
 clear hW7 z0 z1
 have G7:=hid (C7.out.blk H.out id)
 have SG7:=hid (C7.out.blk HSG.out id)
 have r0:W7.cell? ⟨w.heap.size,0,none⟩=some (.pointer (some ⟨g,0,none⟩)):=R7.out.cell 0
 obtain ⟨t0,-,t2,t3⟩:=T7.out.c4
 have z0:W7.cell? ⟨zb,0,none⟩=some (.pointer (some ⟨sg,0,none⟩)):=Z7.out.cell 0
 obtain ⟨-,-,-,s3,s4,s5,-,-,-,s9⟩:=SG7.out.c10
 obtain ⟨hu0,hu1⟩:=hcu
 obtain ⟨nn,hnn⟩:∃nn:Nat,num=(nn:Int):=⟨num.toNat,by omega⟩
 obtain ⟨bn,hbn⟩:∃bn:Nat,x.b - cu=(bn:Int):=⟨(x.b - cu).toNat,by omega⟩
 have hmin:=fun W=>run_min (P:=Tryz.prog) #[3,3] 3 nn bn W
 rw [<-hnn,<-hbn,show ((min nn bn:Nat):Int)=min num (x.b - cu) by omega] at hmin
 obtain ⟨dd,hdd⟩:∃dd,dd=min num (x.b - cu):=⟨_,rfl⟩
 rw [<-hdd] at hmin
 have HDD:=hid hdd
 clear hnn hbn hdd
 go_wp2_with fail
 refine Mix.rt [0,0,0,0,0,0,0,0,0,0,0,0,0,0,0,0,0,0,0,0,0,2] [0,1,2,3,4,5,6,7,8,9,10,11,12,13,14,15,16,17,18,19,20,21] ?_
 repeat ((first | refine Mix.zq ?_ | refine Mix.zp ?_ | refine Mix.zs ?_);go_big_quiet_step (fail);refine wpQuiet_nil ?_)
 refine Mix.ze fun W8 hW8=>?_
 obtain ⟨k8,rfl⟩:=hW8
 go_wp2_with fail
 refine calls_world fun W8 hW8=>?_
 have C8:=hid (show Ch (fun _=>False) w W8 from by rw [hW8];exact C7.out.drewN k8)
 have G8:=hid (show Blk W8 g 111 r.cells from by rw [hW8];exact G7.out.drewN k8)
 clear hW8
 have SG8:=hid (show Blk W8 sg 144 _ from C8.out.blk HSG.out id)
 have T:=rread_any g sg r x mv dv ix cu cu dd W8 G8.out SG8.out
 clear s3 s4 s5 s9 hmin
 refine T.mono ?_
 rintro e w3 ⟨rfl,hb,hc⟩
 go_wp2_with fail
 intro k9
 go_wp2_with fail
 go_end0
 exact ⟨rfl,HDD.out ▸ hb.drewN k9,((C8.out.mono (fun _ _ e=>e.elim)).trans hc (fun _ _ h=>h)).drewN k9⟩
section
variable {B:Nat} {w0 w:World} {R:List Res} {σ:RS} {y:Ly} {n m:Nat}
theorem step_b (M:Mem B w0 (σ.L B++R) w) (O:σ.Ok y n m) (hb:σ.r.busy=true) (F:FuncId) (bs:Array Value) (hdv:σ.r.dv=.func (.func F) #[] bs) (hin:∀W:World,(callFunc F bs).run Tryz.prog W=.ok (.enter F bs) W)
  (P:Int->RS->Prop) (hP:∀hv σ',P hv σ'->σ'.g=σ.g/\σ'.r.sb=σ.r.sb/\σ'.r.cl=σ.r.cl/\σ'.cs=σ.cs/\σ'.p=σ.p/\σ'.A.ab=σ.A.ab/\σ'.eb=σ.eb/\σ'.s.lg.length < 1000000)
  (hdo:∀R W,Mem B w0 (σ.L B++R) W->Ch (fun _=>False) w W->Calls Tryz.prog F bs W fun e w'=>∃hv σ',e=.returned (.int .u64 hv)/\Mem B w0 (σ'.L B++R) w'/\P hv σ') :
  Calls Tryz.prog 15 #[.pointer (some ⟨σ.g,0,none⟩)] w fun e w'=>∃hv σ',e=.returned (.tuple #[stepV σ.r.cl σ.r.ph (decide (σ.s.lg.length < σ'.s.lg.length)) hv σ'.r.done σ'.r.done,.int .i64 0])/\Mem B w0 (σ'.L B++R) w'/\P hv σ':=by
 have HM:=hid M
 have HO:=hid O
 have HP:=hid hP
 have HDO:=hid hdo
 have HDV:=hid hdv
 have lg:=(m_rd M).lt
 have a0:w.cell? ⟨σ.g,0,none⟩=some (.pointer (some ⟨σ.r.sb,0,none⟩)):=(m_rd M).cell 0
 have a10:w.cell? ⟨σ.g,10,none⟩=some (.bool true):=((m_rd M).cell 10).trans (by rw [<-hb];rfl)
 clear M O hP hdo hdv hb
 go_enter Tryz.func15,Tryz.ntmps15
 go_wp2_with fail
 refine calls_world fun W1 hW1=>?_
 have C1:=hid (show Ch (fun _=>False) w W1 from by rw [hW1];exact (Ch.refl _ w).alloc _)
 have Z1:=hid (show Blk W1 w.heap.size 57 #[.int .i64 0,.int .u8 0,.bool false,.int .u64 0,.bool false,.bool false] from by rw [hW1];exact Blk.new w _ _)
 clear hW1
 have M1:=hid (HM.out.keep C1.out)
 refine (sbank_any W1 (m_st M1.out) HO.out.stf).mono ?_
 rintro e w' ⟨rfl,rfl⟩
 go_wp2_with fail
 refine (len_any B σ.p σ.cb σ.lv σ.s W1 (m_bk M1.out)).mono ?_
 rintro e w' ⟨rfl,rfl⟩
 clear a0 a10
 have a1:W1.cell? ⟨σ.g,1,none⟩=some (.int .i64 σ.r.cl):=(m_rd M1.out).cell 1
 have a11:W1.cell? ⟨σ.g,11,none⟩=some (.int .u8 σ.r.ph):=(m_rd M1.out).cell 11
 go_wp2_with fail
 obtain ⟨S,hS⟩:∃S:Nat->Prop,∀k,S k↔k < W1.heap.size:=⟨_,fun _=>Iff.rfl⟩
 have hSp1:Mix.Has S σ.g:=(hS _).2 (m_rd M1.out).lt
 have HSS:=hid hS
 clear hS
 refine Mix.rg S [1,1,1,4,1,1,1,4,1,3,2] [0,1,2,3,4,5,6,7,8,9,10] ?_
 repeat ((first | refine Mix.zq ?_ | refine Mix.zp ?_ | refine Mix.zs ?_);go_big_quiet_step (fail);refine wpQuiet_nil ?_)
 refine Mix.za fun W2 hW2=>?_
 obtain ⟨k2,rfl⟩:=hW2
 go_wp2_with fail
 refine ⟨fun k hk=>Below.heap_alloc _ _ k ((HSS.out k).1 hk),Mix.mix_world fun W3 hW3=>?_⟩
 obtain ⟨zb,hzb⟩:∃z,z=W1.heap.size:=⟨_,rfl⟩
 have C3:=hid (show Ch (fun _=>False) w W3 from by rw [hW3];first | exact (C1.out.drewN k2).alloc _ | exact C1.out.trans (Ch.push rfl rfl rfl rfl) (fun _ _ h=>h))
 have Z3:=hid (show Blk W3 w.heap.size 57 #[.int .i64 0,.int .u8 0,.bool false,.int .u64 0,.bool false,.bool false] from by rw [hW3];exact (Z1.out.drewN k2).alloc _)
 have Y3:=hid (show Blk W3 zb 57 #[.int .i64 0,.int .u8 0,.bool false,.int .u64 0,.bool false,.bool false] from by rw [hW3,hzb];first | exact Blk.new (W1.drewN k2) _ _ | exact Blk.push rfl)
 have nz:=hid (show w.heap.size < zb from by have:=Z1.out.lt;omega)
 rw [<-hzb]
 clear hW3 hzb a1 a11
 have M3:=hid (HM.out.keep C3.out)
 obtain ⟨y0,y1,y2,y3,y4,y5⟩:=Y3.out.c6
 obtain ⟨g0,g1,g2,g3,g4,g5⟩:=Y3.out.f6
 repeat ((first | refine Mix.zq ?_ | refine Mix.zp ?_ | refine Mix.zs ?_);go_big_quiet_step (fail);refine wpQuiet_nil ?_)
 refine Mix.ze fun W4 hW4=>?_
 obtain ⟨k4,rfl⟩:=hW4
 go_wp2_with fail
 intro k5
 refine at_world fun W6 hW6=>?_
 have C6:=hid (show Ch (fun _=>False) w W6 from by rw [hW6];exact (((((((C3.out.drewN k4).set (fun h=>absurd h (by have:=nz.out;omega)) _).set (fun h=>absurd h (by have:=nz.out;omega)) _).set (fun h=>absurd h (by have:=nz.out;omega)) _).set (fun h=>absurd h (by have:=nz.out;omega)) _).set (fun h=>absurd h (by have:=nz.out;omega)) _).set (fun h=>absurd h (by have:=nz.out;omega)) _).drewN k5)
 have Z6:=hid (show Blk W6 w.heap.size 57 #[.int .i64 0,.int .u8 0,.bool false,.int .u64 0,.bool false,.bool false] from by rw [hW6];exact (((((((Z3.out.drewN k4).far (Nat.ne_of_lt nz.out) _).far (Nat.ne_of_lt nz.out) _).far (Nat.ne_of_lt nz.out) _).far (Nat.ne_of_lt nz.out) _).far (Nat.ne_of_lt nz.out) _).far (Nat.ne_of_lt nz.out) _).drewN k5)
 have Y6:=hid (show Blk W6 zb 57 #[.int .i64 σ.r.cl,.int .u8 σ.r.ph,.bool false,.int .u64 0,.bool false,.bool false] from by rw [hW6];exact (((((((Y3.out.drewN k4).put 0 _).put 1 _).put 2 _).put 3 _).put 4 _).put 5 _).drewN k5)
 clear hW6 y0 g0 y1 g1 y2 g2 y3 g3 y4 g4 y5 g5
 have M6:=hid (HM.out.keep C6.out)
 have a12:W6.cell? ⟨σ.g,12,none⟩=some (.func (.func F) #[] bs):=((m_rd M6.out).cell 12).trans (by rw [<-HDV.out];rfl)
 have MF:=mem_front2 HM.out C6.out Z6.out Y6.out (Nat.le_refl _) (Nat.le_of_lt nz.out) (Nat.ne_of_lt nz.out)
 have MX6:=hid (show Mem B w0 (σ.L B++(R++[blkR w.heap.size 57 #[.int .i64 0,.int .u8 0,.bool false,.int .u64 0,.bool false,.bool false],blkR zb 57 #[.int .i64 σ.r.cl,.int .u8 σ.r.ph,.bool false,.int .u64 0,.bool false,.bool false]])) W6 from by
  rw [<-List.append_assoc]
  exact MF.perm List.perm_append_comm)
 clear MF
 go_wp2_with fail
 refine (HDO.out _ W6 MX6.out C6.out).mono ?_
 rintro e w7 ⟨hv,σ',rfl,hM7,hP7⟩
 obtain ⟨q1,q2,q3,q4,q5,q6,q7,q8⟩:=HP.out hv σ' hP7
 have HPV:=hid hP7
 have MX7:=hid (show Mem B w0 ([blkR w.heap.size 57 #[.int .i64 0,.int .u8 0,.bool false,.int .u64 0,.bool false,.bool false],blkR zb 57 #[.int .i64 σ.r.cl,.int .u8 σ.r.ph,.bool false,.int .u64 0,.bool false,.bool false]]++(σ'.L B++R)) w7 from by
  rw [<-List.append_assoc] at hM7
  exact hM7.perm List.perm_append_comm)
 have HQ1:=hid q1
 have HQ2:=hid q2
 have HSTF:=hid (show StF σ'.cs σ'.p σ'.A.ab σ'.eb y from by rw [q4,q5,q6,q7];exact HO.out.stf)
 have HQ8:=hid q8
 have gz1:σ.g≠zb:=by have:=nz.out;omega
 have gz2:zb≠σ.g:=Ne.symm gz1
 have rz1:w.heap.size≠zb:=Nat.ne_of_lt nz.out
 have rz2:zb≠w.heap.size:=Ne.symm rz1
 clear hM7 hP7 a12 q1 q2 q3 q4 q5 q6 q7 q8
 have Y7:=hid (MX7.out.each 1 _ rfl)
 have b0:w7.cell? ⟨σ.g,0,none⟩=some (.pointer (some ⟨σ.r.sb,0,none⟩)):=by
  have:=(m_rd (show Mem B w0 (σ'.L B++R) w7 from MX7.out.drop 2)).cell 0
  rw [HQ1.out] at this
  rw [<-HQ2.out]
  exact this
 have y3:w7.cell? ⟨zb,3,none⟩=some (.int .u64 0):=Y7.out.cell 3
 have g3:=Y7.out.free 3
 go_wp2_with fail
 refine calls_world fun W8 hW8=>?_
 have MX8:=hid (show Mem B w0 ([blkR w.heap.size 57 #[.int .i64 0,.int .u8 0,.bool false,.int .u64 0,.bool false,.bool false],blkR zb 57 #[.int .i64 σ.r.cl,.int .u8 σ.r.ph,.bool false,.int .u64 hv,.bool false,.bool false]]++(σ'.L B++R)) W8 from by rw [hW8];exact MX7.out.put (i:=1) rfl 3 (.int .u64 hv))
 clear hW8 b0 y3 g3
 have M8:=hid (show Mem B w0 (σ'.L B++R) W8 from MX8.out.drop 2)
 have hst8:=m_st M8.out
 rw [HQ2.out] at hst8
 have HST8:=hid hst8
 clear hst8
 refine (sbank_any W8 HST8.out HSTF.out).mono ?_
 rintro e w' ⟨rfl,rfl⟩
 go_wp2_with fail
 refine (len_any B σ'.p σ'.cb σ'.lv σ'.s W8 (m_bk M8.out)).mono ?_
 rintro e w' ⟨rfl,rfl⟩
 have Y8:=hid (MX8.out.each 1 _ rfl)
 have y2:W8.cell? ⟨zb,2,none⟩=some (.bool false):=Y8.out.cell 2
 have g2:=Y8.out.free 2
 obtain ⟨la,hla⟩:∃x,x=σ.s.lg.length:=⟨_,rfl⟩
 obtain ⟨lb,hlb⟩:∃x,x=σ'.s.lg.length:=⟨_,rfl⟩
 rw [<-hla,<-hlb]
 have HLA:=hid hla
 have HLB:=hid hlb
 clear hla hlb
 go_wp2_with fail
 refine at_world fun W9 hW9=>?_
 obtain ⟨ac,hac⟩:∃x:Bool,x=decide (la < lb):=⟨_,rfl⟩
 have HAC:=hid hac
 have MX9:=hid (show Mem B w0 ([blkR w.heap.size 57 #[.int .i64 0,.int .u8 0,.bool false,.int .u64 0,.bool false,.bool false],blkR zb 57 #[.int .i64 σ.r.cl,.int .u8 σ.r.ph,.bool ac,.int .u64 hv,.bool false,.bool false]]++(σ'.L B++R)) W9 from by rw [hW9,hac];first | exact MX8.out.put (i:=1) rfl 2 _ | exact (by simpa using MX8.out.put (i:=1) rfl 2 (.bool (decide (la < lb)))))
 clear hW9 y2 g2 hac
 obtain ⟨dn,hdn⟩:∃x,x=σ'.r.done:=⟨_,rfl⟩
 have HDN:=hid hdn
 have d13:W9.cell? ⟨σ.g,13,none⟩=some (.bool dn):=by
  have:=(m_rd (show Mem B w0 (σ'.L B++R) W9 from MX9.out.drop 2)).cell 13
  rw [HQ1.out] at this
  rw [hdn]
  exact this
 have lg9:=(m_rd (show Mem B w0 (σ'.L B++R) W9 from MX9.out.drop 2)).lt
 rw [HQ1.out] at lg9
 have Y9:=hid (MX9.out.each 1 _ rfl)
 obtain ⟨-,-,-,-,y4,y5⟩:=Y9.out.c6
 have g4:=Y9.out.free 4
 have g5:=Y9.out.free 5
 clear hdn
 obtain ⟨S,hS⟩:∃S:Nat->Prop,∀k,S k↔k=σ.g:=⟨_,fun _=>Iff.rfl⟩
 have hSp2:Mix.Has S σ.g:=(hS _).2 rfl
 have HS2:=hid hS
 clear hS
 refine Mix.rg S [0,0,0,0,1,1,1,4,0,3,0,2] [0,1,2,3,4,5,6,7,8,9,10,11] ?_
 repeat ((first | refine Mix.zq ?_ | refine Mix.zp ?_ | refine Mix.zs ?_);go_big_quiet_step (fail);refine wpQuiet_nil ?_)
 refine Mix.za fun W10 hW10=>?_
 obtain ⟨k10,rfl⟩:=hW10
 go_wp2_with fail
 refine ⟨fun k hk=>by rw [(HS2.out k).1 hk];exact (((Ch.refl (fun b=>b=zb) W9).drewN k10).set (fun _=>rfl) _).block _ lg9 gz1,?_⟩
 repeat ((first | refine Mix.zq ?_ | refine Mix.zp ?_ | refine Mix.zs ?_);go_big_quiet_step (fail);refine wpQuiet_nil ?_)
 refine Mix.ze fun W11 hW11=>?_
 obtain ⟨k11,rfl⟩:=hW11
 go_wp2_with fail
 intro k12
 refine at_world fun W13 hW13=>?_
 have MX13:=hid (show Mem B w0 ([blkR w.heap.size 57 #[.int .i64 0,.int .u8 0,.bool false,.int .u64 0,.bool false,.bool false],blkR zb 57 #[.int .i64 σ.r.cl,.int .u8 σ.r.ph,.bool ac,.int .u64 hv,.bool dn,.bool dn]]++(σ'.L B++R)) W13 from by rw [hW13];exact ((((MX9.out.drewN k10).put (i:=1) rfl 4 (.bool dn)).drewN k11).put (i:=1) rfl 5 (.bool dn)).drewN k12)
 clear hW13 d13 lg9 y4 y5 g4 g5
 have Y13:=hid (MX13.out.each 1 _ rfl)
 have Z13:=hid (MX13.out.each 0 _ rfl)
 have y0:W13.cell? ⟨zb,0,none⟩=some (.int .i64 σ.r.cl):=Y13.out.cell 0
 have r0:W13.cell? ⟨w.heap.size,0,none⟩=some (.int .i64 0):=Z13.out.cell 0
 have q0:=Z13.out.free 0
 have y1:W13.cell? ⟨zb,1,none⟩=some (.int .u8 σ.r.ph):=Y13.out.cell 1
 have r1:W13.cell? ⟨w.heap.size,1,none⟩=some (.int .u8 0):=Z13.out.cell 1
 have q1:=Z13.out.free 1
 have y2:W13.cell? ⟨zb,2,none⟩=some (.bool ac):=Y13.out.cell 2
 have r2:W13.cell? ⟨w.heap.size,2,none⟩=some (.bool false):=Z13.out.cell 2
 have q2:=Z13.out.free 2
 have y3:W13.cell? ⟨zb,3,none⟩=some (.int .u64 hv):=Y13.out.cell 3
 have r3:W13.cell? ⟨w.heap.size,3,none⟩=some (.int .u64 0):=Z13.out.cell 3
 have q3:=Z13.out.free 3
 have y4:W13.cell? ⟨zb,4,none⟩=some (.bool dn):=Y13.out.cell 4
 have r4:W13.cell? ⟨w.heap.size,4,none⟩=some (.bool false):=Z13.out.cell 4
 have q4:=Z13.out.free 4
 have y5:W13.cell? ⟨zb,5,none⟩=some (.bool dn):=Y13.out.cell 5
 have r5:W13.cell? ⟨w.heap.size,5,none⟩=some (.bool false):=Z13.out.cell 5
 have q5:=Z13.out.free 5
 go_wp2_with fail
 refine at_world fun WZ hWZ=>?_
 have MXZ:=hid (show Mem B w0 ([blkR w.heap.size 57 #[.int .i64 σ.r.cl,.int .u8 σ.r.ph,.bool ac,.int .u64 hv,.bool dn,.bool dn],blkR zb 57 #[.int .i64 σ.r.cl,.int .u8 σ.r.ph,.bool ac,.int .u64 hv,.bool dn,.bool dn]]++(σ'.L B++R)) WZ from by rw [hWZ];exact ((((((MX13.out.put (i:=0) rfl 0 _).put (i:=0) rfl 1 _).put (i:=0) rfl 2 _).put (i:=0) rfl 3 _).put (i:=0) rfl 4 _).put (i:=0) rfl 5 _))
 clear hWZ y0 r0 q0 y1 r1 q1 y2 r2 q2 y3 r3 q3 y4 r4 q4 y5 r5 q5
 have BZ:=hid (MXZ.out.each 0 _ rfl)
 obtain ⟨t0,t1,t2,t3,t4,t5⟩:=BZ.out.c6
 refine bodyPost_ret (v:=.tuple #[.agg #[.int .i64 σ.r.cl,.int .u8 σ.r.ph,.bool ac,.int .u64 hv,.bool dn,.bool dn],.int .i64 0]) (by simp [results,Tryz.results15,go_sem,t0,t1,t2,t3,t4,t5]) rfl ⟨hv,σ',?_,MXZ.out.drop 2,HPV.out⟩
 rw [<-HLA.out,<-HLB.out,<-HAC.out,<-HDN.out]
 rfl
theorem seek_m (M:Mem B w0 (σ.L B++R) w) {ob zb rb k:Nat} {t:Snp} {op:OpV} (hk:σ.sl[k]?=some (some t)) (hob:Blk w ob 26 op.arr) (hzb:Blk w zb 140 #[.pointer (some ⟨t.g,0,none⟩)]) (hrb:Blk w rb 45 #[.pointer (some ⟨σ.g,0,none⟩)]) :
  Calls Tryz.prog 66 #[.pointer (some ⟨ob,0,none⟩),.pointer (some ⟨zb,0,none⟩),.pointer (some ⟨rb,0,none⟩)] w fun e w'=>e=.returned (.int .u64 0)/\Mem B w0 (RS.L B { σ with sl:=σ.sl.set k (some { t with cu:=op.at' }),r:=σ.r.fin { RsV.zero with at':=op.at' },tx:=[] }++R) w':=by
 have HM:=hid M
 have HK:=hid hk
 have HOB:=hid hob
 have HRB:=hid hrb
 have hS:=((m_sl M).s k t hk).b
 have n1:=hid (hS.ne hob (by decide))
 have n2:=hid (hS.ne hrb (by decide))
 have m1:t.g≠ob:=n1.out
 have m2:t.g≠rb:=n2.out
 have m3:ob≠t.g:=Ne.symm m1
 have m4:rb≠t.g:=Ne.symm m2
 have o2:w.cell? ⟨ob,2,none⟩=some (.int .i64 op.at'):=hob.cell 2
 have z0:w.cell? ⟨zb,0,none⟩=some (.pointer (some ⟨t.g,0,none⟩)):=hzb.cell 0
 have r0:w.cell? ⟨rb,0,none⟩=some (.pointer (some ⟨σ.g,0,none⟩)):=hrb.cell 0
 have s9:w.cell? ⟨t.g,9,none⟩=some (.int .i64 t.cu):=hS.cell 9
 have sf9:=hS.free 9
 clear M hk hob hzb hrb hS
 go_enter Tryz.func66,Tryz.ntmps66
 go_wp2_with fail
 refine calls_world fun W1 hW1=>?_
 have M1:=hid (m_scur HM.out HK.out op.at')
 rw [<-hW1] at M1
 clear hW1
 have G1:=m_rd M1.out
 have T:=rend_any σ.g σ.r { RsV.zero with at':=op.at' } W1 G1
 refine T.mono ?_
 intro e w2 h2
 have M2:=hid (m_fin M1.out h2 rfl)
 obtain ⟨rfl,_⟩:=h2
 clear T G1
 go_wp2_with fail
 go_ret
 exact ⟨rfl,M2.out⟩
end
structure Bx where
 g:Nat
 t:TypeId
 cs:Array Value
def boxR (bs:List Bx):Res where
 holds w:=∀b ∈ bs,Blk w b.g b.t b.cs
 foot k:=∃b ∈ bs,k=b.g
 stable h c hn:=fun b hb=>c.blk (h b hb) (hn _ ⟨b,hb,rfl⟩)
 lt h k hk:=by
  obtain ⟨b,hb,rfl⟩:=hk
  exact (h b hb).lt
def RevOk (ns:List An) (x:Rv) (tx:List UInt8):Prop:=
 x.b=(mL tx).b/\x.r=(mL tx).r/\x.l=(mL tx).l/\((tx=[]/\x.h=0)\/∃ix t,x.at'=hdl ix/\Nt ns ix t/\t.text=tx/\x.h=(t.ht:Int)/\t.good/\∃s:ByteArray,buildT s=[t])
theorem RevOk.app {ns:List An} {x:Rv} {tx:List UInt8} (h:RevOk ns x tx) (ys:List An):RevOk (ns++ys) x tx:=by
 obtain ⟨h1,h2,h3,h4⟩:=h
 refine ⟨h1,h2,h3,?_⟩
 rcases h4 with h4 | ⟨ix,t,a,b,c⟩
 ·exact .inl h4
 ·exact .inr ⟨ix,t,a,b.app,c⟩
structure RnOk (σ:RS) (y:Ly) (n m:Nat) (ts:List (List UInt8)) (hk:Option Nat):Prop where
 O:σ.Ok y n m
 P:ArP σ.ns
 nt:ts.length=σ.rs.length
 t8:ts.length<=200
 tl:∀tx ∈ ts,tx.length<=100000
 rv:∀(i:Nat) (r:RvS) (tx:List UInt8),σ.rs[i]?=some r->ts[i]?=some tx->RevOk σ.ns r.x tx/\r.x.num=3 * (i:Int)/\r.ms.length<=4/\r.ds.length<=4
 rt:∃i:Nat,lk σ.s.vs 1=(i:Int)/\i < ts.length
 sn:∀(k:Nat) (s:Snp),σ.sl[k]?=some (some s)->∃(i:Nat) (r:RvS),σ.rs[i]?=some r/\s.x=r.x/\s.ms=r.ms/\s.ix=(i:Int)/\0<=s.cu/\s.cu<=s.x.b
 pn:∀k,k < n->hk≠some k->(σ.sl[k]?=some none/\σ.ps[m+k]?=some none/\lk σ.s.vs (σ.f.slot (m+k))=0)\/(∃s g q,σ.sl[k]?=some (some s)/\σ.ps[m+k]?=some (some (g,q))/\q.ph=0/\lk σ.s.vs (σ.f.slot (m+k))≠0)
 ep:0<=lk σ.s.vs σ.f.ep/\lk σ.s.vs σ.f.ep < 1000000
 en:∀i,i < σ.f.n->σ.f.slot i≠σ.f.ep
inductive Pg
 | fin (x:RsV)
 | loc (x:RsV)
 | clos
 | ep (k:Nat)
 | ann (k:Nat) (v:Int)
 | root (k:Nat)
 | rel (k:Nat)
 | seek (k:Nat) (pos:Int)
 | take (k:Nat) (a:Bool) (pos:Int)
 | byte (k:Nat) (a:Bool) (tx:List UInt8) (p0 N d ix:Nat) (rest:Int) (base:Ms)
 | rune (k:Nat) (tx:List UInt8) (q ix:Nat) (rest:Int) (base:Ms)
 | line (k:Nat) (tx:List UInt8) (q ix:Nat) (rest:Int) (base:Ms)
def Pg.hk:Pg->Option Nat
 | .ep k=>some k
 | .ann k _=>some k
 | .root k=>some k
 | _=>none
def Pg.ended:Pg->Bool
 | .fin _=>true
 | _=>false
def Acq (σ:RS) (n m k:Nat) (ph:Int) (v:Int):Prop:=σ.r.op=acqOp/\σ.r.slot=(k:Int)/\k < n/\σ.sl[k]?=some none/\∃g q,σ.r.pin=.pointer (some ⟨g,0,none⟩)/\σ.ps[m+k]?=some (some (g,q))/\q.t=σ.r.cl/\q.slot=m+k/\q.ph=ph/\(ph=10->q.seen=v)
def Shows (σ:RS) (ts:List (List UInt8)) (k:Nat) (tx:List UInt8):Prop:=∃(s:Snp) (i:Nat),σ.sl[k]?=some (some s)/\s.ix=(i:Int)/\ts[i]?=some tx
def PgAt (σ:RS) (bs:List Bx) (n m:Nat) (ts:List (List UInt8)):Pg->Prop
 | .fin x=>σ.r.busy=false/\σ.r.ph=0/\σ.r.rs=x
 | .loc x=>σ.r.busy=true/\σ.r.done=false/\σ.r.ph=1/\∃rb xb,σ.r.dv=locV rb xb/\bs=[⟨rb,45,#[.pointer (some ⟨σ.g,0,none⟩)]⟩,⟨xb,41,x.arr⟩]
 | .clos=>σ.r.busy=true/\σ.r.done=false/\σ.r.ph=2/\σ.r.dv=closedF σ.g/\σ.r.op=acqOp
 | .ep k=>σ.r.busy=true/\σ.r.done=false/\σ.r.ph=9/\σ.r.dv=loadF σ.g/\Acq σ n m k 9 0
 | .ann k v=>σ.r.busy=true/\σ.r.done=false/\σ.r.ph=10/\σ.r.dv=loadF σ.g/\Acq σ n m k 10 v/\0<=v/\v < 1000000
 | .root k=>σ.r.busy=true/\σ.r.done=false/\σ.r.ph=11/\σ.r.dv=rootF σ.g/\Acq σ n m k 0 0/\lk σ.s.vs (σ.f.slot (m+k))≠0
 | .rel k=>σ.r.busy=true/\σ.r.done=false/\σ.r.ph=10/\σ.r.dv=releaseF σ.g/\σ.r.op.sl=(k:Int)/\k < n/\∃s,σ.sl[k]?=some (some s)
 | .seek k pos=>σ.r.busy=true/\σ.r.done=false/\σ.r.ph=1/\∃ob zb rb s op,σ.r.dv=seekV ob zb rb/\σ.sl[k]?=some (some s)/\op.at'=pos/\0<=pos/\pos<=s.x.b/\bs=[⟨ob,26,OpV.arr op⟩,⟨zb,140,#[.pointer (some ⟨s.g,0,none⟩)]⟩,⟨rb,45,#[.pointer (some ⟨σ.g,0,none⟩)]⟩]
 | .take k a pos=>σ.r.busy=true/\σ.r.done=false/\σ.r.ph=1/\σ.r.dv=takenF σ.g/\σ.r.op.k=(if a then 12 else 7)/\σ.r.op.sl=(k:Int)/\σ.tx=[]/\σ.r.next=pos/\∃s,σ.sl[k]?=some (some s)/\0<=pos/\pos<=s.x.b
 | .byte k a tx p0 N d ix rest base=>σ.r.busy=true/\σ.r.done=false/\σ.r.ph=12/\σ.r.dv=visF σ.g/\σ.r.op.k=(if a then 12 else 7)/\σ.r.op.sl=(k:Int)/\Shows σ ts k tx/\σ.r.at'=hdl ix/\σ.r.rest=rest/\σ.r.base=base/\σ.r.next=((p0+d:Nat):Int)/\σ.r.need=((N - d:Nat):Int)/\d < N/\p0+N<=tx.length/\σ.tx=(tx.drop p0).take d/\Dn (fun m=>m.b) tx σ.ns ix ((p0+d:Nat):Int) rest base
 | .rune k tx q ix rest base=>σ.r.busy=true/\σ.r.done=false/\σ.r.ph=12/\σ.r.dv=visRF σ.g/\Shows σ ts k tx/\σ.r.at'=hdl ix/\σ.r.rest=rest/\σ.r.base=base/\Dn (fun m=>m.r) tx σ.ns ix (q:Int) rest base
 | .line k tx q ix rest base=>σ.r.busy=true/\σ.r.done=false/\σ.r.ph=12/\σ.r.dv=visLF σ.g/\Shows σ ts k tx/\σ.r.at'=hdl ix/\σ.r.rest=rest/\σ.r.base=base/\Dn (fun m=>m.l) tx σ.ns ix (q:Int) (rest - 1) base
structure Same (σ σ':RS):Prop where
 g:σ'.g=σ.g
 sb:σ'.r.sb=σ.r.sb
 cl:σ'.r.cl=σ.r.cl
 lb:σ'.lb=σ.lb
 cs:σ'.cs=σ.cs
 p:σ'.p=σ.p
 cb:σ'.cb=σ.cb
 eb:σ'.eb=σ.eb
 f:σ'.f=σ.f
 sc:σ'.sc=σ.sc
 pb:σ'.pb=σ.pb
 rv:σ'.rv=σ.rv
 rs:σ'.rs=σ.rs
 A:σ'.A=σ.A
 ns:σ'.ns=σ.ns
 st:σ'.st=σ.st
def Nxt (σ σ':RS) (m:Nat) (hv:Int) (pg':Pg):Pg->Prop
 | .fin _=>False
 | .loc x=>hv=0/\σ'.s=σ.s/\σ'.sl=σ.sl/\pg'=.fin x
 | .clos=>hv=0/\σ'.s=σ.s.load σ.r.cl 0/\σ'.sl=σ.sl/\((lk σ.s.vs 0≠0/\pg'=.fin { RsV.zero with er:=13 })\/(lk σ.s.vs 0=0/\free1 (σ.sl.map sptr) 0 < 0/\pg'=.fin { RsV.zero with er:=15 })\/(lk σ.s.vs 0=0/\∃k:Nat,free1 (σ.sl.map sptr) 0=(k:Int)/\pg'=.ep k))
 | .ep k=>hv=0/\σ'.s=σ.s.load σ.r.cl σ.f.ep/\σ'.sl=σ.sl/\pg'=.ann k (lk σ.s.vs σ.f.ep)
 | .ann k v=>hv=0/\σ'.s=σ.s.store σ.r.cl (σ.f.slot (m+k):Nat) (v+1)/\σ'.sl=σ.sl/\pg'=.root k
 | .root k=>hv=0/\σ'.s=σ.s.load σ.r.cl 1/\∃(i:Nat) (r:RvS) (s:Snp),lk σ.s.vs 1=(i:Int)/\σ.rs[i]?=some r/\s.x=r.x/\s.ms=r.ms/\s.ix=(i:Int)/\s.cu=0/\σ'.sl=σ.sl.set k (some s)/\pg'=.fin { RsV.zero with sl:=(k:Int),rev:=r.x.num }
 | .rel k=>hv=0/\σ'.s=σ.s.store σ.r.cl (σ.f.slot (m+k):Nat) 0/\σ'.sl=σ.sl.set k none/\pg'=.fin RsV.zero
 | .seek k pos=>hv=0/\σ'.s=σ.s/\(∃s,σ.sl[k]?=some (some s)/\σ'.sl=σ.sl.set k (some { s with cu:=pos }))/\pg'=.fin { RsV.zero with at':=pos }
 | .take k a pos=>hv=0/\σ'.s=σ.s/\(if a then ∃s,σ.sl[k]?=some (some s)/\σ'.sl=σ.sl.set k (some { s with cu:=pos }) else σ'.sl=σ.sl)/\pg'=.fin { RsV.zero with at':=if a then pos else 0 }
 | .byte k a tx p0 N d ix rest base=>hv=hdl ix/\σ'.s=σ.s/\∃z,σ.ns[ix]?=some z/\
   ((z.x.h≠0/\σ'.sl=σ.sl/\∃(ci:Nat) (k':Kd) (q:Int),z.x.ks[ci]?=some k'/\Chosen (fun m=>m.b) (z.x.ks.map Kd.m) rest ci q/\pg'=.byte k a tx p0 N d k'.at' q (bsK base z.x.ks ci))\/
    (z.x.h=0/\∃c rn:Nat,rest=(rn:Int)/\c=min (N - d) (z.x.s.size - rn)/\
     ((d+c < N/\σ'.sl=σ.sl/\∃jx,pg'=.byte k a tx p0 N (d+c) jx ((p0+(d+c):Nat):Int) ⟨0,0,0⟩/\∃s,σ.sl[k]?=some (some s)/\s.x.at'=hdl jx)\/
     (d+c=N/\(if a then ∃s,σ.sl[k]?=some (some s)/\σ'.sl=σ.sl.set k (some { s with cu:=((p0+N:Nat):Int) }) else σ'.sl=σ.sl)/\pg'=.fin { RsV.zero with s:=⟨((tx.drop p0).take N).toArray⟩,at':=if a then ((p0+N:Nat):Int) else 0 }))))
 | .rune k tx q ix rest base=>hv=hdl ix/\σ'.s=σ.s/\σ'.sl=σ.sl/\∃z,σ.ns[ix]?=some z/\
   ((z.x.h≠0/\∃(ci:Nat) (k':Kd) (r:Int),z.x.ks[ci]?=some k'/\Chosen (fun m=>m.r) (z.x.ks.map Kd.m) rest ci r/\pg'=.rune k tx q k'.at' r (bsK base z.x.ks ci))\/
    (z.x.h=0/\pg'=.fin { RsV.zero with at':=((nthP begB (u8s tx) q:Nat):Int) }))
 | .line k tx q ix rest base=>hv=hdl ix/\σ'.s=σ.s/\σ'.sl=σ.sl/\∃z,σ.ns[ix]?=some z/\
   ((z.x.h≠0/\∃(ci:Nat) (k':Kd) (r:Int),z.x.ks[ci]?=some k'/\Chosen (fun m=>m.l) (z.x.ks.map Kd.m) (rest - 1) ci r/\pg'=.line k tx q k'.at' (r+1) (bsK base z.x.ks ci))\/
    (z.x.h=0/\pg'=.fin { RsV.zero with at':=((nthP isLF (u8s tx) q:Nat):Int)+1 }))
def StepTo (B:Nat) (w0:World) (R:List Res) (σ:RS) (bs:List Bx) (y:Ly) (n m:Nat) (ts:List (List UInt8)) (pg:Pg) (e:Ending) (w':World):Prop:=
 ∃hv σ' pg',e=.returned (.tuple #[stepV σ.r.cl σ.r.ph (decide (σ.s.lg.length < σ'.s.lg.length)) hv pg'.ended pg'.ended,.int .i64 0])/\Mem B w0 (σ'.L B++(boxR bs::R)) w'/\Same σ σ'/\RnOk σ' y n m ts pg'.hk/\PgAt σ' bs n m ts pg'/\Nxt σ σ' m hv pg' pg
end Go.Proofs.YtjcdknhejcbpiaaGreat
