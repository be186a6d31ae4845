/- Lemmas; no condition. -/
import Derived.Test.YtjcdknhejcbpiaaGreatSb30
import Derived.Test.YtjcdknhejcbpiaaGreatSb31
set_option maxRecDepth 100000
set_option maxHeartbeats 4000000
namespace Go.Proofs.YtjcdknhejcbpiaaGreat
open Go.RowKit
set_option linter.unusedVariables false
set_option linter.unusedSimpArgs false
set_option linter.unusedSectionVars false
theorem start_7 (g lb n j sg:Nat) (r:Rd) (l:List (Option Nat)) (x:Rv) (mv dv:Value) (ix cu:Int) (pos num:Int) (w:World) (h:Blk w g 111 r.cells) (hs:r.sl=.slice (some ⟨lb,0,none⟩) n n) (hl:Blk w lb 140 (pinsA l)) (hop:r.op=⟨7,(j:Int),pos,num,0,0,⟨#[]⟩⟩) (hj:j < n) (hlj:l[j]?=some (some sg))
  (hsg:Blk w sg 144 #[.int .i64 x.num,.int .u64 x.at',.int .i64 x.h,.int .i64 x.b,.int .i64 x.r,.int .i64 x.l,mv,dv,.int .i64 ix,.int .i64 cu]) (h3:0<=pos) (h4:0<=num) (hb0:x.b<=1000000) (hp:pos<=x.b/\num<=x.b - pos) :
  Calls Tryz.prog 38 #[.pointer (some ⟨g,0,none⟩)] w (RdSet g (Rd.read g r x pos num) w (.tuple #[])):=by
 have H:=hid h
 have HL:=hid hl
 have HS:=hid hs
 have HJ:=hid hlj
 have HSG:=hid hsg
 have hc:=h.cell
 have lg:=h.lt
 obtain ⟨d1,d2⟩:=dc_ltT (a:=j) (b:=n) (by omega)
 have HF:=hid (fm7 g lb n r (j:Int) pos num HS.out (by omega) (by omega) h3 h4)
 have o3:w.cell? ⟨g,3,none⟩=some (.int .u8 7):=(hc 3).trans (by simp [Rd.cells,hop])
 have o4:w.cell? ⟨g,4,none⟩=some (.int .i64 (j:Int)):=(hc 4).trans (by simp [Rd.cells,hop])
 have o5:w.cell? ⟨g,5,none⟩=some (.int .i64 pos):=(hc 5).trans (by simp [Rd.cells,hop])
 have o6:w.cell? ⟨g,6,none⟩=some (.int .i64 num):=(hc 6).trans (by simp [Rd.cells,hop])
 have o7:w.cell? ⟨g,7,none⟩=some (.int .u32 0):=(hc 7).trans (by simp [Rd.cells,hop])
 have o8:w.cell? ⟨g,8,none⟩=some (.int .u8 0):=(hc 8).trans (by simp [Rd.cells,hop])
 have o9:w.cell? ⟨g,9,none⟩=some (.string ⟨#[]⟩):=(hc 9).trans (by simp [Rd.cells,hop])
 clear h hc hop hl hs hlj hsg
 go_enter Tryz.func38,Tryz.ntmps38
 go_wp2_with fail
 refine calls_world fun W1 hW1=>?_
 have C1:=hid (show Ch (fun _=>False) w W1 from by rw [hW1];exact ((Ch.refl _ w).alloc _).alloc _)
 have R1:=hid (show Blk W1 w.heap.size 45 #[.pointer (some ⟨g,0,none⟩)] from by rw [hW1];exact (Blk.new w _ _).alloc _)
 obtain ⟨ob,hob⟩:∃x,x=w.heap.size+1:=⟨_,rfl⟩
 have T1:=hid (show Blk W1 ob 26 #[.int .u8 7,.int .i64 (j:Int),.int .i64 pos,.int .i64 num,.int .u32 0,.int .u8 0,.string ⟨#[]⟩] from by rw [hW1,hob];have t:=Blk.new (w.alloc (.cells #[.pointer (some ⟨g,0,none⟩)] 45)) 26 #[.int .u8 7,.int .i64 (j:Int),.int .i64 pos,.int .i64 num,.int .u32 0,.int .u8 0,.string ⟨#[]⟩];simpa using t)
 have lob:=hid (show w.heap.size < ob from by omega)
 rw [<-hob]
 clear hW1 hob o3 o4 o5 o6 o7 o8 o9
 have hck:=check_7 g lb n j sg r l x mv dv ix cu W1 (C1.out.blk H.out id) HS.out (C1.out.blk HL.out id) hj HJ.out (C1.out.blk HSG.out id) pos num h3 hb0 HF.out
 rw [if_neg (by omega)] at hck
 refine hck.mono ?_
 clear hck
 rintro e w2 ⟨rfl,hc⟩
 have C2:=hid (C1.out.trans hc (fun _ _ h=>h))
 have R2:=hid (hc.blk R1.out id)
 have T2:=hid (hc.blk T1.out id)
 have r0:w2.cell? ⟨w.heap.size,0,none⟩=some (.pointer (some ⟨g,0,none⟩)):=R2.out.cell 0
 have t0:w2.cell? ⟨ob,0,none⟩=some (.int .u8 7):=T2.out.cell 0
 clear hc
 go_wp2_with fail
 obtain ⟨S,hS⟩:∃S:Nat->Prop,∀k,S k↔k < w2.heap.size:=⟨_,fun _=>Iff.rfl⟩
 have hSp1:Mix.Has S w.heap.size:=(hS _).2 R2.out.lt
 have hSp2:Mix.Has S ob:=(hS _).2 T2.out.lt
 have hSp3:Mix.Has S g:=(hS _).2 (C2.out.blk H.out id).lt
 have hSp4:Mix.Has S lb:=(hS _).2 (C2.out.blk HL.out id).lt
 have HSS:=hid hS
 clear hS
 have t1:w2.cell? ⟨ob,1,none⟩=some (.int .i64 (j:Int)):=T2.out.cell 1
 have a2:w2.cell? ⟨g,2,none⟩=some (.slice (some ⟨lb,0,none⟩) n n):=((C2.out.blk H.out (fun e=>e)).cell 2).trans (by rw [<-HS.out];rfl)
 have lj:w2.cell? ⟨lb,j,none⟩=some (.pointer (some ⟨sg,0,none⟩)):=((C2.out.blk HL.out (fun e=>e)).cell j).trans (pinsA_at (o:=some sg) HJ.out)
 refine Mix.rg S [4,1,1,4,1,4,1,4,3,2] [0,1,2,3,4,5,6,7,8,9] ?_
 repeat ((first | refine Mix.zq ?_ | refine Mix.zp ?_ | refine Mix.zs ?_);go_big_quiet_step (fail);refine wpQuiet_nil ?_)
 refine Mix.za fun W3 hW3=>?_
 obtain ⟨k3,rfl⟩:=hW3
 go_wp2_with fail
 refine ⟨fun k hk=>Below.heap_alloc _ _ k ((HSS.out k).1 hk),Mix.mix_world fun W4 hW4=>?_⟩
 have C4:=hid (show Ch (fun _=>False) w W4 from by rw [hW4];first | exact (C2.out.drewN k3).alloc _ | exact C2.out.trans (Ch.push rfl rfl rfl rfl) (fun _ _ h=>h))
 have R4:=hid (show Blk W4 w.heap.size 45 #[.pointer (some ⟨g,0,none⟩)] from by rw [hW4];exact (R2.out.drewN k3).alloc _)
 have T4:=hid (show Blk W4 ob 26 #[.int .u8 7,.int .i64 (j:Int),.int .i64 pos,.int .i64 num,.int .u32 0,.int .u8 0,.string ⟨#[]⟩] from by rw [hW4];exact (T2.out.drewN k3).alloc _)
 obtain ⟨zb,hzb⟩:∃z,z=w2.heap.size:=⟨_,rfl⟩
 have Z4:=hid (show Blk W4 zb 140 #[.pointer none] from by rw [hW4,hzb];first | exact Blk.new (w2.drewN k3) _ _ | exact Blk.push rfl)
 have nz1:=hid (show w.heap.size≠zb from by have:=R2.out.lt;omega)
 have nz2:=hid (show ob≠zb from by have:=T2.out.lt;omega)
 have nz3:=hid (show w.heap.size<=zb from by have:=R2.out.lt;omega)
 rw [<-hzb]
 clear hW4 hzb r0 t0 t1 a2 lj
 have z0:W4.cell? ⟨zb,0,none⟩=some (.pointer none):=Z4.out.cell 0
 have z1:=Z4.out.free 0
 repeat ((first | refine Mix.zq ?_ | refine Mix.zp ?_ | refine Mix.zs ?_);go_big_quiet_step (fail);refine wpQuiet_nil ?_)
 refine Mix.ze fun W5 hW5=>?_
 obtain ⟨k5,rfl⟩:=hW5
 go_wp2_with fail
 intro k6
 refine at_world fun W7 hW7=>?_
 have C7:=hid (show Ch (fun _=>False) w W7 from by rw [hW7];exact ((C4.out.drewN k5).set (fun h=>absurd h (by have:=nz3.out;omega)) _).drewN k6)
 have R7:=hid (show Blk W7 w.heap.size 45 #[.pointer (some ⟨g,0,none⟩)] from by rw [hW7];exact ((R4.out.drewN k5).far nz1.out _).drewN k6)
 have T7:=hid (show Blk W7 ob 26 #[.int .u8 7,.int .i64 (j:Int),.int .i64 pos,.int .i64 num,.int .u32 0,.int .u8 0,.string ⟨#[]⟩] from by rw [hW7];exact ((T4.out.drewN k5).far nz2.out _).drewN k6)
 have Z7:=hid (show Blk W7 zb 140 #[.pointer (some ⟨sg,0,none⟩)] from by rw [hW7];exact ((Z4.out.drewN k5).put 0 _).drewN k6)
 clear hW7 z0 z1
 have G7:=hid (C7.out.blk H.out id)
 have SG7:=hid (C7.out.blk HSG.out id)
 have r0:W7.cell? ⟨w.heap.size,0,none⟩=some (.pointer (some ⟨g,0,none⟩)):=R7.out.cell 0
 obtain ⟨t0,-,t2,t3⟩:=T7.out.c4
 have z0:W7.cell? ⟨zb,0,none⟩=some (.pointer (some ⟨sg,0,none⟩)):=Z7.out.cell 0
 obtain ⟨-,-,-,s3,s4,s5,-,-,-,s9⟩:=SG7.out.c10
 clear s3 s4 s5 s9 hp
 go_wp2_with fail
 refine (rread_any g sg r x mv dv ix cu pos num W7 G7.out SG7.out).mono ?_
 rintro e w3 ⟨rfl,hb,hc⟩
 go_wp2_with fail
 go_end0
 exact ⟨rfl,hb,(C7.out.mono (fun _ _ e=>e.elim)).trans hc (fun _ _ h=>h)⟩
theorem start_6 (g lb n j sg:Nat) (r:Rd) (l:List (Option Nat)) (x:Rv) (mv dv:Value) (ix cu:Int)  (w:World) (h:Blk w g 111 r.cells) (hs:r.sl=.slice (some ⟨lb,0,none⟩) n n) (hl:Blk w lb 140 (pinsA l)) (hop:r.op=⟨6,(j:Int),0,0,0,0,⟨#[]⟩⟩) (hj:j < n) (hlj:l[j]?=some (some sg))
  (hsg:Blk w sg 144 #[.int .i64 x.num,.int .u64 x.at',.int .i64 x.h,.int .i64 x.b,.int .i64 x.r,.int .i64 x.l,mv,dv,.int .i64 ix,.int .i64 cu])  :
  Calls Tryz.prog 38 #[.pointer (some ⟨g,0,none⟩)] w (fun e w'=>∃rb xb,RdSet g { r with ph:=1,dv:=locV rb xb } w (.tuple #[]) e w'/\Blk w' rb 45 #[.pointer (some ⟨g,0,none⟩)]/\Blk w' xb 41 (RsV.arr { RsV.zero with b:=x.b,r:=x.r,l:=x.l })/\w.heap.size<=rb/\rb < xb):=by
 have H:=hid h
 have HL:=hid hl
 have HS:=hid hs
 have HJ:=hid hlj
 have HSG:=hid hsg
 have hc:=h.cell
 have lg:=h.lt
 obtain ⟨d1,d2⟩:=dc_ltT (a:=j) (b:=n) (by omega)
 have HF:=hid (fm6 g lb n r (j:Int) HS.out (by omega) (by omega))
 have o3:w.cell? ⟨g,3,none⟩=some (.int .u8 6):=(hc 3).trans (by simp [Rd.cells,hop])
 have o4:w.cell? ⟨g,4,none⟩=some (.int .i64 (j:Int)):=(hc 4).trans (by simp [Rd.cells,hop])
 have o5:w.cell? ⟨g,5,none⟩=some (.int .i64 0):=(hc 5).trans (by simp [Rd.cells,hop])
 have o6:w.cell? ⟨g,6,none⟩=some (.int .i64 0):=(hc 6).trans (by simp [Rd.cells,hop])
 have o7:w.cell? ⟨g,7,none⟩=some (.int .u32 0):=(hc 7).trans (by simp [Rd.cells,hop])
 have o8:w.cell? ⟨g,8,none⟩=some (.int .u8 0):=(hc 8).trans (by simp [Rd.cells,hop])
 have o9:w.cell? ⟨g,9,none⟩=some (.string ⟨#[]⟩):=(hc 9).trans (by simp [Rd.cells,hop])
 clear h hc hop hl hs hlj hsg
 go_enter Tryz.func38,Tryz.ntmps38
 go_wp2_with fail
 refine calls_world fun W1 hW1=>?_
 have C1:=hid (show Ch (fun _=>False) w W1 from by rw [hW1];exact ((Ch.refl _ w).alloc _).alloc _)
 have R1:=hid (show Blk W1 w.heap.size 45 #[.pointer (some ⟨g,0,none⟩)] from by rw [hW1];exact (Blk.new w _ _).alloc _)
 obtain ⟨ob,hob⟩:∃x,x=w.heap.size+1:=⟨_,rfl⟩
 have T1:=hid (show Blk W1 ob 26 #[.int .u8 6,.int .i64 (j:Int),.int .i64 0,.int .i64 0,.int .u32 0,.int .u8 0,.string ⟨#[]⟩] from by rw [hW1,hob];have t:=Blk.new (w.alloc (.cells #[.pointer (some ⟨g,0,none⟩)] 45)) 26 #[.int .u8 6,.int .i64 (j:Int),.int .i64 0,.int .i64 0,.int .u32 0,.int .u8 0,.string ⟨#[]⟩];simpa using t)
 have lob:=hid (show w.heap.size < ob from by omega)
 rw [<-hob]
 clear hW1 hob o3 o4 o5 o6 o7 o8 o9
 have hck:=check_held g lb n j sg r ⟨6,(j:Int),0,0,0,0,⟨#[]⟩⟩ l x mv dv ix cu W1 (C1.out.blk H.out id) HS.out (C1.out.blk HL.out id) rfl hj HJ.out (C1.out.blk HSG.out id) HF.out (.inl rfl)
 refine hck.mono ?_
 clear hck
 rintro e w2 ⟨rfl,hc⟩
 have C2:=hid (C1.out.trans hc (fun _ _ h=>h))
 have R2:=hid (hc.blk R1.out id)
 have T2:=hid (hc.blk T1.out id)
 have r0:w2.cell? ⟨w.heap.size,0,none⟩=some (.pointer (some ⟨g,0,none⟩)):=R2.out.cell 0
 have t0:w2.cell? ⟨ob,0,none⟩=some (.int .u8 6):=T2.out.cell 0
 clear hc
 go_wp2_with fail
 obtain ⟨S,hS⟩:∃S:Nat->Prop,∀k,S k↔k < w2.heap.size:=⟨_,fun _=>Iff.rfl⟩
 have hSp1:Mix.Has S w.heap.size:=(hS _).2 R2.out.lt
 have hSp2:Mix.Has S ob:=(hS _).2 T2.out.lt
 have hSp3:Mix.Has S g:=(hS _).2 (C2.out.blk H.out id).lt
 have hSp4:Mix.Has S lb:=(hS _).2 (C2.out.blk HL.out id).lt
 have HSS:=hid hS
 clear hS
 have t1:w2.cell? ⟨ob,1,none⟩=some (.int .i64 (j:Int)):=T2.out.cell 1
 have a2:w2.cell? ⟨g,2,none⟩=some (.slice (some ⟨lb,0,none⟩) n n):=((C2.out.blk H.out (fun e=>e)).cell 2).trans (by rw [<-HS.out];rfl)
 have lj:w2.cell? ⟨lb,j,none⟩=some (.pointer (some ⟨sg,0,none⟩)):=((C2.out.blk HL.out (fun e=>e)).cell j).trans (pinsA_at (o:=some sg) HJ.out)
 refine Mix.rg S [4,1,1,4,1,4,1,4,3,2] [0,1,2,3,4,5,6,7,8,9] ?_
 repeat ((first | refine Mix.zq ?_ | refine Mix.zp ?_ | refine Mix.zs ?_);go_big_quiet_step (fail);refine wpQuiet_nil ?_)
 refine Mix.za fun W3 hW3=>?_
 obtain ⟨k3,rfl⟩:=hW3
 go_wp2_with fail
 refine ⟨fun k hk=>Below.heap_alloc _ _ k ((HSS.out k).1 hk),Mix.mix_world fun W4 hW4=>?_⟩
 have C4:=hid (show Ch (fun _=>False) w W4 from by rw [hW4];first | exact (C2.out.drewN k3).alloc _ | exact C2.out.trans (Ch.push rfl rfl rfl rfl) (fun _ _ h=>h))
 have R4:=hid (show Blk W4 w.heap.size 45 #[.pointer (some ⟨g,0,none⟩)] from by rw [hW4];exact (R2.out.drewN k3).alloc _)
 have T4:=hid (show Blk W4 ob 26 #[.int .u8 6,.int .i64 (j:Int),.int .i64 0,.int .i64 0,.int .u32 0,.int .u8 0,.string ⟨#[]⟩] from by rw [hW4];exact (T2.out.drewN k3).alloc _)
 obtain ⟨zb,hzb⟩:∃z,z=w2.heap.size:=⟨_,rfl⟩
 have Z4:=hid (show Blk W4 zb 140 #[.pointer none] from by rw [hW4,hzb];first | exact Blk.new (w2.drewN k3) _ _ | exact Blk.push rfl)
 have nz1:=hid (show w.heap.size≠zb from by have:=R2.out.lt;omega)
 have nz2:=hid (show ob≠zb from by have:=T2.out.lt;omega)
 have nz3:=hid (show w.heap.size<=zb from by have:=R2.out.lt;omega)
 rw [<-hzb]
 clear hW4 hzb r0 t0 t1 a2 lj
 have z0:W4.cell? ⟨zb,0,none⟩=some (.pointer none):=Z4.out.cell 0
 have z1:=Z4.out.free 0
 repeat ((first | refine Mix.zq ?_ | refine Mix.zp ?_ | refine Mix.zs ?_);go_big_quiet_step (fail);refine wpQuiet_nil ?_)
 refine Mix.ze fun W5 hW5=>?_
 obtain ⟨k5,rfl⟩:=hW5
 go_wp2_with fail
 intro k6
 refine at_world fun W7 hW7=>?_
 have C7:=hid (show Ch (fun _=>False) w W7 from by rw [hW7];exact ((C4.out.drewN k5).set (fun h=>absurd h (by have:=nz3.out;omega)) _).drewN k6)
 have R7:=hid (show Blk W7 w.heap.size 45 #[.pointer (some ⟨g,0,none⟩)] from by rw [hW7];exact ((R4.out.drewN k5).far nz1.out _).drewN k6)
 have T7:=hid (show Blk W7 ob 26 #[.int .u8 6,.int .i64 (j:Int),.int .i64 0,.int .i64 0,.int .u32 0,.int .u8 0,.string ⟨#[]⟩] from by rw [hW7];exact ((T4.out.drewN k5).far nz2.out _).drewN k6)
 have Z7:=hid (show Blk W7 zb 140 #[.pointer (some ⟨sg,0,none⟩)] from by rw [hW7];exact ((Z4.out.drewN k5).put 0 _).drewN k6)
 clear hW7 z0 z1
 have G7:=hid (C7.out.blk H.out id)
 have SG7:=hid (C7.out.blk HSG.out id)
 have r0:W7.cell? ⟨w.heap.size,0,none⟩=some (.pointer (some ⟨g,0,none⟩)):=R7.out.cell 0
 obtain ⟨t0,-,t2,t3⟩:=T7.out.c4
 have z0:W7.cell? ⟨zb,0,none⟩=some (.pointer (some ⟨sg,0,none⟩)):=Z7.out.cell 0
 obtain ⟨-,-,-,s3,s4,s5,-,-,-,s9⟩:=SG7.out.c10
 go_wp2_with fail
 refine Mix.rt [0,0,0,0,0,0,0,0,2] [0,1,2,3,4,5,6,7,8] ?_
 repeat ((first | refine Mix.zq ?_ | refine Mix.zp ?_ | refine Mix.zs ?_);go_big_quiet_step (fail);refine wpQuiet_nil ?_)
 refine Mix.ze fun W8 hW8=>?_
 obtain ⟨k8,rfl⟩:=hW8
 go_wp2_with fail
 refine calls_world fun W8 hW8=>?_
 have C8:=hid (show Ch (fun _=>False) w W8 from by rw [hW8];exact C7.out.drewN k8)
 have G8:=hid (show Blk W8 g 111 r.cells from by rw [hW8];exact G7.out.drewN k8)
 clear hW8
 clear s3 s4 s5 s9
 refine (rlocal_any g r { RsV.zero with b:=x.b,r:=x.r,l:=x.l } W8 G8.out).mono ?_
 rintro e w3 ⟨rb,xb,⟨rfl,hb,hc⟩,h1,h2,h3,h4⟩
 go_wp2_with fail
 intro k9
 go_wp2_with fail
 go_end0
 exact ⟨rb,xb,⟨rfl,hb.drewN k9,((C8.out.mono (fun _ _ e=>e.elim)).trans hc (fun _ _ h=>h)).drewN k9⟩,h1.drewN k9,h2.drewN k9,Nat.le_trans C8.out.size h3,h4⟩
theorem start_9z (g lb n j sg:Nat) (r:Rd) (l:List (Option Nat)) (x:Rv) (mv dv:Value) (ix cu:Int)  (w:World) (h:Blk w g 111 r.cells) (hs:r.sl=.slice (some ⟨lb,0,none⟩) n n) (hl:Blk w lb 140 (pinsA l)) (hop:r.op=⟨9,(j:Int),0,0,0,0,⟨#[]⟩⟩) (hj:j < n) (hlj:l[j]?=some (some sg))
  (hsg:Blk w sg 144 #[.int .i64 x.num,.int .u64 x.at',.int .i64 x.h,.int .i64 x.b,.int .i64 x.r,.int .i64 x.l,mv,dv,.int .i64 ix,.int .i64 cu]) (hp:0<=x.l) :
  Calls Tryz.prog 38 #[.pointer (some ⟨g,0,none⟩)] w (fun e w'=>∃rb xb,RdSet g { r with ph:=1,dv:=locV rb xb } w (.tuple #[]) e w'/\Blk w' rb 45 #[.pointer (some ⟨g,0,none⟩)]/\Blk w' xb 41 (RsV.arr RsV.zero)/\w.heap.size<=rb/\rb < xb):=by
 have H:=hid h
 have HL:=hid hl
 have HS:=hid hs
 have HJ:=hid hlj
 have HSG:=hid hsg
 have hc:=h.cell
 have lg:=h.lt
 obtain ⟨d1,d2⟩:=dc_ltT (a:=j) (b:=n) (by omega)
 have HF:=hid (fm9 g lb n r (j:Int) 0 HS.out (by omega) (by omega) (by decide))
 have o3:w.cell? ⟨g,3,none⟩=some (.int .u8 9):=(hc 3).trans (by simp [Rd.cells,hop])
 have o4:w.cell? ⟨g,4,none⟩=some (.int .i64 (j:Int)):=(hc 4).trans (by simp [Rd.cells,hop])
 have o5:w.cell? ⟨g,5,none⟩=some (.int .i64 0):=(hc 5).trans (by simp [Rd.cells,hop])
 have o6:w.cell? ⟨g,6,none⟩=some (.int .i64 0):=(hc 6).trans (by simp [Rd.cells,hop])
 have o7:w.cell? ⟨g,7,none⟩=some (.int .u32 0):=(hc 7).trans (by simp [Rd.cells,hop])
 have o8:w.cell? ⟨g,8,none⟩=some (.int .u8 0):=(hc 8).trans (by simp [Rd.cells,hop])
 have o9:w.cell? ⟨g,9,none⟩=some (.string ⟨#[]⟩):=(hc 9).trans (by simp [Rd.cells,hop])
 clear h hc hop hl hs hlj hsg
 go_enter Tryz.func38,Tryz.ntmps38
 go_wp2_with fail
 refine calls_world fun W1 hW1=>?_
 have C1:=hid (show Ch (fun _=>False) w W1 from by rw [hW1];exact ((Ch.refl _ w).alloc _).alloc _)
 have R1:=hid (show Blk W1 w.heap.size 45 #[.pointer (some ⟨g,0,none⟩)] from by rw [hW1];exact (Blk.new w _ _).alloc _)
 obtain ⟨ob,hob⟩:∃x,x=w.heap.size+1:=⟨_,rfl⟩
 have T1:=hid (show Blk W1 ob 26 #[.int .u8 9,.int .i64 (j:Int),.int .i64 0,.int .i64 0,.int .u32 0,.int .u8 0,.string ⟨#[]⟩] from by rw [hW1,hob];have t:=Blk.new (w.alloc (.cells #[.pointer (some ⟨g,0,none⟩)] 45)) 26 #[.int .u8 9,.int .i64 (j:Int),.int .i64 0,.int .i64 0,.int .u32 0,.int .u8 0,.string ⟨#[]⟩];simpa using t)
 have lob:=hid (show w.heap.size < ob from by omega)
 rw [<-hob]
 clear hW1 hob o3 o4 o5 o6 o7 o8 o9
 have hck:=check_9 g lb n j sg r l x mv dv ix cu W1 (C1.out.blk H.out id) HS.out (C1.out.blk HL.out id) hj HJ.out (C1.out.blk HSG.out id) 0 HF.out
 rw [if_neg (by omega)] at hck
 refine hck.mono ?_
 clear hck
 rintro e w2 ⟨rfl,hc⟩
 have C2:=hid (C1.out.trans hc (fun _ _ h=>h))
 have R2:=hid (hc.blk R1.out id)
 have T2:=hid (hc.blk T1.out id)
 have r0:w2.cell? ⟨w.heap.size,0,none⟩=some (.pointer (some ⟨g,0,none⟩)):=R2.out.cell 0
 have t0:w2.cell? ⟨ob,0,none⟩=some (.int .u8 9):=T2.out.cell 0
 clear hc
 go_wp2_with fail
 obtain ⟨S,hS⟩:∃S:Nat->Prop,∀k,S k↔k < w2.heap.size:=⟨_,fun _=>Iff.rfl⟩
 have hSp1:Mix.Has S w.heap.size:=(hS _).2 R2.out.lt
 have hSp2:Mix.Has S ob:=(hS _).2 T2.out.lt
 have hSp3:Mix.Has S g:=(hS _).2 (C2.out.blk H.out id).lt
 have hSp4:Mix.Has S lb:=(hS _).2 (C2.out.blk HL.out id).lt
 have HSS:=hid hS
 clear hS
 have t1:w2.cell? ⟨ob,1,none⟩=some (.int .i64 (j:Int)):=T2.out.cell 1
 have a2:w2.cell? ⟨g,2,none⟩=some (.slice (some ⟨lb,0,none⟩) n n):=((C2.out.blk H.out (fun e=>e)).cell 2).trans (by rw [<-HS.out];rfl)
 have lj:w2.cell? ⟨lb,j,none⟩=some (.pointer (some ⟨sg,0,none⟩)):=((C2.out.blk HL.out (fun e=>e)).cell j).trans (pinsA_at (o:=some sg) HJ.out)
 refine Mix.rg S [4,1,1,4,1,4,1,4,3,2] [0,1,2,3,4,5,6,7,8,9] ?_
 repeat ((first | refine Mix.zq ?_ | refine Mix.zp ?_ | refine Mix.zs ?_);go_big_quiet_step (fail);refine wpQuiet_nil ?_)
 refine Mix.za fun W3 hW3=>?_
 obtain ⟨k3,rfl⟩:=hW3
 go_wp2_with fail
 refine ⟨fun k hk=>Below.heap_alloc _ _ k ((HSS.out k).1 hk),Mix.mix_world fun W4 hW4=>?_⟩
 have C4:=hid (show Ch (fun _=>False) w W4 from by rw [hW4];first | exact (C2.out.drewN k3).alloc _ | exact C2.out.trans (Ch.push rfl rfl rfl rfl) (fun _ _ h=>h))
 have R4:=hid (show Blk W4 w.heap.size 45 #[.pointer (some ⟨g,0,none⟩)] from by rw [hW4];exact (R2.out.drewN k3).alloc _)
 have T4:=hid (show Blk W4 ob 26 #[.int .u8 9,.int .i64 (j:Int),.int .i64 0,.int .i64 0,.int .u32 0,.int .u8 0,.string ⟨#[]⟩] from by rw [hW4];exact (T2.out.drewN k3).alloc _)
 obtain ⟨zb,hzb⟩:∃z,z=w2.heap.size:=⟨_,rfl⟩
 have Z4:=hid (show Blk W4 zb 140 #[.pointer none] from by rw [hW4,hzb];first | exact Blk.new (w2.drewN k3) _ _ | exact Blk.push rfl)
 have nz1:=hid (show w.heap.size≠zb from by have:=R2.out.lt;omega)
 have nz2:=hid (show ob≠zb from by have:=T2.out.lt;omega)
 have nz3:=hid (show w.heap.size<=zb from by have:=R2.out.lt;omega)
 rw [<-hzb]
 clear hW4 hzb r0 t0 t1 a2 lj
 have z0:W4.cell? ⟨zb,0,none⟩=some (.pointer none):=Z4.out.cell 0
 have z1:=Z4.out.free 0
 repeat ((first | refine Mix.zq ?_ | refine Mix.zp ?_ | refine Mix.zs ?_);go_big_quiet_step (fail);refine wpQuiet_nil ?_)
 refine Mix.ze fun W5 hW5=>?_
 obtain ⟨k5,rfl⟩:=hW5
 go_wp2_with fail
 intro k6
 refine at_world fun W7 hW7=>?_
 have C7:=hid (show Ch (fun _=>False) w W7 from by rw [hW7];exact ((C4.out.drewN k5).set (fun h=>absurd h (by have:=nz3.out;omega)) _).drewN k6)
 have R7:=hid (show Blk W7 w.heap.size 45 #[.pointer (some ⟨g,0,none⟩)] from by rw [hW7];exact ((R4.out.drewN k5).far nz1.out _).drewN k6)
 have T7:=hid (show Blk W7 ob 26 #[.int .u8 9,.int .i64 (j:Int),.int .i64 0,.int .i64 0,.int .u32 0,.int .u8 0,.string ⟨#[]⟩] from by rw [hW7];exact ((T4.out.drewN k5).far nz2.out _).drewN k6)
 have Z7:=hid (show Blk W7 zb 140 #[.pointer (some ⟨sg,0,none⟩)] from by rw [hW7];exact ((Z4.out.drewN k5).put 0 _).drewN k6)
 clear hW7 z0 z1
 have G7:=hid (C7.out.blk H.out id)
 have SG7:=hid (C7.out.blk HSG.out id)
 have r0:W7.cell? ⟨w.heap.size,0,none⟩=some (.pointer (some ⟨g,0,none⟩)):=R7.out.cell 0
 obtain ⟨t0,-,t2,t3⟩:=T7.out.c4
 have z0:W7.cell? ⟨zb,0,none⟩=some (.pointer (some ⟨sg,0,none⟩)):=Z7.out.cell 0
 obtain ⟨-,-,-,s3,s4,s5,-,-,-,s9⟩:=SG7.out.c10
 clear s3 s4 s5 s9 hp
 go_wp2_with fail
 refine (rlocal_any g r RsV.zero W7 G7.out).mono ?_
 rintro e w3 ⟨rb,xb,⟨rfl,hb,hc⟩,h1,h2,h3,h4⟩
 go_wp2_with fail
 (try simp only [Exit.inBlock,Exit.then]);refine bodyPost_ret (results_none rfl _ _ _) rfl ?_
 exact ⟨rb,xb,⟨rfl,hb,(C7.out.mono (fun _ _ e=>e.elim)).trans hc (fun _ _ h=>h)⟩,h1,h2,Nat.le_trans C7.out.size h3,h4⟩
def visLF (g:Nat):Value:=.func (.func 72) #[.pointer (some ⟨g,0,none⟩)] #[]
def visRF (g:Nat):Value:=.func (.func 71) #[.pointer (some ⟨g,0,none⟩)] #[]
theorem start_9 (g lb n j sg:Nat) (r:Rd) (l:List (Option Nat)) (x:Rv) (mv dv:Value) (ix cu:Int) (num:Int) (w:World) (h:Blk w g 111 r.cells) (hs:r.sl=.slice (some ⟨lb,0,none⟩) n n) (hl:Blk w lb 140 (pinsA l)) (hop:r.op=⟨9,(j:Int),0,num,0,0,⟨#[]⟩⟩) (hj:j < n) (hlj:l[j]?=some (some sg))
  (hsg:Blk w sg 144 #[.int .i64 x.num,.int .u64 x.at',.int .i64 x.h,.int .i64 x.b,.int .i64 x.r,.int .i64 x.l,mv,dv,.int .i64 ix,.int .i64 cu]) (h4:0<=num) (hn0:num≠0) (hp:num<=x.l) :
  Calls Tryz.prog 38 #[.pointer (some ⟨g,0,none⟩)] w (RdSet g { r with ph:=12,dv:=visLF g,at':=x.at',rest:=num,base:=⟨0,0,0⟩ } w (.tuple #[])):=by
 have H:=hid h
 have HL:=hid hl
 have HS:=hid hs
 have HJ:=hid hlj
 have HSG:=hid hsg
 have hc:=h.cell
 have lg:=h.lt
 obtain ⟨d1,d2⟩:=dc_ltT (a:=j) (b:=n) (by omega)
 have HF:=hid (fm9 g lb n r (j:Int) num HS.out (by omega) (by omega) h4)
 have o3:w.cell? ⟨g,3,none⟩=some (.int .u8 9):=(hc 3).trans (by simp [Rd.cells,hop])
 have o4:w.cell? ⟨g,4,none⟩=some (.int .i64 (j:Int)):=(hc 4).trans (by simp [Rd.cells,hop])
 have o5:w.cell? ⟨g,5,none⟩=some (.int .i64 0):=(hc 5).trans (by simp [Rd.cells,hop])
 have o6:w.cell? ⟨g,6,none⟩=some (.int .i64 num):=(hc 6).trans (by simp [Rd.cells,hop])
 have o7:w.cell? ⟨g,7,none⟩=some (.int .u32 0):=(hc 7).trans (by simp [Rd.cells,hop])
 have o8:w.cell? ⟨g,8,none⟩=some (.int .u8 0):=(hc 8).trans (by simp [Rd.cells,hop])
 have o9:w.cell? ⟨g,9,none⟩=some (.string ⟨#[]⟩):=(hc 9).trans (by simp [Rd.cells,hop])
 clear h hc hop hl hs hlj hsg
 go_enter Tryz.func38,Tryz.ntmps38
 go_wp2_with fail
 refine calls_world fun W1 hW1=>?_
 have C1:=hid (show Ch (fun _=>False) w W1 from by rw [hW1];exact ((Ch.refl _ w).alloc _).alloc _)
 have R1:=hid (show Blk W1 w.heap.size 45 #[.pointer (some ⟨g,0,none⟩)] from by rw [hW1];exact (Blk.new w _ _).alloc _)
 obtain ⟨ob,hob⟩:∃x,x=w.heap.size+1:=⟨_,rfl⟩
 have T1:=hid (show Blk W1 ob 26 #[.int .u8 9,.int .i64 (j:Int),.int .i64 0,.int .i64 num,.int .u32 0,.int .u8 0,.string ⟨#[]⟩] from by rw [hW1,hob];have t:=Blk.new (w.alloc (.cells #[.pointer (some ⟨g,0,none⟩)] 45)) 26 #[.int .u8 9,.int .i64 (j:Int),.int .i64 0,.int .i64 num,.int .u32 0,.int .u8 0,.string ⟨#[]⟩];simpa using t)
 have lob:=hid (show w.heap.size < ob from by omega)
 rw [<-hob]
 clear hW1 hob o3 o4 o5 o6 o7 o8 o9
 have hck:=check_9 g lb n j sg r l x mv dv ix cu W1 (C1.out.blk H.out id) HS.out (C1.out.blk HL.out id) hj HJ.out (C1.out.blk HSG.out id) num HF.out
 rw [if_neg (by omega)] at hck
 refine hck.mono ?_
 clear hck
 rintro e w2 ⟨rfl,hc⟩
 have C2:=hid (C1.out.trans hc (fun _ _ h=>h))
 have R2:=hid (hc.blk R1.out id)
 have T2:=hid (hc.blk T1.out id)
 have r0:w2.cell? ⟨w.heap.size,0,none⟩=some (.pointer (some ⟨g,0,none⟩)):=R2.out.cell 0
 have t0:w2.cell? ⟨ob,0,none⟩=some (.int .u8 9):=T2.out.cell 0
 clear hc
 go_wp2_with fail
 obtain ⟨S,hS⟩:∃S:Nat->Prop,∀k,S k↔k < w2.heap.size:=⟨_,fun _=>Iff.rfl⟩
 have hSp1:Mix.Has S w.heap.size:=(hS _).2 R2.out.lt
 have hSp2:Mix.Has S ob:=(hS _).2 T2.out.lt
 have hSp3:Mix.Has S g:=(hS _).2 (C2.out.blk H.out id).lt
 have hSp4:Mix.Has S lb:=(hS _).2 (C2.out.blk HL.out id).lt
 have HSS:=hid hS
 clear hS
 have t1:w2.cell? ⟨ob,1,none⟩=some (.int .i64 (j:Int)):=T2.out.cell 1
 have a2:w2.cell? ⟨g,2,none⟩=some (.slice (some ⟨lb,0,none⟩) n n):=((C2.out.blk H.out (fun e=>e)).cell 2).trans (by rw [<-HS.out];rfl)
 have lj:w2.cell? ⟨lb,j,none⟩=some (.pointer (some ⟨sg,0,none⟩)):=((C2.out.blk HL.out (fun e=>e)).cell j).trans (pinsA_at (o:=some sg) HJ.out)
 refine Mix.rg S [4,1,1,4,1,4,1,4,3,2] [0,1,2,3,4,5,6,7,8,9] ?_
 repeat ((first | refine Mix.zq ?_ | refine Mix.zp ?_ | refine Mix.zs ?_);go_big_quiet_step (fail);refine wpQuiet_nil ?_)
 refine Mix.za fun W3 hW3=>?_
 obtain ⟨k3,rfl⟩:=hW3
 go_wp2_with fail
 refine ⟨fun k hk=>Below.heap_alloc _ _ k ((HSS.out k).1 hk),Mix.mix_world fun W4 hW4=>?_⟩
 have C4:=hid (show Ch (fun _=>False) w W4 from by rw [hW4];first | exact (C2.out.drewN k3).alloc _ | exact C2.out.trans (Ch.push rfl rfl rfl rfl) (fun _ _ h=>h))
 have R4:=hid (show Blk W4 w.heap.size 45 #[.pointer (some ⟨g,0,none⟩)] from by rw [hW4];exact (R2.out.drewN k3).alloc _)
 have T4:=hid (show Blk W4 ob 26 #[.int .u8 9,.int .i64 (j:Int),.int .i64 0,.int .i64 num,.int .u32 0,.int .u8 0,.string ⟨#[]⟩] from by rw [hW4];exact (T2.out.drewN k3).alloc _)
 obtain ⟨zb,hzb⟩:∃z,z=w2.heap.size:=⟨_,rfl⟩
 have Z4:=hid (show Blk W4 zb 140 #[.pointer none] from by rw [hW4,hzb];first | exact Blk.new (w2.drewN k3) _ _ | exact Blk.push rfl)
 have nz1:=hid (show w.heap.size≠zb from by have:=R2.out.lt;omega)
 have nz2:=hid (show ob≠zb from by have:=T2.out.lt;omega)
 have nz3:=hid (show w.heap.size<=zb from by have:=R2.out.lt;omega)
 rw [<-hzb]
 clear hW4 hzb r0 t0 t1 a2 lj
 have z0:W4.cell? ⟨zb,0,none⟩=some (.pointer none):=Z4.out.cell 0
 have z1:=Z4.out.free 0
 repeat ((first | refine Mix.zq ?_ | refine Mix.zp ?_ | refine Mix.zs ?_);go_big_quiet_step (fail);refine wpQuiet_nil ?_)
 refine Mix.ze fun W5 hW5=>?_
 obtain ⟨k5,rfl⟩:=hW5
 go_wp2_with fail
 intro k6
 refine at_world fun W7 hW7=>?_
 have C7:=hid (show Ch (fun _=>False) w W7 from by rw [hW7];exact ((C4.out.drewN k5).set (fun h=>absurd h (by have:=nz3.out;omega)) _).drewN k6)
 have R7:=hid (show Blk W7 w.heap.size 45 #[.pointer (some ⟨g,0,none⟩)] from by rw [hW7];exact ((R4.out.drewN k5).far nz1.out _).drewN k6)
 have T7:=hid (show Blk W7 ob 26 #[.int .u8 9,.int .i64 (j:Int),.int .i64 0,.int .i64 num,.int .u32 0,.int .u8 0,.string ⟨#[]⟩] from by rw [hW7];exact ((T4.out.drewN k5).far nz2.out _).drewN k6)
 have Z7:=hid (show Blk W7 zb 140 #[.pointer (some ⟨sg,0,none⟩)] from by rw [hW7];exact ((Z4.out.drewN k5).put 0 _).drewN k6)
 clear hW7 z0 z1
 have G7:=hid (C7.out.blk H.out id)
 have SG7:=hid (C7.out.blk HSG.out id)
 have r0:W7.cell? ⟨w.heap.size,0,none⟩=some (.pointer (some ⟨g,0,none⟩)):=R7.out.cell 0
 obtain ⟨t0,-,t2,t3⟩:=T7.out.c4
 have z0:W7.cell? ⟨zb,0,none⟩=some (.pointer (some ⟨sg,0,none⟩)):=Z7.out.cell 0
 obtain ⟨-,-,-,s3,s4,s5,-,-,-,s9⟩:=SG7.out.c10
 have d0:(num == 0)=false:=by rw [beq_eq_false_iff_ne];exact hn0
 clear s3 s4 s5 s9 hp hn0
 go_wp2_with fail
 have T:=rdescend_any g sg r _ x.at' num 72 W7 G7.out SG7.out rfl
 refine T.mono ?_
 rintro e w3 ⟨rfl,hb,hc⟩
 go_wp2_with fail
 go_end0
 exact ⟨rfl,hb,(C7.out.mono (fun _ _ e=>e.elim)).trans hc (fun _ _ h=>h)⟩
theorem start_8e (g lb n j sg:Nat) (r:Rd) (l:List (Option Nat)) (x:Rv) (mv dv:Value) (ix cu:Int)  (w:World) (h:Blk w g 111 r.cells) (hs:r.sl=.slice (some ⟨lb,0,none⟩) n n) (hl:Blk w lb 140 (pinsA l)) (hop:r.op=⟨8,(j:Int),0,x.r,0,0,⟨#[]⟩⟩) (hj:j < n) (hlj:l[j]?=some (some sg))
  (hsg:Blk w sg 144 #[.int .i64 x.num,.int .u64 x.at',.int .i64 x.h,.int .i64 x.b,.int .i64 x.r,.int .i64 x.l,mv,dv,.int .i64 ix,.int .i64 cu]) (h4:0<=x.r) :
  Calls Tryz.prog 38 #[.pointer (some ⟨g,0,none⟩)] w (fun e w'=>∃rb xb,RdSet g { r with ph:=1,dv:=locV rb xb } w (.tuple #[]) e w'/\Blk w' rb 45 #[.pointer (some ⟨g,0,none⟩)]/\Blk w' xb 41 (RsV.arr { RsV.zero with at':=x.b })/\w.heap.size<=rb/\rb < xb):=by
 have H:=hid h
 have HL:=hid hl
 have HS:=hid hs
 have HJ:=hid hlj
 have HSG:=hid hsg
 have hc:=h.cell
 have lg:=h.lt
 obtain ⟨d1,d2⟩:=dc_ltT (a:=j) (b:=n) (by omega)
 have HF:=hid (fm8 g lb n r (j:Int) x.r HS.out (by omega) (by omega) h4)
 have o3:w.cell? ⟨g,3,none⟩=some (.int .u8 8):=(hc 3).trans (by simp [Rd.cells,hop])
 have o4:w.cell? ⟨g,4,none⟩=some (.int .i64 (j:Int)):=(hc 4).trans (by simp [Rd.cells,hop])
 have o5:w.cell? ⟨g,5,none⟩=some (.int .i64 0):=(hc 5).trans (by simp [Rd.cells,hop])
 have o6:w.cell? ⟨g,6,none⟩=some (.int .i64 x.r):=(hc 6).trans (by simp [Rd.cells,hop])
 have o7:w.cell? ⟨g,7,none⟩=some (.int .u32 0):=(hc 7).trans (by simp [Rd.cells,hop])
 have o8:w.cell? ⟨g,8,none⟩=some (.int .u8 0):=(hc 8).trans (by simp [Rd.cells,hop])
 have o9:w.cell? ⟨g,9,none⟩=some (.string ⟨#[]⟩):=(hc 9).trans (by simp [Rd.cells,hop])
 clear h hc hop hl hs hlj hsg
 go_enter Tryz.func38,Tryz.ntmps38
 go_wp2_with fail
 refine calls_world fun W1 hW1=>?_
 have C1:=hid (show Ch (fun _=>False) w W1 from by rw [hW1];exact ((Ch.refl _ w).alloc _).alloc _)
 have R1:=hid (show Blk W1 w.heap.size 45 #[.pointer (some ⟨g,0,none⟩)] from by rw [hW1];exact (Blk.new w _ _).alloc _)
 obtain ⟨ob,hob⟩:∃x,x=w.heap.size+1:=⟨_,rfl⟩
 have T1:=hid (show Blk W1 ob 26 #[.int .u8 8,.int .i64 (j:Int),.int .i64 0,.int .i64 x.r,.int .u32 0,.int .u8 0,.string ⟨#[]⟩] from by rw [hW1,hob];have t:=Blk.new (w.alloc (.cells #[.pointer (some ⟨g,0,none⟩)] 45)) 26 #[.int .u8 8,.int .i64 (j:Int),.int .i64 0,.int .i64 x.r,.int .u32 0,.int .u8 0,.string ⟨#[]⟩];simpa using t)
 have lob:=hid (show w.heap.size < ob from by omega)
 rw [<-hob]
 clear hW1 hob o3 o4 o5 o6 o7 o8 o9
 have hck:=check_8 g lb n j sg r l x mv dv ix cu W1 (C1.out.blk H.out id) HS.out (C1.out.blk HL.out id) hj HJ.out (C1.out.blk HSG.out id) x.r HF.out
 rw [if_neg (by omega)] at hck
 refine hck.mono ?_
 clear hck
 rintro e w2 ⟨rfl,hc⟩
 have C2:=hid (C1.out.trans hc (fun _ _ h=>h))
 have R2:=hid (hc.blk R1.out id)
 have T2:=hid (hc.blk T1.out id)
 have r0:w2.cell? ⟨w.heap.size,0,none⟩=some (.pointer (some ⟨g,0,none⟩)):=R2.out.cell 0
 have t0:w2.cell? ⟨ob,0,none⟩=some (.int .u8 8):=T2.out.cell 0
 clear hc
 go_wp2_with fail
 obtain ⟨S,hS⟩:∃S:Nat->Prop,∀k,S k↔k < w2.heap.size:=⟨_,fun _=>Iff.rfl⟩
 have hSp1:Mix.Has S w.heap.size:=(hS _).2 R2.out.lt
 have hSp2:Mix.Has S ob:=(hS _).2 T2.out.lt
 have hSp3:Mix.Has S g:=(hS _).2 (C2.out.blk H.out id).lt
 have hSp4:Mix.Has S lb:=(hS _).2 (C2.out.blk HL.out id).lt
 have HSS:=hid hS
 clear hS
 have t1:w2.cell? ⟨ob,1,none⟩=some (.int .i64 (j:Int)):=T2.out.cell 1
 have a2:w2.cell? ⟨g,2,none⟩=some (.slice (some ⟨lb,0,none⟩) n n):=((C2.out.blk H.out (fun e=>e)).cell 2).trans (by rw [<-HS.out];rfl)
 have lj:w2.cell? ⟨lb,j,none⟩=some (.pointer (some ⟨sg,0,none⟩)):=((C2.out.blk HL.out (fun e=>e)).cell j).trans (pinsA_at (o:=some sg) HJ.out)
 refine Mix.rg S [4,1,1,4,1,4,1,4,3,2] [0,1,2,3,4,5,6,7,8,9] ?_
 repeat ((first | refine Mix.zq ?_ | refine Mix.zp ?_ | refine Mix.zs ?_);go_big_quiet_step (fail);refine wpQuiet_nil ?_)
 refine Mix.za fun W3 hW3=>?_
 obtain ⟨k3,rfl⟩:=hW3
 go_wp2_with fail
 refine ⟨fun k hk=>Below.heap_alloc _ _ k ((HSS.out k).1 hk),Mix.mix_world fun W4 hW4=>?_⟩
 have C4:=hid (show Ch (fun _=>False) w W4 from by rw [hW4];first | exact (C2.out.drewN k3).alloc _ | exact C2.out.trans (Ch.push rfl rfl rfl rfl) (fun _ _ h=>h))
 have R4:=hid (show Blk W4 w.heap.size 45 #[.pointer (some ⟨g,0,none⟩)] from by rw [hW4];exact (R2.out.drewN k3).alloc _)
 have T4:=hid (show Blk W4 ob 26 #[.int .u8 8,.int .i64 (j:Int),.int .i64 0,.int .i64 x.r,.int .u32 0,.int .u8 0,.string ⟨#[]⟩] from by rw [hW4];exact (T2.out.drewN k3).alloc _)
 obtain ⟨zb,hzb⟩:∃z,z=w2.heap.size:=⟨_,rfl⟩
 have Z4:=hid (show Blk W4 zb 140 #[.pointer none] from by rw [hW4,hzb];first | exact Blk.new (w2.drewN k3) _ _ | exact Blk.push rfl)
 have nz1:=hid (show w.heap.size≠zb from by have:=R2.out.lt;omega)
 have nz2:=hid (show ob≠zb from by have:=T2.out.lt;omega)
 have nz3:=hid (show w.heap.size<=zb from by have:=R2.out.lt;omega)
 rw [<-hzb]
 clear hW4 hzb r0 t0 t1 a2 lj
 have z0:W4.cell? ⟨zb,0,none⟩=some (.pointer none):=Z4.out.cell 0
 have z1:=Z4.out.free 0
 repeat ((first | refine Mix.zq ?_ | refine Mix.zp ?_ | refine Mix.zs ?_);go_big_quiet_step (fail);refine wpQuiet_nil ?_)
 refine Mix.ze fun W5 hW5=>?_
 obtain ⟨k5,rfl⟩:=hW5
 go_wp2_with fail
 intro k6
 refine at_world fun W7 hW7=>?_
 have C7:=hid (show Ch (fun _=>False) w W7 from by rw [hW7];exact ((C4.out.drewN k5).set (fun h=>absurd h (by have:=nz3.out;omega)) _).drewN k6)
 have R7:=hid (show Blk W7 w.heap.size 45 #[.pointer (some ⟨g,0,none⟩)] from by rw [hW7];exact ((R4.out.drewN k5).far nz1.out _).drewN k6)
 have T7:=hid (show Blk W7 ob 26 #[.int .u8 8,.int .i64 (j:Int),.int .i64 0,.int .i64 x.r,.int .u32 0,.int .u8 0,.string ⟨#[]⟩] from by rw [hW7];exact ((T4.out.drewN k5).far nz2.out _).drewN k6)
 have Z7:=hid (show Blk W7 zb 140 #[.pointer (some ⟨sg,0,none⟩)] from by rw [hW7];exact ((Z4.out.drewN k5).put 0 _).drewN k6)
 clear hW7 z0 z1
 have G7:=hid (C7.out.blk H.out id)
 have SG7:=hid (C7.out.blk HSG.out id)
 have r0:W7.cell? ⟨w.heap.size,0,none⟩=some (.pointer (some ⟨g,0,none⟩)):=R7.out.cell 0
 obtain ⟨t0,-,t2,t3⟩:=T7.out.c4
 have z0:W7.cell? ⟨zb,0,none⟩=some (.pointer (some ⟨sg,0,none⟩)):=Z7.out.cell 0
 obtain ⟨-,-,-,s3,s4,s5,-,-,-,s9⟩:=SG7.out.c10
 go_wp2_with fail
 refine Mix.rt [0,0,0,0,0,0,0,0,0,0] [0,1,2,3,4,5,6,7,8,9] ?_
 repeat ((first | refine Mix.zq ?_ | refine Mix.zp ?_ | refine Mix.zs ?_);go_big_quiet_step (fail);refine wpQuiet_nil ?_)
 intro k7
 refine at_world fun V hV=>?_
 have CV:=hid (show Ch (fun _=>False) w V from by rw [hV];exact C7.out.drewN k7)
 have CW:=hid (show Ch (fun _=>False) W7 V from by rw [hV];exact (Ch.refl _ W7).drewN k7)
 clear hV r0 t0 t2 t3 z0 s3 s4 s5 s9
 have R8:=hid (CW.out.blk R7.out id)
 have Z8:=hid (CW.out.blk Z7.out id)
 have SG8:=hid (CW.out.blk SG7.out id)
 have GV:=hid (CW.out.blk G7.out id)
 have r0:V.cell? ⟨w.heap.size,0,none⟩=some (.pointer (some ⟨g,0,none⟩)):=R8.out.cell 0
 have z0:V.cell? ⟨zb,0,none⟩=some (.pointer (some ⟨sg,0,none⟩)):=Z8.out.cell 0
 have s3:V.cell? ⟨sg,3,none⟩=some (.int .i64 x.b):=SG8.out.cell 3
 go_wp2_with fail
 refine Mix.rt [0,0,0,0,0,0,0,0,0,2] [0,1,2,3,4,5,6,7,8,9] ?_
 repeat ((first | refine Mix.zq ?_ | refine Mix.zp ?_ | refine Mix.zs ?_);go_big_quiet_step (fail);refine wpQuiet_nil ?_)
 refine Mix.ze fun W8 hW8=>?_
 obtain ⟨k8,rfl⟩:=hW8
 go_wp2_with fail
 refine calls_world fun W8 hW8=>?_
 have C8:=hid (show Ch (fun _=>False) w W8 from by rw [hW8];exact CV.out.drewN k8)
 have G8:=hid (show Blk W8 g 111 r.cells from by rw [hW8];exact GV.out.drewN k8)
 clear hW8
 clear s3
 refine (rlocal_any g r { RsV.zero with at':=x.b } W8 G8.out).mono ?_
 rintro e w3 ⟨rb,xb,⟨rfl,hb,hc⟩,h1,h2,h3,h4⟩
 go_wp2_with fail
 intro k9
 go_wp2_with fail
 (try simp only [Exit.inBlock,Exit.then]);refine bodyPost_ret (results_none rfl _ _ _) rfl ?_
 exact ⟨rb,xb,⟨rfl,hb.drewN k9,((C8.out.mono (fun _ _ e=>e.elim)).trans hc (fun _ _ h=>h)).drewN k9⟩,h1.drewN k9,h2.drewN k9,Nat.le_trans C8.out.size h3,h4⟩
theorem start_8 (g lb n j sg:Nat) (r:Rd) (l:List (Option Nat)) (x:Rv) (mv dv:Value) (ix cu:Int) (num:Int) (w:World) (h:Blk w g 111 r.cells) (hs:r.sl=.slice (some ⟨lb,0,none⟩) n n) (hl:Blk w lb 140 (pinsA l)) (hop:r.op=⟨8,(j:Int),0,num,0,0,⟨#[]⟩⟩) (hj:j < n) (hlj:l[j]?=some (some sg))
  (hsg:Blk w sg 144 #[.int .i64 x.num,.int .u64 x.at',.int .i64 x.h,.int .i64 x.b,.int .i64 x.r,.int .i64 x.l,mv,dv,.int .i64 ix,.int .i64 cu]) (h4:0<=num) (hne:num≠x.r) (hp:num<=x.r) :
  Calls Tryz.prog 38 #[.pointer (some ⟨g,0,none⟩)] w (RdSet g { r with ph:=12,dv:=visRF g,at':=x.at',rest:=num,base:=⟨0,0,0⟩ } w (.tuple #[])):=by
 have H:=hid h
 have HL:=hid hl
 have HS:=hid hs
 have HJ:=hid hlj
 have HSG:=hid hsg
 have hc:=h.cell
 have lg:=h.lt
 obtain ⟨d1,d2⟩:=dc_ltT (a:=j) (b:=n) (by omega)
 have HF:=hid (fm8 g lb n r (j:Int) num HS.out (by omega) (by omega) h4)
 have o3:w.cell? ⟨g,3,none⟩=some (.int .u8 8):=(hc 3).trans (by simp [Rd.cells,hop])
 have o4:w.cell? ⟨g,4,none⟩=some (.int .i64 (j:Int)):=(hc 4).trans (by simp [Rd.cells,hop])
 have o5:w.cell? ⟨g,5,none⟩=some (.int .i64 0):=(hc 5).trans (by simp [Rd.cells,hop])
 have o6:w.cell? ⟨g,6,none⟩=some (.int .i64 num):=(hc 6).trans (by simp [Rd.cells,hop])
 have o7:w.cell? ⟨g,7,none⟩=some (.int .u32 0):=(hc 7).trans (by simp [Rd.cells,hop])
 have o8:w.cell? ⟨g,8,none⟩=some (.int .u8 0):=(hc 8).trans (by simp [Rd.cells,hop])
 have o9:w.cell? ⟨g,9,none⟩=some (.string ⟨#[]⟩):=(hc 9).trans (by simp [Rd.cells,hop])
 clear h hc hop hl hs hlj hsg
 go_enter Tryz.func38,Tryz.ntmps38
 go_wp2_with fail
 refine calls_world fun W1 hW1=>?_
 have C1:=hid (show Ch (fun _=>False) w W1 from by rw [hW1];exact ((Ch.refl _ w).alloc _).alloc _)
 have R1:=hid (show Blk W1 w.heap.size 45 #[.pointer (some ⟨g,0,none⟩)] from by rw [hW1];exact (Blk.new w _ _).alloc _)
 obtain ⟨ob,hob⟩:∃x,x=w.heap.size+1:=⟨_,rfl⟩
 have T1:=hid (show Blk W1 ob 26 #[.int .u8 8,.int .i64 (j:Int),.int .i64 0,.int .i64 num,.int .u32 0,.int .u8 0,.string ⟨#[]⟩] from by rw [hW1,hob];have t:=Blk.new (w.alloc (.cells #[.pointer (some ⟨g,0,none⟩)] 45)) 26 #[.int .u8 8,.int .i64 (j:Int),.int .i64 0,.int .i64 num,.int .u32 0,.int .u8 0,.string ⟨#[]⟩];simpa using t)
 have lob:=hid (show w.heap.size < ob from by omega)
 rw [<-hob]
 clear hW1 hob o3 o4 o5 o6 o7 o8 o9
 have hck:=check_8 g lb n j sg r l x mv dv ix cu W1 (C1.out.blk H.out id) HS.out (C1.out.blk HL.out id) hj HJ.out (C1.out.blk HSG.out id) num HF.out
 rw [if_neg (by omega)] at hck
 refine hck.mono ?_
 clear hck
 rintro e w2 ⟨rfl,hc⟩
 have C2:=hid (C1.out.trans hc (fun _ _ h=>h))
 have R2:=hid (hc.blk R1.out id)
 have T2:=hid (hc.blk T1.out id)
 have r0:w2.cell? ⟨w.heap.size,0,none⟩=some (.pointer (some ⟨g,0,none⟩)):=R2.out.cell 0
 have t0:w2.cell? ⟨ob,0,none⟩=some (.int .u8 8):=T2.out.cell 0
 clear hc
 go_wp2_with fail
 obtain ⟨S,hS⟩:∃S:Nat->Prop,∀k,S k↔k < w2.heap.size:=⟨_,fun _=>Iff.rfl⟩
 have hSp1:Mix.Has S w.heap.size:=(hS _).2 R2.out.lt
 have hSp2:Mix.Has S ob:=(hS _).2 T2.out.lt
 have hSp3:Mix.Has S g:=(hS _).2 (C2.out.blk H.out id).lt
 have hSp4:Mix.Has S lb:=(hS _).2 (C2.out.blk HL.out id).lt
 have HSS:=hid hS
 clear hS
 have t1:w2.cell? ⟨ob,1,none⟩=some (.int .i64 (j:Int)):=T2.out.cell 1
 have a2:w2.cell? ⟨g,2,none⟩=some (.slice (some ⟨lb,0,none⟩) n n):=((C2.out.blk H.out (fun e=>e)).cell 2).trans (by rw [<-HS.out];rfl)
 have lj:w2.cell? ⟨lb,j,none⟩=some (.pointer (some ⟨sg,0,none⟩)):=((C2.out.blk HL.out (fun e=>e)).cell j).trans (pinsA_at (o:=some sg) HJ.out)
 refine Mix.rg S [4,1,1,4,1,4,1,4,3,2] [0,1,2,3,4,5,6,7,8,9] ?_
 repeat ((first | refine Mix.zq ?_ | refine Mix.zp ?_ | refine Mix.zs ?_);go_big_quiet_step (fail);refine wpQuiet_nil ?_)
 refine Mix.za fun W3 hW3=>?_
 obtain ⟨k3,rfl⟩:=hW3
 go_wp2_with fail
 refine ⟨fun k hk=>Below.heap_alloc _ _ k ((HSS.out k).1 hk),Mix.mix_world fun W4 hW4=>?_⟩
 have C4:=hid (show Ch (fun _=>False) w W4 from by rw [hW4];first | exact (C2.out.drewN k3).alloc _ | exact C2.out.trans (Ch.push rfl rfl rfl rfl) (fun _ _ h=>h))
 have R4:=hid (show Blk W4 w.heap.size 45 #[.pointer (some ⟨g,0,none⟩)] from by rw [hW4];exact (R2.out.drewN k3).alloc _)
 have T4:=hid (show Blk W4 ob 26 #[.int .u8 8,.int .i64 (j:Int),.int .i64 0,.int .i64 num,.int .u32 0,.int .u8 0,.string ⟨#[]⟩] from by rw [hW4];exact (T2.out.drewN k3).alloc _)
 obtain ⟨zb,hzb⟩:∃z,z=w2.heap.size:=⟨_,rfl⟩
 have Z4:=hid (show Blk W4 zb 140 #[.pointer none] from by rw [hW4,hzb];first | exact Blk.new (w2.drewN k3) _ _ | exact Blk.push rfl)
 have nz1:=hid (show w.heap.size≠zb from by have:=R2.out.lt;omega)
 have nz2:=hid (show ob≠zb from by have:=T2.out.lt;omega)
 have nz3:=hid (show w.heap.size<=zb from by have:=R2.out.lt;omega)
 rw [<-hzb]
 clear hW4 hzb r0 t0 t1 a2 lj
 have z0:W4.cell? ⟨zb,0,none⟩=some (.pointer none):=Z4.out.cell 0
 have z1:=Z4.out.free 0
 repeat ((first | refine Mix.zq ?_ | refine Mix.zp ?_ | refine Mix.zs ?_);go_big_quiet_step (fail);refine wpQuiet_nil ?_)
 refine Mix.ze fun W5 hW5=>?_
 obtain ⟨k5,rfl⟩:=hW5
 go_wp2_with fail
 intro k6
 refine at_world fun W7 hW7=>?_
 have C7:=hid (show Ch (fun _=>False) w W7 from by rw [hW7];exact ((C4.out.drewN k5).set (fun h=>absurd h (by have:=nz3.out;omega)) _).drewN k6)
 have R7:=hid (show Blk W7 w.heap.size 45 #[.pointer (some ⟨g,0,none⟩)] from by rw [hW7];exact ((R4.out.drewN k5).far nz1.out _).drewN k6)
 have T7:=hid (show Blk W7 ob 26 #[.int .u8 8,.int .i64 (j:Int),.int .i64 0,.int .i64 num,.int .u32 0,.int .u8 0,.string ⟨#[]⟩] from by rw [hW7];exact ((T4.out.drewN k5).far nz2.out _).drewN k6)
 have Z7:=hid (show Blk W7 zb 140 #[.pointer (some ⟨sg,0,none⟩)] from by rw [hW7];exact ((Z4.out.drewN k5).put 0 _).drewN k6)
 clear hW7 z0 z1
 have G7:=hid (C7.out.blk H.out id)
 have SG7:=hid (C7.out.blk HSG.out id)
 have r0:W7.cell? ⟨w.heap.size,0,none⟩=some (.pointer (some ⟨g,0,none⟩)):=R7.out.cell 0
 obtain ⟨t0,-,t2,t3⟩:=T7.out.c4
 have z0:W7.cell? ⟨zb,0,none⟩=some (.pointer (some ⟨sg,0,none⟩)):=Z7.out.cell 0
 obtain ⟨-,-,-,s3,s4,s5,-,-,-,s9⟩:=SG7.out.c10
 have d0:(num == x.r)=false:=by rw [beq_eq_false_iff_ne];exact hne
 clear hne hp
 go_wp2_with fail
 refine Mix.rt [0,0,0,0,0,0,0,0,0,0] [0,1,2,3,4,5,6,7,8,9] ?_
 repeat ((first | refine Mix.zq ?_ | refine Mix.zp ?_ | refine Mix.zs ?_);go_big_quiet_step (fail);refine wpQuiet_nil ?_)
 intro k7
 refine at_world fun V hV=>?_
 have CV:=hid (show Ch (fun _=>False) w V from by rw [hV];exact C7.out.drewN k7)
 have CW:=hid (show Ch (fun _=>False) W7 V from by rw [hV];exact (Ch.refl _ W7).drewN k7)
 clear hV r0 t0 t2 t3 z0 s3 s4 s5 s9
 have R8:=hid (CW.out.blk R7.out id)
 have T8:=hid (CW.out.blk T7.out id)
 have Z8:=hid (CW.out.blk Z7.out id)
 have SG8:=hid (CW.out.blk SG7.out id)
 have GV:=hid (CW.out.blk G7.out id)
 have r0:V.cell? ⟨w.heap.size,0,none⟩=some (.pointer (some ⟨g,0,none⟩)):=R8.out.cell 0
 have t3:V.cell? ⟨ob,3,none⟩=some (.int .i64 num):=T8.out.cell 3
 have z0:V.cell? ⟨zb,0,none⟩=some (.pointer (some ⟨sg,0,none⟩)):=Z8.out.cell 0
 go_wp2_with fail
 have T:=rdescend_any g sg r _ x.at' num 71 V GV.out SG8.out rfl
 refine T.mono ?_
 rintro e w3 ⟨rfl,hb,hc⟩
 go_wp2_with fail
 go_end0
 exact ⟨rfl,hb,(CV.out.mono (fun _ _ e=>e.elim)).trans hc (fun _ _ h=>h)⟩
end Go.Proofs.YtjcdknhejcbpiaaGreat
