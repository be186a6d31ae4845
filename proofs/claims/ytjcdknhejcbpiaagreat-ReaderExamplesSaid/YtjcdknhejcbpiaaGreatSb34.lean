/- Lemmas; no condition. -/
import Derived.Test.YtjcdknhejcbpiaaGreatSb32
import Derived.Test.YtjcdknhejcbpiaaGreatSb33
set_option maxRecDepth 100000
set_option maxHeartbeats 4000000
namespace Go.Proofs.YtjcdknhejcbpiaaGreat
open Go.RowKit
set_option linter.unusedVariables false
set_option linter.unusedSimpArgs false
set_option linter.unusedSectionVars false
section
variable {σ:RS} {y:Ly} {n m:Nat}
theorem RS.Ok.rd (O:σ.Ok y n m) (r':Rd) (tx':List UInt8) (h1:r'.sl=σ.r.sl) (h2:r'.cl=σ.r.cl):RS.Ok { σ with r:=r',tx:=tx' } y n m:=
 ⟨h1.trans O.sl,O.nl,O.n8,by rw [show ({ σ with r:=r',tx:=tx' }:RS).r.cl=σ.r.cl from h2];exact O.cl,by rw [show ({ σ with r:=r',tx:=tx' }:RS).r.cl=σ.r.cl from h2];exact O.hm,O.mn,O.pl,O.stf,O.h23,O.ed,O.y0,O.y1,O.vs,O.lg,O.f0,O.fs⟩
theorem RS.Ok.slot (O:σ.Ok y n m) (k:Nat) (o:Option Snp):RS.Ok { σ with sl:=σ.sl.set k o } y n m:=
 ⟨O.sl,by rw [List.length_set];exact O.nl,O.n8,O.cl,O.hm,O.mn,O.pl,O.stf,O.h23,O.ed,O.y0,O.y1,O.vs,O.lg,O.f0,O.fs⟩
theorem RS.Ok.pin (O:σ.Ok y n m) (k:Nat) (o:Option (Nat × Pn)):RS.Ok { σ with ps:=σ.ps.set k o } y n m:=
 ⟨O.sl,O.nl,O.n8,O.cl,O.hm,O.mn,by rw [List.length_set];exact O.pl,O.stf,O.h23,O.ed,O.y0,O.y1,O.vs,O.lg,O.f0,O.fs⟩
theorem RS.Ok.bank (O:σ.Ok y n m) (s':BS) (lv':Value) (h1:s'.vs.length=σ.s.vs.length) (h2:s'.lg.length < 900000) (h3:EdOk s' σ.f):RS.Ok { σ with s:=s',lv:=lv' } y n m:=
 ⟨O.sl,O.nl,O.n8,O.cl,O.hm,O.mn,O.pl,O.stf,O.h23,h3,O.y0,O.y1,by rw [show ({ σ with s:=s',lv:=lv' }:RS).s.vs.length=σ.s.vs.length from h1];exact O.vs,h2,O.f0,O.fs⟩
theorem RS.Ok.arena (O:σ.Ok y n m) (ns':List An):RS.Ok { σ with ns:=ns' } y n m:=
 ⟨O.sl,O.nl,O.n8,O.cl,O.hm,O.mn,O.pl,O.stf,O.h23,O.ed,O.y0,O.y1,O.vs,O.lg,O.f0,O.fs⟩
theorem RS.Ok.publish (O:σ.Ok y n m) (rv':Value) (rs':List RvS) (h23:23 < σ.cs.size) (hy:y.arr.size<=10):RS.Ok { σ with cs:=σ.cs.setIfInBounds 23 rv',rv:=rv',rs:=rs' } y n m:=
 ⟨O.sl,O.nl,O.n8,O.cl,O.hm,O.mn,O.pl,⟨by rw [Array.getElem?_setIfInBounds];exact O.stf.bank,by rw [Array.getElem?_setIfInBounds];exact O.stf.arena,by rw [Array.getElem?_setIfInBounds];exact O.stf.epoch,fun j v hj=>by
  have hlt:=(Array.getElem?_eq_some_iff.1 hj).1
  rw [Array.getElem?_setIfInBounds,if_neg (by omega)]
  exact O.stf.lay j v hj⟩,by
  show (σ.cs.setIfInBounds 23 rv')[23]?=some rv'
  rw [Array.getElem?_setIfInBounds,if_pos rfl,if_pos h23],O.ed,O.y0,O.y1,O.vs,O.lg,O.f0,O.fs⟩
end
theorem rope_nt {ns ys:List An} {t:T} (hl:ys.length=t.cnt) (h:∀(j:Nat) (y:An),ys[j]?=some y->∃sp,(T.post 0 t)[j]?=some sp/\y.x=sp.nd ns.length (T.post 0 t)) (hp:(T.post 0 t).length=t.cnt):Nt (ns++ys) (ns.length+(t.cnt - 1)) t:=by
 apply nt_root
 intro i sp hi
 have hlt:=(List.getElem?_eq_some_iff.1 hi).1
 obtain ⟨y,hy⟩:∃y,ys[i]?=some y:=⟨_,List.getElem?_eq_getElem (by omega)⟩
 obtain ⟨sp',h1,h2⟩:=h i y hy
 rw [hi] at h1
 injection h1 with h1
 subst h1
 exact ⟨y,by rw [List.getElem?_append_right (by omega),show ns.length+i - ns.length=i by omega];exact hy,h2⟩
theorem check_10 (g lb n j sg:Nat) (r:Rd) (l:List (Option Nat)) (x:Rv) (am:Option Addr) (n1 c1:Nat) (ms:List Mk) (dv:Value) (id':Int) (ix cu:Int) (w:World) (h:Blk w g 111 r.cells) (hs:r.sl=.slice (some ⟨lb,0,none⟩) n n) (hl:Blk w lb 140 (pinsA l)) (hj:j < n) (hlj:l[j]?=some (some sg))
  (hsg:Blk w sg 144 #[.int .i64 x.num,.int .u64 x.at',.int .i64 x.h,.int .i64 x.b,.int .i64 x.r,.int .i64 x.l,.slice am n1 c1,dv,.int .i64 ix,.int .i64 cu]) (hin:InMk w am n1 ms) (hn1:n1<=1000) (hF:Formed g r ⟨10,(j:Int),0,0,id',0,⟨#[]⟩⟩) :
  Calls Tryz.prog 61 #[.pointer (some ⟨g,0,none⟩),OpV.v ⟨10,(j:Int),0,0,id',0,⟨#[]⟩⟩] w fun e w'=>((e=.returned (.int .i64 7)/\∀x ∈ ms,x.id≠id')\/(e=.returned (.int .i64 0)/\∃(k:Nat) (x:Mk),ms[k]?=some x/\x.id=id'))/\Ch (fun _=>False) w w':=by
 have HF:=hid hF
 have HIN:=hid hin
 have H:=hid h
 have HL:=hid hl
 have HS:=hid hs
 have HJ:=hid hlj
 have HSG:=hid hsg
 obtain ⟨d1,d2⟩:=dc_ltT (a:=j) (b:=n) (by omega)
 simp only [OpV.v] at HF |-
 clear h hl hs hlj hF hsg hin
 go_enter Tryz.func61,Tryz.ntmps61
 go_wp2_with fail
 refine calls_world fun W1 hW1=>?_
 have C1:=hid (show Ch (fun _=>False) w W1 from by rw [hW1];exact (Ch.refl _ w).alloc _)
 have T1:=hid (show Blk W1 w.heap.size 26 #[.int .u8 10,.int .i64 (j:Int),.int .i64 0,.int .i64 0,.int .u32 id',.int .u8 0,.string ⟨#[]⟩] from by rw [hW1];exact Blk.new w _ _)
 clear hW1
 refine (HF.out W1 (C1.out.blk H.out (fun e=>e))).mono ?_
 rintro e w2 ⟨rfl,hc⟩
 have C2:=hid (C1.out.trans hc (fun _ _ h=>h))
 have T2:=hid (hc.blk T1.out (fun e=>e))
 have lt2:=T2.out.lt
 obtain ⟨t0,t1⟩:=T2.out.c2
 have a2:w2.cell? ⟨g,2,none⟩=some (.slice (some ⟨lb,0,none⟩) n n):=((C2.out.blk H.out (fun e=>e)).cell 2).trans (by rw [<-HS.out];rfl)
 have lj:w2.cell? ⟨lb,j,none⟩=some (.pointer (some ⟨sg,0,none⟩)):=((C2.out.blk HL.out (fun e=>e)).cell j).trans (pinsA_at (o:=some sg) HJ.out)
 have SG2:=hid (C2.out.blk HSG.out (fun e=>e))
 obtain ⟨-,-,-,s3,s4,s5⟩:=SG2.out.c6
 clear hc
 go_wp2_with fail
 refine Mix.rt [0,0,0,0,0,0,0,0,0] [0,1,2,3,4,5,6,7,8] ?_
 repeat ((first | refine Mix.zq ?_ | refine Mix.zp ?_ | refine Mix.zs ?_);go_big_quiet_step (fail);refine wpQuiet_nil ?_)
 intro k3
 refine at_world fun W3 hW3=>?_
 have C3:=hid (show Ch (fun _=>False) w W3 from by rw [hW3];exact C2.out.drewN k3)
 have T3:=hid (show Blk W3 w.heap.size 26 #[.int .u8 10,.int .i64 (j:Int),.int .i64 0,.int .i64 0,.int .u32 id',.int .u8 0,.string ⟨#[]⟩] from by rw [hW3];exact T2.out.drewN k3)
 clear hW3 t0 t1 a2 lj s3 s4 s5 lt2
 have SG3:=hid (C3.out.blk HSG.out (fun e=>e))
 have lt3:=T3.out.lt
 have t0:W3.cell? ⟨w.heap.size,0,none⟩=some (.int .u8 10):=T3.out.cell 0
 obtain ⟨-,-,-,s3,s4,s5⟩:=SG3.out.c6
 go_wp2_with fail
 refine at_world fun W4 hW4=>?_
 have C4:=hid (show Ch (fun _=>False) w W4 from by rw [hW4];exact C3.out.alloc _)
 have C34:=hid (show Ch (fun _=>False) W3 W4 from by rw [hW4];exact (Ch.refl _ W3).alloc _)
 clear hW4 t0 s3 s4 s5
 have T4:=hid (C34.out.blk T3.out (fun e=>e))
 have SG4:=hid (C4.out.blk HSG.out (fun e=>e))
 have HI4:=hid (HIN.out.keep C4.out (fun _ _ _ _ h=>h))
 have s6:W4.cell? ⟨sg,6,none⟩=some (.slice am n1 c1):=SG4.out.cell 6
 have t4:W4.cell? ⟨w.heap.size,4,none⟩=some (.int .u32 id'):=T4.out.cell 4
 obtain ⟨S,hS⟩:∃S:Nat->Prop,∀k,S k↔k < W4.heap.size:=⟨_,fun _=>Iff.rfl⟩
 have hSp1:Mix.Has S sg:=(hS _).2 SG4.out.lt
 have hSp2:Mix.Has S w.heap.size:=(hS _).2 T4.out.lt
 have HSS:=hid hS
 clear hS
 refine Mix.wp_region_X S (fun i=>([1,1,1,1,4,1,4,2,1,1,1,3,2,0]:List Nat).getD i 0) (by kernel_rfl) ?_
 refine Mix.wpX_prefix (fuel:=7) (by kernel_rfl) [0,1,2,3,4,5,6] _ _ _ (by kernel_rfl) ?_
 repeat ((first | refine Mix.zq ?_ | refine Mix.zp ?_ | refine Mix.zs ?_);go_big_quiet_step (fail);refine wpQuiet_nil ?_)
 intro m0
 refine Mix.wpX_world fun V0 hV0=>?_
 have C04:=hid (show Ch (fun _=>False) W4 V0 from by rw [hV0];exact (Ch.refl _ W4).drewN m0)
 have C0:=hid (C4.out.trans C04.out (fun _ _ h=>h))
 have HI0:=hid (HI4.out.keep C04.out (fun _ _ _ _ h=>h))
 clear hV0 s6 t4
 refine Mix.wpX_two 7 11 (by kernel_rfl) ?_ ?_
 ·repeat ((first | refine Mix.zq ?_ | refine Mix.zp ?_ | refine Mix.zs ?_);go_big_quiet_step (fail);refine wpQuiet_nil ?_)
  refine Mix.ze fun V1 hV1=>?_
  obtain ⟨k1,rfl⟩:=hV1
  go_wp2_with fail
  refine calls_world fun V2 hV2=>?_
  have C2':=hid (show Ch (fun _=>False) V0 V2 from by rw [hV2];exact (Ch.refl _ V0).drewN k1)
  clear hV2
  refine (mfind_any am n1 c1 ms id' V2 (HI0.out.keep C2'.out (fun _ _ _ _ h=>h)) (by omega)).mono ?_
  rintro e V5 ⟨⟨rfl,hno⟩ | ⟨kk,xx,rfl,hxx,hxi⟩,hc⟩
  {
 have HNO:=hid hno
 clear hno
 have C5':=hid (C0.out.trans (C2'.out.trans hc (fun _ _ h=>h)) (fun _ _ h=>h))
 have C5'b:=hid (Nat.le_trans C04.out.size (Nat.le_trans C2'.out.size hc.size))
 clear hc
 go_wp2_with fail
 intro k6
 refine Mix.wpX_prefix (fuel:=0) (by kernel_rfl) [8,9,10,11,12,13] _ _ _ (by kernel_rfl) ?_
 refine Mix.mix_world fun V6 hV6=>?_
 have C6':=hid (show Ch (fun _=>False) w V6 from by rw [hV6];exact C5'.out.drewN k6)
 have C6'b:=hid (show W4.heap.size<=V6.heap.size from by rw [hV6];exact Nat.le_trans C5'b.out ((Ch.refl (fun _=>False) V5).drewN k6).size)
 clear hV6
 repeat ((first | refine Mix.zq ?_ | refine Mix.zp ?_ | refine Mix.zs ?_);go_big_quiet_step (fail);refine wpQuiet_nil ?_)
 refine Mix.za fun V3 hV3=>?_
 obtain ⟨k3',rfl⟩:=hV3
 go_wp2_with fail
 refine ⟨fun k hk=>Below.heap_alloc _ _ k (Nat.lt_of_lt_of_le ((HSS.out k).1 hk) C6'b.out),Mix.mix_world fun V4 hV4=>?_⟩
 obtain ⟨yb,hyb⟩:∃z,z=V6.heap.size:=⟨_,rfl⟩
 have C4':=hid (show Ch (fun _=>False) w V4 from by rw [hV4];first | exact (C6'.out.drewN k3').alloc _ | exact C6'.out.trans (Ch.push rfl rfl rfl rfl) (fun _ _ h=>h))
 have Y4:=hid (show Blk V4 yb 160 #[.int .u32 0,.int .i64 0,.int .u8 0] from by rw [hV4,hyb];first | exact Blk.new (V6.drewN k3') _ _ | exact Blk.push rfl)
 have lyb:w.heap.size<=yb:=by rw [hyb];exact C6'.out.size
 rw [<-hyb]
 clear hV4 hyb
 obtain ⟨y0,y1,y2⟩:=Y4.out.c3
 obtain ⟨g0,g1,g2⟩:=Y4.out.f3
 repeat ((first | refine Mix.zq ?_ | refine Mix.zp ?_ | refine Mix.zs ?_);go_big_quiet_step (fail);refine wpQuiet_nil ?_)
 refine Mix.ze fun V8 hV8=>?_
 obtain ⟨k8,rfl⟩:=hV8
 go_wp2_with fail
 repeat ((first | refine Mix.zq ?_ | refine Mix.zp ?_ | refine Mix.zs ?_);go_big_quiet_step (fail);refine wpQuiet_nil ?_)
 intro k9
 refine Mix.wpX_done (by kernel_rfl) ?_
 intro k10
 refine at_world fun V9 hV9=>?_
 have C9:=hid (show Ch (fun _=>False) w V9 from by rw [hV9];exact (((((((C4'.out.drewN k8).set (fun h=>absurd h (by omega)) _).set (fun h=>absurd h (by omega)) _).set (fun h=>absurd h (by omega)) _).drewN k9).drewN k10)))
 clear hV9 y0 y1 y2 g0 g1 g2
 go_wp2_with fail
 go_ret
 exact ⟨.inl ⟨rfl,HNO.out⟩,C9.out⟩
 }
  {
 have HXX:=hid hxx
 have HXI:=hid hxi
 clear hxx hxi
 simp only [Mk.agg]
 have C5':=hid (C0.out.trans (C2'.out.trans hc (fun _ _ h=>h)) (fun _ _ h=>h))
 have C5'b:=hid (Nat.le_trans C04.out.size (Nat.le_trans C2'.out.size hc.size))
 clear hc
 go_wp2_with fail
 intro k6
 refine Mix.wpX_prefix (fuel:=0) (by kernel_rfl) [8,9,10,11,12,13] _ _ _ (by kernel_rfl) ?_
 refine Mix.mix_world fun V6 hV6=>?_
 have C6':=hid (show Ch (fun _=>False) w V6 from by rw [hV6];exact C5'.out.drewN k6)
 have C6'b:=hid (show W4.heap.size<=V6.heap.size from by rw [hV6];exact Nat.le_trans C5'b.out ((Ch.refl (fun _=>False) V5).drewN k6).size)
 clear hV6
 repeat ((first | refine Mix.zq ?_ | refine Mix.zp ?_ | refine Mix.zs ?_);go_big_quiet_step (fail);refine wpQuiet_nil ?_)
 refine Mix.za fun V3 hV3=>?_
 obtain ⟨k3',rfl⟩:=hV3
 go_wp2_with fail
 refine ⟨fun k hk=>Below.heap_alloc _ _ k (Nat.lt_of_lt_of_le ((HSS.out k).1 hk) C6'b.out),Mix.mix_world fun V4 hV4=>?_⟩
 obtain ⟨yb,hyb⟩:∃z,z=V6.heap.size:=⟨_,rfl⟩
 have C4':=hid (show Ch (fun _=>False) w V4 from by rw [hV4];first | exact (C6'.out.drewN k3').alloc _ | exact C6'.out.trans (Ch.push rfl rfl rfl rfl) (fun _ _ h=>h))
 have Y4:=hid (show Blk V4 yb 160 #[.int .u32 0,.int .i64 0,.int .u8 0] from by rw [hV4,hyb];first | exact Blk.new (V6.drewN k3') _ _ | exact Blk.push rfl)
 have lyb:w.heap.size<=yb:=by rw [hyb];exact C6'.out.size
 rw [<-hyb]
 clear hV4 hyb
 obtain ⟨y0,y1,y2⟩:=Y4.out.c3
 obtain ⟨g0,g1,g2⟩:=Y4.out.f3
 repeat ((first | refine Mix.zq ?_ | refine Mix.zp ?_ | refine Mix.zs ?_);go_big_quiet_step (fail);refine wpQuiet_nil ?_)
 refine Mix.ze fun V8 hV8=>?_
 obtain ⟨k8,rfl⟩:=hV8
 go_wp2_with fail
 repeat ((first | refine Mix.zq ?_ | refine Mix.zp ?_ | refine Mix.zs ?_);go_big_quiet_step (fail);refine wpQuiet_nil ?_)
 intro k9
 refine Mix.wpX_done (by kernel_rfl) ?_
 intro k10
 refine at_world fun V9 hV9=>?_
 have C9:=hid (show Ch (fun _=>False) w V9 from by rw [hV9];exact (((((((C4'.out.drewN k8).set (fun h=>absurd h (by omega)) _).set (fun h=>absurd h (by omega)) _).set (fun h=>absurd h (by omega)) _).drewN k9).drewN k10)))
 clear hV9 y0 y1 y2 g0 g1 g2
 go_wp2_with fail
 go_ret
 exact ⟨.inr ⟨rfl,kk,xx,HXX.out,HXI.out⟩,C9.out⟩
 }
 ·refine Mix.za fun V3 hV3=>?_
  obtain ⟨k3',rfl⟩:=hV3
  go_wp2_with fail
  refine ⟨fun k hk=>Below.heap_alloc _ _ k (Nat.lt_of_lt_of_le ((HSS.out k).1 hk) C04.out.size),Mix.mix_world fun V4 hV4=>?_⟩
  obtain ⟨yb,hyb⟩:∃z,z=V0.heap.size:=⟨_,rfl⟩
  have C4':=hid (show Ch (fun _=>False) w V4 from by rw [hV4];first | exact (C0.out.drewN k3').alloc _ | exact C0.out.trans (Ch.push rfl rfl rfl rfl) (fun _ _ h=>h))
  have Y4:=hid (show Blk V4 yb 160 #[.int .u32 0,.int .i64 0,.int .u8 0] from by rw [hV4,hyb];first | exact Blk.new (V0.drewN k3') _ _ | exact Blk.push rfl)
  have lyb:w.heap.size<=yb:=by rw [hyb];exact C0.out.size
  rw [<-hyb]
  clear hV4 hyb
  obtain ⟨y0,y1,y2⟩:=Y4.out.c3
  obtain ⟨g0,g1,g2⟩:=Y4.out.f3
  intro k6
  refine Mix.wpX_prefix (fuel:=0) (by kernel_rfl) [7,8,9,10,12,13] _ _ _ (by kernel_rfl) ?_
  refine Mix.mix_world fun V6 hV6=>?_
  have C46:=hid (show Ch (fun _=>False) V4 V6 from by rw [hV6];exact (Ch.refl _ V4).drewN k6)
  clear hV6 y0 y1 y2 g0 g1 g2
  have HI6:=hid (HIN.out.keep (C4'.out.trans C46.out (fun _ _ h=>h)) (fun _ _ _ _ h=>h))
  repeat ((first | refine Mix.zq ?_ | refine Mix.zp ?_ | refine Mix.zs ?_);go_big_quiet_step (fail);refine wpQuiet_nil ?_)
  refine Mix.ze fun V1 hV1=>?_
  obtain ⟨k1,rfl⟩:=hV1
  go_wp2_with fail
  refine calls_world fun V2 hV2=>?_
  have C2':=hid (show Ch (fun _=>False) V6 V2 from by rw [hV2];exact (Ch.refl _ V6).drewN k1)
  clear hV2
  refine (mfind_any am n1 c1 ms id' V2 (HI6.out.keep C2'.out (fun _ _ _ _ h=>h)) (by omega)).mono ?_
  rintro e V5 ⟨⟨rfl,hno⟩ | ⟨kk,xx,rfl,hxx,hxi⟩,hc⟩
  {
 have HNO:=hid hno
 clear hno
 have C5':=hid (C4'.out.trans (C46.out.trans (C2'.out.trans hc (fun _ _ h=>h)) (fun _ _ h=>h)) (fun _ _ h=>h))
 have Y5:=hid (hc.blk (C2'.out.blk (C46.out.blk Y4.out (fun e=>e)) (fun e=>e)) (fun e=>e))
 clear hc
 go_wp2_with fail
 obtain ⟨y0,y1,y2⟩:=Y5.out.c3
 obtain ⟨g0,g1,g2⟩:=Y5.out.f3
 repeat ((first | refine Mix.zq ?_ | refine Mix.zp ?_ | refine Mix.zs ?_);go_big_quiet_step (fail);refine wpQuiet_nil ?_)
 refine Mix.ze fun V8 hV8=>?_
 obtain ⟨k8,rfl⟩:=hV8
 go_wp2_with fail
 repeat ((first | refine Mix.zq ?_ | refine Mix.zp ?_ | refine Mix.zs ?_);go_big_quiet_step (fail);refine wpQuiet_nil ?_)
 intro k9
 refine Mix.wpX_done (by kernel_rfl) ?_
 intro k10
 refine at_world fun V9 hV9=>?_
 have C9:=hid (show Ch (fun _=>False) w V9 from by rw [hV9];exact (((((((C5'.out.drewN k8).set (fun h=>absurd h (by omega)) _).set (fun h=>absurd h (by omega)) _).set (fun h=>absurd h (by omega)) _).drewN k9).drewN k10)))
 clear hV9 y0 y1 y2 g0 g1 g2
 go_wp2_with fail
 go_ret
 exact ⟨.inl ⟨rfl,HNO.out⟩,C9.out⟩
 }
  {
 have HXX:=hid hxx
 have HXI:=hid hxi
 clear hxx hxi
 simp only [Mk.agg]
 have C5':=hid (C4'.out.trans (C46.out.trans (C2'.out.trans hc (fun _ _ h=>h)) (fun _ _ h=>h)) (fun _ _ h=>h))
 have Y5:=hid (hc.blk (C2'.out.blk (C46.out.blk Y4.out (fun e=>e)) (fun e=>e)) (fun e=>e))
 clear hc
 go_wp2_with fail
 obtain ⟨y0,y1,y2⟩:=Y5.out.c3
 obtain ⟨g0,g1,g2⟩:=Y5.out.f3
 repeat ((first | refine Mix.zq ?_ | refine Mix.zp ?_ | refine Mix.zs ?_);go_big_quiet_step (fail);refine wpQuiet_nil ?_)
 refine Mix.ze fun V8 hV8=>?_
 obtain ⟨k8,rfl⟩:=hV8
 go_wp2_with fail
 repeat ((first | refine Mix.zq ?_ | refine Mix.zp ?_ | refine Mix.zs ?_);go_big_quiet_step (fail);refine wpQuiet_nil ?_)
 intro k9
 refine Mix.wpX_done (by kernel_rfl) ?_
 intro k10
 refine at_world fun V9 hV9=>?_
 have C9:=hid (show Ch (fun _=>False) w V9 from by rw [hV9];exact (((((((C5'.out.drewN k8).set (fun h=>absurd h (by omega)) _).set (fun h=>absurd h (by omega)) _).set (fun h=>absurd h (by omega)) _).drewN k9).drewN k10)))
 clear hV9 y0 y1 y2 g0 g1 g2
 go_wp2_with fail
 go_ret
 exact ⟨.inr ⟨rfl,kk,xx,HXX.out,HXI.out⟩,C9.out⟩
 }
theorem mem3 {w W:World} {a b c:Nat} {s t u:TypeId} {x y z:Array Value} (C:Ch (fun _=>False) w W) (A:Blk W a s x) (D:Blk W b t y) (E:Blk W c u z) (ha:w.heap.size<=a) (hb:w.heap.size<=b) (hc:w.heap.size<=c) (ab:a≠b) (ac:a≠c) (bc:b≠c):Mem w.heap.size w ([blkR a s x,blkR b t y,blkR c u z]++([]:List Res)) W:=by
 refine ⟨fun i r hr=>?_,fun i j r q hr hq hne k hk hk'=>?_,fun i r hr k hk=>?_,C.belowB (Nat.le_refl _) (fun _ _ h=>h.elim),C.size⟩
 ·match i,hr with
  | 0,hr=>injection hr with hr;rw [<-hr];exact A
  | 1,hr=>injection hr with hr;rw [<-hr];exact D
  | 2,hr=>injection hr with hr;rw [<-hr];exact E
 ·match i,j,hr,hq,hne with
  | 0,0,_,_,h=>exact h rfl
  | 1,1,_,_,h=>exact h rfl
  | 2,2,_,_,h=>exact h rfl
  | 0,1,hr,hq,_=>injection hr with hr;injection hq with hq;rw [<-hr] at hk;rw [<-hq] at hk';exact ab (hk.symm.trans hk')
  | 0,2,hr,hq,_=>injection hr with hr;injection hq with hq;rw [<-hr] at hk;rw [<-hq] at hk';exact ac (hk.symm.trans hk')
  | 1,0,hr,hq,_=>injection hr with hr;injection hq with hq;rw [<-hr] at hk;rw [<-hq] at hk';exact ab (hk'.symm.trans hk)
  | 1,2,hr,hq,_=>injection hr with hr;injection hq with hq;rw [<-hr] at hk;rw [<-hq] at hk';exact bc (hk.symm.trans hk')
  | 2,0,hr,hq,_=>injection hr with hr;injection hq with hq;rw [<-hr] at hk;rw [<-hq] at hk';exact ac (hk'.symm.trans hk)
  | 2,1,hr,hq,_=>injection hr with hr;injection hq with hq;rw [<-hr] at hk;rw [<-hq] at hk';exact bc (hk'.symm.trans hk)
 ·match i,hr with
  | 0,hr=>injection hr with hr;rw [<-hr] at hk;rw [show k=a from hk];exact ha
  | 1,hr=>injection hr with hr;rw [<-hr] at hk;rw [show k=b from hk];exact hb
  | 2,hr=>injection hr with hr;rw [<-hr] at hk;rw [show k=c from hk];exact hc
theorem start_10 (g lb n j sg:Nat) (r:Rd) (l:List (Option Nat)) (x:Rv) (dv:Value) (ix cu:Int) (am:Option Addr) (n1 c1:Nat) (ms:List Mk) (id':Int) (w:World) (h:Blk w g 111 r.cells) (hs:r.sl=.slice (some ⟨lb,0,none⟩) n n) (hl:Blk w lb 140 (pinsA l)) (hop:r.op=⟨10,(j:Int),0,0,id',0,⟨#[]⟩⟩) (hj:j < n) (hlj:l[j]?=some (some sg))
  (hsg:Blk w sg 144 #[.int .i64 x.num,.int .u64 x.at',.int .i64 x.h,.int .i64 x.b,.int .i64 x.r,.int .i64 x.l,.slice am n1 c1,dv,.int .i64 ix,.int .i64 cu]) (hin:InMk w am n1 ms) (hn1:n1<=1000) (hex:∃(k:Nat) (x:Mk),ms[k]?=some x/\x.id=id') (hid0:id'≠0) :
  Calls Tryz.prog 38 #[.pointer (some ⟨g,0,none⟩)] w (fun e w'=>∃mk,(mk ∈ ms/\mk.id=id')/\∃rb xb,RdSet g { r with ph:=1,dv:=locV rb xb } w (.tuple #[]) e w'/\Blk w' rb 45 #[.pointer (some ⟨g,0,none⟩)]/\Blk w' xb 41 (RsV.arr { RsV.zero with at':=mk.at',g:=mk.g })/\w.heap.size<=rb/\rb < xb):=by
 have H:=hid h
 have HL:=hid hl
 have HS:=hid hs
 have HJ:=hid hlj
 have HSG:=hid hsg
 have HIN:=hid hin
 have HEX:=hid hex
 have HSGL:=hid hsg.lt
 have hc:=h.cell
 have lg:=h.lt
 obtain ⟨d1,d2⟩:=dc_ltT (a:=j) (b:=n) (by omega)
 have HF:=hid (fm10 g lb n r (j:Int) id' HS.out (by omega) (by omega) hid0)
 have o3:w.cell? ⟨g,3,none⟩=some (.int .u8 10):=(hc 3).trans (by simp [Rd.cells,hop])
 have o4:w.cell? ⟨g,4,none⟩=some (.int .i64 (j:Int)):=(hc 4).trans (by simp [Rd.cells,hop])
 have o5:w.cell? ⟨g,5,none⟩=some (.int .i64 0):=(hc 5).trans (by simp [Rd.cells,hop])
 have o6:w.cell? ⟨g,6,none⟩=some (.int .i64 0):=(hc 6).trans (by simp [Rd.cells,hop])
 have o7:w.cell? ⟨g,7,none⟩=some (.int .u32 id'):=(hc 7).trans (by simp [Rd.cells,hop])
 have o8:w.cell? ⟨g,8,none⟩=some (.int .u8 0):=(hc 8).trans (by simp [Rd.cells,hop])
 have o9:w.cell? ⟨g,9,none⟩=some (.string ⟨#[]⟩):=(hc 9).trans (by simp [Rd.cells,hop])
 clear h hc hop hl hs hlj hsg hin hex
 go_enter Tryz.func38,Tryz.ntmps38
 go_wp2_with fail
 refine calls_world fun W1 hW1=>?_
 have C1:=hid (show Ch (fun _=>False) w W1 from by rw [hW1];exact ((Ch.refl _ w).alloc _).alloc _)
 have R1:=hid (show Blk W1 w.heap.size 45 #[.pointer (some ⟨g,0,none⟩)] from by rw [hW1];exact (Blk.new w _ _).alloc _)
 obtain ⟨ob,hob⟩:∃x,x=w.heap.size+1:=⟨_,rfl⟩
 have T1:=hid (show Blk W1 ob 26 #[.int .u8 10,.int .i64 (j:Int),.int .i64 0,.int .i64 0,.int .u32 id',.int .u8 0,.string ⟨#[]⟩] from by rw [hW1,hob];have t:=Blk.new (w.alloc (.cells #[.pointer (some ⟨g,0,none⟩)] 45)) 26 #[.int .u8 10,.int .i64 (j:Int),.int .i64 0,.int .i64 0,.int .u32 id',.int .u8 0,.string ⟨#[]⟩];simpa using t)
 have lob:=hid (show w.heap.size < ob from by omega)
 rw [<-hob]
 clear hW1 hob o3 o4 o5 o6 o7 o8 o9
 have hck:Calls Tryz.prog 61 #[.pointer (some ⟨g,0,none⟩),OpV.v ⟨10,(j:Int),0,0,id',0,⟨#[]⟩⟩] W1 (fun e w'=>e=.returned (.int .i64 0)/\Ch (fun _=>False) W1 w'):=(check_10 g lb n j sg r l x am n1 c1 ms dv id' ix cu W1 (C1.out.blk H.out id) HS.out (C1.out.blk HL.out id) hj HJ.out (C1.out.blk HSG.out id) (HIN.out.keep C1.out (fun _ _ _ _ h=>h)) hn1 HF.out).mono fun e w' ⟨h,c⟩=>⟨by rcases h with ⟨_,hno⟩ | ⟨h,_⟩;(obtain ⟨k,x,h1,h2⟩:=HEX.out;exact absurd h2 (hno x (List.mem_of_getElem? h1)));exact h,c⟩
 refine hck.mono ?_
 clear hck
 rintro e w2 ⟨rfl,hc⟩
 have C2:=hid (C1.out.trans hc (fun _ _ h=>h))
 have R2:=hid (hc.blk R1.out id)
 have T2:=hid (hc.blk T1.out id)
 have r0:w2.cell? ⟨w.heap.size,0,none⟩=some (.pointer (some ⟨g,0,none⟩)):=R2.out.cell 0
 have t0:w2.cell? ⟨ob,0,none⟩=some (.int .u8 10):=T2.out.cell 0
 clear hc
 go_wp2_with fail
 obtain ⟨S,hS⟩:∃S:Nat->Prop,∀k,S k↔k < w2.heap.size:=⟨_,fun _=>Iff.rfl⟩
 have hSp1:Mix.Has S w.heap.size:=(hS _).2 R2.out.lt
 have hSp2:Mix.Has S ob:=(hS _).2 T2.out.lt
 have hSp3:Mix.Has S g:=(hS _).2 (C2.out.blk H.out id).lt
 have hSp4:Mix.Has S lb:=(hS _).2 (C2.out.blk HL.out id).lt
 have HSS:=hid hS
 clear hS
 have t1:w2.cell? ⟨ob,1,none⟩=some (.int .i64 (j:Int)):=T2.out.cell 1
 have a2:w2.cell? ⟨g,2,none⟩=some (.slice (some ⟨lb,0,none⟩) n n):=((C2.out.blk H.out (fun e=>e)).cell 2).trans (by rw [<-HS.out];rfl)
 have lj:w2.cell? ⟨lb,j,none⟩=some (.pointer (some ⟨sg,0,none⟩)):=((C2.out.blk HL.out (fun e=>e)).cell j).trans (pinsA_at (o:=some sg) HJ.out)
 refine Mix.rg S [4,1,1,4,1,4,1,4,3,2] [0,1,2,3,4,5,6,7,8,9] ?_
 repeat ((first | refine Mix.zq ?_ | refine Mix.zp ?_ | refine Mix.zs ?_);go_big_quiet_step (fail);refine wpQuiet_nil ?_)
 refine Mix.za fun W3 hW3=>?_
 obtain ⟨k3,rfl⟩:=hW3
 go_wp2_with fail
 refine ⟨fun k hk=>Below.heap_alloc _ _ k ((HSS.out k).1 hk),Mix.mix_world fun W4 hW4=>?_⟩
 have C4:=hid (show Ch (fun _=>False) w W4 from by rw [hW4];first | exact (C2.out.drewN k3).alloc _ | exact C2.out.trans (Ch.push rfl rfl rfl rfl) (fun _ _ h=>h))
 have R4:=hid (show Blk W4 w.heap.size 45 #[.pointer (some ⟨g,0,none⟩)] from by rw [hW4];exact (R2.out.drewN k3).alloc _)
 have T4:=hid (show Blk W4 ob 26 #[.int .u8 10,.int .i64 (j:Int),.int .i64 0,.int .i64 0,.int .u32 id',.int .u8 0,.string ⟨#[]⟩] from by rw [hW4];exact (T2.out.drewN k3).alloc _)
 obtain ⟨zb,hzb⟩:∃z,z=w2.heap.size:=⟨_,rfl⟩
 have Z4:=hid (show Blk W4 zb 140 #[.pointer none] from by rw [hW4,hzb];first | exact Blk.new (w2.drewN k3) _ _ | exact Blk.push rfl)
 have nz1:=hid (show w.heap.size≠zb from by have:=R2.out.lt;omega)
 have nz2:=hid (show ob≠zb from by have:=T2.out.lt;omega)
 have nz3:=hid (show w.heap.size<=zb from by have:=R2.out.lt;omega)
 rw [<-hzb]
 clear hW4 hzb r0 t0 t1 a2 lj
 have z0:W4.cell? ⟨zb,0,none⟩=some (.pointer none):=Z4.out.cell 0
 have z1:=Z4.out.free 0
 repeat ((first | refine Mix.zq ?_ | refine Mix.zp ?_ | refine Mix.zs ?_);go_big_quiet_step (fail);refine wpQuiet_nil ?_)
 refine Mix.ze fun W5 hW5=>?_
 obtain ⟨k5,rfl⟩:=hW5
 go_wp2_with fail
 intro k6
 refine at_world fun W7 hW7=>?_
 have C7:=hid (show Ch (fun _=>False) w W7 from by rw [hW7];exact ((C4.out.drewN k5).set (fun h=>absurd h (by have:=nz3.out;omega)) _).drewN k6)
 have R7:=hid (show Blk W7 w.heap.size 45 #[.pointer (some ⟨g,0,none⟩)] from by rw [hW7];exact ((R4.out.drewN k5).far nz1.out _).drewN k6)
 have T7:=hid (show Blk W7 ob 26 #[.int .u8 10,.int .i64 (j:Int),.int .i64 0,.int .i64 0,.int .u32 id',.int .u8 0,.string ⟨#[]⟩] from by rw [hW7];exact ((T4.out.drewN k5).far nz2.out _).drewN k6)
 have Z7:=hid (show Blk W7 zb 140 #[.pointer (some ⟨sg,0,none⟩)] from by rw [hW7];exact ((Z4.out.drewN k5).put 0 _).drewN k6)
 clear hW7 z0 z1
 have G7:=hid (C7.out.blk H.out id)
 have SG7:=hid (C7.out.blk HSG.out id)
 have r0:W7.cell? ⟨w.heap.size,0,none⟩=some (.pointer (some ⟨g,0,none⟩)):=R7.out.cell 0
 obtain ⟨t0,-,t2,t3⟩:=T7.out.c4
 have z0:W7.cell? ⟨zb,0,none⟩=some (.pointer (some ⟨sg,0,none⟩)):=Z7.out.cell 0
 obtain ⟨-,-,-,s3,s4,s5,-,-,-,s9⟩:=SG7.out.c10
 have M7:=hid (show Mem w.heap.size w ([blkR w.heap.size 45 #[.pointer (some ⟨g,0,none⟩)],blkR ob 26 #[.int .u8 10,.int .i64 (j:Int),.int .i64 0,.int .i64 0,.int .u32 id',.int .u8 0,.string ⟨#[]⟩],blkR zb 140 #[.pointer (some ⟨sg,0,none⟩)]]++([]:List Res)) W7 from
  mem3 C7.out R7.out T7.out Z7.out (Nat.le_refl _) (Nat.le_of_lt lob.out) nz3.out (by have:=lob.out;omega) nz1.out nz2.out)
 have s6:W7.cell? ⟨sg,6,none⟩=some (.slice am n1 c1):=SG7.out.cell 6
 have t4:W7.cell? ⟨ob,4,none⟩=some (.int .u32 id'):=T7.out.cell 4
 have HMF:=hid (show ∀W,Below w.heap.size w W->Calls Tryz.prog 65 #[.slice am n1 c1,.int .u32 id'] W fun e w'=>∃xx:Mk,(xx ∈ ms/\xx.id=id')/\e=.returned (.tuple #[xx.agg,.bool true])/\Ch (fun _=>False) W w' from fun W hW=>
  (mfind_any am n1 c1 ms id' W (HIN.out.keep (below_ch hW) (fun _ _ _ _ h=>h)) (by omega)).mono fun e w' ⟨h,c⟩=>by
   rcases h with ⟨_,hno⟩ | ⟨kk,xx,h,hxx,hxi⟩
   ·obtain ⟨k,x,h1,h2⟩:=HEX.out
    exact absurd h2 (hno x (List.mem_of_getElem? h1))
   ·exact ⟨xx,⟨List.mem_of_getElem? hxx,hxi⟩,h,c⟩)
 go_wp2_with fail
 clear hSp1 hSp2 hSp3 hSp4 HSS s3 s4 s5 s9 t2 t3
 obtain ⟨S,hS⟩:∃S:Nat->Prop,∀k,S k↔(k=zb\/k=ob\/k=sg):=⟨_,fun _=>Iff.rfl⟩
 have hSp1:Mix.Has S zb:=(hS _).2 (.inl rfl)
 have hSp2:Mix.Has S ob:=(hS _).2 (.inr (.inl rfl))
 have hSp3:Mix.Has S sg:=(hS _).2 (.inr (.inr rfl))
 have HSS:=hid hS
 clear hS
 refine Mix.wp_region_XJ S (fun i=>([4,1,1,1,4,1,4,2,1,1,1,3,2,0]:List Nat).getD i 0) (fun a0 a' w'=>∃yb xx,a'=(((((((((((((a0.put (some 51) (.pointer (some ⟨sg,0,none⟩))).put (some 52) (.pointer (some ⟨sg,0,none⟩))).put (some 53) (.pointer (some ⟨sg,0,none⟩))).put (some 54) (.pointer (some ⟨sg,6,none⟩))).put (some 55) (.slice am n1 c1)).put (some 56) (.pointer (some ⟨ob,4,none⟩))).put (some 57) (.int .u32 id')).put (some 58) (.tuple #[(.agg #[.int .u32 xx.id,.int .i64 xx.at',.int .u8 xx.g]),.bool true])).put (some 50) (.tuple #[(.agg #[.int .u32 xx.id,.int .i64 xx.at',.int .u8 xx.g]),.bool true])).put (some 59) (.agg #[.int .u32 xx.id,.int .i64 xx.at',.int .u8 xx.g])).put (some 60) (.bool true)).put (some 5) (.pointer (some ⟨yb,0,none⟩))).put (some 6) (.bool true))/\Mem w.heap.size w ([blkR w.heap.size 45 #[.pointer (some ⟨g,0,none⟩)],blkR ob 26 #[.int .u8 10,.int .i64 (j:Int),.int .i64 0,.int .i64 0,.int .u32 id',.int .u8 0,.string ⟨#[]⟩],blkR zb 140 #[.pointer (some ⟨sg,0,none⟩)]]++(([]:List Res)++[blkR yb 160 #[.int .u32 xx.id,.int .i64 xx.at',.int .u8 xx.g]])) w'/\(xx ∈ ms/\xx.id=id')) (by kernel_rfl) ?_ ?_
 ·refine Mix.wpX_prefix (fuel:=7) (by kernel_rfl) [0,1,2,3,4,5,6] _ _ _ (by kernel_rfl) ?_
  repeat ((first | refine Mix.zq ?_ | refine Mix.zp ?_ | refine Mix.zs ?_);go_big_quiet_step (fail);refine wpQuiet_nil ?_)
  intro m0
  refine Mix.wpX_world fun V0 hV0=>?_
  have MV0:=hid (show Mem w.heap.size w ([blkR w.heap.size 45 #[.pointer (some ⟨g,0,none⟩)],blkR ob 26 #[.int .u8 10,.int .i64 (j:Int),.int .i64 0,.int .i64 0,.int .u32 id',.int .u8 0,.string ⟨#[]⟩],blkR zb 140 #[.pointer (some ⟨sg,0,none⟩)]]++(([]:List Res))) V0 from by rw [hV0];exact M7.out.drewN m0)
  clear hV0
  refine Mix.wpX_two 7 11 (by kernel_rfl) ?_ ?_
  {
 refine Mix.ze fun E2 hE2=>?_
 obtain ⟨e2,rfl⟩:=hE2
 go_wp2_with fail
 refine (HMF.out _ (MV0.out.drewN e2).bel).mono ?_
 rintro e E2w ⟨xx,hx,rfl,hm⟩
 have hM2:=hid ((MV0.out.drewN e2).keep hm)
 have HQ:=hid hx
 simp only [Mk.agg]
 clear hm hx
 go_wp2_with fail
 intro m2
 refine Mix.wpX_world fun V2 hV2=>?_
 have MV2:=hid (show Mem w.heap.size w ([blkR w.heap.size 45 #[.pointer (some ⟨g,0,none⟩)],blkR ob 26 #[.int .u8 10,.int .i64 (j:Int),.int .i64 0,.int .i64 0,.int .u32 id',.int .u8 0,.string ⟨#[]⟩],blkR zb 140 #[.pointer (some ⟨sg,0,none⟩)]]++(([]:List Res))) V2 from by rw [hV2];exact hM2.out.drewN m2)
 clear hV2
 refine Mix.wpX_prefix (fuel:=0) (by kernel_rfl) [8,9,10,11,12,13] _ _ _ (by kernel_rfl) ?_
 repeat ((first | refine Mix.zq ?_ | refine Mix.zp ?_ | refine Mix.zs ?_);go_big_quiet_step (fail);refine wpQuiet_nil ?_)
 refine Mix.za fun Y3 hY3=>?_
 obtain ⟨y3,rfl⟩:=hY3
 go_wp2_with fail
 refine ⟨fun k hk=>Below.heap_alloc _ _ k (by rcases (HSS.out k).1 hk with e | e | e <;> rw [e];exact Blk.lt (MV2.out.each 2 (blkR zb 140 #[.pointer (some ⟨sg,0,none⟩)]) rfl);exact Blk.lt (MV2.out.each 1 (blkR ob 26 #[.int .u8 10,.int .i64 (j:Int),.int .i64 0,.int .i64 0,.int .u32 id',.int .u8 0,.string ⟨#[]⟩]) rfl);exact Nat.lt_of_lt_of_le HSGL.out MV2.out.bz),?_⟩
 refine Mix.mix_world fun V3 hV3=>?_
 obtain ⟨tb3,htb3⟩:∃z,z=V2.heap.size:=⟨_,rfl⟩
 have MV3:=hid (show Mem w.heap.size w ([blkR w.heap.size 45 #[.pointer (some ⟨g,0,none⟩)],blkR ob 26 #[.int .u8 10,.int .i64 (j:Int),.int .i64 0,.int .i64 0,.int .u32 id',.int .u8 0,.string ⟨#[]⟩],blkR zb 140 #[.pointer (some ⟨sg,0,none⟩)]]++((([]:List Res))++[blkR tb3 160 #[.int .u32 0,.int .i64 0,.int .u8 0]])) V3 from by rw [hV3,htb3];exact (MV2.out.drewN y3).snoc _ ((Ch.refl (fun _=>False) (V2.drewN y3)).alloc _) (Blk.new (V2.drewN y3) _ _) (fun k hk=>by rw [show k=_ from hk];exact Nat.le_refl _))
 rw [<-htb3]
 clear hV3 htb3
 obtain ⟨rc0,rc1,rc2⟩:=MV3.out.lastBlk.c3
 obtain ⟨rcf0,rcf1,rcf2⟩:=MV3.out.lastBlk.f3
 repeat ((first | refine Mix.zq ?_ | refine Mix.zp ?_ | refine Mix.zs ?_);go_big_quiet_step (fail);refine wpQuiet_nil ?_)
 refine Mix.ze fun O3 hO3=>?_
 obtain ⟨o3,rfl⟩:=hO3
 go_wp2_with fail
 repeat ((first | refine Mix.zq ?_ | refine Mix.zp ?_ | refine Mix.zs ?_);go_big_quiet_step (fail);refine wpQuiet_nil ?_)
 intro m3
 refine Mix.wpX_done (by kernel_rfl) ?_
 intro u3
 have hMEM:=((((((MV3.out.drewN o3).putLast 0 (.int .u32 xx.id)).putLast 1 (.int .i64 xx.at')).putLast 2 (.int .u8 xx.g)).drewN m3).drewN u3)
 rw [show ((((#[.int .u32 0,.int .i64 0,.int .u8 0]:Array Value).setIfInBounds 0 (.int .u32 xx.id)).setIfInBounds 1 (.int .i64 xx.at')).setIfInBounds 2 (.int .u8 xx.g))=(#[.int .u32 xx.id,.int .i64 xx.at',.int .u8 xx.g]:Array Value) from by kernel_rfl] at hMEM
 exact ⟨tb3,xx,by simp only [Act.put,List.setIfInBounds_toArray,List.set_cons_succ,List.set_cons_zero],hMEM,HQ.out⟩
 }
  {
 refine Mix.za fun Y3 hY3=>?_
 obtain ⟨y3,rfl⟩:=hY3
 go_wp2_with fail
 refine ⟨fun k hk=>Below.heap_alloc _ _ k (by rcases (HSS.out k).1 hk with e | e | e <;> rw [e];exact Blk.lt (MV0.out.each 2 (blkR zb 140 #[.pointer (some ⟨sg,0,none⟩)]) rfl);exact Blk.lt (MV0.out.each 1 (blkR ob 26 #[.int .u8 10,.int .i64 (j:Int),.int .i64 0,.int .i64 0,.int .u32 id',.int .u8 0,.string ⟨#[]⟩]) rfl);exact Nat.lt_of_lt_of_le HSGL.out MV0.out.bz),?_⟩
 refine Mix.mix_world fun V3 hV3=>?_
 obtain ⟨tb3,htb3⟩:∃z,z=V0.heap.size:=⟨_,rfl⟩
 have MV3:=hid (show Mem w.heap.size w ([blkR w.heap.size 45 #[.pointer (some ⟨g,0,none⟩)],blkR ob 26 #[.int .u8 10,.int .i64 (j:Int),.int .i64 0,.int .i64 0,.int .u32 id',.int .u8 0,.string ⟨#[]⟩],blkR zb 140 #[.pointer (some ⟨sg,0,none⟩)]]++((([]:List Res))++[blkR tb3 160 #[.int .u32 0,.int .i64 0,.int .u8 0]])) V3 from by rw [hV3,htb3];exact (MV0.out.drewN y3).snoc _ ((Ch.refl (fun _=>False) (V0.drewN y3)).alloc _) (Blk.new (V0.drewN y3) _ _) (fun k hk=>by rw [show k=_ from hk];exact Nat.le_refl _))
 rw [<-htb3]
 clear hV3 htb3
 intro m4
 refine Mix.wpX_world fun V4 hV4=>?_
 have MV4:=hid (show Mem w.heap.size w ([blkR w.heap.size 45 #[.pointer (some ⟨g,0,none⟩)],blkR ob 26 #[.int .u8 10,.int .i64 (j:Int),.int .i64 0,.int .i64 0,.int .u32 id',.int .u8 0,.string ⟨#[]⟩],blkR zb 140 #[.pointer (some ⟨sg,0,none⟩)]]++((([]:List Res))++[blkR tb3 160 #[.int .u32 0,.int .i64 0,.int .u8 0]])) V4 from by rw [hV4];exact MV3.out.drewN m4)
 clear hV4
 refine Mix.wpX_prefix (fuel:=0) (by kernel_rfl) [7,8,9,10,12,13] _ _ _ (by kernel_rfl) ?_
 refine Mix.ze fun E5 hE5=>?_
 obtain ⟨e5,rfl⟩:=hE5
 go_wp2_with fail
 refine (HMF.out _ (MV4.out.drewN e5).bel).mono ?_
 rintro e E5w ⟨xx,hx,rfl,hm⟩
 have hM5:=hid ((MV4.out.drewN e5).keep hm)
 have HQ:=hid hx
 simp only [Mk.agg]
 clear hm hx
 go_wp2_with fail
 refine Mix.mix_world fun V5 hV5=>?_
 have MV5:=hid (show Mem w.heap.size w ([blkR w.heap.size 45 #[.pointer (some ⟨g,0,none⟩)],blkR ob 26 #[.int .u8 10,.int .i64 (j:Int),.int .i64 0,.int .i64 0,.int .u32 id',.int .u8 0,.string ⟨#[]⟩],blkR zb 140 #[.pointer (some ⟨sg,0,none⟩)]]++((([]:List Res))++[blkR tb3 160 #[.int .u32 0,.int .i64 0,.int .u8 0]])) V5 from by rw [hV5];exact hM5.out)
 clear hV5
 obtain ⟨rc0,rc1,rc2⟩:=MV5.out.lastBlk.c3
 obtain ⟨rcf0,rcf1,rcf2⟩:=MV5.out.lastBlk.f3
 repeat ((first | refine Mix.zq ?_ | refine Mix.zp ?_ | refine Mix.zs ?_);go_big_quiet_step (fail);refine wpQuiet_nil ?_)
 refine Mix.ze fun O5 hO5=>?_
 obtain ⟨o5,rfl⟩:=hO5
 go_wp2_with fail
 repeat ((first | refine Mix.zq ?_ | refine Mix.zp ?_ | refine Mix.zs ?_);go_big_quiet_step (fail);refine wpQuiet_nil ?_)
 intro m5
 refine Mix.wpX_done (by kernel_rfl) ?_
 intro u5
 have hMEM:=((((((MV5.out.drewN o5).putLast 0 (.int .u32 xx.id)).putLast 1 (.int .i64 xx.at')).putLast 2 (.int .u8 xx.g)).drewN m5).drewN u5)
 rw [show ((((#[.int .u32 0,.int .i64 0,.int .u8 0]:Array Value).setIfInBounds 0 (.int .u32 xx.id)).setIfInBounds 1 (.int .i64 xx.at')).setIfInBounds 2 (.int .u8 xx.g))=(#[.int .u32 xx.id,.int .i64 xx.at',.int .u8 xx.g]:Array Value) from by kernel_rfl] at hMEM
 exact ⟨tb3,xx,by simp only [Act.put,List.setIfInBounds_toArray,List.set_cons_succ,List.set_cons_zero],hMEM,HQ.out⟩
 }
 ·clear hSp1 hSp2 hSp3 HSS s6 t4 r0 t0 z0
  rintro a' w8 ⟨yb,xx,rfl,hM,hx⟩
  simp only [Act.put,List.setIfInBounds_toArray,List.set_cons_succ,List.set_cons_zero]
  have HX:=hid hx
  have C8:=hid (below_ch hM.bel)
  have Y8:=hid (show Blk w8 yb 160 #[.int .u32 xx.id,.int .i64 xx.at',.int .u8 xx.g] from hM.each 3 _ rfl)
  have R8:=hid (show Blk w8 w.heap.size 45 #[.pointer (some ⟨g,0,none⟩)] from hM.each 0 _ rfl)
  have r0:w8.cell? ⟨w.heap.size,0,none⟩=some (.pointer (some ⟨g,0,none⟩)):=R8.out.cell 0
  obtain ⟨-,y1,y2⟩:=Y8.out.c3
  have G8:=hid (C8.out.blk H.out id)
  clear hM hx
  go_wp2_with fail
  refine (rlocal_any g r { RsV.zero with at':=xx.at',g:=xx.g } w8 G8.out).mono ?_
  rintro e w3 ⟨rb,xb,⟨rfl,hb,hc⟩,h1,h2,h3,h4⟩
  go_wp2_with fail
  first | go_end0 | (try simp only [Exit.inBlock,Exit.then]);refine bodyPost_ret (results_none rfl _ _ _) rfl ?_
  exact ⟨xx,HX.out,rb,xb,⟨rfl,hb,(C8.out.mono (fun _ _ e=>e.elim)).trans hc (fun _ _ h=>h)⟩,h1,h2,Nat.le_trans C8.out.size h3,h4⟩
end Go.Proofs.YtjcdknhejcbpiaaGreat
