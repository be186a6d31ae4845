/- Lemmas; no condition. -/
import Derived.Test.YtjcdknhejcbpiaaGreatSb38
set_option maxRecDepth 100000
set_option maxHeartbeats 8000000
namespace Go.Proofs.YtjcdknhejcbpiaaGreat
open Go.RowKit
set_option linter.unusedVariables false
set_option linter.unusedSimpArgs false
set_option linter.unusedSectionVars false
theorem find_first {l:List Mk} {k:Nat} {i:Int} {y:Mk} (h:l[k]?=some y) (hi:y.id=i) (ha:∀(q:Nat) (z:Mk),q < k->l[q]?=some z->z.id≠i):l.find? (fun m=>m.id == i)=some y:=by
 induction l generalizing k with
 | nil=>simp at h
 | cons a l ih=>
  cases k with
  | zero=>
   simp at h
   subst h
   rw [List.find?_cons_of_pos (by simpa using hi)]
  | succ k=>
   rw [List.find?_cons_of_neg (by simpa using ha 0 a (Nat.succ_pos _) rfl)]
   exact ih h (fun q z hq hz=>ha (q+1) z (Nat.succ_lt_succ hq) hz)
theorem put13 {w:World} {g:Nat} {t:TypeId} {a0 a1 a2 a3 a4 a5 a6 a7 a8 a9 a10 a11 a12:Value} (h:Blk w g t #[a0,a1,a2,a3,a4,a5,a6,a7,a8,a9,a10,a11,a12]) (v0 v1 v2 v3 v4 v5 v6 v7 v8 v9 v10 v11 v12:Value) :
  Blk (((((((((((((w.setCell ⟨g,0,none⟩ v0).setCell ⟨g,1,none⟩ v1).setCell ⟨g,2,none⟩ v2).setCell ⟨g,3,none⟩ v3).setCell ⟨g,4,none⟩ v4).setCell ⟨g,5,none⟩ v5).setCell ⟨g,6,none⟩ v6).setCell ⟨g,7,none⟩ v7).setCell ⟨g,8,none⟩ v8).setCell ⟨g,9,none⟩ v9).setCell ⟨g,10,none⟩ v10).setCell ⟨g,11,none⟩ v11).setCell ⟨g,12,none⟩ v12) g t #[v0,v1,v2,v3,v4,v5,v6,v7,v8,v9,v10,v11,v12]/\Ch (fun k=>k=g) w (((((((((((((w.setCell ⟨g,0,none⟩ v0).setCell ⟨g,1,none⟩ v1).setCell ⟨g,2,none⟩ v2).setCell ⟨g,3,none⟩ v3).setCell ⟨g,4,none⟩ v4).setCell ⟨g,5,none⟩ v5).setCell ⟨g,6,none⟩ v6).setCell ⟨g,7,none⟩ v7).setCell ⟨g,8,none⟩ v8).setCell ⟨g,9,none⟩ v9).setCell ⟨g,10,none⟩ v10).setCell ⟨g,11,none⟩ v11).setCell ⟨g,12,none⟩ v12):=by
 have t:=(((((((((((((h.put 0 v0).put 1 v1).put 2 v2).put 3 v3).put 4 v4).put 5 v5).put 6 v6).put 7 v7).put 8 v8).put 9 v9).put 10 v10).put 11 v11).put 12 v12)
 have e:((((((((((((((#[a0,a1,a2,a3,a4,a5,a6,a7,a8,a9,a10,a11,a12]:Array Value).setIfInBounds 0 v0).setIfInBounds 1 v1).setIfInBounds 2 v2).setIfInBounds 3 v3).setIfInBounds 4 v4).setIfInBounds 5 v5).setIfInBounds 6 v6).setIfInBounds 7 v7).setIfInBounds 8 v8).setIfInBounds 9 v9).setIfInBounds 10 v10).setIfInBounds 11 v11).setIfInBounds 12 v12)=#[v0,v1,v2,v3,v4,v5,v6,v7,v8,v9,v10,v11,v12]:=by simp only [List.setIfInBounds_toArray,List.set_cons_zero,List.set_cons_succ]
 rw [e] at t
 exact ⟨t,((((((((((((((Ch.refl (fun k=>k=g) w).set (fun _=>rfl) v0).set (fun _=>rfl) v1).set (fun _=>rfl) v2).set (fun _=>rfl) v3).set (fun _=>rfl) v4).set (fun _=>rfl) v5).set (fun _=>rfl) v6).set (fun _=>rfl) v7).set (fun _=>rfl) v8).set (fun _=>rfl) v9).set (fun _=>rfl) v10).set (fun _=>rfl) v11).set (fun _=>rfl) v12)⟩
section
variable {p:PlS} {sb g n:Nat} {w:World}
theorem want_held (PB:Blk w p.g 51 (p.cells sb g n)) (HB:Blk w p.hb 49 (hdCells p.hs).toArray) (hl:p.hs.length=n) (hn:n<=4) {c:Cop} (hc:c≠.acq) (hs:c.small n) {x:HdV} (hx:p.hs[c.slot]?=some x) (hz:x.is=true->x.s.size<=120/\0<=x.cu/\x.cu<=(x.s.size:Int)) {am:Option Addr} {m1 c1:Nat} (hmv:x.mv=.slice am m1 c1) (hin:InMk w am m1 x.ms) (hm1:m1<=4) {r:RsV} (hr:r=if x.is=true then wantH x c else { RsV.zero with er:=16 }) :
  Calls Tryz.prog 33 #[.pointer (some ⟨p.g,0,none⟩),c.op.v] w fun e w'=>e=.returned r.v/\Ch (fun _=>False) w w':=by
 have HR:=hid hr
 have HP:=hid PB
 have HH:=hid HB
 have HL:=hid hl
 have HZ:=hid hz
 have HIN:=hid hin
 have HSM:=hid hs
 have hk5:(c.op.k == 5)=false:=by cases c <;> first | rfl | exact absurd rfl hc
 have hsl:c.op.sl=((c.slot:Nat):Int):=by cases c <;> first | rfl | exact absurd rfl hc
 have hslt:c.slot < n:=by
  cases c with
  | acq=>exact absurd rfl hc
  | len k=>exact hs
  | read k a b=>exact hs.1
  | rune k b=>exact hs.1
  | line k b=>exact hs.1
  | mark k i=>exact hs.1
  | seek k a=>exact hs.1
  | next k b=>exact hs.1
  | rel k=>exact hs
 obtain ⟨ks,hks⟩:∃z,z=c.slot:=⟨_,rfl⟩
 rw [<-hks] at hx hslt hsl
 have HX:=hid hx
 obtain ⟨d1,d1'⟩:=dc_ltT (a:=ks) (b:=n) (by omega)
 have HNC:=hid hc
 have q2:w.cell? ⟨p.g,2,none⟩=some (.slice (some ⟨p.hb,0,none⟩) n n):=HP.out.cell 2
 have lp:=HP.out.lt
 have lh:=HH.out.lt
 clear hr PB HB hl hz hin hs hc hx hks
 simp only [OpV.v]
 rw [hsl]
 clear hsl
 go_enter Tryz.func33,Tryz.ntmps33
 go_upto_region 10 with fail
 refine at_world fun W1 hW1=>?_
 have C1:=hid (show Ch (fun _=>False) w W1 from by rw [hW1];exact ((Ch.refl _ w).alloc _).alloc _)
 obtain ⟨ob,hob⟩:∃z,z=w.heap.size:=⟨_,rfl⟩
 obtain ⟨rb,hrb⟩:∃z,z=w.heap.size+1:=⟨_,rfl⟩
 have O1:=hid (show Blk W1 ob 26 #[.int .u8 c.op.k,.int .i64 (ks:Int),.int .i64 c.op.at',.int .i64 c.op.n,.int .u32 c.op.id,.int .u8 c.op.g,.string c.op.s] from by rw [hW1,hob];exact (Blk.new w _ _).alloc _)
 have R1:=hid (show Blk W1 rb 41 #[.int .i64 0,.int .i64 0,.int .i64 0,.int .i64 0,.int .u8 0,.string ⟨#[]⟩,.int .i64 0,.int .i64 0,.int .i64 0,.int .u8 0,.int .i64 0,.int .i64 0,.slice none 0 0] from by
  rw [hW1,hrb]
  have t:=Blk.new (w.alloc (.cells #[.int .u8 c.op.k,.int .i64 (ks:Int),.int .i64 c.op.at',.int .i64 c.op.n,.int .u32 c.op.id,.int .u8 c.op.g,.string c.op.s] 26)) 41 #[.int .i64 0,.int .i64 0,.int .i64 0,.int .i64 0,.int .u8 0,.string ⟨#[]⟩,.int .i64 0,.int .i64 0,.int .i64 0,.int .u8 0,.int .i64 0,.int .i64 0,.slice none 0 0]
  simpa using t)
 have NR:=hid (show w.heap.size<=rb/\ob < rb from by omega)
 have H1:=hid (C1.out.blk HH.out id)
 have P1:=hid (C1.out.blk HP.out id)
 try rw [<-hrb]
 try rw [<-hob]
 clear hW1 hob hrb q2 lp lh
 have q2:W1.cell? ⟨p.g,2,none⟩=some (.slice (some ⟨p.hb,0,none⟩) n n):=P1.out.cell 2
 have o1:W1.cell? ⟨ob,1,none⟩=some (.int .i64 (ks:Int)):=O1.out.cell 1
 have i0:W1.cell? ⟨p.hb,ks * 5,none⟩=some (.bool x.is):=hd_cell H1.out HX.out 0 _ rfl
 have i1:W1.cell? ⟨p.hb,ks * 5+1,none⟩=some (.string x.s):=hd_cell H1.out HX.out 1 _ rfl
 have i2:W1.cell? ⟨p.hb,ks * 5+2,none⟩=some (.slice am m1 c1):=hd_cell H1.out HX.out 2 _ (by rw [<-hmv];rfl)
 have i3:W1.cell? ⟨p.hb,ks * 5+3,none⟩=some (.int .i64 x.h):=hd_cell H1.out HX.out 3 _ rfl
 have i4:W1.cell? ⟨p.hb,ks * 5+4,none⟩=some (.int .i64 x.cu):=hd_cell H1.out HX.out 4 _ rfl
 have HMV:=hid hmv
 clear hmv
 obtain ⟨S,hS⟩:∃S:Nat->Prop,∀k,S k↔k < W1.heap.size:=⟨_,fun _=>Iff.rfl⟩
 have hSp1:Mix.Has S p.g:=(hS _).2 P1.out.lt
 have hSp2:Mix.Has S p.hb:=(hS _).2 H1.out.lt
 have hSp3:Mix.Has S ob:=(hS _).2 O1.out.lt
 have HSS:=hid hS
 clear hS
 refine Mix.rg S [1,1,1,4,1,4,1,4,3,2] [0,1,2,3,4,5,6,7,8,9] ?_
 repeat ((first | refine Mix.zq ?_ | refine Mix.zp ?_ | refine Mix.zs ?_);go_big_quiet_step (fail);refine wpQuiet_nil ?_)
 refine Mix.za fun V1 hV1=>?_
 obtain ⟨k1,rfl⟩:=hV1
 go_wp2_with fail
 refine ⟨fun k hk=>Below.heap_alloc _ _ k ((HSS.out k).1 hk),?_⟩
 refine Mix.mix_world fun V2 hV2=>?_
 obtain ⟨tb,htb⟩:∃z,z=W1.heap.size:=⟨_,rfl⟩
 have C2:=hid (show Ch (fun _=>False) W1 V2 from by rw [hV2];exact ((Ch.refl _ W1).drewN k1).alloc _)
 have B2:=hid (show Blk V2 tb 49 #[.bool false,.string ⟨#[]⟩,.slice none 0 0,.int .i64 0,.int .i64 0] from by rw [hV2,htb];exact Blk.new (W1.drewN k1) _ _)
 have NT:=hid (show ob < tb/\rb < tb/\w.heap.size<=tb/\W1.heap.size<=tb from by rw [htb];exact ⟨O1.out.lt,R1.out.lt,C1.out.size,Nat.le_refl _⟩)
 try rw [show (W1.drewN k1).heap.size=W1.heap.size from rfl]
 rw [<-htb]
 clear hV2 htb q2 o1 i0 i1 i2 i3 i4
 obtain ⟨b0,b1,b2,b3,b4⟩:=B2.out.c5
 obtain ⟨f0,f1,f2,f3,f4⟩:=B2.out.f5
 repeat ((first | refine Mix.zq ?_ | refine Mix.zp ?_ | refine Mix.zs ?_);go_big_quiet_step (fail);refine wpQuiet_nil ?_)
 refine Mix.ze fun V3 hV3=>?_
 obtain ⟨k3,rfl⟩:=hV3
 go_wp2_with fail
 intro k4
 refine at_world fun W5 hW5=>?_
 have CT:=hid (show Ch (fun k=>k=tb) V2 W5 from by rw [hW5];exact (((((((Ch.refl (fun k=>k=tb) V2).drewN k3).set (fun _=>rfl) _).set (fun _=>rfl) _).set (fun _=>rfl) _).set (fun _=>rfl) _).set (fun _=>rfl) _).drewN k4)
 have T5:=hid (show Blk W5 tb 49 #[.bool x.is,.string x.s,.slice am m1 c1,.int .i64 x.h,.int .i64 x.cu] from by rw [hW5];exact ((((((B2.out.drewN k3).put 0 _).put 1 _).put 2 _).put 3 _).put 4 _).drewN k4)
 clear hW5 b0 b1 b2 b3 b4 f0 f1 f2 f3 f4
 have C5:=hid (show Ch (fun _=>False) w W5 from C1.out.trans (C2.out.trans CT.out (fun k hk e=>by have:=NT.out;omega)) (fun _ _ h=>h))
 have O5:=hid (CT.out.blk (C2.out.blk O1.out id) (fun e=>by have:=NT.out;omega))
 have R5:=hid (CT.out.blk (C2.out.blk R1.out id) (fun e=>by have:=NT.out;omega))
 obtain ⟨t0,t1,t2⟩:=T5.out.c3
 have t4:W5.cell? ⟨tb,4,none⟩=some (.int .i64 x.cu):=T5.out.cell 4
 have nrt:rb≠tb:=by have:=NT.out;omega
 have nrt2:tb≠rb:=Ne.symm nrt
 have nro:rb≠ob:=by have:=NR.out;omega
 have nro2:ob≠rb:=Ne.symm nro
 cases hxi:x.is with
 | false=>
  rw [hxi] at t0
  have hrr:r={ RsV.zero with er:=16 }:=by rw [HR.out,if_neg (by rw [hxi];decide)]
  subst hrr
  clear HR hxi
  obtain ⟨r0,r1,r2,r3,r4,r5,r6,r7,r8,r9,r10,r11,r12⟩:=R5.out.c13
  obtain ⟨s0',s1',s2',s3',s4',s5',s6',s7',s8',s9',s10',s11',s12'⟩:=R5.out.f13
  go_wp2_with fail
  refine at_world fun WZ hWZ=>?_
  have PZ:=hid (show Blk WZ rb 41 #[.int .i64 16,.int .i64 0,.int .i64 0,.int .i64 0,.int .u8 0,.string ⟨#[]⟩,.int .i64 0,.int .i64 0,.int .i64 0,.int .u8 0,.int .i64 0,.int .i64 0,.slice none 0 0]/\Ch (fun k=>k=rb) W5 WZ from by rw [hWZ];exact put13 R5.out _ _ _ _ _ _ _ _ _ _ _ _ _)
  clear hWZ r0 s0' r1 s1' r2 s2' r3 s3' r4 s4' r5 s5' r6 s6' r7 s7' r8 s8' r9 s9' r10 s10' r11 s11' r12 s12'
  obtain ⟨z0,z1,z2,z3,z4,z5,z6,z7,z8,z9,z10,z11,z12⟩:=PZ.out.1.c13
  have hck:Ch (fun _=>False) w WZ:=C5.out.trans PZ.out.2 (fun i hi e=>absurd hi (by have:=NR.out;omega))
  refine bodyPost_ret (v:=.agg #[.int .i64 16,.int .i64 0,.int .i64 0,.int .i64 0,.int .u8 0,.string ⟨#[]⟩,.int .i64 0,.int .i64 0,.int .i64 0,.int .u8 0,.int .i64 0,.int .i64 0,.slice none 0 0]) (by simp [results,Tryz.results33,go_sem,z0,z1,z2,z3,z4,z5,z6,z7,z8,z9,z10,z11,z12]) rfl ⟨rfl,hck⟩
 | true=>
  rw [hxi] at t0
  have HR2:=hid (show r=wantH x c from by rw [HR.out,if_pos hxi])
  clear HR
  have HR:=HR2
  obtain ⟨hz1,hz2,hz3⟩:=HZ.out hxi
  clear HR2 hxi hSp1 hSp2 hSp3 HSS
  obtain ⟨o0,-,o2,o3,o4⟩:=O5.out.c5
  have hz0:x.s.size<=1000000:=by omega
  cases c with
  | acq=>exact absurd rfl HNC.out
  | len k=>
   have hrr:r={ RsV.zero with b:=(x.s.size:Int),r:=(cntP begB (bs x.s):Int),l:=(cntP isLF (bs x.s):Int) }:=by
    rw [HR.out]
    rfl
   subst hrr
   clear HR
   simp only [Cop.op] at o0 o2 o3 o4 |-
   go_wp2_with fail
   refine (lcount_r x.s hz0 W5).mono ?_
   rintro e w' ⟨rfl,rfl⟩
   go_wp2_with fail
   refine (lcount_l x.s hz0 W5).mono ?_
   rintro e w' ⟨rfl,rfl⟩
   obtain ⟨r0,r1,r2,r3,r4,r5,r6,r7,r8,r9,r10,r11,r12⟩:=R5.out.c13
   obtain ⟨s0',s1',s2',s3',s4',s5',s6',s7',s8',s9',s10',s11',s12'⟩:=R5.out.f13
   go_wp2_with fail
   refine at_world fun WZ hWZ=>?_
   have PZ:=hid (show Blk WZ rb 41 #[.int .i64 0,.int .i64 0,.int .i64 0,.int .i64 0,.int .u8 0,.string ⟨#[]⟩,.int .i64 (x.s.size:Int),.int .i64 (cntP begB (bs x.s):Nat),.int .i64 (cntP (fun b=>b == 10) (bs x.s):Nat),.int .u8 0,.int .i64 0,.int .i64 0,.slice none 0 0]/\Ch (fun k=>k=rb) W5 WZ from by rw [hWZ];exact put13 R5.out _ _ _ _ _ _ _ _ _ _ _ _ _)
   clear hWZ r0 s0' r1 s1' r2 s2' r3 s3' r4 s4' r5 s5' r6 s6' r7 s7' r8 s8' r9 s9' r10 s10' r11 s11' r12 s12'
   obtain ⟨z0,z1,z2,z3,z4,z5,z6,z7,z8,z9,z10,z11,z12⟩:=PZ.out.1.c13
   have hck:Ch (fun _=>False) w WZ:=C5.out.trans PZ.out.2 (fun i hi e=>absurd hi (by have:=NR.out;omega))
   refine bodyPost_ret (v:=.agg #[.int .i64 0,.int .i64 0,.int .i64 0,.int .i64 0,.int .u8 0,.string ⟨#[]⟩,.int .i64 (x.s.size:Int),.int .i64 (cntP begB (bs x.s):Nat),.int .i64 (cntP (fun b=>b == 10) (bs x.s):Nat),.int .u8 0,.int .i64 0,.int .i64 0,.slice none 0 0]) (by simp [results,Tryz.results33,go_sem,z0,z1,z2,z3,z4,z5,z6,z7,z8,z9,z10,z11,z12]) rfl ⟨rfl,hck⟩
  | read k a b=>
   simp only [Cop.op] at o0 o2 o3 o4 |-
   obtain ⟨_,ha,hb⟩:=HSM.out
   by_cases hlt:x.s.size < a+b
   {
 have hrr:r={ RsV.zero with er:=3 }:=by
  rw [HR.out]
  simp only [wantH]
  rw [if_pos hlt]
 subst hrr
 clear HR
 by_cases h1:x.s.size < a
 ·have e1:decide (x.s.size < a)=true:=decide_eq_true h1
  have e1':decide ((x.s.size:Int) < (a:Int))=true:=decide_eq_true (by omega)
  obtain ⟨r0,r1,r2,r3,r4,r5,r6,r7,r8,r9,r10,r11,r12⟩:=R5.out.c13
  obtain ⟨s0',s1',s2',s3',s4',s5',s6',s7',s8',s9',s10',s11',s12'⟩:=R5.out.f13
  go_wp2_with fail
  refine at_world fun WZ hWZ=>?_
  have PZ:=hid (show Blk WZ rb 41 #[.int .i64 3,.int .i64 0,.int .i64 0,.int .i64 0,.int .u8 0,.string ⟨#[]⟩,.int .i64 0,.int .i64 0,.int .i64 0,.int .u8 0,.int .i64 0,.int .i64 0,.slice none 0 0]/\Ch (fun k=>k=rb) W5 WZ from by rw [hWZ];exact put13 R5.out _ _ _ _ _ _ _ _ _ _ _ _ _)
  clear hWZ r0 s0' r1 s1' r2 s2' r3 s3' r4 s4' r5 s5' r6 s6' r7 s7' r8 s8' r9 s9' r10 s10' r11 s11' r12 s12'
  obtain ⟨z0,z1,z2,z3,z4,z5,z6,z7,z8,z9,z10,z11,z12⟩:=PZ.out.1.c13
  have hck:Ch (fun _=>False) w WZ:=C5.out.trans PZ.out.2 (fun i hi e=>absurd hi (by have:=NR.out;omega))
  refine bodyPost_ret (v:=.agg #[.int .i64 3,.int .i64 0,.int .i64 0,.int .i64 0,.int .u8 0,.string ⟨#[]⟩,.int .i64 0,.int .i64 0,.int .i64 0,.int .u8 0,.int .i64 0,.int .i64 0,.slice none 0 0]) (by simp [results,Tryz.results33,go_sem,z0,z1,z2,z3,z4,z5,z6,z7,z8,z9,z10,z11,z12]) rfl ⟨rfl,hck⟩
 ·have e1:decide (x.s.size < a)=false:=decide_eq_false h1
  have e1':decide ((x.s.size:Int) < (a:Int))=false:=decide_eq_false (by omega)
  have e2:decide ((x.s.size:Int) - (a:Int) < (b:Int))=true:=decide_eq_true (by omega)
  obtain ⟨r0,r1,r2,r3,r4,r5,r6,r7,r8,r9,r10,r11,r12⟩:=R5.out.c13
  obtain ⟨s0',s1',s2',s3',s4',s5',s6',s7',s8',s9',s10',s11',s12'⟩:=R5.out.f13
  go_wp2_with fail
  refine at_world fun WZ hWZ=>?_
  have PZ:=hid (show Blk WZ rb 41 #[.int .i64 3,.int .i64 0,.int .i64 0,.int .i64 0,.int .u8 0,.string ⟨#[]⟩,.int .i64 0,.int .i64 0,.int .i64 0,.int .u8 0,.int .i64 0,.int .i64 0,.slice none 0 0]/\Ch (fun k=>k=rb) W5 WZ from by rw [hWZ];exact put13 R5.out _ _ _ _ _ _ _ _ _ _ _ _ _)
  clear hWZ r0 s0' r1 s1' r2 s2' r3 s3' r4 s4' r5 s5' r6 s6' r7 s7' r8 s8' r9 s9' r10 s10' r11 s11' r12 s12'
  obtain ⟨z0,z1,z2,z3,z4,z5,z6,z7,z8,z9,z10,z11,z12⟩:=PZ.out.1.c13
  have hck:Ch (fun _=>False) w WZ:=C5.out.trans PZ.out.2 (fun i hi e=>absurd hi (by have:=NR.out;omega))
  refine bodyPost_ret (v:=.agg #[.int .i64 3,.int .i64 0,.int .i64 0,.int .i64 0,.int .u8 0,.string ⟨#[]⟩,.int .i64 0,.int .i64 0,.int .i64 0,.int .u8 0,.int .i64 0,.int .i64 0,.slice none 0 0]) (by simp [results,Tryz.results33,go_sem,z0,z1,z2,z3,z4,z5,z6,z7,z8,z9,z10,z11,z12]) rfl ⟨rfl,hck⟩
 }
   {
 have hrr:r={ RsV.zero with s:=x.s.extract a (a+b) }:=by
  rw [HR.out]
  simp only [wantH]
  rw [if_neg hlt]
 subst hrr
 clear HR
 have e1:decide (x.s.size < a)=false:=decide_eq_false (by omega)
 have e1':decide ((x.s.size:Int) < (a:Int))=false:=decide_eq_false (by omega)
 have e2:decide ((x.s.size:Int) - (a:Int) < (b:Int))=false:=decide_eq_false (by omega)
 have e3:a+b<=x.s.size:=by omega
 have e4:a<=a+b:=Nat.le_add_right _ _
 obtain ⟨r0,r1,r2,r3,r4,r5,r6,r7,r8,r9,r10,r11,r12⟩:=R5.out.c13
 obtain ⟨s0',s1',s2',s3',s4',s5',s6',s7',s8',s9',s10',s11',s12'⟩:=R5.out.f13
 go_wp2_with fail
 refine at_world fun WZ hWZ=>?_
 have PZ:=hid (show Blk WZ rb 41 #[.int .i64 0,.int .i64 0,.int .i64 0,.int .i64 0,.int .u8 0,.string (x.s.extract a (a+b)),.int .i64 0,.int .i64 0,.int .i64 0,.int .u8 0,.int .i64 0,.int .i64 0,.slice none 0 0]/\Ch (fun k=>k=rb) W5 WZ from by rw [hWZ];exact put13 R5.out _ _ _ _ _ _ _ _ _ _ _ _ _)
 clear hWZ r0 s0' r1 s1' r2 s2' r3 s3' r4 s4' r5 s5' r6 s6' r7 s7' r8 s8' r9 s9' r10 s10' r11 s11' r12 s12'
 obtain ⟨z0,z1,z2,z3,z4,z5,z6,z7,z8,z9,z10,z11,z12⟩:=PZ.out.1.c13
 have hck:Ch (fun _=>False) w WZ:=C5.out.trans PZ.out.2 (fun i hi e=>absurd hi (by have:=NR.out;omega))
 refine bodyPost_ret (v:=.agg #[.int .i64 0,.int .i64 0,.int .i64 0,.int .i64 0,.int .u8 0,.string (x.s.extract a (a+b)),.int .i64 0,.int .i64 0,.int .i64 0,.int .u8 0,.int .i64 0,.int .i64 0,.slice none 0 0]) (by simp [results,Tryz.results33,go_sem,z0,z1,z2,z3,z4,z5,z6,z7,z8,z9,z10,z11,z12]) rfl ⟨rfl,hck⟩
 }
  | rune k b=>
   simp only [Cop.op] at o0 o2 o3 o4 |-
   obtain ⟨_,hb⟩:=HSM.out
   obtain ⟨S,hS⟩:∃S:Nat->Prop,∀k,S k↔k=ob:=⟨_,fun _=>Iff.rfl⟩
   have hSp1:Mix.Has S ob:=(hS _).2 rfl
   have HSS:=hid hS
   clear hS
   go_wp2_with fail
   refine Mix.rg S [1,4,0,3,0] [0,1,2,3,4] ?_
   repeat ((first | refine Mix.zq ?_ | refine Mix.zp ?_ | refine Mix.zs ?_);go_big_quiet_step (fail);refine wpQuiet_nil ?_)
   refine Mix.za fun V6 hV6=>?_
   obtain ⟨k6,rfl⟩:=hV6
   go_wp2_with fail
   refine (lcount_r x.s hz0 _).mono ?_
   rintro e w' ⟨rfl,rfl⟩
   go_wp2_with fail
   refine ⟨fun k hk=>rfl,?_⟩
   repeat ((first | refine Mix.zq ?_ | refine Mix.zp ?_ | refine Mix.zs ?_);go_big_quiet_step (fail);refine wpQuiet_nil ?_)
   intro k7
   refine at_world fun W6 hW6=>?_
   have CW:=hid (show Ch (fun _=>False) W5 W6 from by rw [hW6];exact ((Ch.refl _ W5).drewN k6).drewN k7)
   clear hW6 o0 o2 o3 o4 t0 t1 t2 t4 hSp1 HSS
   have C6:=hid (C5.out.trans CW.out (fun _ _ h=>h))
   have R6:=hid (CW.out.blk R5.out id)
   have O6:=hid (CW.out.blk O5.out id)
   have o3:W6.cell? ⟨ob,3,none⟩=some (.int .i64 (b:Int)):=O6.out.cell 3
   by_cases hlt:cntP begB (bs x.s) < b
   {
 have hrr:r={ RsV.zero with er:=3 }:=by
  rw [HR.out]
  simp only [wantH]
  rw [if_pos hlt]
 subst hrr
 clear HR
 have e1:decide (cntP begB (bs x.s) < b)=true:=decide_eq_true hlt
 have e1':decide (((cntP begB (bs x.s):Nat):Int) < (b:Int))=true:=decide_eq_true (by omega)
 obtain ⟨r0,r1,r2,r3,r4,r5,r6,r7,r8,r9,r10,r11,r12⟩:=R6.out.c13
 obtain ⟨s0',s1',s2',s3',s4',s5',s6',s7',s8',s9',s10',s11',s12'⟩:=R6.out.f13
 go_wp2_with fail
 refine at_world fun WZ hWZ=>?_
 have PZ:=hid (show Blk WZ rb 41 #[.int .i64 3,.int .i64 0,.int .i64 0,.int .i64 0,.int .u8 0,.string ⟨#[]⟩,.int .i64 0,.int .i64 0,.int .i64 0,.int .u8 0,.int .i64 0,.int .i64 0,.slice none 0 0]/\Ch (fun k=>k=rb) W6 WZ from by rw [hWZ];exact put13 R6.out _ _ _ _ _ _ _ _ _ _ _ _ _)
 clear hWZ r0 s0' r1 s1' r2 s2' r3 s3' r4 s4' r5 s5' r6 s6' r7 s7' r8 s8' r9 s9' r10 s10' r11 s11' r12 s12'
 obtain ⟨z0,z1,z2,z3,z4,z5,z6,z7,z8,z9,z10,z11,z12⟩:=PZ.out.1.c13
 have hck:Ch (fun _=>False) w WZ:=C6.out.trans PZ.out.2 (fun i hi e=>absurd hi (by have:=NR.out;omega))
 refine bodyPost_ret (v:=.agg #[.int .i64 3,.int .i64 0,.int .i64 0,.int .i64 0,.int .u8 0,.string ⟨#[]⟩,.int .i64 0,.int .i64 0,.int .i64 0,.int .u8 0,.int .i64 0,.int .i64 0,.slice none 0 0]) (by simp [results,Tryz.results33,go_sem,z0,z1,z2,z3,z4,z5,z6,z7,z8,z9,z10,z11,z12]) rfl ⟨rfl,hck⟩
 }
   {
 have hrr:r={ RsV.zero with at':=(nthP begB (bs x.s) b:Int) }:=by
  rw [HR.out]
  simp only [wantH]
  rw [if_neg hlt]
 subst hrr
 clear HR
 have e1:decide (cntP begB (bs x.s) < b)=false:=decide_eq_false hlt
 have e1':decide (((cntP begB (bs x.s):Nat):Int) < (b:Int))=false:=decide_eq_false (by omega)
 go_wp2_with fail
 refine (lnth_r x.s hz0 b (by omega) W6).mono ?_
 rintro e w' ⟨rfl,rfl⟩
 obtain ⟨r0,r1,r2,r3,r4,r5,r6,r7,r8,r9,r10,r11,r12⟩:=R6.out.c13
 obtain ⟨s0',s1',s2',s3',s4',s5',s6',s7',s8',s9',s10',s11',s12'⟩:=R6.out.f13
 go_wp2_with fail
 refine at_world fun WZ hWZ=>?_
 have PZ:=hid (show Blk WZ rb 41 #[.int .i64 0,.int .i64 0,.int .i64 0,.int .i64 (nthP begB (bs x.s) b:Nat),.int .u8 0,.string ⟨#[]⟩,.int .i64 0,.int .i64 0,.int .i64 0,.int .u8 0,.int .i64 0,.int .i64 0,.slice none 0 0]/\Ch (fun k=>k=rb) W6 WZ from by rw [hWZ];exact put13 R6.out _ _ _ _ _ _ _ _ _ _ _ _ _)
 clear hWZ r0 s0' r1 s1' r2 s2' r3 s3' r4 s4' r5 s5' r6 s6' r7 s7' r8 s8' r9 s9' r10 s10' r11 s11' r12 s12'
 obtain ⟨z0,z1,z2,z3,z4,z5,z6,z7,z8,z9,z10,z11,z12⟩:=PZ.out.1.c13
 have hck:Ch (fun _=>False) w WZ:=C6.out.trans PZ.out.2 (fun i hi e=>absurd hi (by have:=NR.out;omega))
 refine bodyPost_ret (v:=.agg #[.int .i64 0,.int .i64 0,.int .i64 0,.int .i64 (nthP begB (bs x.s) b:Nat),.int .u8 0,.string ⟨#[]⟩,.int .i64 0,.int .i64 0,.int .i64 0,.int .u8 0,.int .i64 0,.int .i64 0,.slice none 0 0]) (by simp [results,Tryz.results33,go_sem,z0,z1,z2,z3,z4,z5,z6,z7,z8,z9,z10,z11,z12]) rfl ⟨rfl,hck⟩
 }
  | line k b=>
   simp only [Cop.op] at o0 o2 o3 o4 |-
   obtain ⟨_,hb⟩:=HSM.out
   obtain ⟨S,hS⟩:∃S:Nat->Prop,∀k,S k↔k=ob:=⟨_,fun _=>Iff.rfl⟩
   have hSp1:Mix.Has S ob:=(hS _).2 rfl
   have HSS:=hid hS
   clear hS
   go_wp2_with fail
   refine Mix.rg S [1,4,0,3,0] [0,1,2,3,4] ?_
   repeat ((first | refine Mix.zq ?_ | refine Mix.zp ?_ | refine Mix.zs ?_);go_big_quiet_step (fail);refine wpQuiet_nil ?_)
   refine Mix.za fun V6 hV6=>?_
   obtain ⟨k6,rfl⟩:=hV6
   go_wp2_with fail
   refine (lcount_l x.s hz0 _).mono ?_
   rintro e w' ⟨rfl,rfl⟩
   go_wp2_with fail
   refine ⟨fun k hk=>rfl,?_⟩
   repeat ((first | refine Mix.zq ?_ | refine Mix.zp ?_ | refine Mix.zs ?_);go_big_quiet_step (fail);refine wpQuiet_nil ?_)
   intro k7
   refine at_world fun W6 hW6=>?_
   have CW:=hid (show Ch (fun _=>False) W5 W6 from by rw [hW6];exact ((Ch.refl _ W5).drewN k6).drewN k7)
   clear hW6 o0 o2 o3 o4 t0 t1 t2 t4 hSp1 HSS
   have C6:=hid (C5.out.trans CW.out (fun _ _ h=>h))
   have R6:=hid (CW.out.blk R5.out id)
   have O6:=hid (CW.out.blk O5.out id)
   have o3:W6.cell? ⟨ob,3,none⟩=some (.int .i64 (b:Int)):=O6.out.cell 3
   by_cases hlt:cntP (fun b=>b == 10) (bs x.s) < b
   {
 have hrr:r={ RsV.zero with er:=3 }:=by
  rw [HR.out]
  simp only [wantH]
  rw [if_pos (show cntP isLF (bs x.s) < b from hlt)]
 subst hrr
 clear HR
 have e1:decide (cntP (fun b=>b == 10) (bs x.s) < b)=true:=decide_eq_true hlt
 have e1':decide (((cntP (fun b=>b == 10) (bs x.s):Nat):Int) < (b:Int))=true:=decide_eq_true (by omega)
 obtain ⟨r0,r1,r2,r3,r4,r5,r6,r7,r8,r9,r10,r11,r12⟩:=R6.out.c13
 obtain ⟨s0',s1',s2',s3',s4',s5',s6',s7',s8',s9',s10',s11',s12'⟩:=R6.out.f13
 go_wp2_with fail
 refine at_world fun WZ hWZ=>?_
 have PZ:=hid (show Blk WZ rb 41 #[.int .i64 3,.int .i64 0,.int .i64 0,.int .i64 0,.int .u8 0,.string ⟨#[]⟩,.int .i64 0,.int .i64 0,.int .i64 0,.int .u8 0,.int .i64 0,.int .i64 0,.slice none 0 0]/\Ch (fun k=>k=rb) W6 WZ from by rw [hWZ];exact put13 R6.out _ _ _ _ _ _ _ _ _ _ _ _ _)
 clear hWZ r0 s0' r1 s1' r2 s2' r3 s3' r4 s4' r5 s5' r6 s6' r7 s7' r8 s8' r9 s9' r10 s10' r11 s11' r12 s12'
 obtain ⟨z0,z1,z2,z3,z4,z5,z6,z7,z8,z9,z10,z11,z12⟩:=PZ.out.1.c13
 have hck:Ch (fun _=>False) w WZ:=C6.out.trans PZ.out.2 (fun i hi e=>absurd hi (by have:=NR.out;omega))
 refine bodyPost_ret (v:=.agg #[.int .i64 3,.int .i64 0,.int .i64 0,.int .i64 0,.int .u8 0,.string ⟨#[]⟩,.int .i64 0,.int .i64 0,.int .i64 0,.int .u8 0,.int .i64 0,.int .i64 0,.slice none 0 0]) (by simp [results,Tryz.results33,go_sem,z0,z1,z2,z3,z4,z5,z6,z7,z8,z9,z10,z11,z12]) rfl ⟨rfl,hck⟩
 }
   {
 have e1:decide (cntP (fun b=>b == 10) (bs x.s) < b)=false:=decide_eq_false hlt
 have e1':decide (((cntP (fun b=>b == 10) (bs x.s):Nat):Int) < (b:Int))=false:=decide_eq_false (by omega)
 by_cases hb0:b=0
 ·have hrr:r=RsV.zero:=by
   rw [HR.out]
   simp only [wantH]
   rw [if_neg (show ¬cntP isLF (bs x.s) < b from hlt),if_pos hb0]
  subst hrr
  clear HR
  have e2:((b:Int) == 0)=true:=by rw [hb0];rfl
  clear hb0
  obtain ⟨r0,r1,r2,r3,r4,r5,r6,r7,r8,r9,r10,r11,r12⟩:=R6.out.c13
  obtain ⟨s0',s1',s2',s3',s4',s5',s6',s7',s8',s9',s10',s11',s12'⟩:=R6.out.f13
  go_wp2_with fail
  refine at_world fun WZ hWZ=>?_
  have PZ:=hid (show Blk WZ rb 41 #[.int .i64 0,.int .i64 0,.int .i64 0,.int .i64 0,.int .u8 0,.string ⟨#[]⟩,.int .i64 0,.int .i64 0,.int .i64 0,.int .u8 0,.int .i64 0,.int .i64 0,.slice none 0 0]/\Ch (fun k=>k=rb) W6 WZ from by rw [hWZ];exact put13 R6.out _ _ _ _ _ _ _ _ _ _ _ _ _)
  clear hWZ r0 s0' r1 s1' r2 s2' r3 s3' r4 s4' r5 s5' r6 s6' r7 s7' r8 s8' r9 s9' r10 s10' r11 s11' r12 s12'
  obtain ⟨z0,z1,z2,z3,z4,z5,z6,z7,z8,z9,z10,z11,z12⟩:=PZ.out.1.c13
  have hck:Ch (fun _=>False) w WZ:=C6.out.trans PZ.out.2 (fun i hi e=>absurd hi (by have:=NR.out;omega))
  refine bodyPost_ret (v:=.agg #[.int .i64 0,.int .i64 0,.int .i64 0,.int .i64 0,.int .u8 0,.string ⟨#[]⟩,.int .i64 0,.int .i64 0,.int .i64 0,.int .u8 0,.int .i64 0,.int .i64 0,.slice none 0 0]) (by simp [results,Tryz.results33,go_sem,z0,z1,z2,z3,z4,z5,z6,z7,z8,z9,z10,z11,z12]) rfl ⟨rfl,hck⟩
 ·have hrr:r={ RsV.zero with at':=(nthP isLF (bs x.s) (b - 1):Int)+1 }:=by
   rw [HR.out]
   simp only [wantH]
   rw [if_neg (show ¬cntP isLF (bs x.s) < b from hlt),if_neg hb0]
  subst hrr
  clear HR
  have e2:((b:Int) == 0)=false:=by rw [beq_eq_false_iff_ne];omega
  have hln:=lnth_l x.s hz0 (b - 1) (by omega) W6
  have hb1:((b - 1:Nat):Int)+1=(b:Int):=by omega
  rw [hb1] at hln
  clear hb1 hb0
  go_wp2_with fail
  refine hln.mono ?_
  clear hln
  rintro e w' ⟨rfl,rfl⟩
  obtain ⟨r0,r1,r2,r3,r4,r5,r6,r7,r8,r9,r10,r11,r12⟩:=R6.out.c13
  obtain ⟨s0',s1',s2',s3',s4',s5',s6',s7',s8',s9',s10',s11',s12'⟩:=R6.out.f13
  go_wp2_with fail
  refine at_world fun WZ hWZ=>?_
  have PZ:=hid (show Blk WZ rb 41 #[.int .i64 0,.int .i64 0,.int .i64 0,.int .i64 (((nthP (fun b=>b == 10) (bs x.s) (b - 1):Nat):Int)+1),.int .u8 0,.string ⟨#[]⟩,.int .i64 0,.int .i64 0,.int .i64 0,.int .u8 0,.int .i64 0,.int .i64 0,.slice none 0 0]/\Ch (fun k=>k=rb) W6 WZ from by rw [hWZ];exact put13 R6.out _ _ _ _ _ _ _ _ _ _ _ _ _)
  clear hWZ r0 s0' r1 s1' r2 s2' r3 s3' r4 s4' r5 s5' r6 s6' r7 s7' r8 s8' r9 s9' r10 s10' r11 s11' r12 s12'
  obtain ⟨z0,z1,z2,z3,z4,z5,z6,z7,z8,z9,z10,z11,z12⟩:=PZ.out.1.c13
  have hck:Ch (fun _=>False) w WZ:=C6.out.trans PZ.out.2 (fun i hi e=>absurd hi (by have:=NR.out;omega))
  refine bodyPost_ret (v:=.agg #[.int .i64 0,.int .i64 0,.int .i64 0,.int .i64 (((nthP (fun b=>b == 10) (bs x.s) (b - 1):Nat):Int)+1),.int .u8 0,.string ⟨#[]⟩,.int .i64 0,.int .i64 0,.int .i64 0,.int .u8 0,.int .i64 0,.int .i64 0,.slice none 0 0]) (by simp [results,Tryz.results33,go_sem,z0,z1,z2,z3,z4,z5,z6,z7,z8,z9,z10,z11,z12]) rfl ⟨rfl,hck⟩
 }
  | mark k i=>
   simp only [Cop.op] at o0 o2 o3 o4 |-
   have HIN5:=hid (HIN.out.keep C5.out (fun _ _ _ _ h=>h))
   go_wp2_with fail
   clear o0 o2 o3 o4 t0 t1 t2 t4
   go_loopw [8] (fun j W=>∃k:Nat,k<=m1/\j=.int .i64 (k:Int)/\(∀(q:Nat) (y:Mk),q < k->x.ms[q]?=some y->y.id≠i)/\Ch (fun _=>False) W5 W) (fun j _=>m1 - (intOf j).toNat)
   case atStart=>exact ⟨0,Nat.zero_le _,rfl,(fun q y h=>absurd h (Nat.not_lt_zero _)),Ch.refl _ _⟩
   case round=>
    (
 obtain ⟨k,hk,rfl,hall,hcw⟩:=hrel
 have HALL:=hid hall
 have CW:=hid hcw
 clear hall hcw
 have RW:=hid (CW.out.blk R5.out id)
 have TW:=hid (CW.out.blk T5.out id)
 have OW:=hid (CW.out.blk O5.out id)
 have t2:wr.cell? ⟨tb,2,none⟩=some (.slice am m1 c1):=TW.out.cell 2
 have o4:wr.cell? ⟨ob,4,none⟩=some (.int .u32 i):=OW.out.cell 4
 have CX:=hid (C5.out.trans CW.out (fun _ _ h=>h))
 by_cases hlt:k < m1
 ·have d1:decide (k < m1)=true:=decide_eq_true hlt
  have d1':decide ((k:Int) < (m1:Int))=true:=decide_eq_true (by omega)
  obtain ⟨y,hy⟩:∃y,x.ms[k]?=some y:=⟨_,List.getElem?_eq_getElem (by rw [HIN5.out.1];exact hlt)⟩
  obtain ⟨mb,mo,hma,_,hmc⟩:=(HIN5.out.keep CW.out (fun _ _ _ _ h=>h)).2 (by omega)
  subst hma
  have m0:wr.cell? ⟨mb,mo+k * 3,none⟩=some (.int .u32 y.id):=hmc k 0 y _ hy rfl
  have m1':wr.cell? ⟨mb,mo+k * 3+1,none⟩=some (.int .i64 y.at'):=hmc k 1 y _ hy rfl
  have m2:wr.cell? ⟨mb,mo+k * 3+2,none⟩=some (.int .u8 y.g):=hmc k 2 y _ hy rfl
  have HY:=hid hy
  clear hy hmc
  go_wp2_with fail
  refine Mix.rt [0,0,0,0,0,0,0,0,0] [0,1,2,3,4,5,6,7,8] ?_
  repeat ((first | refine Mix.zq ?_ | refine Mix.zp ?_ | refine Mix.zs ?_);go_big_quiet_step (fail);refine wpQuiet_nil ?_)
  intro k9
  by_cases hid':y.id=i
  {
 have e1:(y.id == i)=true:=by rw [beq_iff_eq];exact hid'
 have hrr:r={ RsV.zero with at':=y.at',g:=y.g }:=by
  rw [HR.out]
  simp only [wantH]
  rw [find_first HY.out hid' HALL.out]
 subst hrr
 clear HR hid'
 refine at_world fun W8 hW8=>?_
 have C8:=hid (show Ch (fun _=>False) wr W8 from by rw [hW8];exact (Ch.refl _ wr).drewN k9)
 clear hW8 t2 o4 m0 m1' m2
 have T8:=hid (C8.out.blk TW.out id)
 have R8:=hid (C8.out.blk RW.out id)
 have CC:=hid (CX.out.trans C8.out (fun _ _ h=>h))
 obtain ⟨_,_,hma,_,hmc⟩:=((HIN5.out.keep CW.out (fun _ _ _ _ h=>h)).keep C8.out (fun _ _ _ _ h=>h)).2 (by omega)
 injection hma with hma
 injection hma with hma1 hma2
 subst hma1 hma2
 have t2:W8.cell? ⟨tb,2,none⟩=some (.slice (some ⟨mb,mo,none⟩) m1 c1):=T8.out.cell 2
 have m1':W8.cell? ⟨mb,mo+k * 3+1,none⟩=some (.int .i64 y.at'):=hmc k 1 y _ HY.out rfl
 have m2:W8.cell? ⟨mb,mo+k * 3+2,none⟩=some (.int .u8 y.g):=hmc k 2 y _ HY.out rfl
 clear hmc
 obtain ⟨r0,r1,r2,r3,r4,r5,r6,r7,r8,r9,r10,r11,r12⟩:=R8.out.c13
 obtain ⟨s0',s1',s2',s3',s4',s5',s6',s7',s8',s9',s10',s11',s12'⟩:=R8.out.f13
 go_wp2_with fail
 refine Mix.rt [0,0,0,0,0,0,0,0,0,0,0,0,0,2] [0,1,2,3,4,5,6,7,8,9,10,11,12,13] ?_
 repeat ((first | refine Mix.zq ?_ | refine Mix.zp ?_ | refine Mix.zs ?_);go_big_quiet_step (fail);refine wpQuiet_nil ?_)
 refine Mix.ze fun V9 hV9=>?_
 obtain ⟨k10,rfl⟩:=hV9
 go_wp2_with fail
 intro k11
 go_wp2_with fail
 refine at_world fun WZ hWZ=>?_
 have PZ:=hid (show Blk WZ rb 41 #[.int .i64 0,.int .i64 0,.int .i64 0,.int .i64 y.at',.int .u8 y.g,.string ⟨#[]⟩,.int .i64 0,.int .i64 0,.int .i64 0,.int .u8 0,.int .i64 0,.int .i64 0,.slice none 0 0]/\Ch (fun k=>k=rb) W8 WZ from by rw [hWZ];exact ⟨(put13 (R8.out.drewN k10) _ _ _ _ _ _ _ _ _ _ _ _ _).1.drewN k11,((((Ch.refl (fun k=>k=rb) W8).drewN k10).trans (put13 (R8.out.drewN k10) _ _ _ _ _ _ _ _ _ _ _ _ _).2 (fun _ _ h=>h)).drewN k11)⟩)
 clear hWZ r0 s0' r1 s1' r2 s2' r3 s3' r4 s4' r5 s5' r6 s6' r7 s7' r8 s8' r9 s9' r10 s10' r11 s11' r12 s12'
 obtain ⟨z0,z1,z2,z3,z4,z5,z6,z7,z8,z9,z10,z11,z12⟩:=PZ.out.1.c13
 have hck:Ch (fun _=>False) w WZ:=CC.out.trans PZ.out.2 (fun i hi e=>absurd hi (by have:=NR.out;omega))
 refine bodyPost_ret (v:=.agg #[.int .i64 0,.int .i64 0,.int .i64 0,.int .i64 y.at',.int .u8 y.g,.string ⟨#[]⟩,.int .i64 0,.int .i64 0,.int .i64 0,.int .u8 0,.int .i64 0,.int .i64 0,.slice none 0 0]) (by simp [results,Tryz.results33,go_sem,z0,z1,z2,z3,z4,z5,z6,z7,z8,z9,z10,z11,z12]) rfl ⟨rfl,hck⟩
 }
  ·have e1:(y.id == i)=false:=by rw [beq_eq_false_iff_ne];exact hid'
   have HID:=hid hid'
   clear hid'
   go_wp2_with fail
   go_roundw
   case rel=>exact ⟨k+1,hlt,by go_num,(fun q z hq hz=>by
    rcases Nat.lt_succ_iff_lt_or_eq.1 hq with h | h
    ·exact HALL.out q z h hz
    ·subst h
     rw [HY.out] at hz
     injection hz with hz
     rw [<-hz]
     exact HID.out),CW.out.drewN k9⟩
   case measure=>simp [intOf];omega
 ·obtain rfl:k=m1:=by omega
  obtain ⟨d1,d1'⟩:=dc_ltF (a:=k) (b:=k) (by omega)
  have hrr:r={ RsV.zero with er:=7 }:=by
   rw [HR.out]
   simp only [wantH]
   rw [List.find?_eq_none.2 (fun m hm=>by
    obtain ⟨q,hq⟩:=List.getElem?_of_mem hm
    have:=HALL.out q m (by rw [<-HIN5.out.1];exact (List.getElem?_eq_some_iff.1 hq).1) hq
    simpa using this)]
  subst hrr
  clear HR o4
  obtain ⟨r0,r1,r2,r3,r4,r5,r6,r7,r8,r9,r10,r11,r12⟩:=RW.out.c13
  obtain ⟨s0',s1',s2',s3',s4',s5',s6',s7',s8',s9',s10',s11',s12'⟩:=RW.out.f13
  go_wp2_with fail
  refine at_world fun WZ hWZ=>?_
  have PZ:=hid (show Blk WZ rb 41 #[.int .i64 7,.int .i64 0,.int .i64 0,.int .i64 0,.int .u8 0,.string ⟨#[]⟩,.int .i64 0,.int .i64 0,.int .i64 0,.int .u8 0,.int .i64 0,.int .i64 0,.slice none 0 0]/\Ch (fun k=>k=rb) wr WZ from by rw [hWZ];exact put13 RW.out _ _ _ _ _ _ _ _ _ _ _ _ _)
  clear hWZ r0 s0' r1 s1' r2 s2' r3 s3' r4 s4' r5 s5' r6 s6' r7 s7' r8 s8' r9 s9' r10 s10' r11 s11' r12 s12'
  obtain ⟨z0,z1,z2,z3,z4,z5,z6,z7,z8,z9,z10,z11,z12⟩:=PZ.out.1.c13
  have hck:Ch (fun _=>False) w WZ:=CX.out.trans PZ.out.2 (fun i hi e=>absurd hi (by have:=NR.out;omega))
  refine bodyPost_ret (v:=.agg #[.int .i64 7,.int .i64 0,.int .i64 0,.int .i64 0,.int .u8 0,.string ⟨#[]⟩,.int .i64 0,.int .i64 0,.int .i64 0,.int .u8 0,.int .i64 0,.int .i64 0,.slice none 0 0]) (by simp [results,Tryz.results33,go_sem,z0,z1,z2,z3,z4,z5,z6,z7,z8,z9,z10,z11,z12]) rfl ⟨rfl,hck⟩
 )
  | seek k a=>
   simp only [Cop.op] at o0 o2 o3 o4 |-
   obtain ⟨_,ha⟩:=HSM.out
   by_cases hlt:x.s.size < a
   {
 have hrr:r={ RsV.zero with er:=3 }:=by
  rw [HR.out]
  simp only [wantH]
  rw [if_pos hlt]
 subst hrr
 clear HR
 have e1:decide (x.s.size < a)=true:=decide_eq_true hlt
 have e1':decide ((x.s.size:Int) < (a:Int))=true:=decide_eq_true (by omega)
 obtain ⟨r0,r1,r2,r3,r4,r5,r6,r7,r8,r9,r10,r11,r12⟩:=R5.out.c13
 obtain ⟨s0',s1',s2',s3',s4',s5',s6',s7',s8',s9',s10',s11',s12'⟩:=R5.out.f13
 go_wp2_with fail
 refine at_world fun WZ hWZ=>?_
 have PZ:=hid (show Blk WZ rb 41 #[.int .i64 3,.int .i64 0,.int .i64 0,.int .i64 0,.int .u8 0,.string ⟨#[]⟩,.int .i64 0,.int .i64 0,.int .i64 0,.int .u8 0,.int .i64 0,.int .i64 0,.slice none 0 0]/\Ch (fun k=>k=rb) W5 WZ from by rw [hWZ];exact put13 R5.out _ _ _ _ _ _ _ _ _ _ _ _ _)
 clear hWZ r0 s0' r1 s1' r2 s2' r3 s3' r4 s4' r5 s5' r6 s6' r7 s7' r8 s8' r9 s9' r10 s10' r11 s11' r12 s12'
 obtain ⟨z0,z1,z2,z3,z4,z5,z6,z7,z8,z9,z10,z11,z12⟩:=PZ.out.1.c13
 have hck:Ch (fun _=>False) w WZ:=C5.out.trans PZ.out.2 (fun i hi e=>absurd hi (by have:=NR.out;omega))
 refine bodyPost_ret (v:=.agg #[.int .i64 3,.int .i64 0,.int .i64 0,.int .i64 0,.int .u8 0,.string ⟨#[]⟩,.int .i64 0,.int .i64 0,.int .i64 0,.int .u8 0,.int .i64 0,.int .i64 0,.slice none 0 0]) (by simp [results,Tryz.results33,go_sem,z0,z1,z2,z3,z4,z5,z6,z7,z8,z9,z10,z11,z12]) rfl ⟨rfl,hck⟩
 }
   {
 have hrr:r={ RsV.zero with at':=(a:Int) }:=by
  rw [HR.out]
  simp only [wantH]
  rw [if_neg hlt]
 subst hrr
 clear HR
 have e1:decide (x.s.size < a)=false:=decide_eq_false hlt
 have e1':decide ((x.s.size:Int) < (a:Int))=false:=decide_eq_false (by omega)
 obtain ⟨r0,r1,r2,r3,r4,r5,r6,r7,r8,r9,r10,r11,r12⟩:=R5.out.c13
 obtain ⟨s0',s1',s2',s3',s4',s5',s6',s7',s8',s9',s10',s11',s12'⟩:=R5.out.f13
 go_wp2_with fail
 refine at_world fun WZ hWZ=>?_
 have PZ:=hid (show Blk WZ rb 41 #[.int .i64 0,.int .i64 0,.int .i64 0,.int .i64 (a:Int),.int .u8 0,.string ⟨#[]⟩,.int .i64 0,.int .i64 0,.int .i64 0,.int .u8 0,.int .i64 0,.int .i64 0,.slice none 0 0]/\Ch (fun k=>k=rb) W5 WZ from by rw [hWZ];exact put13 R5.out _ _ _ _ _ _ _ _ _ _ _ _ _)
 clear hWZ r0 s0' r1 s1' r2 s2' r3 s3' r4 s4' r5 s5' r6 s6' r7 s7' r8 s8' r9 s9' r10 s10' r11 s11' r12 s12'
 obtain ⟨z0,z1,z2,z3,z4,z5,z6,z7,z8,z9,z10,z11,z12⟩:=PZ.out.1.c13
 have hck:Ch (fun _=>False) w WZ:=C5.out.trans PZ.out.2 (fun i hi e=>absurd hi (by have:=NR.out;omega))
 refine bodyPost_ret (v:=.agg #[.int .i64 0,.int .i64 0,.int .i64 0,.int .i64 (a:Int),.int .u8 0,.string ⟨#[]⟩,.int .i64 0,.int .i64 0,.int .i64 0,.int .u8 0,.int .i64 0,.int .i64 0,.slice none 0 0]) (by simp [results,Tryz.results33,go_sem,z0,z1,z2,z3,z4,z5,z6,z7,z8,z9,z10,z11,z12]) rfl ⟨rfl,hck⟩
 }
  | next k b=>
   simp only [Cop.op] at o0 o2 o3 o4 |-
   obtain ⟨_,hb⟩:=HSM.out
   obtain ⟨cn,hcn⟩:∃cn:Nat,x.cu=(cn:Int):=⟨x.cu.toNat,by omega⟩
   obtain ⟨dn,hdn⟩:∃dn:Nat,dn=min b (x.s.size - cn):=⟨_,rfl⟩
   have hrr:r={ RsV.zero with s:=x.s.extract cn (cn+dn),at':=(cn:Int)+(dn:Int) }:=by
    rw [HR.out,hdn]
    simp only [wantH]
    rw [show x.cu.toNat=cn from by omega]
    push_cast
    rfl
   subst hrr
   clear HR
   rw [hcn] at t4
   have hmin:=fun W=>run_min (P:=Tryz.prog) #[3,3] 3 b (x.s.size - cn) W
   have hsz:((x.s.size - cn:Nat):Int)=(x.s.size:Int) - (cn:Int):=by omega
   rw [hsz,<-hdn] at hmin
   have hle:cn+dn<=x.s.size:=by omega
   have hle2:cn<=cn+dn:=Nat.le_add_right _ _
   clear hcn hdn hsz hz2 hz3
   obtain ⟨r0,r1,r2,r3,r4,r5,r6,r7,r8,r9,r10,r11,r12⟩:=R5.out.c13
   obtain ⟨s0',s1',s2',s3',s4',s5',s6',s7',s8',s9',s10',s11',s12'⟩:=R5.out.f13
   go_wp2_with fail
   refine at_world fun WZ hWZ=>?_
   have PZ:=hid (show Blk WZ rb 41 #[.int .i64 0,.int .i64 0,.int .i64 0,.int .i64 ((cn:Int)+(dn:Int)),.int .u8 0,.string (x.s.extract cn (cn+dn)),.int .i64 0,.int .i64 0,.int .i64 0,.int .u8 0,.int .i64 0,.int .i64 0,.slice none 0 0]/\Ch (fun k=>k=rb) W5 WZ from by rw [hWZ];exact put13 R5.out _ _ _ _ _ _ _ _ _ _ _ _ _)
   clear hWZ r0 s0' r1 s1' r2 s2' r3 s3' r4 s4' r5 s5' r6 s6' r7 s7' r8 s8' r9 s9' r10 s10' r11 s11' r12 s12'
   obtain ⟨z0,z1,z2,z3,z4,z5,z6,z7,z8,z9,z10,z11,z12⟩:=PZ.out.1.c13
   have hck:Ch (fun _=>False) w WZ:=C5.out.trans PZ.out.2 (fun i hi e=>absurd hi (by have:=NR.out;omega))
   refine bodyPost_ret (v:=.agg #[.int .i64 0,.int .i64 0,.int .i64 0,.int .i64 ((cn:Int)+(dn:Int)),.int .u8 0,.string (x.s.extract cn (cn+dn)),.int .i64 0,.int .i64 0,.int .i64 0,.int .u8 0,.int .i64 0,.int .i64 0,.slice none 0 0]) (by simp [results,Tryz.results33,go_sem,z0,z1,z2,z3,z4,z5,z6,z7,z8,z9,z10,z11,z12]) rfl ⟨rfl,hck⟩
  | rel k=>
   have hrr:r=RsV.zero:=by
    rw [HR.out]
    rfl
   subst hrr
   clear HR
   simp only [Cop.op] at o0 o2 o3 o4 |-
   obtain ⟨r0,r1,r2,r3,r4,r5,r6,r7,r8,r9,r10,r11,r12⟩:=R5.out.c13
   obtain ⟨s0',s1',s2',s3',s4',s5',s6',s7',s8',s9',s10',s11',s12'⟩:=R5.out.f13
   go_wp2_with fail
   refine at_world fun WZ hWZ=>?_
   have PZ:=hid (show Blk WZ rb 41 #[.int .i64 0,.int .i64 0,.int .i64 0,.int .i64 0,.int .u8 0,.string ⟨#[]⟩,.int .i64 0,.int .i64 0,.int .i64 0,.int .u8 0,.int .i64 0,.int .i64 0,.slice none 0 0]/\Ch (fun k=>k=rb) W5 WZ from by rw [hWZ];exact put13 R5.out _ _ _ _ _ _ _ _ _ _ _ _ _)
   clear hWZ r0 s0' r1 s1' r2 s2' r3 s3' r4 s4' r5 s5' r6 s6' r7 s7' r8 s8' r9 s9' r10 s10' r11 s11' r12 s12'
   obtain ⟨z0,z1,z2,z3,z4,z5,z6,z7,z8,z9,z10,z11,z12⟩:=PZ.out.1.c13
   have hck:Ch (fun _=>False) w WZ:=C5.out.trans PZ.out.2 (fun i hi e=>absurd hi (by have:=NR.out;omega))
   refine bodyPost_ret (v:=.agg #[.int .i64 0,.int .i64 0,.int .i64 0,.int .i64 0,.int .u8 0,.string ⟨#[]⟩,.int .i64 0,.int .i64 0,.int .i64 0,.int .u8 0,.int .i64 0,.int .i64 0,.slice none 0 0]) (by simp [results,Tryz.results33,go_sem,z0,z1,z2,z3,z4,z5,z6,z7,z8,z9,z10,z11,z12]) rfl ⟨rfl,hck⟩
end
end Go.Proofs.YtjcdknhejcbpiaaGreat
