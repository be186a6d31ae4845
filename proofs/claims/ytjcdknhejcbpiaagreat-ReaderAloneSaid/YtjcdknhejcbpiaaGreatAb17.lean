/- Lemmas that the proof of the last text leans on; no condition. -/
import Derived.Test.YtjcdknhejcbpiaaGreatAb16
import Derived.Test.YtjcdknhejcbpiaaGreatAb07
import Derived.Test.YtjcdknhejcbpiaaGreatAb15
set_option maxRecDepth 100000
set_option maxHeartbeats 4000000
namespace Go.Proofs.YtjcdknhejcbpiaaGreat
open Go.RowKit
set_option linter.unusedVariables false
set_option linter.unusedSimpArgs false
set_option linter.unusedSectionVars false
theorem add1_any (b1:Nat) (s:ByteArray) (w:World) (h:Blk w b1 229 #[.int .i64 0,.string s,.slice none 0 0]):Calls Tryz.prog 161 #[.pointer (some ⟨b1,0,none⟩)] w fun e w'=>e=.returned (.agg #[.int .i64 0,.string s,.slice none 0 0])∧Ch (fun _=>False) w w':=by
 have hne:b1≠w.heap.size:=Nat.ne_of_lt h.lt
 have hlt:=h.lt
 have c0:w.cell? ⟨b1,0,none⟩=some (.int .i64 0):=h.cell 0
 have c1:w.cell? ⟨b1,1,none⟩=some (.string s):=h.cell 1
 have c2:w.cell? ⟨b1,2,none⟩=some (.slice none 0 0):=h.cell 2
 go_enter Tryz.func161,Tryz.ntmps161
 go_wp2_with fail
 refine at_world fun W hW=>?_
 have C:=hid (show Ch (fun _=>False) w W from by rw [hW];exact (Ch.refl _ w).alloc _)
 have B:=hid (show Blk W w.heap.size 229 #[.int .i64 0,.string s,.slice none 0 0] from by rw [hW];exact Blk.new w _ _)
 have t0:W.cell? ⟨w.heap.size,0,none⟩=some (.int .i64 0):=B.out.cell 0
 have t1:W.cell? ⟨w.heap.size,1,none⟩=some (.string s):=B.out.cell 1
 have t2:W.cell? ⟨w.heap.size,2,none⟩=some (.slice none 0 0):=B.out.cell 2
 refine bodyPost_ret (v:=.agg #[.int .i64 0,.string s,.slice none 0 0]) (by simp [results,Tryz.results161,go_sem,t0,t1,t2]) rfl ⟨rfl,C.out⟩
theorem add2_any (tb kb sb c h N:Nat) (tc scs:Array Value) (kids:List Kd) (w:World) (hN:N=kids.length) (hn4:N≤4) (ht:Blk w tb 183 tc) (htc:tc[1]?=some (.int .i64 (h:Int))) (hk:Blk w kb 293 #[.slice (some ⟨sb,0,none⟩) N c]) (hs:Blk w sb 246 scs)
  (hkd:∀(i:Nat) (x:Kd),kids[i]?=some x→∃(r:Nat) (hh:Int),scs[i]?=some (.pointer (some ⟨r,0,none⟩))∧Blk w r 102 #[.int .u64 (hdl x.at'),.int .i64 hh,.int .i64 x.m.b,.int .i64 x.m.r,.int .i64 x.m.l]) :
  Calls Tryz.prog 162 #[.pointer (some ⟨tb,0,none⟩),.pointer (some ⟨kb,0,none⟩)] w fun e w'=>∃a c',e=.returned (.agg #[.int .i64 (h:Int),.string ⟨#[]⟩,.slice a N c'])∧w'.ownsRow w.heap.size 266 4 (.slice a N c') N (kids.flatMap Kd.cells)∧Ch (fun _=>False) w w':=by
 obtain ⟨i0,hi,hz0,hz1,hz2⟩:=info_parts infoKd
 have HT:=hid ht
 have HK:=hid hk
 have HS:=hid hs
 have HKD:=hid hkd
 have HN:=hid hN
 have a0:w.cell? ⟨tb,1,none⟩=some (.int .i64 (h:Int)):=(ht.cell 1).trans htc
 have a1:w.cell? ⟨kb,0,none⟩=some (.slice (some ⟨sb,0,none⟩) N c):=hk.cell 0
 have htl:=ht.lt
 have hkl:=hk.lt
 clear ht hk hs hkd hN htc
 go_enter Tryz.func162,Tryz.ntmps162
 go_wp2_with fail
 refine at_world fun W1 hW1=>?_
 obtain ⟨b0,hb0⟩:∃x,x=w.heap.size:=⟨_,rfl⟩
 rw [←hb0]
 have C1:=hid (show Ch (fun _=>False) w W1 from by rw [hW1];exact ((Ch.refl _ w).alloc _).alloc _)
 have R1:=hid (show Blk W1 b0 229 #[.int .i64 0,.string ⟨#[]⟩,.slice none 0 0] from by rw [hW1,hb0];exact (Blk.new w _ _).alloc _)
 have X1:=hid (show Blk W1 (b0+1) 229 #[.int .i64 (h:Int),.string ⟨#[]⟩,.slice none 0 0] from by
  rw [hW1,hb0]
  have t:=Blk.new (w.alloc (.cells #[.int .i64 0,.string ⟨#[]⟩,.slice none 0 0] 229)) 229 #[.int .i64 (h:Int),.string ⟨#[]⟩,.slice none 0 0]
  simpa using t)
 clear hW1 a0 a1
 have HZ:=hid hb0
 clear hb0 htl hkl
 go_loopw [11] (fun i W=>∃(k:Nat) (v:Value),k≤N∧i=.int .i64 (k:Int)∧Blk W b0 229 #[.int .i64 0,.string ⟨#[]⟩,.slice none 0 0]∧Blk W (b0+1) 229 #[.int .i64 (h:Int),.string ⟨#[]⟩,v]∧W.ownsRow b0 266 4 v k ((kids.take k).flatMap Kd.cells)∧Ch (fun _=>False) w W) (fun i _=>N - (intOf i).toNat)
 case atStart=>exact ⟨0,.slice none 0 0,Nat.zero_le _,rfl,R1.out,X1.out,World.ownsRow_nil _ _ _ _,C1.out⟩
 case round=>
  clear C1 R1 X1
  obtain ⟨k,v,hk,rfl,hR,hX,hO,hC⟩:=hrel
  obtain ⟨A0,c0,rfl,_⟩:=own_slice hO
  have RR:=hid hR
  have XX:=hid hX
  have OO:=hid hO
  have CC:=hid hC
  clear hR hX hO hC
  by_cases hlt:k < N
  ·obtain ⟨x,hx⟩:∃x,kids[k]?=some x:=⟨_,List.getElem?_eq_getElem (by rw [←HN.out];exact hlt)⟩
   obtain ⟨r,hh,hsc,hrb⟩:=HKD.out k x hx
   have HX:=hid hx
   have HRB:=hid (CC.out.blk hrb id)
   have hrl:=hrb.lt
   have hzz:=HZ.out
   have hrne:r < b0:=by omega
   clear hx hrb hrl hzz
   have q0:wr.cell? ⟨sb,k,none⟩=some (.pointer (some ⟨r,0,none⟩)):=((CC.out.blk HS.out id).cell k).trans hsc
   have y1:decide (k < N)=true:=decide_eq_true hlt
   have y2:decide ((k:Int) < (N:Int))=true:=decide_eq_true (by omega)
   clear hsc
   go_wp2_with fail
   obtain ⟨SS,hSS⟩:∃S:Nat→Prop,∀j,S j↔j=b0+1:=⟨_,fun _=>Iff.rfl⟩
   have hS1:Mix.Has SS (b0+1):=(hSS _).2 rfl
   have HSS:=hid hSS
   clear hSS
   have r0:wr.cell? ⟨r,0,none⟩=some (.int .u64 (hdl x.at')):=HRB.out.cell 0
   have r2:wr.cell? ⟨r,2,none⟩=some (.int .i64 x.m.b):=HRB.out.cell 2
   have r3:wr.cell? ⟨r,3,none⟩=some (.int .i64 x.m.r):=HRB.out.cell 3
   have r4:wr.cell? ⟨r,4,none⟩=some (.int .i64 x.m.l):=HRB.out.cell 4
   have x2:wr.cell? ⟨b0+1,2,none⟩=some (.slice A0 k c0):=XX.out.cell 2
   refine Mix.wp_region_mix SS (fun i=>([1,4,0,0,0,0,0,0,0,0,0,3,2,0,2]:List Nat).getD i 0) [0,1,2,3,4,5,6,7,8,9,10,11,12,13,14] (by kernel_rfl) (by kernel_rfl) ?_
   repeat ((first | refine Mix.q1 rfl ?_ | refine Mix.p1 rfl rfl ?_ | refine Mix.s1 rfl rfl ?_);go_big_quiet_step (fail);refine wpQuiet_nil ?_)
   refine Mix.a1 rfl fun W2 hW2=>?_
   obtain ⟨y2,rfl⟩:=hW2
   go_wp2_with fail
   refine ⟨fun j hj=>(((Ch.refl (fun _=>False) wr).drewN y2).alloc _).block j (by rw [(HSS.out j).1 hj];exact XX.out.lt) id,?_⟩
   refine Mix.mix_world fun V hV=>?_
   have D2:=hid (show Ch (fun _=>False) wr V from by rw [hV];exact ((Ch.refl (fun _=>False) wr).drewN y2).alloc _)
   have T2:=hid (show Blk V wr.heap.size 266 #[.int .u64 (hdl x.at'),.int .i64 x.m.b,.int .i64 x.m.r,.int .i64 x.m.l] from by rw [hV];exact Blk.new (wr.drewN y2) _ _)
   clear hV r0 r2 r3 r4 x2 q0
   have X2:=hid (D2.out.blk XX.out id)
   have R2:=hid (D2.out.blk RR.out id)
   have O2:=hid (D2.out.own OO.out (fun _ _=>id))
   have hb0V:b0+1 < V.heap.size:=X2.out.lt
   refine Mix.e1 rfl fun W3 hW3=>?_
   obtain ⟨y3,rfl⟩:=hW3
   refine wpList_app _ rfl _ _ 227 rfl b0 266 i0 _ 4 32 Tryz.underlying227 hi hz0 hz1 hz2 rfl (by decide) (.slice A0 k c0) k _ rfl (((Ch.refl (fun _=>False) V).drewN y3).own O2.out (fun _ _=>id)) ⟨wr.heap.size,0,none⟩ 1 1 x.cells rfl rfl ?c1 ?c2 (by decide) ?c3 ?c4 ?c5 ?_
   case c1=>
    intro j u hu
    rw [addr_add0]
    exact ((T2.out.drewN y3).cell j).trans (by rw [←hu,←Array.getElem?_toList];rfl)
   case c2=>intro u hu;simp [Kd.cells] at hu;rcases hu with rfl | rfl | rfl | rfl <;> rfl
   case c3=>unfold maxLen;omega
   case c4=>omega
   case c5=>show b0≤V.heap.size;omega
   intro v' w' hown' hgrow hfresh
   have CR:=hid (show Ch (fun k'=>(Value.slice A0 k c0).ownBlock=some k') V w' from ((Ch.refl _ V).drewN y3).grown hgrow (fun k hk _=>hk))
   have OW:=hid hown'
   have X3:=hid (CR.out.blk X2.out (X2.out.own O2.out (by decide)))
   have R3:=hid (CR.out.blk R2.out (R2.out.own O2.out (by decide)))
   obtain ⟨A3,c3,hv3,_⟩:=own_slice hown'
   subst hv3
   clear hown' hgrow hfresh
   have s1:=X3.out.free 2
   have x3:w'.cell? ⟨b0+1,2,none⟩=some (.slice A0 k c0):=X3.out.cell 2
   go_wp2_with fail
   refine Mix.mix_world fun V2 hV2=>?_
   subst hV2
   repeat ((first | refine Mix.q1 rfl ?_ | refine Mix.p1 rfl rfl ?_ | refine Mix.s1 rfl rfl ?_);go_big_quiet_step (fail);refine wpQuiet_nil ?_)
   refine Mix.e1 rfl fun W4 hW4=>?_
   obtain ⟨y4,rfl⟩:=hW4
   go_wp2_with fail
   intro y5
   go_wp2_with fail
   have kx:(kids.take (k+1)).flatMap Kd.cells=(kids.take k).flatMap Kd.cells++x.cells:=by
    rw [List.take_add_one,HX.out,List.flatMap_append]
    simp
   have CF:Ch (fun j=>j=b0+1) V2 (((V2.drewN y4).setCell ⟨b0+1,2,none⟩ (.slice A3 (k+1) c3)).drewN y5):=(((Ch.refl (fun j=>j=b0+1) V2).drewN y4).set (fun _=>rfl) _).drewN y5
   refine ⟨⟨k+1,.slice A3 (k+1) c3,hlt,by push_cast;rfl,CF.blk R3.out (by omega),((X3.out.drewN y4).put 2 _).drewN y5,?_,?_⟩,by simp only [intOf];omega⟩
   ·rw [kx]
    exact CF.own OW.out (fun j hj e=>(X3.out.own OW.out (by decide)) (e ▸ hj))
   ·have hzz:=HZ.out
    refine (CC.out.trans D2.out (fun _ _ e=>e)).trans ((CR.out.mono (fp':=fun j=>j=b0+1∨(Value.slice A0 k c0).ownBlock=some j) (fun _ _ e=>.inr e)).trans CF (fun _ _ e=>.inl e)) (fun i hi e=>?_)
    rcases e with e | e
    ·omega
    ·have:=OO.out.lt i e;omega
  ·obtain rfl:N=k:=by omega
   have y1:decide (N < N)=false:=decide_eq_false (by omega)
   have x0:wr.cell? ⟨b0+1,0,none⟩=some (.int .i64 (h:Int)):=XX.out.cell 0
   have x1:wr.cell? ⟨b0+1,1,none⟩=some (.string ⟨#[]⟩):=XX.out.cell 1
   have x2:wr.cell? ⟨b0+1,2,none⟩=some (.slice A0 N c0):=XX.out.cell 2
   have f0:=RR.out.free 0
   have f1:=RR.out.free 1
   have f2:=RR.out.free 2
   have z0:wr.cell? ⟨b0,0,none⟩=some (.int .i64 0):=RR.out.cell 0
   have z1:wr.cell? ⟨b0,1,none⟩=some (.string ⟨#[]⟩):=RR.out.cell 1
   have z2:wr.cell? ⟨b0,2,none⟩=some (.slice none 0 0):=RR.out.cell 2
   go_wp2_with fail
   refine at_world fun WZ hWZ=>?_
   have CZ:=hid (show Ch (fun k=>k=b0) wr WZ from by rw [hWZ];exact (((Ch.refl (fun k=>k=b0) wr).set (fun _=>rfl) _).set (fun _=>rfl) _).set (fun _=>rfl) _)
   have BZ:=hid (show Blk WZ b0 229 #[.int .i64 (h:Int),.string ⟨#[]⟩,.slice A0 N c0] from by rw [hWZ];exact (((RR.out.put 0 _).put 1 _).put 2 _))
   clear hWZ
   have t0:WZ.cell? ⟨b0,0,none⟩=some (.int .i64 (h:Int)):=BZ.out.cell 0
   have t1:WZ.cell? ⟨b0,1,none⟩=some (.string ⟨#[]⟩):=BZ.out.cell 1
   have t2:WZ.cell? ⟨b0,2,none⟩=some (.slice A0 N c0):=BZ.out.cell 2
   have htk:kids.take N=kids:=by rw [HN.out];exact List.take_length
   have hO:=OO.out
   rw [htk] at hO
   have hzz:=HZ.out
   refine bodyPost_ret (v:=.agg #[.int .i64 (h:Int),.string ⟨#[]⟩,.slice A0 N c0]) (by simp [results,Tryz.results162,go_sem,t0,t1,t2]) rfl ⟨A0,c0,rfl,?_,CC.out.trans CZ.out (fun i hi e=>absurd hi (by omega))⟩
   rw [←hzz]
   exact CZ.out.own hO (fun j hj e=>(RR.out.own OO.out (by decide)) (e ▸ hj))
theorem ArM.off {A:ArA} {w:World} {ns:List An} {st:Int} (h:ArM A w ns st) {k:Nat} {t:TypeId} {cs:Array Value} (hb:Blk w k t cs) (h1:t≠164) (h2:t≠211) (h3:t≠213):¬A.mut k:=by
 rintro (rfl | rfl | rfl | rfl)
 ·exact Blk.ne hb h.a h1 rfl
 ·exact Blk.ne hb h.l h2 rfl
 ·obtain ⟨bs,_,hm⟩:=h.m
  have t:w.heap[A.mb]?=some (.cells cs t (0,0)):=hb
  rw [hm] at t
  cases t
 ·exact Blk.ne hb h.b1 h3 rfl
theorem callF_enter {F : FuncId} {fn : Func} {c : Code} (hf : Tryz.prog.funcs[F]? = some fn) (hname : (fn.name == "runtime.NumGoroutine") = false) (hb : fn.body = some c) (args : Array Value) (w : World) : (callFunc F args).run Tryz.prog w = .ok (.enter F args) w := by
 have h1 : fn.name ≠ "runtime.NumGoroutine" := by simpa using hname
 simp [callFunc,hf,h1,hb]
def ConOut (x:Nd) (w:World) (e:Ending) (w':World):Prop:=∃a n c,e=.returned (x.v a n c)∧InP Kd.cells 4 w' (fun k=>w.heap.size≤k) a n x.ks∧(x.ks=[]→a=none∧c=0)∧Ch (fun _=>False) w w'
theorem put1_any (A:ArA) (ns:List An) (st:Int) (x:Nd) (bp bc br pb rb:Nat) (F:FuncId) (caps:Array Value) (todo rv r1 r2 r3 r4:Value) (w:World) (h:ArM A w ns st) (hP:ArP ns) (hx:x.ok)
  (hp:Blk w bp 242 #[.pointer (some ⟨pb,0,none⟩)]) (hc:Blk w bc 292 #[.func (.func F) #[] caps]) (hr:Blk w br 246 #[.pointer (some ⟨rb,0,none⟩)]) (hpen:Blk w pb 248 #[.pointer (some ⟨A.ab,0,none⟩),todo,rv]) (hrb:Blk w rb 102 #[.int .u64 0,r1,r2,r3,r4])
  (hkids:∀k ∈ x.ks,∃z,ns[k.at']?=some z∧z.x.h+1=x.h∧z.x.ms=k.m) (hroom:ns.length < A.n) (hn:A.n≤16384) (hrk:∀y ∈ ns,¬y.kb rb)
  (hcon:∀w',Ch (fun _=>False) w w'→Calls Tryz.prog F caps w' (ConOut x w')) (hin:∀w',(callFunc F caps).run Tryz.prog w'=.ok (.enter F caps) w') :
  Calls Tryz.prog 167 #[.pointer (some ⟨bp,0,none⟩),.pointer (some ⟨bc,0,none⟩),.pointer (some ⟨br,0,none⟩)] w fun e w'=>∃y:An,y.x=x∧e=.returned (.tuple #[.int .u64 (hdl ns.length),.int .i64 0])∧ArM A w' (ns++[y]) st∧Ch (fun k=>A.mut k∨k=rb) w w'∧(∀k,y.kb k→w.heap.size≤k)∧Blk w' rb 102 #[.int .u64 (hdl ns.length),r1,r2,r3,r4]:=by
 have H:=hid h
 have HP:=hid hP
 have HX:=hid hx
 have HBP:=hid hp
 have HBC:=hid hc
 have HBR:=hid hr
 have HPEN:=hid hpen
 have HRB:=hid hrb
 have HK:=hid hkids
 have HRK:=hid hrk
 have HCON:=hid hcon
 clear h hP hx hp hc hr hpen hrb hkids hrk hcon
 obtain ⟨SS,hSS⟩:∃S:Nat→Prop,∀j,S j↔(j=bp∨j=pb∨j=bc):=⟨_,fun _=>Iff.rfl⟩
 have hS1:Mix.Has SS bp:=(hSS _).2 (.inl rfl)
 have hS2:Mix.Has SS pb:=(hSS _).2 (.inr (.inl rfl))
 have hS3:Mix.Has SS bc:=(hSS _).2 (.inr (.inr rfl))
 have HSS:=hid hSS
 clear hSS
 have c0:w.cell? ⟨bp,0,none⟩=some (.pointer (some ⟨pb,0,none⟩)):=HBP.out.cell 0
 have c1:w.cell? ⟨pb,0,none⟩=some (.pointer (some ⟨A.ab,0,none⟩)):=HPEN.out.cell 0
 have c2:w.cell? ⟨bc,0,none⟩=some (.func (.func F) #[] caps):=HBC.out.cell 0
 go_enter Tryz.func167,Tryz.ntmps167
 go_wp2_with fail
 refine Mix.wp_region_mix SS (fun i=>([4,1,1,4,4,3,2,0,0,0,0,0]:List Nat).getD i 0) [0,1,2,3,4,5,6,7,8,9,10,11] (by kernel_rfl) (by kernel_rfl) ?_
 repeat ((first | refine Mix.q1 rfl ?_ | refine Mix.p1 rfl rfl ?_ | refine Mix.s1 rfl rfl ?_);go_big_quiet_step (fail);refine wpQuiet_nil ?_)
 refine Mix.a1 rfl fun W2 hW2=>?_
 obtain ⟨y2,rfl⟩:=hW2
 go_wp2_with fail
 refine (HCON.out (w.drewN y2) ((Ch.refl _ w).drewN y2)).mono ?_
 rintro e w3 ⟨ca,cn,cc,rfl,hI,hca,hC⟩
 have HI:=hid hI
 have HCA:=hid hca
 have C3:=hid (((Ch.refl (fun _=>False) w).drewN y2).trans hC (fun _ _ e=>e))
 clear hI hca hC c0 c1 c2
 go_wp2_with fail
 refine ⟨fun j hj=>C3.out.block j (by
  rcases (HSS.out j).1 hj with rfl | rfl | rfl
  ·exact HBP.out.lt
  ·exact HPEN.out.lt
  ·exact HBC.out.lt) id,?_⟩
 refine Mix.e1 rfl fun W4 hW4=>?_
 obtain ⟨y4,rfl⟩:=hW4
 go_wp2_with fail
 have HM:=hid (H.out.keep0 (C3.out.drewN y4))
 refine (alloc_any (fun k=>w.heap.size≤k) A ns st x ca cn cc (w3.drewN y4) HM.out HP.out HX.out (HI.out.keep ((Ch.refl (fun _=>False) w3).drewN y4) (fun _ _ _=>id) (fun k _ h=>h)) HCA.out HK.out hroom hn (fun k hk hm=>by have:=H.out.foot_lt (.inl hm);omega)).mono ?_
 rintro e w5 ⟨y,hy,rfl,hM5,hC5,hyk⟩
 have HM5:=hid hM5
 have C5:=hid ((C3.out.drewN y4).mono (fp':=A.mut) (fun _ _ e=>e.elim) |>.trans hC5 (fun _ _ e=>e))
 have hsz3:=C3.out.size
 have HYK:=hid (show ∀k,y.kb k→w.heap.size≤k from fun k hk=>Nat.le_trans hsz3 (hyk k hk))
 clear hM5 hC5 hyk hsz3
 go_wp2_with fail
 repeat ((first | refine Mix.q1 rfl ?_ | refine Mix.p1 rfl rfl ?_ | refine Mix.s1 rfl rfl ?_);go_big_quiet_step (fail);refine wpQuiet_nil ?_)
 intro y5
 have R5:=hid ((C5.out.blk HBR.out (H.out.off HBR.out (by decide) (by decide) (by decide))).drewN y5)
 have B5:=hid ((C5.out.blk HRB.out (H.out.off HRB.out (by decide) (by decide) (by decide))).drewN y5)
 have c0:(w5.drewN y5).cell? ⟨br,0,none⟩=some (.pointer (some ⟨rb,0,none⟩)):=R5.out.cell 0
 have c1:(w5.drewN y5).cell? ⟨rb,0,none⟩=some (.int .u64 0):=B5.out.cell 0
 have f1:=B5.out.free 0
 go_wp2_with fail
 go_ret2
 have CF:Ch (fun k=>k=rb) w5 ((w5.drewN y5).setCell ⟨rb,0,none⟩ (.int .u64 (hdl ns.length))):=((Ch.refl (fun k=>k=rb) w5).drewN y5).set (fun _=>rfl) _
 refine ⟨y,hy,rfl,HM5.out.keep CF (fun k hk hf e=>?_),(C5.out.mono (fun _ _ e=>.inl e)).trans CF (fun _ _ e=>.inr e),HYK.out,B5.out.put 0 _⟩
 subst e
 rcases hf with hf | hf | hf | ⟨z,hz,hf⟩
 ·exact H.out.off HRB.out (by decide) (by decide) (by decide) hf
 ·exact Blk.ne HRB.out H.out.b0 (by decide) hf
 ·exact Blk.ne HRB.out H.out.b2 (by decide) hf
 ·rcases List.mem_append.1 hz with hz | hz
  ·exact HRK.out z hz hf
  ·simp at hz
   subst hz
   have:=HYK.out _ hf
   have:=HRB.out.lt
   omega
theorem step_any (A:ArA) (ns:List An) (st:Int) (x:Nd) (bp bc br pb rb g off n c:Nat) (F:FuncId) (caps:Array Value) (rv r1 r2 r3 r4:Value) (w:World) (h:ArM A w ns st) (hP:ArP ns) (hx:x.ok)
  (hp:Blk w bp 242 #[.pointer (some ⟨pb,0,none⟩)]) (hc:Blk w bc 292 #[.func (.func F) #[] caps]) (hr:Blk w br 246 #[.pointer (some ⟨rb,0,none⟩)]) (hpen:Blk w pb 248 #[.pointer (some ⟨A.ab,0,none⟩),.slice (some ⟨g,off,none⟩) (n+1) c,rv]) (hrb:Blk w rb 102 #[.int .u64 0,r1,r2,r3,r4])
  (hkids:∀k ∈ x.ks,∃z,ns[k.at']?=some z∧z.x.h+1=x.h∧z.x.ms=k.m) (hroom:ns.length < A.n) (hn:A.n≤16384) (hrk:∀y ∈ ns,¬y.kb rb) (hpk:∀y ∈ ns,¬y.kb pb) (hcn:n+1≤c)
  (hcon:∀w',Ch (fun _=>False) w w'→Calls Tryz.prog F caps w' (ConOut x w')) (hin:∀w',(callFunc F caps).run Tryz.prog w'=.ok (.enter F caps) w')
  (hit:w.cell? ⟨g,off,none⟩=some (.func (.func 167) #[] #[.pointer (some ⟨bp,0,none⟩),.pointer (some ⟨bc,0,none⟩),.pointer (some ⟨br,0,none⟩)])) :
  Calls Tryz.prog 120 #[.pointer (some ⟨pb,0,none⟩)] w fun e w'=>∃(y:An) (A':Option Addr),(0 < n→A'=some ⟨g,off+1,none⟩)∧y.x=x∧e=.returned (.tuple #[.int .u64 (hdl ns.length),.bool ((n:Int) == 0),.int .i64 0])∧ArM A w' (ns++[y]) st∧Ch (fun k=>A.mut k∨k=rb∨k=pb) w w'∧(∀k,y.kb k→w.heap.size≤k)∧Blk w' rb 102 #[.int .u64 (hdl ns.length),r1,r2,r3,r4]∧Blk w' pb 248 #[.pointer (some ⟨A.ab,0,none⟩),.slice A' n (c - 1),rv]:=by
 have H:=hid h
 have HP:=hid hP
 have HX:=hid hx
 have HBP:=hid hp
 have HBC:=hid hc
 have HBR:=hid hr
 have HPEN:=hid hpen
 have HRB:=hid hrb
 have HK:=hid hkids
 have HRK:=hid hrk
 have HCON:=hid hcon
 have HIN:=hid hin
 have HPK:=hid hpk
 clear h hP hx hp hc hr hpen hrb hkids hrk hcon hin hpk
 have c1:w.cell? ⟨pb,1,none⟩=some (.slice (some ⟨g,off,none⟩) (n+1) c):=HPEN.out.cell 1
 have d1:(((n+1:Nat):Int) == 0)=false:=by rw [beq_eq_false_iff_ne];omega
 have d2:(n+1 == 0)=false:=by simp
 obtain ⟨A',hA'⟩:∃A':Option Addr,A'=if c=1 then some ⟨g,off,none⟩ else some ⟨g,off+1,none⟩:=⟨_,rfl⟩
 have hsl:∀W,(Instr.sliceAt 245 (.slice (some ⟨g,off,none⟩) (n+1) c) (some (.int .i64 1)) none none).run Tryz.prog W=.ok (.slice A' n (c - 1)) W:=fun W=>by
  have t:=run_slice_low (P:=Tryz.prog) 245 276 1 Tryz.underlying245 (by kernel_rfl) (some ⟨g,off,none⟩) (n+1) c 1 (by omega) hcn W
  rw [hA']
  simpa [Addr.add] using t
 have hA1:0 < n→A'=some ⟨g,off+1,none⟩:=fun h0=>by rw [hA',if_neg (by omega)]
 have HA:=hid hA1
 clear hA' hA1
 go_enter Tryz.func120,Tryz.ntmps120
 go_wp2_with fail
 refine (put1_any A ns st x bp bc br pb rb F caps _ rv r1 r2 r3 r4 w H.out HP.out HX.out HBP.out HBC.out HBR.out HPEN.out HRB.out HK.out hroom hn HRK.out HCON.out HIN.out).mono ?_
 rintro e w2 ⟨y,hy,rfl,hM,hC,hyk,hB⟩
 have HM:=hid hM
 have HC:=hid hC
 have HY:=hid hyk
 have HB:=hid hB
 have hnp:¬(A.mut pb∨pb=rb):=fun e=>by
  rcases e with e | e
  ·exact H.out.off HPEN.out (by decide) (by decide) (by decide) e
  ·exact Blk.ne HPEN.out HRB.out (by decide) e
 have HNP:=hid hnp
 have P2:=hid (HC.out.blk HPEN.out hnp)
 clear hM hC hyk hB hnp c1 hit
 have c1:w2.cell? ⟨pb,1,none⟩=some (.slice (some ⟨g,off,none⟩) (n+1) c):=P2.out.cell 1
 have s1:=P2.out.free 1
 go_wp2_with fail
 refine at_world fun W3 hW3=>?_
 have P3:=hid (show Blk W3 pb 248 #[.pointer (some ⟨A.ab,0,none⟩),.slice A' n (c - 1),rv] from by rw [hW3];exact P2.out.put 1 _)
 have C3:=hid (show Ch (fun k=>k=pb) w2 W3 from by rw [hW3];exact (Ch.refl (fun k=>k=pb) w2).set (fun _=>rfl) _)
 clear hW3 c1 s1 hsl
 have c1:W3.cell? ⟨pb,1,none⟩=some (.slice A' n (c - 1)):=P3.out.cell 1
 refine Mix.wp_region_mix (fun _=>True) (fun i=>([0,0,0,0,0,0,0,0,0,0]:List Nat).getD i 0) [0,1,2,3,4,5,6,7,8,9] (by kernel_rfl) (by kernel_rfl) ?_
 repeat ((first | refine Mix.q1 rfl ?_ | refine Mix.p1 rfl rfl ?_ | refine Mix.s1 rfl rfl ?_);go_big_quiet_step (fail);refine wpQuiet_nil ?_)
 intro y5
 go_wp2_with fail
 refine bodyPost_ret (v:=.tuple #[.int .u64 (hdl ns.length),.bool ((n:Int) == 0),.int .i64 0]) (by simp [results,Tryz.results120,go_sem]) rfl ⟨y,A',HA.out,hy,rfl,HM.out.keep (C3.out.drewN y5) (fun k hk hf e=>?_),(HC.out.mono (fp':=fun k=>A.mut k∨k=rb∨k=pb) (fun _ _ e=>e.elim .inl (fun e=>.inr (.inl e)))).trans (C3.out.drewN y5) (fun _ _ e=>.inr (.inr e)),HY.out,(C3.out.blk HB.out (fun e=>HNP.out (.inr e.symm))).drewN y5,P3.out.drewN y5⟩
 subst e
 rcases hf with hf | hf | hf | ⟨z,hz,hf⟩
 ·exact H.out.off HPEN.out (by decide) (by decide) (by decide) hf
 ·exact Blk.ne HPEN.out H.out.b0 (by decide) hf
 ·exact Blk.ne HPEN.out H.out.b2 (by decide) hf
 ·rcases List.mem_append.1 hz with hz | hz
  ·exact HPK.out z hz hf
  ·simp at hz
   subst hz
   have:=HY.out _ hf
   have:=HPEN.out.lt
   omega
theorem fit_bounds (t:T):∀h,T.fit h t→t.bytes≤65536→loB h≤t.bytes∧t.bytes≤hiB h:=by
 induction t using T.ind with
 | hl s=>
  intro h hf _
  obtain ⟨rfl,h1,h2⟩:=fit_leaf hf
  exact ⟨by simpa [loB,T.bytes] using h1,by simp only [hiB,T.bytes];omega⟩
 | hn k ks ih=>
  intro h hf hb
  obtain ⟨m,rfl,rfl,h1,h2,h3⟩:=fit_node hf
  have key:∀l:List T,(∀t ∈ l,loB m≤t.bytes∧t.bytes≤hiB m)→loB m * l.length≤T.bytesL l∧T.bytesL l≤hiB m * l.length:=by
   intro l
   induction l with
   | nil=>intro _;simp [T.bytesL]
   | cons t ts ih'=>
    intro hl
    obtain ⟨a,b⟩:=ih' (fun t ht=>hl t (by simp [ht]))
    obtain ⟨c,d⟩:=hl t (by simp)
    simp only [T.bytesL,List.length_cons,Nat.mul_succ]
    omega
  simp only [T.bytes] at hb ⊢
  have hle:∀t ∈ ks,t.bytes≤T.bytesL ks:=by
   intro t ht
   clear ih hf h3 hb key h1 h2
   induction ks with
   | nil=>simp at ht
   | cons u us ih=>
    simp only [T.bytesL]
    rcases List.mem_cons.1 ht with rfl | ht
    ·omega
    ·have:=ih ht;omega
  obtain ⟨a,b⟩:=key ks (fun t ht=>ih t ht m (h3 t ht) (by have:=hle t ht;omega))
  rw [lo_succ,hi_succ]
  have e1:loB m * 2≤loB m * ks.length:=Nat.mul_le_mul_left _ h1
  have e2:hiB m * ks.length≤hiB m * 4:=Nat.mul_le_mul_left _ h2
  omega
def mAt (n:Nat) (l:List Sp) (j:Nat):Ms:=match l[j - n]? with
 | some q=>q.m
 | none=>⟨0,0,0⟩
def SpOK (n:Nat) (l:List Sp) (i:Nat) (sp:Sp):Prop:=(sp.h=0∧1≤sp.s.size∧sp.s.size≤16∧sp.ks=[]∧sp.m=mOf sp.s)∨
 (1≤sp.h∧sp.h≤16∧sp.s=⟨#[]⟩∧2≤sp.ks.length∧sp.ks.length≤4∧(∀j ∈ sp.ks,∃q,n≤j∧j < n+i∧l[j - n]?=some q∧q.h+1=sp.h∧q.m.ord∧(loB q.h:Int)≤q.m.b∧q.m.b≤(hiB q.h:Int))∧sp.m=msum (sp.ks.map (mAt n l))∧sp.m.b≤65536)
def PostOK (n:Nat) (l:List Sp):Prop:=∀i sp,l[i]?=some sp→SpOK n l i sp
theorem SpOK.app {n i:Nat} {l l2:List Sp} {sp:Sp} (h:SpOK n l i sp):SpOK n (l++l2) i sp:=by
 rcases h with h | ⟨h1,h2,h3,h4,h5,h6,h7,h8⟩
 ·exact .inl h
 ·have key:∀(j:Nat) (q:Sp),l[j - n]?=some q→(l++l2)[j - n]?=some q:=fun j q hj=>by
   rw [List.getElem?_append_left (List.getElem?_eq_some_iff.1 hj).1,hj]
  refine .inr ⟨h1,h2,h3,h4,h5,fun j hj=>?_,?_,h8⟩
  ·obtain ⟨q,a,b,c,d⟩:=h6 j hj
   exact ⟨q,a,b,key j q c,d⟩
  ·rw [h7]
   congr 1
   refine List.map_congr_left fun j hj=>?_
   obtain ⟨q,a,b,c,d⟩:=h6 j hj
   unfold mAt
   rw [c,key j q c]
theorem SpOK.shift {n i:Nat} {l l2:List Sp} {sp:Sp} (h:SpOK (n+l.length) l2 i sp):SpOK n (l++l2) (l.length+i) sp:=by
 rcases h with h | ⟨h1,h2,h3,h4,h5,h6,h7,h8⟩
 ·exact .inl h
 ·have key:∀(j:Nat) (q:Sp),n+l.length≤j→l2[j - (n+l.length)]?=some q→(l++l2)[j - n]?=some q:=fun j q hn hj=>by
   rw [List.getElem?_append_right (by omega),show j - n - l.length=j - (n+l.length) by omega,hj]
  refine .inr ⟨h1,h2,h3,h4,h5,fun j hj=>?_,?_,h8⟩
  ·obtain ⟨q,a,b,c,d⟩:=h6 j hj
   exact ⟨q,by omega,by omega,key j q a c,d⟩
  ·rw [h7]
   congr 1
   refine List.map_congr_left fun j hj=>?_
   obtain ⟨q,a,b,c,d⟩:=h6 j hj
   unfold mAt
   rw [c,key j q a c]
theorem PostOK.app {n:Nat} {l l2:List Sp} (h:PostOK n l) (h2:PostOK (n+l.length) l2):PostOK n (l++l2):=by
 intro i sp hi
 by_cases hl:i < l.length
 ·rw [List.getElem?_append_left hl] at hi
  exact (h i sp hi).app
 ·rw [List.getElem?_append_right (by omega)] at hi
  have t:=(h2 _ sp hi).shift
  rw [show l.length+(i - l.length)=i by omega] at t
  exact t
theorem post_last' (t:T) (n:Nat):∃sp,(T.post n t)[t.cnt - 1]?=some sp∧sp.m=t.meas∧sp.h=t.ht:=by
 cases t with
 | leaf s=>exact ⟨_,rfl,rfl,rfl⟩
 | node h ks=>
  refine ⟨⟨h,⟨#[]⟩,rootL n ks,msum (T.measL ks)⟩,?_,rfl,rfl⟩
  simp only [T.post,T.cnt]
  rw [List.getElem?_append_right (by rw [postL_len];omega),postL_len,show T.cntL ks+1 - 1 - T.cntL ks=0 by omega]
  rfl
theorem root_at (ts:List T):∀(n:Nat),∀j ∈ rootL n ts,∃q,∃t ∈ ts,(T.postL n ts)[j - n]?=some q∧q.m=t.meas∧q.h=t.ht:=by
 induction ts with
 | nil=>intro n j hj;simp [rootL] at hj
 | cons t ts ih=>
  intro n j hj
  simp only [rootL,List.mem_cons] at hj
  have hc:=cnt_pos t
  rcases hj with rfl | hj
  ·obtain ⟨q,hq,h1,h2⟩:=post_last' t n
   refine ⟨q,t,by simp,?_,h1,h2⟩
   simp only [T.postL]
   rw [List.getElem?_append_left (by rw [post_len];omega),show n+t.cnt - 1 - n=t.cnt - 1 by omega]
   exact hq
  ·obtain ⟨q,u,hu,hq,h1,h2⟩:=ih _ j hj
   have hb:=rootL_bd ts _ j hj
   refine ⟨q,u,by simp [hu],?_,h1,h2⟩
   simp only [T.postL]
   rw [List.getElem?_append_right (by rw [post_len];omega),post_len,show j - n - t.cnt=j - (n+t.cnt) by omega]
   exact hq
theorem root_meas (ts:List T):∀(n:Nat),(rootL n ts).map (mAt n (T.postL n ts))=T.measL ts:=by
 induction ts with
 | nil=>intro n;rfl
 | cons t ts ih=>
  intro n
  have hc:=cnt_pos t
  simp only [rootL,List.map_cons,T.measL,T.postL]
  congr 1
  ·obtain ⟨q,hq,h1,h2⟩:=post_last' t n
   unfold mAt
   rw [List.getElem?_append_left (by rw [post_len];omega),show n+t.cnt - 1 - n=t.cnt - 1 by omega,hq]
   exact h1
  ·rw [←ih (n+t.cnt)]
   refine List.map_congr_left fun j hj=>?_
   have hb:=rootL_bd ts _ j hj
   unfold mAt
   rw [List.getElem?_append_right (by rw [post_len];omega),post_len,show j - n - t.cnt=j - (n+t.cnt) by omega]
theorem post_ok (t:T):∀g,g≤16→T.fit g t→t.bytes≤65536→∀n,PostOK n (T.post n t):=by
 induction t using T.ind with
 | hl s=>
  intro g _ hf _ n i sp hi
  obtain ⟨_,h1,h2⟩:=fit_leaf hf
  match i,hi with
  | 0,hi=>
   simp [T.post] at hi
   subst hi
   exact .inl ⟨rfl,by show 1≤s.size;omega,h2,rfl,rfl⟩
  | i+1,hi=>simp [T.post] at hi
 | hn k ks ih=>
  intro g hg hf hb n
  obtain ⟨m,rfl,rfl,h1,h2,h3⟩:=fit_node hf
  simp only [T.bytes] at hb
  have hle:∀(l:List T),∀t ∈ l,t.bytes≤T.bytesL l:=by
   intro l t ht
   induction l with
   | nil=>simp at ht
   | cons u us ih=>
    simp only [T.bytesL]
    rcases List.mem_cons.1 ht with rfl | ht
    ·omega
    ·have:=ih ht;omega
  have hL:∀(l:List T) (n:Nat),(∀t ∈ l,∀n,PostOK n (T.post n t))→PostOK n (T.postL n l):=by
   intro l
   induction l with
   | nil=>intro n _ i sp hi;simp [T.postL] at hi
   | cons t ts ih'=>
    intro n h
    simp only [T.postL]
    refine (h t (by simp) n).app ?_
    rw [post_len]
    exact ih' _ (fun t ht=>h t (by simp [ht]))
  have hks:=hL ks n (fun t ht n=>ih t ht m (by omega) (h3 t ht) (by have:=hle ks t ht;omega) n)
  simp only [T.post]
  intro i sp hi
  by_cases hl:i < (T.postL n ks).length
  ·rw [List.getElem?_append_left hl] at hi
   exact (hks i sp hi).app
  ·have hlt:=(List.getElem?_eq_some_iff.1 hi).1
   simp at hlt
   rw [postL_len] at hl hlt
   rw [List.getElem?_append_right (by rw [postL_len];omega),postL_len,show i - T.cntL ks=0 by omega] at hi
   simp at hi
   subst hi
   have hkey:∀j ∈ rootL n ks,∃q,n≤j∧j < n+i∧(T.postL n ks)[j - n]?=some q∧q.h+1=m+1∧q.m.ord∧(loB q.h:Int)≤q.m.b∧q.m.b≤(hiB q.h:Int):=fun j hj=>by
    obtain ⟨q,t,ht,hq,e1,e2⟩:=root_at ks n j hj
    have hbd:=rootL_bd ks n j hj
    have hfit:=h3 t ht
    have hht:=T.fit_ht hfit
    obtain ⟨b1,b2⟩:=fit_bounds t m hfit (by have:=hle ks t ht;omega)
    obtain ⟨m1,m2⟩:=meas_bytes t
    refine ⟨q,hbd.1,by omega,hq,by omega,by rw [e1];exact m2,?_,?_⟩
    ·rw [e1,e2,hht,m1];omega
    ·rw [e1,e2,hht,m1];omega
   refine .inr ⟨by show 1≤m+1;omega,hg,rfl,by show 2≤(rootL n ks).length;rw [rootL_len];exact h1,by show (rootL n ks).length≤4;rw [rootL_len];exact h2,fun j hj=>?_,?_,?_⟩
   ·obtain ⟨q,a,b,c,d⟩:=hkey j hj
    exact ⟨q,a,b,by rw [List.getElem?_append_left (List.getElem?_eq_some_iff.1 c).1,c],d⟩
   ·show msum (T.measL ks)=_
    congr 1
    rw [←root_meas ks n]
    refine List.map_congr_left fun j hj=>?_
    obtain ⟨q,a,b,c,d⟩:=hkey j hj
    unfold mAt
    rw [c,List.getElem?_append_left (List.getElem?_eq_some_iff.1 c).1,c]
   ·show (msum (T.measL ks)).b≤65536
    rw [measL_b]
    omega
theorem gpost_ok (t:T) (hg:t.good) (hb:t.bytes≤65536) (n:Nat):PostOK n (T.post n t):=by
 rcases hg with ⟨s,rfl,h1,h2⟩ | ⟨g,hg16,hf⟩
 ·intro i sp hi
  match i,hi with
  | 0,hi=>
   simp [T.post] at hi
   subst hi
   exact .inl ⟨rfl,h1,h2,rfl,rfl⟩
  | i+1,hi=>simp [T.post] at hi
 ·exact post_ok t g hg16 hf hb n
def Sp.nd (n0:Nat) (l:List Sp) (sp:Sp):Nd:=⟨sp.h,sp.s,sp.ks.map fun j=>⟨n0+j,mAt 0 l j⟩⟩
theorem nd_ms {n0 i:Nat} {l:List Sp} {sp:Sp} (h:SpOK 0 l i sp):(sp.nd n0 l).ms=sp.m:=by
 rcases h with ⟨h1,h2,h3,h4,h5⟩ | ⟨h1,h2,h3,h4,h5,h6,h7,h8⟩
 ·simp [Nd.ms,Sp.nd,h1,h5]
 ·have:sp.h≠0:=by omega
  simp [Nd.ms,Sp.nd,this]
  rw [h7]
  rfl
theorem nd_ok {n0 i:Nat} {l:List Sp} {sp:Sp} (h:SpOK 0 l i sp) (hi:n0+i≤16384):(sp.nd n0 l).ok:=by
 rcases h with ⟨h1,h2,h3,h4,h5⟩ | ⟨h1,h2,h3,h4,h5,h6,h7,h8⟩
 ·exact .inl ⟨h1,h2,h3,by simp [Sp.nd,h4]⟩
 ·refine .inr ⟨h1,h2,h3,by simpa [Sp.nd] using h4,by simpa [Sp.nd] using h5,fun k hk=>?_,?_⟩
  ·obtain ⟨j,hj,rfl⟩:=List.mem_map.1 hk
   obtain ⟨q,a,b,c,d,o,e,f⟩:=h6 j hj
   have hm:mAt 0 l j=q.m:=by unfold mAt;rw [c]
   have hh:sp.h - 1=q.h:=by omega
   show Kd.ok (sp.h - 1) ⟨n0+j,mAt 0 l j⟩
   rw [hm,hh]
   exact ⟨by show n0+j < 16384;omega,e,f,o.1,o.2.1,o.2.2⟩
  ·have:(sp.nd n0 l).ks.map Kd.m=sp.ks.map (mAt 0 l):=by simp [Sp.nd,Function.comp_def]
   rw [this,←h7]
   exact h8
structure PenM (A:ArA) (w:World) (W0:Nat) (ns:List An) (st:Int) (pb g rl:Nat) (sps:List Sp) (its:List It) (k:Nat) (ys:List An):Prop where
 len:its.length=sps.length
 yl:ys.length=k
 kle:k≤sps.length
 ok:PostOK 0 sps
 ar:ArM A w (ns++ys) st
 ap:ArP (ns++ys)
 yx:∀(j:Nat) (y:An),ys[j]?=some y→∃sp,sps[j]?=some sp∧y.x=sp.nd ns.length sps
 pen:∃(a:Option Addr) (c:Nat),Blk w pb 248 #[.pointer (some ⟨A.ab,0,none⟩),.slice a (sps.length - k) c,.pointer (some ⟨rl,0,none⟩)]∧(k < sps.length→a=some ⟨g,k,none⟩∧sps.length - k≤c)
 todo:∃cs:Array Value,Blk w g 276 cs∧∀(j:Nat) (it:It),its[j]?=some it→cs[j]?=some it.v
 item:∀(i:Nat) (sp:Sp) (it:It),sps[i]?=some sp→its[i]?=some it→ItemM w (fun _=>True) pb (fOf 0 its) sp it
 root:∀(i:Nat) (sp:Sp) (it:It),sps[i]?=some sp→its[i]?=some it→RootM w sp it (if i < k then hdl (ns.length+i) else 0)
 diff:∀(i j:Nat) (it it':It),its[i]?=some it→its[j]?=some it'→i≠j→it.rb≠it'.rb
 off:∀y ∈ ns++ys,∀b,y.kb b→b≠pb∧∀it ∈ its,b≠it.rb
 rlast:∃it,its[sps.length - 1]?=some it∧it.rb=rl
 old:W0≤pb∧W0≤g∧∀it ∈ its,W0≤it.rb
theorem begin_any (A:ArA) (ns:List An) (st:Int) (t:T) (cs:List Value) (S:Nat→Prop) (w:World) (h:ArM A w ns st) (hP:ArP ns) (hg:t.good) (hT:TreeAt w S t cs) (hb:t.bytes≤65536) (hc:t.cnt≤60000) (hroom:t.cnt≤A.n - ns.length) (hn:A.n≤16384) :
  Calls Tryz.prog 119 #[.pointer (some ⟨A.ab,0,none⟩),.agg cs.toArray] w fun e w'=>∃pb g rl its,e=.returned (.tuple #[.pointer (some ⟨pb,0,none⟩),.int .i64 0])∧PenM A w' w.heap.size ns st pb g rl (T.post 0 t) its 0 []∧Ch (fun _=>False) w w':=by
 obtain ⟨s,a,n,c,rfl⟩:=hT.form
 have d1:decide (A.n - ns.length < t.cnt)=false:=decide_eq_false (by omega)
 have d2:decide (((A.n - ns.length:Nat):Int) < (t.cnt:Int))=false:=decide_eq_false (by omega)
 obtain ⟨F,hF⟩:∃F,F=A.n - ns.length:=⟨_,rfl⟩
 rw [←hF] at d1 d2
 obtain ⟨TC,hTC⟩:∃x,x=t.cnt:=⟨_,rfl⟩
 rw [←hTC] at d1 d2
 have H:=hid h
 have HP:=hid hP
 have HG:=hid hg
 have HT:=hid hT
 have HF:=hid hF
 have HTC:=hid hTC
 have HB:=hid hb
 have HC:=hid hc
 clear h hP hT hg hF hTC hroom hb hc
 go_enter Tryz.func119,Tryz.ntmps119
 go_wp2_with fail
 refine calls_world fun W1 hW1=>?_
 have C1:=hid (show Ch (fun _=>False) w W1 from by rw [hW1];exact (Ch.refl _ w).alloc _)
 have T1:=hid (HT.out.keep C1.out (fun _ _ _=>id) (fun _ _ h=>h) (S':=S))
 have K1:=hid (show Blk W1 w.heap.size 183 #[.int .u64 0,.int .i64 (Int.ofNat t.ht),.int .i64 0,.int .i64 0,.int .i64 0,.string s,.slice a n c] from by rw [hW1];exact Blk.new w _ _)
 clear hW1
 refine (pcheck_any A.ab t _ W1 S HG.out T1.out HB.out).mono ?_
 rintro e W2 ⟨rfl,hc2⟩
 have C2:=hid (C1.out.trans hc2 (fun _ _ e=>e))
 have K2:=hid (hc2.blk K1.out id)
 have T2:=hid (T1.out.keep hc2 (fun _ _ _=>id) (fun _ _ h=>h) (S':=S))
 clear hc2 C1 T1 K1
 have k0:W2.cell? ⟨w.heap.size,0,none⟩=some (.int .u64 0):=K2.out.cell 0
 have k1:W2.cell? ⟨w.heap.size,1,none⟩=some (.int .i64 (Int.ofNat t.ht)):=K2.out.cell 1
 have k2:W2.cell? ⟨w.heap.size,2,none⟩=some (.int .i64 0):=K2.out.cell 2
 have k3:W2.cell? ⟨w.heap.size,3,none⟩=some (.int .i64 0):=K2.out.cell 3
 have k4:W2.cell? ⟨w.heap.size,4,none⟩=some (.int .i64 0):=K2.out.cell 4
 have k5:W2.cell? ⟨w.heap.size,5,none⟩=some (.string s):=K2.out.cell 5
 have k6:W2.cell? ⟨w.heap.size,6,none⟩=some (.slice a n c):=K2.out.cell 6
 go_wp2_with fail
 refine (gnew_any t _ W2 S HG.out T2.out (by have:=HC.out;omega)).mono ?_
 rintro e W3 ⟨rfl,hc3⟩
 have C3:=hid (C2.out.trans hc3 (fun _ _ e=>e))
 have K3:=hid (hc3.blk K2.out id)
 have T3:=hid (T2.out.keep hc3 (fun _ _ _=>id) (fun _ _ h=>h) (S':=S))
 clear hc3 C2 T2 K2 k0 k1 k2 k3 k4 k5 k6
 rw [←HTC.out]
 go_wp2_with fail
 refine (statsM A ns st hn W3 (H.out.keep0 C3.out)).mono ?_
 rintro e W4 ⟨rfl,hc4⟩
 rw [←HF.out]
 have C4:=hid (C3.out.trans hc4 (fun _ _ e=>e))
 have K4:=hid (hc4.blk K3.out id)
 have T4:=hid (T3.out.keep hc4 (fun _ _ _=>id) (fun _ _ h=>h) (S':=S))
 clear hc4 C3 T3 K3
 have k0:W4.cell? ⟨w.heap.size,0,none⟩=some (.int .u64 0):=K4.out.cell 0
 have k1:W4.cell? ⟨w.heap.size,1,none⟩=some (.int .i64 (Int.ofNat t.ht)):=K4.out.cell 1
 have k2:W4.cell? ⟨w.heap.size,2,none⟩=some (.int .i64 0):=K4.out.cell 2
 have k3:W4.cell? ⟨w.heap.size,3,none⟩=some (.int .i64 0):=K4.out.cell 3
 have k4:W4.cell? ⟨w.heap.size,4,none⟩=some (.int .i64 0):=K4.out.cell 4
 have k5:W4.cell? ⟨w.heap.size,5,none⟩=some (.string s):=K4.out.cell 5
 have k6:W4.cell? ⟨w.heap.size,6,none⟩=some (.slice a n c):=K4.out.cell 6
 have hwl:w.heap.size < W4.heap.size:=K4.out.lt
 have hfd:∀W,(Instr.field 97 (.agg #[.int .i64 (A.n:Int),.int .i64 (F:Int),.int .i64 (ns.length:Int),.int .i64 0,.int .i64 (ns.length:Int),.int .i64 0,.int .i64 st]) 1).run Tryz.prog W=.ok (.int .i64 (F:Int)) W:=fun W=>by kernel_rfl
 go_wp2_with fail
 refine calls_world fun W5 hW5=>?_
 obtain ⟨pb,hpb⟩:∃x,x=W4.heap.size:=⟨_,rfl⟩
 rw [←hpb]
 have C5:=hid (show Ch (fun _=>False) w W5 from by rw [hW5];exact C4.out.alloc _)
 have P5:=hid (show Blk W5 pb 248 #[.pointer (some ⟨A.ab,0,none⟩),.slice none 0 0,.pointer none] from by rw [hW5,hpb];exact Blk.new W4 _ _)
 have T5:=hid (show TreeAt W5 (fun k=>S k∧k < W4.heap.size) t [.int .u64 0,.int .i64 (Int.ofNat t.ht),.int .i64 0,.int .i64 0,.int .i64 0,.string s,.slice a n c] from by rw [hW5];exact T4.out.keep ((Ch.refl (fun _=>False) W4).alloc _) (fun _ _ _=>id) (fun k hk h=>⟨h,hk⟩))
 clear hW5 k0 k1 k2 k3 k4 k5 k6 hfd
 have HPB:=hid hpb
 have hwpb:w.heap.size≤pb:=by omega
 have hsz5:=C5.out.size
 refine (gadd_any t HG.out _ w.heap.size pb (.pointer (some ⟨A.ab,0,none⟩)) (.pointer none) W5 (fun k=>S k∧k < W4.heap.size) 0 (.slice none 0 0) [] T5.out P5.out (World.ownsRow_nil _ _ _ _) hsz5 (by have:=HC.out;omega) (fun k hk e=>by
  rcases e with e | e
  ·have:=hk.2;omega
  ·simp [Value.ownBlock] at e) HB.out).mono ?_
 rintro e W6 ⟨its,it0,todo',rfl,hl,hp6,ho6,hI6,hr6,hc6,hf6⟩
 have P6:=hid hp6
 have O6:=hid ho6
 have I6:=hid hI6
 have R6:=hid hr6
 have C6:=hid hc6
 have L6:=hid hl
 clear hp6 ho6 hI6 hr6 hc6 hf6 hl
 have c2:W6.cell? ⟨pb,2,none⟩=some (.pointer none):=P6.out.cell 2
 have s2:=P6.out.free 2
 rw [HPB.out] at c2 s2
 go_wp2_with fail
 refine at_world fun W7 hW7=>?_
 have P7:=hid (show Blk W7 pb 248 #[.pointer (some ⟨A.ab,0,none⟩),todo',.pointer (some ⟨it0.rb,0,none⟩)] from by rw [hW7,←HPB.out];exact P6.out.put 2 _)
 have C7:=hid (show Ch (fun k=>k=pb) W6 W7 from by rw [hW7,←HPB.out];exact (Ch.refl (fun k=>k=pb) W6).set (fun _=>rfl) _)
 clear hW7 c2 s2
 have htc:=HTC.out
 have hcp:=cnt_pos t
 obtain ⟨_,hO⟩:=O6.out
 obtain ⟨g,cap,cur,rfl,hgB,hgb,hcap,_,_,hcur⟩:=hO.resolve_left (fun e=>by have:=e.2;omega)
 have hgb':Blk W6 g 276 cur:=hgb
 rw [List.nil_append] at hcur
 have hsl:(T.post 0 t).length=t.cnt:=post_len t 0
 have hilen:its.length=t.cnt:=by rw [I6.out.len,hsl]
 have I7:=I6.out.keep (S':=fun _=>True) C7.out (fun j u cs hb hq hs e=>Blk.ne hb P6.out (fun e=>absurd (e ▸ hq) (by unfold QT;decide)) e) (fun _ _ _=>trivial) (fun it hit e=>by
  obtain ⟨cs,hb⟩:=I6.out.rblk it hit
  exact Blk.ne hb P6.out (by decide) e)
 have C56:=C6.out
 have hsz6:=C6.out.size
 have C07:Ch (fun _=>False) w W7:=(C5.out.trans C6.out (fun i hi e=>by
  rcases e with e | e
  ·omega
  ·simp [Value.ownBlock] at e)).trans C7.out (fun i hi e=>by omega)
 have hM:=H.out.keep0 C07
 refine bodyPost_ret (v:=.tuple #[.pointer (some ⟨W4.heap.size,0,none⟩),.int .i64 0]) (by simp [results,Tryz.results119,go_sem]) rfl ⟨pb,g,it0.rb,its,by rw [HPB.out],⟨by rw [hilen,hsl],rfl,Nat.zero_le _,gpost_ok t HG.out HB.out 0,by simpa using hM,by simpa using HP.out,fun j y hj=>by simp at hj,⟨_,cap,?_,fun _=>⟨rfl,?_⟩⟩,⟨cur,C7.out.blk hgb' (fun e=>Blk.ne hgb' P6.out (by decide) e),fun j it hj=>?_⟩,I7.item,fun i sp it h1 h2=>?_,I7.diff,fun y hy b hyb=>?_,⟨it0,by rw [hsl];exact L6.out,rfl⟩,hwpb,hgB,fun it hit=>?_⟩,C07⟩
 ·have t:=P7.out
  rw [hsl]
  simpa using t
 ·rw [hsl];simpa using hcap
 ·rw [Nat.zero_add,Nat.mul_one] at hcur
  have hj':(its.map It.v)[j]?=some it.v:=by rw [List.getElem?_map,hj];rfl
  rw [←hcur,List.getElem?_take] at hj'
  split at hj'
  ·rw [←Array.getElem?_toList];exact hj'
  ·cases hj'
 ·rw [if_neg (by omega)]
  exact I7.root i sp it h1 h2
 ·have hlt:b < w.heap.size:=H.out.foot_lt (.inr (.inr (.inr ⟨y,by simpa using hy,hyb⟩)))
  refine ⟨by omega,fun it hit=>?_⟩
  have:=R6.out it hit
  omega
 ·have:=R6.out it hit
  omega
theorem in1 (args:Array Value) (w:World):(callFunc 161 args).run Tryz.prog w=.ok (.enter 161 args) w:=callF_enter Tryz.func161 (by kernel_rfl) rfl args w
theorem in2 (args:Array Value) (w:World):(callFunc 162 args).run Tryz.prog w=.ok (.enter 162 args) w:=callF_enter Tryz.func162 (by kernel_rfl) rfl args w
theorem ArP.snoc {ns:List An} {y:An} (h:ArP ns) (hx:y.x.ok) (hk:∀k ∈ y.x.ks,∃z,ns[k.at']?=some z∧z.x.h+1=y.x.h∧z.x.ms=k.m):ArP (ns++[y]):=by
 refine ⟨fun z hz=>?_,fun i z hz k hk'=>?_⟩
 ·rcases List.mem_append.1 hz with hz | hz
  ·exact h.ok z hz
  ·simp at hz;subst hz;exact hx
 ·have hlt:=(List.getElem?_eq_some_iff.1 hz).1
  simp at hlt
  have key:∀(j:Nat) (u:An),ns[j]?=some u→(ns++[y])[j]?=some u:=fun j u hj=>by rw [List.getElem?_append_left (List.getElem?_eq_some_iff.1 hj).1,hj]
  by_cases hi:i < ns.length
  ·rw [List.getElem?_append_left hi] at hz
   obtain ⟨h1,u,h2,h3⟩:=h.kids i z hz k hk'
   exact ⟨h1,u,key _ _ h2,h3⟩
  ·obtain rfl:i=ns.length:=by omega
   rw [List.getElem?_append_right (by omega),Nat.sub_self] at hz
   simp at hz
   subst hz
   obtain ⟨u,h2,h3⟩:=hk k hk'
   exact ⟨(List.getElem?_eq_some_iff.1 h2).1,u,key _ _ h2,h3⟩
theorem con_any {A:ArA} {w:World} {W0:Nat} {ns:List An} {st:Int} {pb g rl:Nat} {sps:List Sp} {its:List It} {k:Nat} {ys:List An} (h:PenM A w W0 ns st pb g rl sps its k ys) {sp:Sp} {it:It} (hsp:sps[k]?=some sp) (hit:its[k]?=some it) :
  ∃F caps,Blk w it.bc 292 #[.func (.func F) #[] caps]∧(∀w',Ch (fun _=>False) w w'→Calls Tryz.prog F caps w' (ConOut (sp.nd ns.length sps) w'))∧(∀w',(callFunc F caps).run Tryz.prog w'=.ok (.enter F caps) w'):=by
 have hok:=h.ok k sp hsp
 have hI:=h.item k sp it hsp hit
 rcases hI.c with ⟨h0,h1,h2,h3⟩ | ⟨h1,h1s,h2,⟨tc,h3,h4⟩,h5,scs,h6,h7⟩
 ·refine ⟨_,_,h2.1,fun w' c=>(add1_any it.b1 sp.s w' (c.blk h3.1 id)).mono ?_,in1 _⟩
  rintro e w2 ⟨rfl,hc⟩
  refine ⟨none,0,0,by simp [Nd.v,Sp.nd,h0],?_,fun _=>⟨rfl,rfl⟩,hc⟩
  have:(sp.nd ns.length sps).ks=[]:=by simp [Sp.nd,h1]
  rw [this]
  exact InP.nil _ _ _ _ _
 ·rcases hok with ⟨e0,_⟩ | ⟨_,_,_,k4,k5,k6,_,_⟩
  ·omega
  refine ⟨_,_,h2.1,fun w' c=>(add2_any it.b1 it.b2 it.sb it.c sp.h sp.ks.length tc scs (sp.nd ns.length sps).ks w' (by simp [Sp.nd]) k5 (c.blk h3.1 id) h4 (c.blk h5.1 id) (c.blk h6.1 id) (fun i x hx=>?_)).mono ?_,in2 _⟩
  ·have hx':(sp.ks.map fun j=>(⟨ns.length+j,mAt 0 sps j⟩:Kd))[i]?=some x:=hx
   rw [List.getElem?_map] at hx'
   obtain ⟨j,hj,rfl⟩:=Option.map_eq_some_iff.1 hx'
   obtain ⟨r,hr,hs⟩:=h7 i j hj
   obtain ⟨q,_,hjk,hq,_⟩:=k6 j (List.mem_of_getElem? hj)
   rw [Nat.sub_zero] at hq
   unfold fOf at hr
   rw [if_pos (Nat.zero_le _),Nat.sub_zero] at hr
   obtain ⟨itj,hitj,rfl⟩:=Option.map_eq_some_iff.1 hr
   have hroot:=h.root j q itj hq hitj
   rw [if_pos (by omega)] at hroot
   have hm:mAt 0 sps j=q.m:=by unfold mAt;rw [Nat.sub_zero,hq]
   refine ⟨itj.rb,(q.h:Int),hs,?_⟩
   show Blk w' itj.rb 102 #[.int .u64 (hdl (ns.length+j)),.int .i64 (q.h:Int),.int .i64 (mAt 0 sps j).b,.int .i64 (mAt 0 sps j).r,.int .i64 (mAt 0 sps j).l]
   rw [hm]
   exact c.blk hroot id
  ·rintro e w2 ⟨a,c',rfl,ho,hc⟩
   refine ⟨a,sp.ks.length,c',by simp [Nd.v,Sp.nd,h1s],?_,fun e0=>?_,hc⟩
   ·exact InP.ofOwn kd_len (by simp [Sp.nd]) ho _ (fun _ _ h=>h)
   ·have:sp.ks=[]:=by simpa [Sp.nd] using e0
    rw [this] at k4
    simp at k4
theorem pen_step {A:ArA} {w:World} {W0:Nat} {ns:List An} {st:Int} {pb g rl:Nat} {sps:List Sp} {its:List It} {k:Nat} {ys:List An} (h:PenM A w W0 ns st pb g rl sps its k ys) (hk:k < sps.length) (hroom:ns.length+sps.length≤A.n) (hn:A.n≤16384) :
  Calls Tryz.prog 120 #[.pointer (some ⟨pb,0,none⟩)] w fun e w'=>∃y,e=.returned (.tuple #[.int .u64 (hdl (ns.length+k)),.bool (((sps.length - (k+1):Nat):Int) == 0),.int .i64 0])∧PenM A w' W0 ns st pb g rl sps its (k+1) (ys++[y])∧Ch (fun j=>A.mut j∨j=pb∨∃it ∈ its,it.rb=j) w w'∧∀b,y.kb b→w.heap.size≤b:=by
 obtain ⟨sp,hsp⟩:∃sp,sps[k]?=some sp:=⟨_,List.getElem?_eq_getElem hk⟩
 obtain ⟨it,hit⟩:∃it,its[k]?=some it:=⟨_,List.getElem?_eq_getElem (by rw [h.len];exact hk)⟩
 have hok:=h.ok k sp hsp
 have hI:=h.item k sp it hsp hit
 have hR:=h.root k sp it hsp hit
 rw [if_neg (Nat.lt_irrefl k)] at hR
 obtain ⟨F,caps,hbc,hcon,hin⟩:=con_any h hsp hit
 obtain ⟨a,c,hpen,hac⟩:=h.pen
 obtain ⟨rfl,hcn⟩:=hac hk
 obtain ⟨tcs,htc,htv⟩:=h.todo
 have hpbl:=hpen.lt
 have hlen:(ns++ys).length=ns.length+k:=by rw [List.length_append,h.yl]
 have hkids:∀kd ∈ (sp.nd ns.length sps).ks,∃z,(ns++ys)[kd.at']?=some z∧z.x.h+1=(sp.nd ns.length sps).h∧z.x.ms=kd.m:=by
  intro kd hkd
  obtain ⟨j,hj,rfl⟩:=List.mem_map.1 (show kd ∈ sp.ks.map fun j=>(⟨ns.length+j,mAt 0 sps j⟩:Kd) from hkd)
  rcases hok with ⟨_,_,_,e,_⟩ | ⟨_,_,_,_,_,k6,_,_⟩
  ·rw [e] at hj;simp at hj
  ·obtain ⟨q,_,hjk,hq,hqh,_⟩:=k6 j hj
   rw [Nat.sub_zero] at hq
   obtain ⟨z,hz⟩:∃z,ys[j]?=some z:=⟨_,List.getElem?_eq_getElem (by rw [h.yl];omega)⟩
   obtain ⟨q',hq',hzx⟩:=h.yx j z hz
   rw [hq] at hq'
   injection hq' with hq'
   subst hq'
   refine ⟨z,?_,by rw [hzx];exact hqh,?_⟩
   ·show (ns++ys)[ns.length+j]?=some z
    rw [List.getElem?_append_right (by omega),show ns.length+j - ns.length=j by omega,hz]
   ·rw [hzx,nd_ms (h.ok j q hq)]
    show q.m=mAt 0 sps j
    unfold mAt
    rw [Nat.sub_zero,hq]
 refine (step_any A (ns++ys) st (sp.nd ns.length sps) it.bp it.bc it.br pb it.rb g k (sps.length - (k+1)) c F caps _ _ _ _ _ w h.ar h.ap (nd_ok hok (by omega)) hI.p.1 hbc hI.r.1 (by rw [show sps.length - (k+1)+1=sps.length - k by omega];exact hpen) hR hkids (by rw [hlen];omega) hn (fun y hy hb=>(h.off y hy _ hb).2 it (List.mem_of_getElem? hit) rfl) (fun y hy hb=>(h.off y hy _ hb).1 rfl) (by omega) hcon hin (by
  rw [htc.cell k]
  exact htv k it hit)).mono ?_
 rintro e w' ⟨y,A',hA',hy,rfl,hM,hC,hyk,hB,hP⟩
 rw [hlen] at hB ⊢
 have hnm:∀(b:Nat) (u:TypeId) (cs:Array Value),Blk w b u cs→u≠164→u≠211→u≠213→u≠102→u≠248→¬(A.mut b∨b=it.rb∨b=pb):=fun b u cs hb h1 h2 h3 h4 h5 e=>by
  rcases e with e | e | e
  ·exact h.ar.off hb h1 h2 h3 e
  ·exact Blk.ne hb hR h4 e
  ·exact Blk.ne hb hpen h5 e
 have hbnd:=hC.size
 refine ⟨y,rfl,⟨h.len,by simp [h.yl],hk,h.ok,by rw [←List.append_assoc];exact hM,?_,fun j z hz=>?_,⟨A',c - 1,hP,fun hl=>⟨hA' (by omega),by omega⟩⟩,⟨tcs,hC.blk htc (hnm _ _ _ htc (by decide) (by decide) (by decide) (by decide) (by decide)),htv⟩,fun i s t h1 h2=>?_,fun i s t h1 h2=>?_,h.diff,fun z hz b hb=>?_,h.rlast,h.old⟩,hC.mono (fun i hi e=>?_),hyk⟩
 ·rw [←List.append_assoc]
  exact h.ap.snoc (by rw [hy];exact nd_ok hok (by omega)) (by rw [hy];exact hkids)
 ·by_cases hjl:j < ys.length
  ·rw [List.getElem?_append_left hjl] at hz
   exact h.yx j z hz
  ·have hlt:=(List.getElem?_eq_some_iff.1 hz).1
   simp at hlt
   obtain rfl:j=ys.length:=by omega
   rw [List.getElem?_append_right (by omega),Nat.sub_self] at hz
   simp at hz
   subst hz
   exact ⟨sp,by rw [h.yl];exact hsp,hy⟩
 ·exact (h.item i s t h1 h2).keep hC (fun b u cs hb hq _=>hnm b u cs hb (fun e=>absurd (e ▸ hq) (by unfold QT;decide)) (fun e=>absurd (e ▸ hq) (by unfold QT;decide)) (fun e=>absurd (e ▸ hq) (by unfold QT;decide)) (fun e=>absurd (e ▸ hq) (by unfold QT;decide)) (fun e=>absurd (e ▸ hq) (by unfold QT;decide))) (fun _ _ h=>h) (fun _ _ _ h=>h)
 ·by_cases hik:i=k
  ·subst hik
   rw [hsp] at h1
   rw [hit] at h2
   injection h1 with h1
   injection h2 with h2
   subst h1 h2
   rw [if_pos (by omega)]
   exact hB
  ·have hr:=h.root i s t h1 h2
   have e:(if i < k+1 then (hdl (ns.length+i):Int) else 0)=if i < k then (hdl (ns.length+i):Int) else 0:=by
    by_cases hlt:i < k
    ·rw [if_pos hlt,if_pos (by omega)]
    ·rw [if_neg hlt,if_neg (by omega)]
   rw [e]
   refine hC.blk hr (fun e=>?_)
   rcases e with e | e | e
   ·exact h.ar.off hr (by decide) (by decide) (by decide) e
   ·exact h.diff i k t it h2 hit hik e
   ·exact Blk.ne hr hpen (by decide) e
 ·rw [←List.append_assoc] at hz
  rcases List.mem_append.1 hz with hz | hz
  ·exact h.off z hz b hb
  ·simp at hz
   subst hz
   have hge:=hyk b hb
   refine ⟨by omega,fun t ht e=>?_⟩
   obtain ⟨i,hi⟩:=List.getElem?_of_mem ht
   obtain ⟨s,hs⟩:∃s,sps[i]?=some s:=⟨_,List.getElem?_eq_getElem (by rw [←h.len];exact (List.getElem?_eq_some_iff.1 hi).1)⟩
   have:=(h.root i s t hs hi).lt
   omega
 ·rcases e with e | e | e
  ·exact .inl e
  ·exact .inr (.inr ⟨it,List.mem_of_getElem? hit,e.symm⟩)
  ·exact .inr (.inl e)
end Go.Proofs.YtjcdknhejcbpiaaGreat
