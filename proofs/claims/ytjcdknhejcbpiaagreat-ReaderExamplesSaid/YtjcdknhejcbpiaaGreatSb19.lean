/- Lemmas; no condition. -/
import Derived.Test.YtjcdknhejcbpiaaGreatSb18
set_option maxRecDepth 100000
set_option maxHeartbeats 4000000
namespace Go.Proofs.YtjcdknhejcbpiaaGreat
open Go.RowKit
set_option linter.unusedVariables false
set_option linter.unusedSimpArgs false
set_option linter.unusedSectionVars false
theorem in1 (args:Array Value) (w:World):(callFunc 161 args).run Tryz.prog w=.ok (.enter 161 args) w:=callF_enter Tryz.func161 (by kernel_rfl) rfl args w
theorem in2 (args:Array Value) (w:World):(callFunc 162 args).run Tryz.prog w=.ok (.enter 162 args) w:=callF_enter Tryz.func162 (by kernel_rfl) rfl args w
theorem ArP.snoc {ns:List An} {y:An} (h:ArP ns) (hx:y.x.ok) (hk:∀k ∈ y.x.ks,∃z,ns[k.at']?=some z/\z.x.h+1=y.x.h/\z.x.ms=k.m):ArP (ns++[y]):=by
 refine ⟨fun z hz=>?_,fun i z hz k hk'=>?_⟩
 ·rcases List.mem_append.1 hz with hz | hz
  ·exact h.ok z hz
  ·simp at hz;subst hz;exact hx
 ·have hlt:=(List.getElem?_eq_some_iff.1 hz).1
  simp at hlt
  have key:∀(j:Nat) (u:An),ns[j]?=some u->(ns++[y])[j]?=some u:=fun j u hj=>by rw [List.getElem?_append_left (List.getElem?_eq_some_iff.1 hj).1,hj]
  by_cases hi:i < ns.length
  ·rw [List.getElem?_append_left hi] at hz
   obtain ⟨h1,u,h2,h3⟩:=h.kids i z hz k hk'
   exact ⟨h1,u,key _ _ h2,h3⟩
  ·obtain rfl:i=ns.length:=by omega
   rw [List.getElem?_append_right (by omega),Nat.sub_self] at hz
   simp at hz
   subst hz
   obtain ⟨u,h2,h3⟩:=hk k hk'
   exact ⟨(List.getElem?_eq_some_iff.1 h2).1,u,key _ _ h2,h3⟩
theorem con_any {A:ArA} {w:World} {W0:Nat} {ns:List An} {st:Int} {pb g rl:Nat} {sps:List Sp} {its:List It} {k:Nat} {ys:List An} (h:PenM A w W0 ns st pb g rl sps its k ys) {sp:Sp} {it:It} (hsp:sps[k]?=some sp) (hit:its[k]?=some it) :
  ∃F caps,Blk w it.bc 292 #[.func (.func F) #[] caps]/\(∀w',Ch (fun _=>False) w w'->Calls Tryz.prog F caps w' (ConOut (sp.nd ns.length sps) w'))/\(∀w',(callFunc F caps).run Tryz.prog w'=.ok (.enter F caps) w'):=by
 have hok:=h.ok k sp hsp
 have hI:=h.item k sp it hsp hit
 rcases hI.c with ⟨h0,h1,h2,h3⟩ | ⟨h1,h1s,h2,⟨tc,h3,h4⟩,h5,scs,h6,h7⟩
 ·refine ⟨_,_,h2.1,fun w' c=>(add1_any it.b1 sp.s w' (c.blk h3.1 id)).mono ?_,in1 _⟩
  rintro e w2 ⟨rfl,hc⟩
  refine ⟨none,0,0,by simp [Nd.v,Sp.nd,h0],?_,fun _=>⟨rfl,rfl⟩,hc⟩
  have:(sp.nd ns.length sps).ks=[]:=by simp [Sp.nd,h1]
  rw [this]
  exact InP.nil _ _ _ _ _
 ·rcases hok with ⟨e0,_⟩ | ⟨_,_,_,k4,k5,k6,_,_⟩
  ·omega
  refine ⟨_,_,h2.1,fun w' c=>(add2_any it.b1 it.b2 it.sb it.c sp.h sp.ks.length tc scs (sp.nd ns.length sps).ks w' (by simp [Sp.nd]) k5 (c.blk h3.1 id) h4 (c.blk h5.1 id) (c.blk h6.1 id) (fun i x hx=>?_)).mono ?_,in2 _⟩
  {
 have hx':(sp.ks.map fun j=>(⟨ns.length+j,mAt 0 sps j⟩:Kd))[i]?=some x:=hx
 rw [List.getElem?_map] at hx'
 obtain ⟨j,hj,rfl⟩:=Option.map_eq_some_iff.1 hx'
 obtain ⟨r,hr,hs⟩:=h7 i j hj
 obtain ⟨q,_,hjk,hq,_⟩:=k6 j (List.mem_of_getElem? hj)
 rw [Nat.sub_zero] at hq
 unfold fOf at hr
 rw [if_pos (Nat.zero_le _),Nat.sub_zero] at hr
 obtain ⟨itj,hitj,rfl⟩:=Option.map_eq_some_iff.1 hr
 have hroot:=h.root j q itj hq hitj
 rw [if_pos (by omega)] at hroot
 have hm:mAt 0 sps j=q.m:=by unfold mAt;rw [Nat.sub_zero,hq]
 refine ⟨itj.rb,(q.h:Int),hs,?_⟩
 show Blk w' itj.rb 102 #[.int .u64 (hdl (ns.length+j)),.int .i64 (q.h:Int),.int .i64 (mAt 0 sps j).b,.int .i64 (mAt 0 sps j).r,.int .i64 (mAt 0 sps j).l]
 rw [hm]
 exact c.blk hroot id
 }
  ·rintro e w2 ⟨a,c',rfl,ho,hc⟩
   refine ⟨a,sp.ks.length,c',by simp [Nd.v,Sp.nd,h1s],?_,fun e0=>?_,hc⟩
   ·exact InP.ofOwn kd_len (by simp [Sp.nd]) ho _ (fun _ _ h=>h)
   ·have:sp.ks=[]:=by simpa [Sp.nd] using e0
    rw [this] at k4
    simp at k4
theorem pen_step {A:ArA} {w:World} {W0:Nat} {ns:List An} {st:Int} {pb g rl:Nat} {sps:List Sp} {its:List It} {k:Nat} {ys:List An} (h:PenM A w W0 ns st pb g rl sps its k ys) (hk:k < sps.length) (hroom:ns.length+sps.length<=A.n) (hn:A.n<=16384) :
  Calls Tryz.prog 120 #[.pointer (some ⟨pb,0,none⟩)] w fun e w'=>∃y,e=.returned (.tuple #[.int .u64 (hdl (ns.length+k)),.bool (((sps.length - (k+1):Nat):Int) == 0),.int .i64 0])/\PenM A w' W0 ns st pb g rl sps its (k+1) (ys++[y])/\Ch (fun j=>A.mut j\/j=pb\/∃it ∈ its,it.rb=j) w w'/\∀b,y.kb b->w.heap.size<=b:=by
 obtain ⟨sp,hsp⟩:∃sp,sps[k]?=some sp:=⟨_,List.getElem?_eq_getElem hk⟩
 obtain ⟨it,hit⟩:∃it,its[k]?=some it:=⟨_,List.getElem?_eq_getElem (by rw [h.len];exact hk)⟩
 have hok:=h.ok k sp hsp
 have hI:=h.item k sp it hsp hit
 have hR:=h.root k sp it hsp hit
 rw [if_neg (Nat.lt_irrefl k)] at hR
 obtain ⟨F,caps,hbc,hcon,hin⟩:=con_any h hsp hit
 obtain ⟨a,c,hpen,hac⟩:=h.pen
 obtain ⟨rfl,hcn⟩:=hac hk
 obtain ⟨tcs,htc,htv⟩:=h.todo
 have hpbl:=hpen.lt
 have hlen:(ns++ys).length=ns.length+k:=by rw [List.length_append,h.yl]
 have hkids:∀kd ∈ (sp.nd ns.length sps).ks,∃z,(ns++ys)[kd.at']?=some z/\z.x.h+1=(sp.nd ns.length sps).h/\z.x.ms=kd.m:=by
  intro kd hkd
  obtain ⟨j,hj,rfl⟩:=List.mem_map.1 (show kd ∈ sp.ks.map fun j=>(⟨ns.length+j,mAt 0 sps j⟩:Kd) from hkd)
  rcases hok with ⟨_,_,_,e,_⟩ | ⟨_,_,_,_,_,k6,_,_⟩
  ·rw [e] at hj;simp at hj
  ·obtain ⟨q,_,hjk,hq,hqh,_⟩:=k6 j hj
   rw [Nat.sub_zero] at hq
   obtain ⟨z,hz⟩:∃z,ys[j]?=some z:=⟨_,List.getElem?_eq_getElem (by rw [h.yl];omega)⟩
   obtain ⟨q',hq',hzx⟩:=h.yx j z hz
   rw [hq] at hq'
   injection hq' with hq'
   subst hq'
   refine ⟨z,?_,by rw [hzx];exact hqh,?_⟩
   ·show (ns++ys)[ns.length+j]?=some z
    rw [List.getElem?_append_right (by omega),show ns.length+j - ns.length=j by omega,hz]
   ·rw [hzx,nd_ms (h.ok j q hq)]
    show q.m=mAt 0 sps j
    unfold mAt
    rw [Nat.sub_zero,hq]
 refine (step_any A (ns++ys) st (sp.nd ns.length sps) it.bp it.bc it.br pb it.rb g k (sps.length - (k+1)) c F caps _ _ _ _ _ w h.ar h.ap (nd_ok hok (by omega)) hI.p.1 hbc hI.r.1 (by rw [show sps.length - (k+1)+1=sps.length - k by omega];exact hpen) hR hkids (by rw [hlen];omega) hn (fun y hy hb=>(h.off y hy _ hb).2 it (List.mem_of_getElem? hit) rfl) (fun y hy hb=>(h.off y hy _ hb).1 rfl) (by omega) hcon hin (by
  rw [htc.cell k]
  exact htv k it hit)).mono ?_
 rintro e w' ⟨y,A',hA',hy,rfl,hM,hC,hyk,hB,hP⟩
 rw [hlen] at hB |-
 have hnm:∀(b:Nat) (u:TypeId) (cs:Array Value),Blk w b u cs->u≠164->u≠211->u≠213->u≠102->u≠248->¬(A.mut b\/b=it.rb\/b=pb):=fun b u cs hb h1 h2 h3 h4 h5 e=>by
  rcases e with e | e | e
  ·exact h.ar.off hb h1 h2 h3 e
  ·exact Blk.ne hb hR h4 e
  ·exact Blk.ne hb hpen h5 e
 have hbnd:=hC.size
 refine ⟨y,rfl,⟨h.len,by simp [h.yl],hk,h.ok,by rw [<-List.append_assoc];exact hM,?_,fun j z hz=>?_,⟨A',c - 1,hP,fun hl=>⟨hA' (by omega),by omega⟩⟩,⟨tcs,hC.blk htc (hnm _ _ _ htc (by decide) (by decide) (by decide) (by decide) (by decide)),htv⟩,fun i s t h1 h2=>?_,fun i s t h1 h2=>?_,h.diff,fun z hz b hb=>?_,h.rlast,h.old⟩,hC.mono (fun i hi e=>?_),hyk⟩
 ·rw [<-List.append_assoc]
  exact h.ap.snoc (by rw [hy];exact nd_ok hok (by omega)) (by rw [hy];exact hkids)
 ·by_cases hjl:j < ys.length
  ·rw [List.getElem?_append_left hjl] at hz
   exact h.yx j z hz
  ·have hlt:=(List.getElem?_eq_some_iff.1 hz).1
   simp at hlt
   obtain rfl:j=ys.length:=by omega
   rw [List.getElem?_append_right (by omega),Nat.sub_self] at hz
   simp at hz
   subst hz
   exact ⟨sp,by rw [h.yl];exact hsp,hy⟩
 ·exact (h.item i s t h1 h2).keep hC (fun b u cs hb hq _=>hnm b u cs hb (fun e=>absurd (e ▸ hq) (by unfold QT;decide)) (fun e=>absurd (e ▸ hq) (by unfold QT;decide)) (fun e=>absurd (e ▸ hq) (by unfold QT;decide)) (fun e=>absurd (e ▸ hq) (by unfold QT;decide)) (fun e=>absurd (e ▸ hq) (by unfold QT;decide))) (fun _ _ h=>h) (fun _ _ _ h=>h)
 ·by_cases hik:i=k
  ·subst hik
   rw [hsp] at h1
   rw [hit] at h2
   injection h1 with h1
   injection h2 with h2
   subst h1 h2
   rw [if_pos (by omega)]
   exact hB
  ·have hr:=h.root i s t h1 h2
   have e:(if i < k+1 then (hdl (ns.length+i):Int) else 0)=if i < k then (hdl (ns.length+i):Int) else 0:=by
    by_cases hlt:i < k
    ·rw [if_pos hlt,if_pos (by omega)]
    ·rw [if_neg hlt,if_neg (by omega)]
   rw [e]
   refine hC.blk hr (fun e=>?_)
   rcases e with e | e | e
   ·exact h.ar.off hr (by decide) (by decide) (by decide) e
   ·exact h.diff i k t it h2 hit hik e
   ·exact Blk.ne hr hpen (by decide) e
 ·rw [<-List.append_assoc] at hz
  rcases List.mem_append.1 hz with hz | hz
  ·exact h.off z hz b hb
  ·simp at hz
   subst hz
   have hge:=hyk b hb
   refine ⟨by omega,fun t ht e=>?_⟩
   obtain ⟨i,hi⟩:=List.getElem?_of_mem ht
   obtain ⟨s,hs⟩:∃s,sps[i]?=some s:=⟨_,List.getElem?_eq_getElem (by rw [<-h.len];exact (List.getElem?_eq_some_iff.1 hi).1)⟩
   have:=(h.root i s t hs hi).lt
   omega
 ·rcases e with e | e | e
  ·exact .inl e
  ·exact .inr (.inr ⟨it,List.mem_of_getElem? hit,e.symm⟩)
  ·exact .inr (.inl e)
theorem own_blk {w:World} {B e n:Nat} {v:Value} {xs:List Value} (h:w.ownsRow B e 1 v n xs) {k:Nat} (hk:v.ownBlock=some k):∃cs,Blk w k e cs:=by
 rcases h.2 with ⟨rfl,_⟩ | ⟨g,c,cur,rfl,_,hg,_⟩
 ·simp [Value.ownBlock] at hk
 ·simp only [Value.ownBlock,Option.some.injEq] at hk
  subst hk
  exact ⟨cur,hg⟩
def PT (t:TypeId):Prop:=QT t\/t=248\/t=102\/t=276
theorem PenM.keep {A:ArA} {w w':World} {W0:Nat} {ns:List An} {st:Int} {pb g rl:Nat} {sps:List Sp} {its:List It} {k:Nat} {ys:List An} {fp:Nat->Prop} (h:PenM A w W0 ns st pb g rl sps its k ys) (c:Ch fp w w') (ha:∀b,b < w.heap.size->A.foot (ns++ys) b->¬fp b) (hp:∀b t cs,Blk w b t cs->PT t->¬fp b):PenM A w' W0 ns st pb g rl sps its k ys:=by
 obtain ⟨a,cc,hpen,hac⟩:=h.pen
 obtain ⟨tcs,htc,htv⟩:=h.todo
 exact ⟨h.len,h.yl,h.kle,h.ok,h.ar.keep c ha,h.ap,h.yx,⟨a,cc,c.blk hpen (hp _ _ _ hpen (.inr (.inl rfl))),hac⟩,⟨tcs,c.blk htc (hp _ _ _ htc (.inr (.inr (.inr rfl)))),htv⟩,
  fun i s t h1 h2=>(h.item i s t h1 h2).keep c (fun b u cs hb hq _=>hp b u cs hb (.inl hq)) (fun _ _ h=>h) (fun _ _ _ h=>h),
  fun i s t h1 h2=>c.blk (h.root i s t h1 h2) (hp _ _ _ (h.root i s t h1 h2) (.inr (.inr (.inl rfl)))),h.diff,h.off,h.rlast,h.old⟩
def Sp.rv (sp:Sp) (at':Int):Value:=.agg #[.int .u64 at',.int .i64 (sp.h:Int),.int .i64 sp.m.b,.int .i64 sp.m.r,.int .i64 sp.m.l]
theorem root_any {A:ArA} {w:World} {W0:Nat} {ns:List An} {st:Int} {pb g rl:Nat} {sps:List Sp} {its:List It} {ys:List An} (h:PenM A w W0 ns st pb g rl sps its sps.length ys) {sp:Sp} (hsp:sps[sps.length - 1]?=some sp) :
  Calls Tryz.prog 121 #[.pointer (some ⟨pb,0,none⟩)] w fun e w'=>e=.returned (.tuple #[sp.rv (hdl (ns.length+(sps.length - 1))),.int .i64 0])/\Ch (fun _=>False) w w':=by
 obtain ⟨it,hit,hrl⟩:=h.rlast
 have hR:=h.root _ sp it hsp hit
 have hpos:=(List.getElem?_eq_some_iff.1 hsp).1
 rw [if_pos hpos,] at hR
 unfold RootM at hR
 rw [hrl] at hR
 obtain ⟨a,c,hpen,_⟩:=h.pen
 rw [Nat.sub_self] at hpen
 unfold Sp.rv
 obtain ⟨H,hH⟩:∃H:Int,H=hdl (ns.length+(sps.length - 1)):=⟨_,rfl⟩
 rw [<-hH] at hR |-
 have hrlt:=hR.lt
 have hplt:=hpen.lt
 obtain ⟨-,c1,c2⟩:=hpen.c3
 obtain ⟨r0,r1,r2,r3,r4⟩:=hR.c5
 have hne:rl≠w.heap.size:=by omega
 clear hH h hR hpen hit hsp hrl
 go_enter Tryz.func121,Tryz.ntmps121
 go_wp2_with fail
 refine at_world fun W hW=>?_
 have C:=hid (show Ch (fun _=>False) w W from by rw [hW];exact (Ch.refl _ w).alloc _)
 have B:=hid (show Blk W w.heap.size 102 #[.int .u64 H,.int .i64 (sp.h:Int),.int .i64 sp.m.b,.int .i64 sp.m.r,.int .i64 sp.m.l] from by rw [hW];exact Blk.new w _ _)
 clear hW
 obtain ⟨t0,t1,t2,t3,t4⟩:=B.out.c5
 refine bodyPost_ret (v:=.tuple #[.agg #[.int .u64 H,.int .i64 (sp.h:Int),.int .i64 sp.m.b,.int .i64 sp.m.r,.int .i64 sp.m.l],.int .i64 0]) (by simp [results,Tryz.results121,go_sem,t0,t1,t2,t3,t4]) rfl ⟨rfl,C.out⟩
def hdlsV (n k:Nat):List Value:=(List.range k).map fun j=>.int .u64 (hdl (n+j))
theorem hdls_succ (n k:Nat):hdlsV n (k+1)=hdlsV n k++[.int .u64 (hdl (n+k))]:=by simp [hdlsV,List.range_succ]
theorem infoHd:(Tryz.prog.info? 55).map (fun i=>(i.zero,i.size,i.bytes))=some (some (Value.int .u64 0),1,8):=by kernel_rfl
def lenHV (v:Value):Nat:=match v with
 | .slice _ n _=>n
 | _=>0
def T.rv (t:T) (at':Int):Value:=.agg #[.int .u64 at',.int .i64 (t.ht:Int),.int .i64 t.meas.b,.int .i64 t.meas.r,.int .i64 t.meas.l]
def WriteOut (A:ArA) (ns:List An) (st:Int) (t:T) (w:World) (e:Ending) (w':World):Prop:=∃(ys:List An) (v:Value),e=.returned (.tuple #[t.rv (hdl (ns.length+(t.cnt - 1))),v,.int .i64 0])/\w'.ownsRow w.heap.size 55 1 v t.cnt (hdlsV ns.length t.cnt)/\ArM A w' (ns++ys) st/\ArP (ns++ys)/\ys.length=t.cnt/\
 (∀(j:Nat) (y:An),ys[j]?=some y->∃sp,(T.post 0 t)[j]?=some sp/\y.x=sp.nd ns.length (T.post 0 t))/\Ch A.mut w w'/\∀y ∈ ys,∀b,y.kb b->w.heap.size<=b
theorem write_any (A:ArA) (ns:List An) (st:Int) (t:T) (cs:List Value) (S:Nat->Prop) (w:World) (h:ArM A w ns st) (hP:ArP ns) (hg:t.good) (hT:TreeAt w S t cs) (hb:t.bytes<=65536) (hc:t.cnt<=60000) (hroom:t.cnt<=A.n - ns.length) (hn:A.n<=16384) :
  Calls Tryz.prog 81 #[.pointer (some ⟨A.ab,0,none⟩),.agg cs.toArray] w (WriteOut A ns st t w):=by
 obtain ⟨i0,hi,hz0,hz1,hz2⟩:=info_parts infoHd
 obtain ⟨s,a,n,c,rfl⟩:=hT.form
 have H:=hid h
 have HP:=hid hP
 have HG:=hid hg
 have HT:=hid hT
 have HB:=hid hb
 have HC:=hid hc
 have HR:=hid hroom
 have HN:=hid hn
 have hfl:∀k,A.foot ns k->k < w.heap.size:=fun k hk=>h.foot_lt hk
 have HFL:=hid hfl
 clear h hP hT hg hroom hb hc hn hfl
 go_enter Tryz.func81,Tryz.ntmps81
 go_wp2_with fail
 refine calls_world fun W1 hW1=>?_
 obtain ⟨b0,hb0⟩:∃x,x=w.heap.size:=⟨_,rfl⟩
 have C1:=hid (show Ch (fun _=>False) w W1 from by rw [hW1];exact ((Ch.refl _ w).alloc _).alloc _)
 have R1:=hid (show Blk W1 (b0+1) 102 #[.int .u64 0,.int .i64 0,.int .i64 0,.int .i64 0,.int .i64 0] from by
  rw [hW1,hb0]
  have t:=Blk.new (w.alloc (.cells #[.int .u64 0,.int .i64 (Int.ofNat t.ht),.int .i64 0,.int .i64 0,.int .i64 0,.string s,.slice a n c] 183)) 102 #[.int .u64 0,.int .i64 0,.int .i64 0,.int .i64 0,.int .i64 0]
  simpa using t)
 have T1:=hid (HT.out.keep C1.out (fun _ _ _=>id) (fun _ _ h=>h) (S':=S))
 clear hW1
 rw [show w.heap.size+1=b0+1 by omega,<-hb0]
 have HZ:=hid hb0
 clear hb0
 have hR1:=R1.out.lt
 refine (begin_any A ns st t _ S W1 (H.out.keep0 C1.out) HP.out HG.out T1.out HB.out HC.out HR.out HN.out).mono ?_
 rintro e W2 ⟨pb,g,rl,its,rfl,hM,hc2⟩
 have M2:=hid hM
 have C2:=hid (C1.out.trans hc2 (fun _ _ e=>e))
 have R2:=hid (hc2.blk R1.out id)
 have Z12:=hc2.size
 clear hM hc2 R1 T1 C1
 obtain ⟨m,hm⟩:∃m,m=(T.post 0 t).length:=⟨_,rfl⟩
 have hmc:m=t.cnt:=by rw [hm];exact post_len t 0
 have HM:=hid hm
 have HMC:=hid hmc
 have hm6:m<=60000:=by have:=HC.out;omega
 clear hm hmc
 go_wp2_with fail
 go_loopw [5] (fun v W=>∃(k:Nat) (ys:List An),k<=m/\PenM A W W1.heap.size ns st pb g rl (T.post 0 t) its k ys/\W.ownsRow b0 55 1 v k (hdlsV ns.length k)/\Blk W (b0+1) 102 #[.int .u64 0,.int .i64 0,.int .i64 0,.int .i64 0,.int .i64 0]/\Ch A.mut w W/\(∀y ∈ ys,∀b,y.kb b->W1.heap.size<=b)/\∀y ∈ ns++ys,∀b,y.kb b->¬v.ownBlock=some b) (fun v _=>m - lenHV v)
 case atStart=>
  refine ⟨0,[],Nat.zero_le _,M2.out,World.ownsRow_nil _ _ _ _,R2.out,C2.out.mono (fun _ _ e=>e.elim),fun y hy=>by simp at hy,fun y hy b hb e=>by simp [Value.ownBlock] at e⟩
 case round=>
  clear M2 C2 R2
  obtain ⟨k,ys,hk,hM,hO,hR,hC,hky,hko⟩:=hrel
  obtain ⟨A0,c0,rfl,_⟩:=own_slice hO
  have MM:=hid hM
  have OO:=hid hO
  have RR:=hid hR
  have CC:=hid hC
  have KY:=hid hky
  have KO:=hid hko
  obtain ⟨ta,tc,hpen,_⟩:=hM.pen
  rw [<-HM.out] at hpen
  have PP:=hid hpen
  obtain ⟨D,hD⟩:∃D,D=m - k:=⟨_,rfl⟩
  have c1:wr.cell? ⟨pb,1,none⟩=some (.slice ta D tc):=by rw [hD];exact hpen.cell 1
  have HD:=hid hD
  clear hM hO hR hC hky hko hpen
  by_cases hlt:k < m
  {
 have y1:decide (0 < D)=true:=decide_eq_true (by omega)
 have y2:decide ((0:Int) < (D:Int))=true:=decide_eq_true (by omega)
 clear hD
 go_wp2_with fail
 refine (pen_step MM.out (by rw [<-HM.out];exact hlt) (by rw [<-HM.out];have:=HMC.out;have:=HR.out;have:=H.out.le;omega) HN.out).mono ?_
 rintro e W3 ⟨y,rfl,hM3,hC3,hyk⟩
 have M3:=hid hM3
 have C3:=hid hC3
 have YK:=hid hyk
 clear hM3 hC3 hyk c1
 generalize ((((T.post 0 t).length - (k+1):Nat):Int) == 0)=bb
 obtain ⟨HH,hHH⟩:∃x:Int,x=hdl (ns.length+k):=⟨_,rfl⟩
 rw [<-hHH]
 have HHH:=hid hHH
 clear hHH
 obtain ⟨a2,c2',hpen,_⟩:=MM.out.pen
 have hvm:∀j,(Value.slice A0 k c0).ownBlock=some j->¬(A.mut j\/j=pb\/∃it ∈ its,it.rb=j):=fun j hj e=>by
  obtain ⟨cs,hb⟩:=own_blk OO.out hj
  rcases e with e | e | ⟨it,hit,e⟩
  ·exact MM.out.ar.off hb (by decide) (by decide) (by decide) e
  ·exact Blk.ne hb hpen (by decide) e
  ·obtain ⟨i,hi⟩:=List.getElem?_of_mem hit
   obtain ⟨s,hs⟩:∃s,(T.post 0 t)[i]?=some s:=⟨_,List.getElem?_eq_getElem (by rw [<-MM.out.len];exact (List.getElem?_eq_some_iff.1 hi).1)⟩
   exact Blk.ne hb (MM.out.root i s it hs hi) (by decide) e.symm
 have O3:=hid (C3.out.own OO.out hvm)
 have R3:=hid (C3.out.blk RR.out (fun e=>by
  rcases e with e | e | ⟨it,hit,e⟩
  ·exact MM.out.ar.off RR.out (by decide) (by decide) (by decide) e
  ·exact Blk.ne RR.out hpen (by decide) e
  ·have:=MM.out.old.2.2 it hit;omega))
 have hvlt:∀j,(Value.slice A0 k c0).ownBlock=some j->b0<=j/\j < wr.heap.size:=fun j hj=>OO.out.lt j hj
 have VL:=hid hvlt
 have hz1r:W1.heap.size<=wr.heap.size:=by have:=hpen.lt;have:=MM.out.old.1;omega
 clear hvm hpen hvlt
 have hz03:b0+1 < W3.heap.size:=R3.out.lt
 go_wp2_with (at_builtin;refine wpList_app _ rfl (.tmp 37) (.tmp 39) 186 rfl b0 55 i0 _ 1 8 Tryz.underlying186 hi hz0 hz1 hz2 rfl (by decide) _ _ _ rfl (O3.out.alloc _) ⟨W3.heap.size,0,none⟩ 1 1 [.int .u64 HH] rfl rfl ?c1 ?c2 (by decide) ?c3 ?c4 ?c5 ?c6)
 case c1=>
  intro j u hu
  rw [addr_add0]
  exact ((Blk.new W3 55 #[.int .u64 HH]).cell j).trans (by simpa using hu)
 case c2=>intro u hu;simp at hu;subst hu;rfl
 case c3=>unfold maxLen;omega
 case c4=>omega
 case c5=>have:=Ch.size ((Ch.refl (fun _=>False) W3).alloc (.cells #[.int .u64 HH] 55));omega
 case c6=>
  intro v' w5 hown' hgrow hfresh
  have CR:=hid (show Ch (fun j=>(Value.slice A0 k c0).ownBlock=some j) W3 w5 from ((Ch.refl _ W3).alloc _).grown hgrow (fun j hj _=>hj))
  have OW:=hid hown'
  have HF:=hid hfresh
  obtain ⟨A5,c5,hv5,_⟩:=own_slice hown'
  subst hv5
  clear hown' hgrow hfresh
  go_wp2_with fail
  have hoff:∀b u cs,Blk W3 b u cs->u≠55->¬(Value.slice A0 k c0).ownBlock=some b:=fun b u cs hb hu=>hb.own O3.out hu
  have hfr:∀b,(Value.slice A5 (k+1) c5).ownBlock=some b->(Value.slice A0 k c0).ownBlock=some b\/W3.heap.size<=b:=fun b hb=>by
   rcases HF.out with e | e
   ·exact .inl (e ▸ hb)
   ·have:=e b hb
    have:=Ch.size ((Ch.refl (fun _=>False) W3).alloc (.cells #[.int .u64 HH] 55))
    exact .inr (by omega)
  have hko:∀z ∈ ns++(ys++[y]),∀b,z.kb b->¬(Value.slice A0 k c0).ownBlock=some b:=fun z hz b hb e=>by
   rw [<-List.append_assoc] at hz
   rcases List.mem_append.1 hz with hz | hz
   ·exact KO.out z hz b hb e
   ·simp at hz
    subst hz
    have:=YK.out b hb
    have:=VL.out b e
    omega
  have hkl:∀z ∈ ns++(ys++[y]),∀b,z.kb b->b < W3.heap.size:=fun z hz b hb=>M3.out.ar.foot_lt (.inr (.inr (.inr ⟨z,hz,hb⟩)))
  refine ⟨⟨k+1,ys++[y],hlt,M3.out.keep CR.out (fun b hb hf e=>?_) (fun b u cs hb hu=>hoff b u cs hb (fun e=>absurd (e ▸ hu) (by unfold PT QT;decide))),?_,CR.out.blk R3.out (hoff _ _ _ R3.out (by decide)),?_,?_,?_⟩,by simp only [lenHV];omega⟩
  ·rcases hf with hf | hf | hf | ⟨z,hz,hf⟩
   ·obtain ⟨cs,hcs⟩:=own_blk O3.out e
    exact M3.out.ar.off hcs (by decide) (by decide) (by decide) hf
   ·exact hoff _ _ _ M3.out.ar.b0 (by decide) (hf ▸ e)
   ·exact hoff _ _ _ M3.out.ar.b2 (by decide) (hf ▸ e)
   ·exact hko z hz b hf e
  ·rw [hdls_succ,<-HHH.out]
   exact OW.out
  ·refine (CC.out.trans C3.out (fun i hi e=>?_)).trans CR.out (fun i hi e=>?_)
   ·rcases e with e | e | ⟨it,hit,e⟩
    ·exact e
    ·have h1:=MM.out.old.1;have h2:=HZ.out;omega
    ·have h1:=MM.out.old.2.2 it hit;have h2:=HZ.out;omega
   ·have:=VL.out i e
    have:=HZ.out
    omega
  ·intro z hz b hb
   rcases List.mem_append.1 hz with hz | hz
   ·exact KY.out z hz b hb
   ·simp at hz
    subst hz
    have:=YK.out b hb
    omega
  ·intro z hz b hb e
   rcases hfr b e with e | e
   ·exact hko z hz b hb e
   ·have:=hkl z hz b hb
    omega
 }
  {
 obtain rfl:m=k:=by omega
 obtain rfl:D=0:=by omega
 clear hD
 obtain ⟨sp,hsp,e1,e2⟩:=post_last' t 0
 have HSP:=hid hsp
 have M4:=hid (show PenM A wr W1.heap.size ns st pb g rl (T.post 0 t) its (T.post 0 t).length ys from by rw [<-HM.out];exact MM.out)
 go_wp2_with fail
 refine (root_any M4.out (by rw [<-HM.out,HMC.out];exact HSP.out)).mono ?_
 rintro e W5 ⟨rfl,hc5⟩
 have C5:=hid hc5
 have R5:=hid (hc5.blk RR.out id)
 have O5:=hid (hc5.own OO.out (fun _ _=>id))
 have A5:=hid (MM.out.ar.keep0 hc5)
 rw [<-HM.out,HMC.out]
 obtain ⟨H1,hH1⟩:∃x:Int,x=hdl (ns.length+(t.cnt - 1)):=⟨_,rfl⟩
 rw [<-hH1]
 have HH1:=hid hH1
 clear hH1 hc5 c1
 simp only [Sp.rv]
 obtain ⟨z0,z1,z2,z3,z4⟩:=R5.out.c5
 obtain ⟨f0,f1,f2,f3,f4⟩:=R5.out.f5
 go_wp2_with fail
 refine at_world fun WZ hWZ=>?_
 obtain ⟨rm,hrm⟩:∃x,x=t.meas:=⟨_,rfl⟩
 obtain ⟨rh,hrh⟩:∃x,x=t.ht:=⟨_,rfl⟩
 rw [<-hrm,<-hrh] at hWZ
 obtain ⟨V,hV⟩:∃V,V=(((((W5.setCell ⟨b0+1,0,none⟩ (.int .u64 H1)).setCell ⟨b0+1,1,none⟩ (.int .i64 (rh:Int))).setCell ⟨b0+1,2,none⟩ (.int .i64 rm.b)).setCell ⟨b0+1,3,none⟩ (.int .i64 rm.r)).setCell ⟨b0+1,4,none⟩ (.int .i64 rm.l)):=⟨_,rfl⟩
 rw [<-hV] at hWZ
 have CV:=hid (show Ch (fun k=>k=b0+1) W5 V from by rw [hV];exact (((((Ch.refl (fun k=>k=b0+1) W5).set (fun _=>rfl) _).set (fun _=>rfl) _).set (fun _=>rfl) _).set (fun _=>rfl) _).set (fun _=>rfl) _)
 have BV:=hid (show Blk V (b0+1) 102 #[.int .u64 H1,.int .i64 (rh:Int),.int .i64 rm.b,.int .i64 rm.r,.int .i64 rm.l] from by rw [hV];exact (((((R5.out.put 0 _).put 1 _).put 2 _).put 3 _).put 4 _))
 clear hV
 have CZ:=hid (show Ch (fun k=>k=b0+1) W5 WZ from by rw [hWZ];exact CV.out.trans ((((((Ch.refl (fun k=>k=b0+1) V).set (fun _=>rfl) _).set (fun _=>rfl) _).set (fun _=>rfl) _).set (fun _=>rfl) _).set (fun _=>rfl) _) (fun _ _ e=>e))
 have BZ:=hid (show Blk WZ (b0+1) 102 #[.int .u64 H1,.int .i64 (rh:Int),.int .i64 rm.b,.int .i64 rm.r,.int .i64 rm.l] from by rw [hWZ];exact (((((BV.out.put 0 _).put 1 _).put 2 _).put 3 _).put 4 _))
 clear hWZ z0 z1 z2 z3 z4 f0 f1 f2 f3 f4
 obtain ⟨t0,t1,t2,t3,t4⟩:=BZ.out.c5
 have hO:=O5.out
 rw [HMC.out] at hO
 have hr5:∀b,A.foot (ns++ys) b->¬b=b0+1:=fun b hf e=>by
  rw [e] at hf
  rcases hf with hf | hf | hf | ⟨z,hz,hf⟩
  ·exact A5.out.off R5.out (by decide) (by decide) (by decide) hf
  ·exact Blk.ne R5.out A5.out.b0 (by decide) hf
  ·exact Blk.ne R5.out A5.out.b2 (by decide) hf
  ·rcases List.mem_append.1 hz with hz | hz
   ·have:=HFL.out _ (.inr (.inr (.inr ⟨z,hz,hf⟩)))
    have:=HZ.out
    omega
   ·have:=KY.out z hz _ hf
    omega
 refine bodyPost_ret (v:=.tuple #[.agg #[.int .u64 H1,.int .i64 (rh:Int),.int .i64 rm.b,.int .i64 rm.r,.int .i64 rm.l],.slice A0 t.cnt c0,.int .i64 0]) (by simp [results,Tryz.results81,go_sem,t0,t1,t2,t3,t4]) rfl ⟨ys,.slice A0 t.cnt c0,by rw [HH1.out,hrm,hrh];rfl,?_,A5.out.keep CZ.out (fun b _ hf=>hr5 b hf),MM.out.ap,by rw [MM.out.yl,HMC.out],fun j y hj=>MM.out.yx j y hj,(CC.out.trans C5.out (fun _ _ e=>e.elim)).trans CZ.out (fun i hi e=>absurd hi (by have:=HZ.out;omega)),fun y hy b hb=>by have:=KY.out y hy b hb;have:=HZ.out;omega⟩
 rw [<-HZ.out]
 exact CZ.out.own hO (fun j hj e=>R5.out.own O5.out (by decide) (by rw [HMC.out];exact e ▸ hj))
 }
end Go.Proofs.YtjcdknhejcbpiaaGreat
