/- Lemmas that the proof of the last text leans on; no condition. -/
import Derived.Test.YtjcdknhejcbpiaaGreatAb17
import Derived.Test.YtjcdknhejcbpiaaGreatAb10
import Derived.Test.YtjcdknhejcbpiaaGreatAb06
set_option maxRecDepth 100000
set_option maxHeartbeats 4000000
namespace Go.Proofs.YtjcdknhejcbpiaaGreat
open Go.RowKit
set_option linter.unusedVariables false
set_option linter.unusedSimpArgs false
set_option linter.unusedSectionVars false
theorem own_blk {w:World} {B e n:Nat} {v:Value} {xs:List Value} (h:w.ownsRow B e 1 v n xs) {k:Nat} (hk:v.ownBlock=some k):∃cs,Blk w k e cs:=by
 rcases h.2 with ⟨rfl,_⟩ | ⟨g,c,cur,rfl,_,hg,_⟩
 ·simp [Value.ownBlock] at hk
 ·simp only [Value.ownBlock,Option.some.injEq] at hk
  subst hk
  exact ⟨cur,hg⟩
def PT (t:TypeId):Prop:=QT t∨t=248∨t=102∨t=276
theorem PenM.keep {A:ArA} {w w':World} {W0:Nat} {ns:List An} {st:Int} {pb g rl:Nat} {sps:List Sp} {its:List It} {k:Nat} {ys:List An} {fp:Nat→Prop} (h:PenM A w W0 ns st pb g rl sps its k ys) (c:Ch fp w w') (ha:∀b,b < w.heap.size→A.foot (ns++ys) b→¬fp b) (hp:∀b t cs,Blk w b t cs→PT t→¬fp b):PenM A w' W0 ns st pb g rl sps its k ys:=by
 obtain ⟨a,cc,hpen,hac⟩:=h.pen
 obtain ⟨tcs,htc,htv⟩:=h.todo
 exact ⟨h.len,h.yl,h.kle,h.ok,h.ar.keep c ha,h.ap,h.yx,⟨a,cc,c.blk hpen (hp _ _ _ hpen (.inr (.inl rfl))),hac⟩,⟨tcs,c.blk htc (hp _ _ _ htc (.inr (.inr (.inr rfl)))),htv⟩,
  fun i s t h1 h2=>(h.item i s t h1 h2).keep c (fun b u cs hb hq _=>hp b u cs hb (.inl hq)) (fun _ _ h=>h) (fun _ _ _ h=>h),
  fun i s t h1 h2=>c.blk (h.root i s t h1 h2) (hp _ _ _ (h.root i s t h1 h2) (.inr (.inr (.inl rfl)))),h.diff,h.off,h.rlast,h.old⟩
def Sp.rv (sp:Sp) (at':Int):Value:=.agg #[.int .u64 at',.int .i64 (sp.h:Int),.int .i64 sp.m.b,.int .i64 sp.m.r,.int .i64 sp.m.l]
theorem root_any {A:ArA} {w:World} {W0:Nat} {ns:List An} {st:Int} {pb g rl:Nat} {sps:List Sp} {its:List It} {ys:List An} (h:PenM A w W0 ns st pb g rl sps its sps.length ys) {sp:Sp} (hsp:sps[sps.length - 1]?=some sp) :
  Calls Tryz.prog 121 #[.pointer (some ⟨pb,0,none⟩)] w fun e w'=>e=.returned (.tuple #[sp.rv (hdl (ns.length+(sps.length - 1))),.int .i64 0])∧Ch (fun _=>False) w w':=by
 obtain ⟨it,hit,hrl⟩:=h.rlast
 have hR:=h.root _ sp it hsp hit
 have hpos:=(List.getElem?_eq_some_iff.1 hsp).1
 rw [if_pos hpos,] at hR
 unfold RootM at hR
 rw [hrl] at hR
 obtain ⟨a,c,hpen,_⟩:=h.pen
 rw [Nat.sub_self] at hpen
 unfold Sp.rv
 obtain ⟨H,hH⟩:∃H:Int,H=hdl (ns.length+(sps.length - 1)):=⟨_,rfl⟩
 rw [←hH] at hR ⊢
 have hrlt:=hR.lt
 have hplt:=hpen.lt
 have c1:w.cell? ⟨pb,1,none⟩=some (.slice a 0 c):=hpen.cell 1
 have c2:w.cell? ⟨pb,2,none⟩=some (.pointer (some ⟨rl,0,none⟩)):=hpen.cell 2
 have r0:w.cell? ⟨rl,0,none⟩=some (.int .u64 H):=hR.cell 0
 have r1:w.cell? ⟨rl,1,none⟩=some (.int .i64 (sp.h:Int)):=hR.cell 1
 have r2:w.cell? ⟨rl,2,none⟩=some (.int .i64 sp.m.b):=hR.cell 2
 have r3:w.cell? ⟨rl,3,none⟩=some (.int .i64 sp.m.r):=hR.cell 3
 have r4:w.cell? ⟨rl,4,none⟩=some (.int .i64 sp.m.l):=hR.cell 4
 have hne:rl≠w.heap.size:=by omega
 clear hH h hR hpen hit hsp hrl
 go_enter Tryz.func121,Tryz.ntmps121
 go_wp2_with fail
 refine at_world fun W hW=>?_
 have C:=hid (show Ch (fun _=>False) w W from by rw [hW];exact (Ch.refl _ w).alloc _)
 have B:=hid (show Blk W w.heap.size 102 #[.int .u64 H,.int .i64 (sp.h:Int),.int .i64 sp.m.b,.int .i64 sp.m.r,.int .i64 sp.m.l] from by rw [hW];exact Blk.new w _ _)
 clear hW
 have t0:W.cell? ⟨w.heap.size,0,none⟩=some (.int .u64 H):=B.out.cell 0
 have t1:W.cell? ⟨w.heap.size,1,none⟩=some (.int .i64 (sp.h:Int)):=B.out.cell 1
 have t2:W.cell? ⟨w.heap.size,2,none⟩=some (.int .i64 sp.m.b):=B.out.cell 2
 have t3:W.cell? ⟨w.heap.size,3,none⟩=some (.int .i64 sp.m.r):=B.out.cell 3
 have t4:W.cell? ⟨w.heap.size,4,none⟩=some (.int .i64 sp.m.l):=B.out.cell 4
 refine bodyPost_ret (v:=.tuple #[.agg #[.int .u64 H,.int .i64 (sp.h:Int),.int .i64 sp.m.b,.int .i64 sp.m.r,.int .i64 sp.m.l],.int .i64 0]) (by simp [results,Tryz.results121,go_sem,t0,t1,t2,t3,t4]) rfl ⟨rfl,C.out⟩
def hdlsV (n k:Nat):List Value:=(List.range k).map fun j=>.int .u64 (hdl (n+j))
theorem hdls_succ (n k:Nat):hdlsV n (k+1)=hdlsV n k++[.int .u64 (hdl (n+k))]:=by simp [hdlsV,List.range_succ]
theorem infoHd:(Tryz.prog.info? 55).map (fun i=>(i.zero,i.size,i.bytes))=some (some (Value.int .u64 0),1,8):=by kernel_rfl
def lenHV (v:Value):Nat:=match v with
 | .slice _ n _=>n
 | _=>0
def T.rv (t:T) (at':Int):Value:=.agg #[.int .u64 at',.int .i64 (t.ht:Int),.int .i64 t.meas.b,.int .i64 t.meas.r,.int .i64 t.meas.l]
def WriteOut (A:ArA) (ns:List An) (st:Int) (t:T) (w:World) (e:Ending) (w':World):Prop:=∃(ys:List An) (v:Value),e=.returned (.tuple #[t.rv (hdl (ns.length+(t.cnt - 1))),v,.int .i64 0])∧w'.ownsRow w.heap.size 55 1 v t.cnt (hdlsV ns.length t.cnt)∧ArM A w' (ns++ys) st∧ArP (ns++ys)∧ys.length=t.cnt∧
 (∀(j:Nat) (y:An),ys[j]?=some y→∃sp,(T.post 0 t)[j]?=some sp∧y.x=sp.nd ns.length (T.post 0 t))∧Ch A.mut w w'∧∀y ∈ ys,∀b,y.kb b→w.heap.size≤b
theorem write_any (A:ArA) (ns:List An) (st:Int) (t:T) (cs:List Value) (S:Nat→Prop) (w:World) (h:ArM A w ns st) (hP:ArP ns) (hg:t.good) (hT:TreeAt w S t cs) (hb:t.bytes≤65536) (hc:t.cnt≤60000) (hroom:t.cnt≤A.n - ns.length) (hn:A.n≤16384) :
  Calls Tryz.prog 81 #[.pointer (some ⟨A.ab,0,none⟩),.agg cs.toArray] w (WriteOut A ns st t w):=by
 obtain ⟨i0,hi,hz0,hz1,hz2⟩:=info_parts infoHd
 obtain ⟨s,a,n,c,rfl⟩:=hT.form
 have H:=hid h
 have HP:=hid hP
 have HG:=hid hg
 have HT:=hid hT
 have HB:=hid hb
 have HC:=hid hc
 have HR:=hid hroom
 have HN:=hid hn
 have hfl:∀k,A.foot ns k→k < w.heap.size:=fun k hk=>h.foot_lt hk
 have HFL:=hid hfl
 clear h hP hT hg hroom hb hc hn hfl
 go_enter Tryz.func81,Tryz.ntmps81
 go_wp2_with fail
 refine calls_world fun W1 hW1=>?_
 obtain ⟨b0,hb0⟩:∃x,x=w.heap.size:=⟨_,rfl⟩
 have C1:=hid (show Ch (fun _=>False) w W1 from by rw [hW1];exact ((Ch.refl _ w).alloc _).alloc _)
 have R1:=hid (show Blk W1 (b0+1) 102 #[.int .u64 0,.int .i64 0,.int .i64 0,.int .i64 0,.int .i64 0] from by
  rw [hW1,hb0]
  have t:=Blk.new (w.alloc (.cells #[.int .u64 0,.int .i64 (Int.ofNat t.ht),.int .i64 0,.int .i64 0,.int .i64 0,.string s,.slice a n c] 183)) 102 #[.int .u64 0,.int .i64 0,.int .i64 0,.int .i64 0,.int .i64 0]
  simpa using t)
 have T1:=hid (HT.out.keep C1.out (fun _ _ _=>id) (fun _ _ h=>h) (S':=S))
 clear hW1
 rw [show w.heap.size+1=b0+1 by omega,←hb0]
 have HZ:=hid hb0
 clear hb0
 have hR1:=R1.out.lt
 refine (begin_any A ns st t _ S W1 (H.out.keep0 C1.out) HP.out HG.out T1.out HB.out HC.out HR.out HN.out).mono ?_
 rintro e W2 ⟨pb,g,rl,its,rfl,hM,hc2⟩
 have M2:=hid hM
 have C2:=hid (C1.out.trans hc2 (fun _ _ e=>e))
 have R2:=hid (hc2.blk R1.out id)
 have Z12:=hc2.size
 clear hM hc2 R1 T1 C1
 obtain ⟨m,hm⟩:∃m,m=(T.post 0 t).length:=⟨_,rfl⟩
 have hmc:m=t.cnt:=by rw [hm];exact post_len t 0
 have HM:=hid hm
 have HMC:=hid hmc
 have hm6:m≤60000:=by have:=HC.out;omega
 clear hm hmc
 go_wp2_with fail
 go_loopw [5] (fun v W=>∃(k:Nat) (ys:List An),k≤m∧PenM A W W1.heap.size ns st pb g rl (T.post 0 t) its k ys∧W.ownsRow b0 55 1 v k (hdlsV ns.length k)∧Blk W (b0+1) 102 #[.int .u64 0,.int .i64 0,.int .i64 0,.int .i64 0,.int .i64 0]∧Ch A.mut w W∧(∀y ∈ ys,∀b,y.kb b→W1.heap.size≤b)∧∀y ∈ ns++ys,∀b,y.kb b→¬v.ownBlock=some b) (fun v _=>m - lenHV v)
 case atStart=>
  refine ⟨0,[],Nat.zero_le _,M2.out,World.ownsRow_nil _ _ _ _,R2.out,C2.out.mono (fun _ _ e=>e.elim),fun y hy=>by simp at hy,fun y hy b hb e=>by simp [Value.ownBlock] at e⟩
 case round=>
  clear M2 C2 R2
  obtain ⟨k,ys,hk,hM,hO,hR,hC,hky,hko⟩:=hrel
  obtain ⟨A0,c0,rfl,_⟩:=own_slice hO
  have MM:=hid hM
  have OO:=hid hO
  have RR:=hid hR
  have CC:=hid hC
  have KY:=hid hky
  have KO:=hid hko
  obtain ⟨ta,tc,hpen,_⟩:=hM.pen
  rw [←HM.out] at hpen
  have PP:=hid hpen
  obtain ⟨D,hD⟩:∃D,D=m - k:=⟨_,rfl⟩
  have c1:wr.cell? ⟨pb,1,none⟩=some (.slice ta D tc):=by rw [hD];exact hpen.cell 1
  have HD:=hid hD
  clear hM hO hR hC hky hko hpen
  by_cases hlt:k < m
  ·have y1:decide (0 < D)=true:=decide_eq_true (by omega)
   have y2:decide ((0:Int) < (D:Int))=true:=decide_eq_true (by omega)
   clear hD
   go_wp2_with fail
   refine (pen_step MM.out (by rw [←HM.out];exact hlt) (by rw [←HM.out];have:=HMC.out;have:=HR.out;have:=H.out.le;omega) HN.out).mono ?_
   rintro e W3 ⟨y,rfl,hM3,hC3,hyk⟩
   have M3:=hid hM3
   have C3:=hid hC3
   have YK:=hid hyk
   clear hM3 hC3 hyk c1
   generalize ((((T.post 0 t).length - (k+1):Nat):Int) == 0)=bb
   obtain ⟨HH,hHH⟩:∃x:Int,x=hdl (ns.length+k):=⟨_,rfl⟩
   rw [←hHH]
   have HHH:=hid hHH
   clear hHH
   obtain ⟨a2,c2',hpen,_⟩:=MM.out.pen
   have hvm:∀j,(Value.slice A0 k c0).ownBlock=some j→¬(A.mut j∨j=pb∨∃it ∈ its,it.rb=j):=fun j hj e=>by
    obtain ⟨cs,hb⟩:=own_blk OO.out hj
    rcases e with e | e | ⟨it,hit,e⟩
    ·exact MM.out.ar.off hb (by decide) (by decide) (by decide) e
    ·exact Blk.ne hb hpen (by decide) e
    ·obtain ⟨i,hi⟩:=List.getElem?_of_mem hit
     obtain ⟨s,hs⟩:∃s,(T.post 0 t)[i]?=some s:=⟨_,List.getElem?_eq_getElem (by rw [←MM.out.len];exact (List.getElem?_eq_some_iff.1 hi).1)⟩
     exact Blk.ne hb (MM.out.root i s it hs hi) (by decide) e.symm
   have O3:=hid (C3.out.own OO.out hvm)
   have R3:=hid (C3.out.blk RR.out (fun e=>by
    rcases e with e | e | ⟨it,hit,e⟩
    ·exact MM.out.ar.off RR.out (by decide) (by decide) (by decide) e
    ·exact Blk.ne RR.out hpen (by decide) e
    ·have:=MM.out.old.2.2 it hit;omega))
   have hvlt:∀j,(Value.slice A0 k c0).ownBlock=some j→b0≤j∧j < wr.heap.size:=fun j hj=>OO.out.lt j hj
   have VL:=hid hvlt
   have hz1r:W1.heap.size≤wr.heap.size:=by have:=hpen.lt;have:=MM.out.old.1;omega
   clear hvm hpen hvlt
   have hz03:b0+1 < W3.heap.size:=R3.out.lt
   go_wp2_with (at_builtin;refine wpList_app _ rfl (.tmp 37) (.tmp 39) 186 rfl b0 55 i0 _ 1 8 Tryz.underlying186 hi hz0 hz1 hz2 rfl (by decide) _ _ _ rfl (O3.out.alloc _) ⟨W3.heap.size,0,none⟩ 1 1 [.int .u64 HH] rfl rfl ?c1 ?c2 (by decide) ?c3 ?c4 ?c5 ?c6)
   case c1=>
    intro j u hu
    rw [addr_add0]
    exact ((Blk.new W3 55 #[.int .u64 HH]).cell j).trans (by simpa using hu)
   case c2=>intro u hu;simp at hu;subst hu;rfl
   case c3=>unfold maxLen;omega
   case c4=>omega
   case c5=>have:=Ch.size ((Ch.refl (fun _=>False) W3).alloc (.cells #[.int .u64 HH] 55));omega
   case c6=>
    intro v' w5 hown' hgrow hfresh
    have CR:=hid (show Ch (fun j=>(Value.slice A0 k c0).ownBlock=some j) W3 w5 from ((Ch.refl _ W3).alloc _).grown hgrow (fun j hj _=>hj))
    have OW:=hid hown'
    have HF:=hid hfresh
    obtain ⟨A5,c5,hv5,_⟩:=own_slice hown'
    subst hv5
    clear hown' hgrow hfresh
    go_wp2_with fail
    have hoff:∀b u cs,Blk W3 b u cs→u≠55→¬(Value.slice A0 k c0).ownBlock=some b:=fun b u cs hb hu=>hb.own O3.out hu
    have hfr:∀b,(Value.slice A5 (k+1) c5).ownBlock=some b→(Value.slice A0 k c0).ownBlock=some b∨W3.heap.size≤b:=fun b hb=>by
     rcases HF.out with e | e
     ·exact .inl (e ▸ hb)
     ·have:=e b hb
      have:=Ch.size ((Ch.refl (fun _=>False) W3).alloc (.cells #[.int .u64 HH] 55))
      exact .inr (by omega)
    have hko:∀z ∈ ns++(ys++[y]),∀b,z.kb b→¬(Value.slice A0 k c0).ownBlock=some b:=fun z hz b hb e=>by
     rw [←List.append_assoc] at hz
     rcases List.mem_append.1 hz with hz | hz
     ·exact KO.out z hz b hb e
     ·simp at hz
      subst hz
      have:=YK.out b hb
      have:=VL.out b e
      omega
    have hkl:∀z ∈ ns++(ys++[y]),∀b,z.kb b→b < W3.heap.size:=fun z hz b hb=>M3.out.ar.foot_lt (.inr (.inr (.inr ⟨z,hz,hb⟩)))
    refine ⟨⟨k+1,ys++[y],hlt,M3.out.keep CR.out (fun b hb hf e=>?_) (fun b u cs hb hu=>hoff b u cs hb (fun e=>absurd (e ▸ hu) (by unfold PT QT;decide))),?_,CR.out.blk R3.out (hoff _ _ _ R3.out (by decide)),?_,?_,?_⟩,by simp only [lenHV];omega⟩
    ·rcases hf with hf | hf | hf | ⟨z,hz,hf⟩
     ·obtain ⟨cs,hcs⟩:=own_blk O3.out e
      exact M3.out.ar.off hcs (by decide) (by decide) (by decide) hf
     ·exact hoff _ _ _ M3.out.ar.b0 (by decide) (hf ▸ e)
     ·exact hoff _ _ _ M3.out.ar.b2 (by decide) (hf ▸ e)
     ·exact hko z hz b hf e
    ·rw [hdls_succ,←HHH.out]
     exact OW.out
    ·refine (CC.out.trans C3.out (fun i hi e=>?_)).trans CR.out (fun i hi e=>?_)
     ·rcases e with e | e | ⟨it,hit,e⟩
      ·exact e
      ·have h1:=MM.out.old.1;have h2:=HZ.out;omega
      ·have h1:=MM.out.old.2.2 it hit;have h2:=HZ.out;omega
     ·have:=VL.out i e
      have:=HZ.out
      omega
    ·intro z hz b hb
     rcases List.mem_append.1 hz with hz | hz
     ·exact KY.out z hz b hb
     ·simp at hz
      subst hz
      have:=YK.out b hb
      omega
    ·intro z hz b hb e
     rcases hfr b e with e | e
     ·exact hko z hz b hb e
     ·have:=hkl z hz b hb
      omega
  ·obtain rfl:m=k:=by omega
   obtain rfl:D=0:=by omega
   clear hD
   obtain ⟨sp,hsp,e1,e2⟩:=post_last' t 0
   have HSP:=hid hsp
   have M4:=hid (show PenM A wr W1.heap.size ns st pb g rl (T.post 0 t) its (T.post 0 t).length ys from by rw [←HM.out];exact MM.out)
   go_wp2_with fail
   refine (root_any M4.out (by rw [←HM.out,HMC.out];exact HSP.out)).mono ?_
   rintro e W5 ⟨rfl,hc5⟩
   have C5:=hid hc5
   have R5:=hid (hc5.blk RR.out id)
   have O5:=hid (hc5.own OO.out (fun _ _=>id))
   have A5:=hid (MM.out.ar.keep0 hc5)
   rw [←HM.out,HMC.out]
   obtain ⟨H1,hH1⟩:∃x:Int,x=hdl (ns.length+(t.cnt - 1)):=⟨_,rfl⟩
   rw [←hH1]
   have HH1:=hid hH1
   clear hH1 hc5 c1
   simp only [Sp.rv]
   have z0:W5.cell? ⟨b0+1,0,none⟩=some (.int .u64 0):=R5.out.cell 0
   have z1:W5.cell? ⟨b0+1,1,none⟩=some (.int .i64 0):=R5.out.cell 1
   have z2:W5.cell? ⟨b0+1,2,none⟩=some (.int .i64 0):=R5.out.cell 2
   have z3:W5.cell? ⟨b0+1,3,none⟩=some (.int .i64 0):=R5.out.cell 3
   have z4:W5.cell? ⟨b0+1,4,none⟩=some (.int .i64 0):=R5.out.cell 4
   have f0:=R5.out.free 0
   have f1:=R5.out.free 1
   have f2:=R5.out.free 2
   have f3:=R5.out.free 3
   have f4:=R5.out.free 4
   go_wp2_with fail
   refine at_world fun WZ hWZ=>?_
   obtain ⟨rm,hrm⟩:∃x,x=t.meas:=⟨_,rfl⟩
   obtain ⟨rh,hrh⟩:∃x,x=t.ht:=⟨_,rfl⟩
   rw [←hrm,←hrh] at hWZ
   obtain ⟨V,hV⟩:∃V,V=(((((W5.setCell ⟨b0+1,0,none⟩ (.int .u64 H1)).setCell ⟨b0+1,1,none⟩ (.int .i64 (rh:Int))).setCell ⟨b0+1,2,none⟩ (.int .i64 rm.b)).setCell ⟨b0+1,3,none⟩ (.int .i64 rm.r)).setCell ⟨b0+1,4,none⟩ (.int .i64 rm.l)):=⟨_,rfl⟩
   rw [←hV] at hWZ
   have CV:=hid (show Ch (fun k=>k=b0+1) W5 V from by rw [hV];exact (((((Ch.refl (fun k=>k=b0+1) W5).set (fun _=>rfl) _).set (fun _=>rfl) _).set (fun _=>rfl) _).set (fun _=>rfl) _).set (fun _=>rfl) _)
   have BV:=hid (show Blk V (b0+1) 102 #[.int .u64 H1,.int .i64 (rh:Int),.int .i64 rm.b,.int .i64 rm.r,.int .i64 rm.l] from by rw [hV];exact (((((R5.out.put 0 _).put 1 _).put 2 _).put 3 _).put 4 _))
   clear hV
   have CZ:=hid (show Ch (fun k=>k=b0+1) W5 WZ from by rw [hWZ];exact CV.out.trans ((((((Ch.refl (fun k=>k=b0+1) V).set (fun _=>rfl) _).set (fun _=>rfl) _).set (fun _=>rfl) _).set (fun _=>rfl) _).set (fun _=>rfl) _) (fun _ _ e=>e))
   have BZ:=hid (show Blk WZ (b0+1) 102 #[.int .u64 H1,.int .i64 (rh:Int),.int .i64 rm.b,.int .i64 rm.r,.int .i64 rm.l] from by rw [hWZ];exact (((((BV.out.put 0 _).put 1 _).put 2 _).put 3 _).put 4 _))
   clear hWZ z0 z1 z2 z3 z4 f0 f1 f2 f3 f4
   have t0:WZ.cell? ⟨b0+1,0,none⟩=some (.int .u64 H1):=BZ.out.cell 0
   have t1:WZ.cell? ⟨b0+1,1,none⟩=some (.int .i64 (rh:Int)):=BZ.out.cell 1
   have t2:WZ.cell? ⟨b0+1,2,none⟩=some (.int .i64 rm.b):=BZ.out.cell 2
   have t3:WZ.cell? ⟨b0+1,3,none⟩=some (.int .i64 rm.r):=BZ.out.cell 3
   have t4:WZ.cell? ⟨b0+1,4,none⟩=some (.int .i64 rm.l):=BZ.out.cell 4
   have hO:=O5.out
   rw [HMC.out] at hO
   have hr5:∀b,A.foot (ns++ys) b→¬b=b0+1:=fun b hf e=>by
    rw [e] at hf
    rcases hf with hf | hf | hf | ⟨z,hz,hf⟩
    ·exact A5.out.off R5.out (by decide) (by decide) (by decide) hf
    ·exact Blk.ne R5.out A5.out.b0 (by decide) hf
    ·exact Blk.ne R5.out A5.out.b2 (by decide) hf
    ·rcases List.mem_append.1 hz with hz | hz
     ·have:=HFL.out _ (.inr (.inr (.inr ⟨z,hz,hf⟩)))
      have:=HZ.out
      omega
     ·have:=KY.out z hz _ hf
      omega
   refine bodyPost_ret (v:=.tuple #[.agg #[.int .u64 H1,.int .i64 (rh:Int),.int .i64 rm.b,.int .i64 rm.r,.int .i64 rm.l],.slice A0 t.cnt c0,.int .i64 0]) (by simp [results,Tryz.results81,go_sem,t0,t1,t2,t3,t4]) rfl ⟨ys,.slice A0 t.cnt c0,by rw [HH1.out,hrm,hrh];rfl,?_,A5.out.keep CZ.out (fun b _ hf=>hr5 b hf),MM.out.ap,by rw [MM.out.yl,HMC.out],fun j y hj=>MM.out.yx j y hj,(CC.out.trans C5.out (fun _ _ e=>e.elim)).trans CZ.out (fun i hi e=>absurd hi (by have:=HZ.out;omega)),fun y hy b hb=>by have:=KY.out y hy b hb;have:=HZ.out;omega⟩
   rw [←HZ.out]
   exact CZ.out.own hO (fun j hj e=>R5.out.own O5.out (by decide) (by rw [HMC.out];exact e ▸ hj))
def RopeOut (A:ArA) (ns:List An) (st:Int) (t:T) (w:World) (e:Ending) (w':World):Prop:=∃(ys:List An),e=.returned (.tuple #[t.rv (hdl (ns.length+(t.cnt - 1))),.int .i64 0])∧ArM A w' (ns++ys) st∧ArP (ns++ys)∧ys.length=t.cnt∧
 (∀(j:Nat) (y:An),ys[j]?=some y→∃sp,(T.post 0 t)[j]?=some sp∧y.x=sp.nd ns.length (T.post 0 t))∧Ch A.mut w w'∧∀y ∈ ys,∀b,y.kb b→w.heap.size≤b
theorem rope_new (A:ArA) (ns:List An) (st:Int) (s:ByteArray) (t:T) (w:World) (h:ArM A w ns st) (hP:ArP ns) (h0:0 < s.size) (hs:s.size≤65536) (ht:buildT s=[t]) (hc:t.cnt≤60000) (hroom:t.cnt≤A.n - ns.length) (hn:A.n≤16384) :
  Calls Tryz.prog 47 #[.pointer (some ⟨A.ab,0,none⟩),.string s] w (RopeOut A ns st t w):=by
 obtain ⟨t',ht',hg,hb⟩:=build_good h0 hs
 rw [ht] at ht'
 injection ht' with ht' _
 subst ht'
 have H:=hid h
 have HP:=hid hP
 have HG:=hid hg
 have HB:=hid hb
 have HC:=hid hc
 have HR:=hid hroom
 have HN:=hid hn
 have HT:=hid ht
 have HS0:=hid h0
 have HS:=hid hs
 clear h hP hg hb hc hroom hn ht h0 hs
 go_enter Tryz.func47,Tryz.ntmps47
 go_wp2_with fail
 refine calls_world fun W1 hW1=>?_
 have C1:=hid (show Ch (fun _=>False) w W1 from by rw [hW1];exact (Ch.refl _ w).alloc _)
 have R1:=hid (show Blk W1 w.heap.size 102 #[.int .u64 0,.int .i64 0,.int .i64 0,.int .i64 0,.int .i64 0] from by rw [hW1];exact Blk.new w _ _)
 clear hW1
 refine (build_any s HS.out W1).mono ?_
 rintro e W2 ⟨cs,rfl,hc2,hcs⟩
 have hT:TreeAt W2 (fun k=>W1.heap.size≤k) t cs:=by
  rcases hcs with ⟨e0,_⟩ | ⟨t',e1,e2⟩
  ·have:=HS0.out;omega
  ·rw [HT.out] at e1
   injection e1 with e1 _
   subst e1
   exact e2
 obtain ⟨cs0,ca,cn,cc,rfl⟩:=hT.form
 have T2:=hid hT
 have C2:=hid (C1.out.trans hc2 (fun _ _ e=>e))
 have R2:=hid (hc2.blk R1.out id)
 clear hT hcs hc2 C1 R1
 go_wp2_with fail
 refine calls_world fun W3 hW3=>?_
 have D3:=hid (show Ch (fun _=>False) W2 W3 from by rw [hW3];exact (Ch.refl _ W2).alloc _)
 have C3:=hid (C2.out.trans D3.out (fun _ _ e=>e))
 have R3:=hid (D3.out.blk R2.out id)
 have T3:=hid (T2.out.keep D3.out (fun _ _ _=>id) (fun _ _ h=>h) (S':=fun k=>W1.heap.size≤k))
 have A3:=hid (H.out.keep0 C3.out)
 clear hW3 D3 R2 C2 T2
 refine (write_any A ns st t _ _ W3 A3.out HP.out HG.out T3.out (by rw [HB.out];exact HS.out) HC.out HR.out HN.out).mono ?_
 rintro e W4 ⟨ys,v,rfl,ho,hM,hP4,hyl,hyx,hC4,hky⟩
 have M4:=hid hM
 have P4:=hid hP4
 have YL:=hid hyl
 have YX:=hid hyx
 have C4:=hid hC4
 have KY:=hid hky
 obtain ⟨va,vc,hv,_⟩:=own_slice ho
 subst hv
 have hsz3:=C3.out.size
 have R4:=hid (hC4.blk R3.out (A3.out.off R3.out (by decide) (by decide) (by decide)))
 clear ho hM hP4 hyl hyx hC4 hky
 obtain ⟨H1,hH1⟩:∃x:Int,x=hdl (ns.length+(t.cnt - 1)):=⟨_,rfl⟩
 obtain ⟨rm,hrm⟩:∃x,x=t.meas:=⟨_,rfl⟩
 obtain ⟨rh,hrh⟩:∃x,x=t.ht:=⟨_,rfl⟩
 have hrv:t.rv (hdl (ns.length+(t.cnt - 1)))=.agg #[.int .u64 H1,.int .i64 (rh:Int),.int .i64 rm.b,.int .i64 rm.r,.int .i64 rm.l]:=by rw [hH1,hrm,hrh];rfl
 rw [hrv]
 have HRV:=hid hrv
 clear hH1 hrm hrv
 have HRH:=hid hrh
 clear hrh
 have z0:W4.cell? ⟨w.heap.size,0,none⟩=some (.int .u64 0):=R4.out.cell 0
 have f0:=R4.out.free 0
 have z1:W4.cell? ⟨w.heap.size,1,none⟩=some (.int .i64 0):=R4.out.cell 1
 have f1:=R4.out.free 1
 have z2:W4.cell? ⟨w.heap.size,2,none⟩=some (.int .i64 0):=R4.out.cell 2
 have f2:=R4.out.free 2
 have z3:W4.cell? ⟨w.heap.size,3,none⟩=some (.int .i64 0):=R4.out.cell 3
 have f3:=R4.out.free 3
 have z4:W4.cell? ⟨w.heap.size,4,none⟩=some (.int .i64 0):=R4.out.cell 4
 have f4:=R4.out.free 4
 have hwl:w.heap.size < W4.heap.size:=R4.out.lt
 go_wp2_with fail
 refine at_world fun WZ hWZ=>?_
 have CZ:=hid (show Ch (fun k=>k=w.heap.size) W4 WZ from by rw [hWZ];exact (((((((Ch.refl (fun k=>k=w.heap.size) W4).set (fun _=>rfl) _).set (fun _=>rfl) _).set (fun _=>rfl) _).set (fun _=>rfl) _).set (fun _=>rfl) _).alloc _))
 have BZ:=hid (show Blk WZ w.heap.size 102 #[.int .u64 H1,.int .i64 (rh:Int),.int .i64 rm.b,.int .i64 rm.r,.int .i64 rm.l] from by rw [hWZ];exact ((((((R4.out.put 0 _).put 1 _).put 2 _).put 3 _).put 4 _).alloc _))
 clear hWZ z0 z1 z2 z3 z4 f0 f1 f2 f3 f4
 have t0:WZ.cell? ⟨w.heap.size,0,none⟩=some (.int .u64 H1):=BZ.out.cell 0
 have t1:WZ.cell? ⟨w.heap.size,1,none⟩=some (.int .i64 (rh:Int)):=BZ.out.cell 1
 have t2:WZ.cell? ⟨w.heap.size,2,none⟩=some (.int .i64 rm.b):=BZ.out.cell 2
 have t3:WZ.cell? ⟨w.heap.size,3,none⟩=some (.int .i64 rm.r):=BZ.out.cell 3
 have t4:WZ.cell? ⟨w.heap.size,4,none⟩=some (.int .i64 rm.l):=BZ.out.cell 4
 have hr5:∀b,A.foot (ns++ys) b→¬b=w.heap.size:=fun b hf e=>by
  rw [e] at hf
  rcases hf with hf | hf | hf | ⟨z,hz,hf⟩
  ·exact M4.out.off R4.out (by decide) (by decide) (by decide) hf
  ·exact Blk.ne R4.out M4.out.b0 (by decide) hf
  ·exact Blk.ne R4.out M4.out.b2 (by decide) hf
  ·rcases List.mem_append.1 hz with hz | hz
   ·have:=H.out.foot_lt (.inr (.inr (.inr ⟨z,hz,hf⟩)))
    omega
   ·have:=KY.out z hz _ hf
    have:=R3.out.lt
    omega
 refine bodyPost_ret (v:=.tuple #[.agg #[.int .u64 H1,.int .i64 (rh:Int),.int .i64 rm.b,.int .i64 rm.r,.int .i64 rm.l],.int .i64 0]) (by simp [results,Tryz.results47,go_sem,t0,t1,t2,t3,t4]) rfl ⟨ys,by rw [HRV.out],M4.out.keep CZ.out (fun b _ hf=>hr5 b hf),P4.out,YL.out,YX.out,((C3.out.mono (fun _ _ e=>e.elim)).trans C4.out (fun _ _ e=>e)).trans CZ.out (fun i hi e=>absurd hi (by omega)),fun y hy b hb=>by have:=KY.out y hy b hb;omega⟩
theorem begin_no (A:ArA) (ns:List An) (st:Int) (t:T) (cs:List Value) (S:Nat→Prop) (w:World) (h:ArM A w ns st) (hP:ArP ns) (hg:t.good) (hT:TreeAt w S t cs) (hb:t.bytes≤65536) (hc:t.cnt≤60000) (hroom:A.n - ns.length < t.cnt) (hn:A.n≤16384) :
  Calls Tryz.prog 119 #[.pointer (some ⟨A.ab,0,none⟩),.agg cs.toArray] w fun e w'=>e=.returned (.tuple #[.pointer none,.int .i64 6])∧Ch (fun _=>False) w w':=by
 obtain ⟨s,a,n,c,rfl⟩:=hT.form
 have d1:decide (A.n - ns.length < t.cnt)=true:=decide_eq_true (by omega)
 have d2:decide (((A.n - ns.length:Nat):Int) < (t.cnt:Int))=true:=decide_eq_true (by omega)
 obtain ⟨F,hF⟩:∃F,F=A.n - ns.length:=⟨_,rfl⟩
 rw [←hF] at d1 d2
 obtain ⟨TC,hTC⟩:∃x,x=t.cnt:=⟨_,rfl⟩
 rw [←hTC] at d1 d2
 have H:=hid h
 have HP:=hid hP
 have HG:=hid hg
 have HT:=hid hT
 have HF:=hid hF
 have HTC:=hid hTC
 have HB:=hid hb
 have HC:=hid hc
 clear h hP hT hg hF hTC hroom hb hc
 go_enter Tryz.func119,Tryz.ntmps119
 go_wp2_with fail
 refine calls_world fun W1 hW1=>?_
 have C1:=hid (show Ch (fun _=>False) w W1 from by rw [hW1];exact (Ch.refl _ w).alloc _)
 have T1:=hid (HT.out.keep C1.out (fun _ _ _=>id) (fun _ _ h=>h) (S':=S))
 have K1:=hid (show Blk W1 w.heap.size 183 #[.int .u64 0,.int .i64 (Int.ofNat t.ht),.int .i64 0,.int .i64 0,.int .i64 0,.string s,.slice a n c] from by rw [hW1];exact Blk.new w _ _)
 clear hW1
 refine (pcheck_any A.ab t _ W1 S HG.out T1.out HB.out).mono ?_
 rintro e W2 ⟨rfl,hc2⟩
 have C2:=hid (C1.out.trans hc2 (fun _ _ e=>e))
 have K2:=hid (hc2.blk K1.out id)
 have T2:=hid (T1.out.keep hc2 (fun _ _ _=>id) (fun _ _ h=>h) (S':=S))
 clear hc2 C1 T1 K1
 have k0:W2.cell? ⟨w.heap.size,0,none⟩=some (.int .u64 0):=K2.out.cell 0
 have k1:W2.cell? ⟨w.heap.size,1,none⟩=some (.int .i64 (Int.ofNat t.ht)):=K2.out.cell 1
 have k2:W2.cell? ⟨w.heap.size,2,none⟩=some (.int .i64 0):=K2.out.cell 2
 have k3:W2.cell? ⟨w.heap.size,3,none⟩=some (.int .i64 0):=K2.out.cell 3
 have k4:W2.cell? ⟨w.heap.size,4,none⟩=some (.int .i64 0):=K2.out.cell 4
 have k5:W2.cell? ⟨w.heap.size,5,none⟩=some (.string s):=K2.out.cell 5
 have k6:W2.cell? ⟨w.heap.size,6,none⟩=some (.slice a n c):=K2.out.cell 6
 go_wp2_with fail
 refine (gnew_any t _ W2 S HG.out T2.out (by have:=HC.out;omega)).mono ?_
 rintro e W3 ⟨rfl,hc3⟩
 have C3:=hid (C2.out.trans hc3 (fun _ _ e=>e))
 have K3:=hid (hc3.blk K2.out id)
 have T3:=hid (T2.out.keep hc3 (fun _ _ _=>id) (fun _ _ h=>h) (S':=S))
 clear hc3 C2 T2 K2 k0 k1 k2 k3 k4 k5 k6
 rw [←HTC.out]
 go_wp2_with fail
 refine (statsM A ns st hn W3 (H.out.keep0 C3.out)).mono ?_
 rintro e W4 ⟨rfl,hc4⟩
 rw [←HF.out]
 have C4:=hid (C3.out.trans hc4 (fun _ _ e=>e))
 have K4:=hid (hc4.blk K3.out id)
 have T4:=hid (T3.out.keep hc4 (fun _ _ _=>id) (fun _ _ h=>h) (S':=S))
 clear hc4 C3 T3 K3
 have k0:W4.cell? ⟨w.heap.size,0,none⟩=some (.int .u64 0):=K4.out.cell 0
 have k1:W4.cell? ⟨w.heap.size,1,none⟩=some (.int .i64 (Int.ofNat t.ht)):=K4.out.cell 1
 have k2:W4.cell? ⟨w.heap.size,2,none⟩=some (.int .i64 0):=K4.out.cell 2
 have k3:W4.cell? ⟨w.heap.size,3,none⟩=some (.int .i64 0):=K4.out.cell 3
 have k4:W4.cell? ⟨w.heap.size,4,none⟩=some (.int .i64 0):=K4.out.cell 4
 have k5:W4.cell? ⟨w.heap.size,5,none⟩=some (.string s):=K4.out.cell 5
 have k6:W4.cell? ⟨w.heap.size,6,none⟩=some (.slice a n c):=K4.out.cell 6
 have hfd:∀W,(Instr.field 97 (.agg #[.int .i64 (A.n:Int),.int .i64 (F:Int),.int .i64 (ns.length:Int),.int .i64 0,.int .i64 (ns.length:Int),.int .i64 0,.int .i64 st]) 1).run Tryz.prog W=.ok (.int .i64 (F:Int)) W:=fun W=>by kernel_rfl
 go_wp2_with fail
 go_ret2
 exact ⟨rfl,C4.out⟩
theorem write_no (A:ArA) (ns:List An) (st:Int) (t:T) (cs:List Value) (S:Nat→Prop) (w:World) (h:ArM A w ns st) (hP:ArP ns) (hg:t.good) (hT:TreeAt w S t cs) (hb:t.bytes≤65536) (hc:t.cnt≤60000) (hroom:A.n - ns.length < t.cnt) (hn:A.n≤16384) :
  Calls Tryz.prog 81 #[.pointer (some ⟨A.ab,0,none⟩),.agg cs.toArray] w fun e w'=>e=.returned (.tuple #[.agg #[.int .u64 0,.int .i64 0,.int .i64 0,.int .i64 0,.int .i64 0],.slice none 0 0,.int .i64 6])∧Ch (fun _=>False) w w':=by
 obtain ⟨s,a,n,c,rfl⟩:=hT.form
 have H:=hid h
 have HP:=hid hP
 have HG:=hid hg
 have HT:=hid hT
 have HB:=hid hb
 have HC:=hid hc
 have HR:=hid hroom
 have HN:=hid hn
 clear h hP hT hg hroom hb hc hn
 go_enter Tryz.func81,Tryz.ntmps81
 go_wp2_with fail
 refine calls_world fun W1 hW1=>?_
 obtain ⟨b0,hb0⟩:∃x,x=w.heap.size:=⟨_,rfl⟩
 have C1:=hid (show Ch (fun _=>False) w W1 from by rw [hW1];exact ((Ch.refl _ w).alloc _).alloc _)
 have R1:=hid (show Blk W1 (b0+1) 102 #[.int .u64 0,.int .i64 0,.int .i64 0,.int .i64 0,.int .i64 0] from by
  rw [hW1,hb0]
  have t:=Blk.new (w.alloc (.cells #[.int .u64 0,.int .i64 (Int.ofNat t.ht),.int .i64 0,.int .i64 0,.int .i64 0,.string s,.slice a n c] 183)) 102 #[.int .u64 0,.int .i64 0,.int .i64 0,.int .i64 0,.int .i64 0]
  simpa using t)
 have T1:=hid (HT.out.keep C1.out (fun _ _ _=>id) (fun _ _ h=>h) (S':=S))
 clear hW1
 rw [show w.heap.size+1=b0+1 by omega,←hb0]
 have HZ:=hid hb0
 clear hb0
 refine (begin_no A ns st t _ S W1 (H.out.keep0 C1.out) HP.out HG.out T1.out HB.out HC.out HR.out HN.out).mono ?_
 rintro e W2 ⟨rfl,hc2⟩
 have C2:=hid (C1.out.trans hc2 (fun _ _ e=>e))
 have R2:=hid (hc2.blk R1.out id)
 clear hc2 R1 T1 C1
 have z0:W2.cell? ⟨b0+1,0,none⟩=some (.int .u64 0):=R2.out.cell 0
 have f0:=R2.out.free 0
 have z1:W2.cell? ⟨b0+1,1,none⟩=some (.int .i64 0):=R2.out.cell 1
 have f1:=R2.out.free 1
 have z2:W2.cell? ⟨b0+1,2,none⟩=some (.int .i64 0):=R2.out.cell 2
 have f2:=R2.out.free 2
 have z3:W2.cell? ⟨b0+1,3,none⟩=some (.int .i64 0):=R2.out.cell 3
 have f3:=R2.out.free 3
 have z4:W2.cell? ⟨b0+1,4,none⟩=some (.int .i64 0):=R2.out.cell 4
 have f4:=R2.out.free 4
 go_wp2_with fail
 refine at_world fun WZ hWZ=>?_
 have CZ:=hid (show Ch (fun k=>k=b0+1) W2 WZ from by rw [hWZ];exact ((((((Ch.refl (fun k=>k=b0+1) W2).set (fun _=>rfl) _).set (fun _=>rfl) _).set (fun _=>rfl) _).set (fun _=>rfl) _).set (fun _=>rfl) _))
 have BZ:=hid (show Blk WZ (b0+1) 102 #[.int .u64 0,.int .i64 0,.int .i64 0,.int .i64 0,.int .i64 0] from by rw [hWZ];exact (((((R2.out.put 0 _).put 1 _).put 2 _).put 3 _).put 4 _))
 clear hWZ z0 z1 z2 z3 z4 f0 f1 f2 f3 f4
 have t0:WZ.cell? ⟨b0+1,0,none⟩=some (.int .u64 0):=BZ.out.cell 0
 have t1:WZ.cell? ⟨b0+1,1,none⟩=some (.int .i64 0):=BZ.out.cell 1
 have t2:WZ.cell? ⟨b0+1,2,none⟩=some (.int .i64 0):=BZ.out.cell 2
 have t3:WZ.cell? ⟨b0+1,3,none⟩=some (.int .i64 0):=BZ.out.cell 3
 have t4:WZ.cell? ⟨b0+1,4,none⟩=some (.int .i64 0):=BZ.out.cell 4
 refine bodyPost_ret (v:=.tuple #[.agg #[.int .u64 0,.int .i64 0,.int .i64 0,.int .i64 0,.int .i64 0],.slice none 0 0,.int .i64 6]) (by simp [results,Tryz.results81,go_sem,t0,t1,t2,t3,t4]) rfl ⟨rfl,C2.out.trans CZ.out (fun i hi e=>absurd hi (by have:=HZ.out;omega))⟩
theorem rope_no (A:ArA) (ns:List An) (st:Int) (s:ByteArray) (t:T) (w:World) (h:ArM A w ns st) (hP:ArP ns) (h0:0 < s.size) (hs:s.size≤65536) (ht:buildT s=[t]) (hc:t.cnt≤60000) (hroom:A.n - ns.length < t.cnt) (hn:A.n≤16384) :
  Calls Tryz.prog 47 #[.pointer (some ⟨A.ab,0,none⟩),.string s] w fun e w'=>e=.returned (.tuple #[.agg #[.int .u64 0,.int .i64 0,.int .i64 0,.int .i64 0,.int .i64 0],.int .i64 6])∧Ch (fun _=>False) w w':=by
 obtain ⟨t',ht',hg,hb⟩:=build_good h0 hs
 rw [ht] at ht'
 injection ht' with ht' _
 subst ht'
 have H:=hid h
 have HP:=hid hP
 have HG:=hid hg
 have HB:=hid hb
 have HC:=hid hc
 have HR:=hid hroom
 have HN:=hid hn
 have HT:=hid ht
 have HS0:=hid h0
 have HS:=hid hs
 clear h hP hg hb hc hroom hn ht h0 hs
 go_enter Tryz.func47,Tryz.ntmps47
 go_wp2_with fail
 refine calls_world fun W1 hW1=>?_
 have C1:=hid (show Ch (fun _=>False) w W1 from by rw [hW1];exact (Ch.refl _ w).alloc _)
 have R1:=hid (show Blk W1 w.heap.size 102 #[.int .u64 0,.int .i64 0,.int .i64 0,.int .i64 0,.int .i64 0] from by rw [hW1];exact Blk.new w _ _)
 clear hW1
 refine (build_any s HS.out W1).mono ?_
 rintro e W2 ⟨cs,rfl,hc2,hcs⟩
 have hT:TreeAt W2 (fun k=>W1.heap.size≤k) t cs:=by
  rcases hcs with ⟨e0,_⟩ | ⟨t',e1,e2⟩
  ·have:=HS0.out;omega
  ·rw [HT.out] at e1
   injection e1 with e1 _
   subst e1
   exact e2
 obtain ⟨cs0,ca,cn,cc,rfl⟩:=hT.form
 have T2:=hid hT
 have C2:=hid (C1.out.trans hc2 (fun _ _ e=>e))
 have R2:=hid (hc2.blk R1.out id)
 clear hT hcs hc2 C1 R1
 go_wp2_with fail
 refine calls_world fun W3 hW3=>?_
 have D3:=hid (show Ch (fun _=>False) W2 W3 from by rw [hW3];exact (Ch.refl _ W2).alloc _)
 have C3:=hid (C2.out.trans D3.out (fun _ _ e=>e))
 have R3:=hid (D3.out.blk R2.out id)
 have T3:=hid (T2.out.keep D3.out (fun _ _ _=>id) (fun _ _ h=>h) (S':=fun k=>W1.heap.size≤k))
 have A3:=hid (H.out.keep0 C3.out)
 clear hW3 D3 R2 C2 T2
 refine (write_no A ns st t _ _ W3 A3.out HP.out HG.out T3.out (by rw [HB.out];exact HS.out) HC.out HR.out HN.out).mono ?_
 rintro e W4 ⟨rfl,hC4⟩
 have C4:=hid (C3.out.trans hC4 (fun _ _ e=>e))
 have R4:=hid (hC4.blk R3.out id)
 clear hC4
 have z0:W4.cell? ⟨w.heap.size,0,none⟩=some (.int .u64 0):=R4.out.cell 0
 have f0:=R4.out.free 0
 have z1:W4.cell? ⟨w.heap.size,1,none⟩=some (.int .i64 0):=R4.out.cell 1
 have f1:=R4.out.free 1
 have z2:W4.cell? ⟨w.heap.size,2,none⟩=some (.int .i64 0):=R4.out.cell 2
 have f2:=R4.out.free 2
 have z3:W4.cell? ⟨w.heap.size,3,none⟩=some (.int .i64 0):=R4.out.cell 3
 have f3:=R4.out.free 3
 have z4:W4.cell? ⟨w.heap.size,4,none⟩=some (.int .i64 0):=R4.out.cell 4
 have f4:=R4.out.free 4
 have hwl:w.heap.size < W4.heap.size:=R4.out.lt
 go_wp2_with fail
 refine at_world fun WZ hWZ=>?_
 have CZ:=hid (show Ch (fun k=>k=w.heap.size) W4 WZ from by rw [hWZ];exact (((((((Ch.refl (fun k=>k=w.heap.size) W4).set (fun _=>rfl) _).set (fun _=>rfl) _).set (fun _=>rfl) _).set (fun _=>rfl) _).set (fun _=>rfl) _).alloc _))
 have BZ:=hid (show Blk WZ w.heap.size 102 #[.int .u64 0,.int .i64 0,.int .i64 0,.int .i64 0,.int .i64 0] from by rw [hWZ];exact ((((((R4.out.put 0 _).put 1 _).put 2 _).put 3 _).put 4 _).alloc _))
 clear hWZ z0 z1 z2 z3 z4 f0 f1 f2 f3 f4
 have t0:WZ.cell? ⟨w.heap.size,0,none⟩=some (.int .u64 0):=BZ.out.cell 0
 have t1:WZ.cell? ⟨w.heap.size,1,none⟩=some (.int .i64 0):=BZ.out.cell 1
 have t2:WZ.cell? ⟨w.heap.size,2,none⟩=some (.int .i64 0):=BZ.out.cell 2
 have t3:WZ.cell? ⟨w.heap.size,3,none⟩=some (.int .i64 0):=BZ.out.cell 3
 have t4:WZ.cell? ⟨w.heap.size,4,none⟩=some (.int .i64 0):=BZ.out.cell 4
 refine bodyPost_ret (v:=.tuple #[.agg #[.int .u64 0,.int .i64 0,.int .i64 0,.int .i64 0,.int .i64 0],.int .i64 6]) (by simp [results,Tryz.results47,go_sem,t0,t1,t2,t3,t4]) rfl ⟨rfl,C4.out.trans CZ.out (fun i hi e=>absurd hi (by omega))⟩
theorem ArM.st {A:ArA} {w:World} (h:ArM A w [] 0):∃xs,StM w A.ab A.n A.lb A.mb A.g0 A.g1 xs:=by
 have e:fillA (fun _=>Value.int .u8 1) (.int .u8 0) A.n 0=fillA (fun _=>.int .u8 0) (.int .u8 0) A.n A.n:=by simp [fillA]
 refine ⟨(List.range A.n).map (fun i:Nat=>(A.n:Int) - 1 - i),h.a,?_,h.l.lt,h.l.cell 0,h.l.cell 1,?_,?_,by simp⟩
 ·obtain ⟨bs,hl,hm⟩:=h.m
  simpa [entsF] using hm
 ·have:=h.b0
  rw [fill_i64s (fun i:Nat=>(A.n:Int) - 1 - i)] at this
  exact this
 ·have t:=h.b1
  rw [show ([]:List An).length=0 from rfl,e] at t
  exact t
theorem rope_zero (A:ArA) (w:World) (h:ArM A w [] 0) (hn:A.n≤16384):Calls Tryz.prog 47 #[.pointer (some ⟨A.ab,0,none⟩),.string ⟨#[]⟩] w fun e w'=>e=.returned (.tuple #[.agg #[.int .u64 0,.int .i64 0,.int .i64 0,.int .i64 0,.int .i64 0],.int .i64 0])∧Ch (fun _=>False) w w':=by
 obtain ⟨xs,hS⟩:=h.st
 exact rnew0 A.ab A.n A.lb A.mb A.g0 A.g1 xs hn w hS
end Go.Proofs.YtjcdknhejcbpiaaGreat
