/- Lemmas; no condition. -/
import Derived.Test.YtjcdknhejcbpiaaGreatSb38
import Derived.Test.YtjcdknhejcbpiaaGreatSb40
set_option maxRecDepth 100000
set_option maxHeartbeats 4000000
namespace Go.Proofs.YtjcdknhejcbpiaaGreat
open Go.RowKit
set_option linter.unusedVariables false
set_option linter.unusedSimpArgs false
set_option linter.unusedSectionVars false
theorem hd_set:∀(l:List HdV) (k:Nat) (x y:HdV),l[k]?=some x->(((((hdCells l).set (k * 5) (.bool y.is)).set (k * 5+1) (.string y.s)).set (k * 5+2) y.mv).set (k * 5+3) (.int .i64 y.h)).set (k * 5+4) (.int .i64 y.cu)=hdCells (l.set k y)
 | [],k,x,y,h=>by simp at h
 | a::l,0,x,y,_=>rfl
 | a::l,k+1,x,y,h=>by
  have ih:=hd_set l k x y (by simpa using h)
  have e:∀j,(k+1) * 5+j=(k * 5+j)+1+1+1+1+1:=fun j=>by omega
  have c:hdCells (a::l)=.bool a.is::.string a.s::a.mv::.int .i64 a.h::.int .i64 a.cu::hdCells l:=rfl
  have c2:hdCells ((a::l).set (k+1) y)=.bool a.is::.string a.s::a.mv::.int .i64 a.h::.int .i64 a.cu::hdCells (l.set k y):=rfl
  rw [c,c2,e 1,e 2,e 3,e 4,show (k+1) * 5=(k * 5)+1+1+1+1+1 from by omega]
  simp only [List.set_cons_succ]
  rw [ih]
theorem hd_cur:∀(l:List HdV) (k:Nat) (x:HdV) (v:Int),l[k]?=some x->(hdCells l).set (k * 5+4) (.int .i64 v)=hdCells (l.set k { x with cu:=v })
 | [],k,x,v,h=>by simp at h
 | a::l,0,x,v,h=>by
  simp at h
  subst h
  rfl
 | a::l,k+1,x,v,h=>by
  have ih:=hd_cur l k x v (by simpa using h)
  have c:hdCells (a::l)=.bool a.is::.string a.s::a.mv::.int .i64 a.h::.int .i64 a.cu::hdCells l:=rfl
  have c2:hdCells ((a::l).set (k+1) { x with cu:=v })=.bool a.is::.string a.s::a.mv::.int .i64 a.h::.int .i64 a.cu::hdCells (l.set k { x with cu:=v }):=rfl
  rw [c,c2,show (k+1) * 5+4=(k * 5+4)+1+1+1+1+1 from by omega]
  simp only [List.set_cons_succ]
  rw [ih]
def hdDone (now:HdV) (hs:List HdV) (c:Cop) (r:RsV):List HdV:=if r.er=0 then (match c with
 | .acq=>hs.set r.sl.toNat ⟨true,now.s,now.mv,now.ms,now.h,0⟩
 | .rel k=>hs.set k HdV.zero
 | .seek k _=>match hs[k]? with
  | some x=>hs.set k { x with cu:=r.at' }
  | none=>hs
 | .next k _=>match hs[k]? with
  | some x=>hs.set k { x with cu:=r.at' }
  | none=>hs
 | _=>hs) else hs
section
variable {p:PlS} {sb g n:Nat} {w:World}
theorem done_any (PB:Blk w p.g 51 (p.cells sb g n)) (HB:Blk w p.hb 49 (hdCells p.hs).toArray) (hne:p.g≠p.hb) (hl:p.hs.length=n) (hn:n<=4) {c:Cop} (hs:c.small n) {r:RsV} {am:Option Addr} {m1 c1:Nat} (hmv:p.now.mv=.slice am m1 c1) (hr:r.er=0->c=.acq->∃k:Nat,r.sl=(k:Int)/\k < n) :
  Calls Tryz.prog 34 #[.pointer (some ⟨p.g,0,none⟩),c.op.v,r.v] w fun e w'=>e=.returned (.tuple #[])/\Blk w' p.hb 49 (hdCells (hdDone p.now p.hs c r)).toArray/\Ch (fun k=>k=p.hb) w w':=by
 have HP:=hid PB
 have HH:=hid HB
 have HL:=hid hl
 have HMV:=hid hmv
 clear PB HB hl hmv
 simp only [OpV.v,RsV.v]
 go_enter Tryz.func34,Tryz.ntmps34
 go_upto_region 1 with fail
 refine at_world fun W1 hW1=>?_
 have C1:=hid (show Ch (fun _=>False) w W1 from by rw [hW1];exact ((Ch.refl _ w).alloc _).alloc _)
 obtain ⟨ob,hob⟩:∃z,z=w.heap.size:=⟨_,rfl⟩
 obtain ⟨xb,hxb⟩:∃z,z=w.heap.size+1:=⟨_,rfl⟩
 have O1:=hid (show Blk W1 ob 26 #[.int .u8 c.op.k,.int .i64 c.op.sl,.int .i64 c.op.at',.int .i64 c.op.n,.int .u32 c.op.id,.int .u8 c.op.g,.string c.op.s] from by rw [hW1,hob];exact (Blk.new w _ _).alloc _)
 have X1:=hid (show Blk W1 xb 41 r.arr from by
  rw [hW1,hxb]
  have t:=Blk.new (w.alloc (.cells #[.int .u8 c.op.k,.int .i64 c.op.sl,.int .i64 c.op.at',.int .i64 c.op.n,.int .u32 c.op.id,.int .u8 c.op.g,.string c.op.s] 26)) 41 r.arr
  simp only [RsV.arr] at t |-
  simpa using t)
 have H1:=hid (C1.out.blk HH.out id)
 have P1:=hid (C1.out.blk HP.out id)
 try rw [<-hxb]
 try rw [<-hob]
 clear hW1 hob hxb
 obtain ⟨-,-,q2,-,q4⟩:=P1.out.c5
 have q5:W1.cell? ⟨p.g,5,none⟩=some (.slice am m1 c1):=by rw [<-HMV.out];exact P1.out.cell 5
 have q6:W1.cell? ⟨p.g,6,none⟩=some (.int .i64 p.now.h):=P1.out.cell 6
 obtain ⟨o0,o1⟩:=O1.out.c2
 obtain ⟨x0,-,x2,x3⟩:=X1.out.c4
 have CX:=hid (show Ch (fun k=>k=p.hb) w W1 from C1.out.mono (fun _ _ h=>h.elim))
 by_cases her:r.er=0
 ·have e1:(r.er != 0)=false:=by rw [her];rfl
  have HER:=hid her
  have NOP:(∀k,c≠.rel k)->c≠.acq->(∀k a,c≠.seek k a)->(∀k b,c≠.next k b)->hdDone p.now p.hs c r=p.hs:=fun h1 h2 h3 h4=>by
   unfold hdDone
   rw [if_pos HER.out]
   cases c with
   | acq=>exact absurd rfl h2
   | rel k=>exact absurd rfl (h1 k)
   | seek k a=>exact absurd rfl (h3 k a)
   | next k b=>exact absurd rfl (h4 k b)
   | _=>rfl
  have HNOP:=hid NOP
  have HPUT:=hid (show ∀(k:Nat) (x y:HdV) (W:World),p.hs[k]?=some x->Blk W p.hb 49 (hdCells p.hs).toArray->Blk (((((W.setCell ⟨p.hb,k * 5,none⟩ (.bool y.is)).setCell ⟨p.hb,k * 5+1,none⟩ (.string y.s)).setCell ⟨p.hb,k * 5+2,none⟩ y.mv).setCell ⟨p.hb,k * 5+3,none⟩ (.int .i64 y.h)).setCell ⟨p.hb,k * 5+4,none⟩ (.int .i64 y.cu)) p.hb 49 (hdCells (p.hs.set k y)).toArray from fun k x y W hx H=>by
   have t:=((((H.put (k * 5) (.bool y.is)).put (k * 5+1) (.string y.s)).put (k * 5+2) y.mv).put (k * 5+3) (.int .i64 y.h)).put (k * 5+4) (.int .i64 y.cu)
   simp only [List.setIfInBounds_toArray] at t
   rw [hd_set p.hs k x y hx] at t
   exact t)
  clear her NOP
  cases c with
  | acq=>
   obtain ⟨k,hk,hkn⟩:=hr HER.out rfl
   have hdd:hdDone p.now p.hs .acq r=p.hs.set k ⟨true,p.now.s,.slice am m1 c1,p.now.ms,p.now.h,0⟩:=by
    unfold hdDone
    rw [if_pos HER.out,hk,HMV.out]
    rfl
   have HD:=hid hdd
   rw [hk] at x2
   clear hdd hk hr
   simp only [Cop.op,acqOp] at o0 o1
   obtain ⟨x,hx⟩:∃x,p.hs[k]?=some x:=⟨_,List.getElem?_eq_getElem (by rw [HL.out];exact hkn)⟩
   have HX:=hid hx
   have i0:W1.cell? ⟨p.hb,k * 5,none⟩=some (.bool x.is):=hd_cell H1.out hx 0 _ rfl
   have i1:W1.cell? ⟨p.hb,k * 5+1,none⟩=some (.string x.s):=hd_cell H1.out hx 1 _ rfl
   have i2:W1.cell? ⟨p.hb,k * 5+2,none⟩=some x.mv:=hd_cell H1.out hx 2 _ rfl
   have i3:W1.cell? ⟨p.hb,k * 5+3,none⟩=some (.int .i64 x.h):=hd_cell H1.out hx 3 _ rfl
   have i4:W1.cell? ⟨p.hb,k * 5+4,none⟩=some (.int .i64 x.cu):=hd_cell H1.out hx 4 _ rfl
   have f0:W1.frozen? ⟨p.hb,k * 5,none⟩=false:=H1.out.free _
   have f1:W1.frozen? ⟨p.hb,k * 5+1,none⟩=false:=H1.out.free _
   have f2:W1.frozen? ⟨p.hb,k * 5+2,none⟩=false:=H1.out.free _
   have f3:W1.frozen? ⟨p.hb,k * 5+3,none⟩=false:=H1.out.free _
   have f4:W1.frozen? ⟨p.hb,k * 5+4,none⟩=false:=H1.out.free _
   obtain ⟨d1,d1'⟩:=dc_ltT (a:=k) (b:=n) (by omega)
   clear hx
   go_wp2_with fail
   refine Mix.rt [0,0,0,0,0,0,0,0,0,0,0,0,0,0,0,0,0,0,0,0,0,0,0,2] [0,1,2,3,4,5,6,7,8,9,10,11,12,13,14,15,16,17,18,19,20,21,22,23] ?_
   repeat ((first | refine Mix.zq ?_ | refine Mix.zp ?_ | refine Mix.zs ?_);go_big_quiet_step (fail);refine wpQuiet_nil ?_)
   refine Mix.ze fun V1 hV1=>?_
   obtain ⟨k1,rfl⟩:=hV1
   go_wp2_with fail
   intro k2
   go_wp2_with fail
   go_end0
   exact ⟨rfl,by rw [HD.out];exact (HPUT.out k x ⟨true,p.now.s,.slice am m1 c1,p.now.ms,p.now.h,0⟩ (W1.drewN k1) HX.out (H1.out.drewN k1)).drewN k2,CX.out.trans ((((((((Ch.refl (fun k=>k=p.hb) W1).drewN k1).set (fun _=>rfl) _).set (fun _=>rfl) _).set (fun _=>rfl) _).set (fun _=>rfl) _).set (fun _=>rfl) _).drewN k2) (fun _ _ e=>e)⟩
  | rel k=>
   have hkn:k < n:=hs
   have hdd:hdDone p.now p.hs (.rel k) r=p.hs.set k HdV.zero:=by
    unfold hdDone
    rw [if_pos HER.out]
   have HD:=hid hdd
   clear hdd hr
   simp only [Cop.op] at o0 o1
   obtain ⟨x,hx⟩:∃x,p.hs[k]?=some x:=⟨_,List.getElem?_eq_getElem (by rw [HL.out];exact hkn)⟩
   have HX:=hid hx
   have i0:W1.cell? ⟨p.hb,k * 5,none⟩=some (.bool x.is):=hd_cell H1.out hx 0 _ rfl
   have i1:W1.cell? ⟨p.hb,k * 5+1,none⟩=some (.string x.s):=hd_cell H1.out hx 1 _ rfl
   have i2:W1.cell? ⟨p.hb,k * 5+2,none⟩=some x.mv:=hd_cell H1.out hx 2 _ rfl
   have i3:W1.cell? ⟨p.hb,k * 5+3,none⟩=some (.int .i64 x.h):=hd_cell H1.out hx 3 _ rfl
   have i4:W1.cell? ⟨p.hb,k * 5+4,none⟩=some (.int .i64 x.cu):=hd_cell H1.out hx 4 _ rfl
   have f0:W1.frozen? ⟨p.hb,k * 5,none⟩=false:=H1.out.free _
   have f1:W1.frozen? ⟨p.hb,k * 5+1,none⟩=false:=H1.out.free _
   have f2:W1.frozen? ⟨p.hb,k * 5+2,none⟩=false:=H1.out.free _
   have f3:W1.frozen? ⟨p.hb,k * 5+3,none⟩=false:=H1.out.free _
   have f4:W1.frozen? ⟨p.hb,k * 5+4,none⟩=false:=H1.out.free _
   obtain ⟨d1,d1'⟩:=dc_ltT (a:=k) (b:=n) (by omega)
   clear hx
   go_wp2_with fail
   refine Mix.rt [0,0,0,0,0,0,0,0,2] [0,1,2,3,4,5,6,7,8] ?_
   repeat ((first | refine Mix.zq ?_ | refine Mix.zp ?_ | refine Mix.zs ?_);go_big_quiet_step (fail);refine wpQuiet_nil ?_)
   refine Mix.ze fun V1 hV1=>?_
   obtain ⟨k1,rfl⟩:=hV1
   go_wp2_with fail
   intro k2
   go_wp2_with fail
   go_end0
   exact ⟨rfl,by rw [HD.out];exact (HPUT.out k x HdV.zero (W1.drewN k1) HX.out (H1.out.drewN k1)).drewN k2,CX.out.trans ((((((((Ch.refl (fun k=>k=p.hb) W1).drewN k1).set (fun _=>rfl) _).set (fun _=>rfl) _).set (fun _=>rfl) _).set (fun _=>rfl) _).set (fun _=>rfl) _).drewN k2) (fun _ _ e=>e)⟩
  | seek k a=>
   have hkn:k < n:=hs.1
   simp only [Cop.op] at o0 o1
   clear hr
   obtain ⟨x,hx⟩:∃x,p.hs[k]?=some x:=⟨_,List.getElem?_eq_getElem (by rw [HL.out];exact hkn)⟩
   have HX:=hid hx
   have i0:W1.cell? ⟨p.hb,k * 5,none⟩=some (.bool x.is):=hd_cell H1.out hx 0 _ rfl
   have i1:W1.cell? ⟨p.hb,k * 5+1,none⟩=some (.string x.s):=hd_cell H1.out hx 1 _ rfl
   have i2:W1.cell? ⟨p.hb,k * 5+2,none⟩=some x.mv:=hd_cell H1.out hx 2 _ rfl
   have i3:W1.cell? ⟨p.hb,k * 5+3,none⟩=some (.int .i64 x.h):=hd_cell H1.out hx 3 _ rfl
   have i4:W1.cell? ⟨p.hb,k * 5+4,none⟩=some (.int .i64 x.cu):=hd_cell H1.out hx 4 _ rfl
   have f0:W1.frozen? ⟨p.hb,k * 5,none⟩=false:=H1.out.free _
   have f1:W1.frozen? ⟨p.hb,k * 5+1,none⟩=false:=H1.out.free _
   have f2:W1.frozen? ⟨p.hb,k * 5+2,none⟩=false:=H1.out.free _
   have f3:W1.frozen? ⟨p.hb,k * 5+3,none⟩=false:=H1.out.free _
   have f4:W1.frozen? ⟨p.hb,k * 5+4,none⟩=false:=H1.out.free _
   obtain ⟨d1,d1'⟩:=dc_ltT (a:=k) (b:=n) (by omega)
   have hdd:hdDone p.now p.hs (.seek k a) r=p.hs.set k { x with cu:=r.at' }:=by
    unfold hdDone
    rw [if_pos HER.out]
    simp only [hx]
   have HD:=hid hdd
   have HCUR:=hid (show ∀W:World,Blk W p.hb 49 (hdCells p.hs).toArray->Blk (W.setCell ⟨p.hb,k * 5+4,none⟩ (.int .i64 r.at')) p.hb 49 (hdCells (p.hs.set k { x with cu:=r.at' })).toArray from fun W H=>by
    have t:=H.put (k * 5+4) (.int .i64 r.at')
    simp only [List.setIfInBounds_toArray] at t
    rw [hd_cur p.hs k x r.at' HX.out] at t
    exact t)
   clear hdd
   clear hx
   go_wp2_with fail
   refine Mix.rt [0,0,0,0,0,0,0,0,0,0,2] [0,1,2,3,4,5,6,7,8,9,10] ?_
   repeat ((first | refine Mix.zq ?_ | refine Mix.zp ?_ | refine Mix.zs ?_);go_big_quiet_step (fail);refine wpQuiet_nil ?_)
   refine Mix.ze fun V1 hV1=>?_
   obtain ⟨k1,rfl⟩:=hV1
   go_wp2_with fail
   intro k2
   go_wp2_with fail
   go_end0
   exact ⟨rfl,by rw [HD.out];exact (HCUR.out (W1.drewN k1) (H1.out.drewN k1)).drewN k2,CX.out.trans ((((Ch.refl (fun k=>k=p.hb) W1).drewN k1).set (fun _=>rfl) _).drewN k2) (fun _ _ e=>e)⟩
  | next k b=>
   have hkn:k < n:=hs.1
   simp only [Cop.op] at o0 o1
   clear hr
   obtain ⟨x,hx⟩:∃x,p.hs[k]?=some x:=⟨_,List.getElem?_eq_getElem (by rw [HL.out];exact hkn)⟩
   have HX:=hid hx
   have i0:W1.cell? ⟨p.hb,k * 5,none⟩=some (.bool x.is):=hd_cell H1.out hx 0 _ rfl
   have i1:W1.cell? ⟨p.hb,k * 5+1,none⟩=some (.string x.s):=hd_cell H1.out hx 1 _ rfl
   have i2:W1.cell? ⟨p.hb,k * 5+2,none⟩=some x.mv:=hd_cell H1.out hx 2 _ rfl
   have i3:W1.cell? ⟨p.hb,k * 5+3,none⟩=some (.int .i64 x.h):=hd_cell H1.out hx 3 _ rfl
   have i4:W1.cell? ⟨p.hb,k * 5+4,none⟩=some (.int .i64 x.cu):=hd_cell H1.out hx 4 _ rfl
   have f0:W1.frozen? ⟨p.hb,k * 5,none⟩=false:=H1.out.free _
   have f1:W1.frozen? ⟨p.hb,k * 5+1,none⟩=false:=H1.out.free _
   have f2:W1.frozen? ⟨p.hb,k * 5+2,none⟩=false:=H1.out.free _
   have f3:W1.frozen? ⟨p.hb,k * 5+3,none⟩=false:=H1.out.free _
   have f4:W1.frozen? ⟨p.hb,k * 5+4,none⟩=false:=H1.out.free _
   obtain ⟨d1,d1'⟩:=dc_ltT (a:=k) (b:=n) (by omega)
   have hdd:hdDone p.now p.hs (.next k b) r=p.hs.set k { x with cu:=r.at' }:=by
    unfold hdDone
    rw [if_pos HER.out]
    simp only [hx]
   have HD:=hid hdd
   have HCUR:=hid (show ∀W:World,Blk W p.hb 49 (hdCells p.hs).toArray->Blk (W.setCell ⟨p.hb,k * 5+4,none⟩ (.int .i64 r.at')) p.hb 49 (hdCells (p.hs.set k { x with cu:=r.at' })).toArray from fun W H=>by
    have t:=H.put (k * 5+4) (.int .i64 r.at')
    simp only [List.setIfInBounds_toArray] at t
    rw [hd_cur p.hs k x r.at' HX.out] at t
    exact t)
   clear hdd
   clear hx
   go_wp2_with fail
   refine Mix.rt [0,0,0,0,0,0,0,0,0,0,2] [0,1,2,3,4,5,6,7,8,9,10] ?_
   repeat ((first | refine Mix.zq ?_ | refine Mix.zp ?_ | refine Mix.zs ?_);go_big_quiet_step (fail);refine wpQuiet_nil ?_)
   refine Mix.ze fun V1 hV1=>?_
   obtain ⟨k1,rfl⟩:=hV1
   go_wp2_with fail
   intro k2
   go_wp2_with fail
   go_end0
   exact ⟨rfl,by rw [HD.out];exact (HCUR.out (W1.drewN k1) (H1.out.drewN k1)).drewN k2,CX.out.trans ((((Ch.refl (fun k=>k=p.hb) W1).drewN k1).set (fun _=>rfl) _).drewN k2) (fun _ _ e=>e)⟩
  | _=>
   simp only [Cop.op] at o0 o1
   go_wp2_with fail
   go_end0
   exact ⟨rfl,by rw [HNOP.out (by nofun) (by nofun) (by nofun) (by nofun)];exact H1.out,CX.out⟩
 ·have e1:(r.er != 0)=true:=by rw [bne_iff_ne];exact her
  have hd:hdDone p.now p.hs c r=p.hs:=by unfold hdDone;rw [if_neg her]
  have HD:=hid hd
  clear her hd
  go_wp2_with fail
  refine bodyPost_ret (results_none rfl _ _ _) rfl ?_
  exact ⟨rfl,by rw [HD.out];exact H1.out,CX.out⟩
end
def PlS.shut (p:PlS):PlS:={ p with cl:=true }
section
variable {B:Nat} {w0 w:World} {R:List Res} {σ:RS} {bs:List Bx} {p:PlS} {y:Ly} {n m:Nat} {ts:List (List UInt8)} {hk:Option Nat}
theorem other7_any (M:Mem B w0 (σ.L B++(boxR bs::(p.L B σ.r.sb σ.g n++R))) w) (K:RnOk σ y n m ts hk) (hl:σ.s.lg.length < 700000) (x:EvR) (hd:x.d.tmod 8=7) :
  Calls Tryz.prog 14 #[.pointer (some ⟨p.g,0,none⟩),x.v] w fun e w'=>e=.returned (.bool true)/\∃lv',Mem B w0 ((σ.shut lv' 2).L B++(boxR bs::(p.shut.L B σ.r.sb σ.g n++R))) w'/\RnOk (σ.shut lv' 2) y n m ts hk:=by
 have HM:=hid M
 have HK:=hid K
 have HL:=hid hl
 have d6:(x.d.tmod 8 == 6)=false:=by rw [beq_eq_false_iff_ne,hd];decide
 have d7:(x.d.tmod 8 == 7)=true:=by rw [beq_iff_eq];exact hd
 have p9:w.cell? ⟨p.g,9,none⟩=some (.bool p.cl):=(p_blk M).cell 9
 have f9:=(p_blk M).free 9
 have lp:=(p_blk M).lt
 have n1:p.g≠w.heap.size:=Nat.ne_of_lt lp
 have n2:w.heap.size≠p.g:=Ne.symm n1
 clear M K hl hd
 simp only [EvR.v]
 go_enter Tryz.func14,Tryz.ntmps14
 go_wp2_with fail
 refine at_world fun W1 hW1=>?_
 have M1:=hid (show Mem B w0 (σ.L B++(boxR bs::(p.shut.L B σ.r.sb σ.g n++R))) W1 from by rw [hW1];exact (p_put HM.out 9 (.bool true) p.shut rfl rfl rfl rfl rfl).alloc _)
 clear hW1 p9 f9 lp n1 n2 HM
 have p0:W1.cell? ⟨p.g,0,none⟩=some (.pointer (some ⟨σ.r.sb,0,none⟩)):=(p_blk M1.out).cell 0
 have lp:=(p_blk M1.out).lt
 obtain ⟨S,hS⟩:∃S:Nat->Prop,∀k,S k↔k=p.g:=⟨_,fun _=>Iff.rfl⟩
 have hSp:Mix.Has S p.g:=(hS _).2 rfl
 have HSS:=hid hS
 clear hS
 refine Mix.rg S [0,0,0,0,3,1,1,1,4,2,0,2,0,0] [0,1,2,3,5,6,7,8,4,9,10,11,12,13] ?_
 repeat ((first | refine Mix.zq ?_ | refine Mix.zp ?_ | refine Mix.zs ?_);go_big_quiet_step (fail);refine wpQuiet_nil ?_)
 refine Mix.za fun V1 hV1=>?_
 obtain ⟨k1,rfl⟩:=hV1
 go_wp2_with fail
 refine (sbank_any _ (m_st (M1.out.drewN k1)) HK.out.O.stf).mono ?_
 rintro e w' ⟨rfl,rfl⟩
 go_wp2_with fail
 refine ⟨fun k hk=>((Ch.refl (fun _=>False) W1).drewN k1).block k (by rw [(HSS.out k).1 hk];exact lp) id,?_⟩
 repeat ((first | refine Mix.zq ?_ | refine Mix.zp ?_ | refine Mix.zs ?_);go_big_quiet_step (fail);refine wpQuiet_nil ?_)
 refine Mix.ze fun V2 hV2=>?_
 obtain ⟨k2,rfl⟩:=hV2
 go_wp2_with fail
 refine (slayout_any _ (m_st (M1.out.drewN (k1+k2))) HK.out.O.stf).mono ?_
 rintro e w12 ⟨rfl,hc12⟩
 have M12:=hid ((M1.out.drewN (k1+k2)).keep hc12)
 clear hc12 p0
 simp only [Ly.arr]
 have hfd:∀W:World,(Instr.field 83 (.agg #[.int .i64 y.l0,.int .i64 y.l1,.int .i64 y.l2,.int .i64 y.l3,.int .i64 y.l4,.int .i64 y.l5,.int .i64 y.l6,.int .i64 y.l7,.int .i64 y.l8,.int .i64 y.l9]) 0).run Tryz.prog W=.ok (.int .i64 y.l0) W:=fun W=>by kernel_rfl
 go_wp2_with fail
 repeat ((first | refine Mix.zq ?_ | refine Mix.zp ?_ | refine Mix.zs ?_);go_big_quiet_step (fail);refine wpQuiet_nil ?_)
 refine Mix.ze fun V3 hV3=>?_
 obtain ⟨k3,rfl⟩:=hV3
 go_wp2_with fail
 rw [HK.out.O.y0]
 have M13:=hid (M12.out.drewN k3)
 have HB13:=m_bk M13.out
 refine (store_ok B σ.p σ.cb σ.lv σ.s 2 0 1 _ HB13 ⟨by decide,by decide,by decide,by have:=HK.out.O.vs;omega⟩ (by have:=HL.out;omega) M13.out.bz (by decide)).mono ?_
 rintro e w13 ⟨rfl,hbs⟩
 obtain ⟨lv',hM14⟩:=m_bank M13.out hbs
 have M14:=hid hM14
 clear hbs hM14 hfd HB13
 go_wp2_with fail
 repeat ((first | refine Mix.zq ?_ | refine Mix.zp ?_ | refine Mix.zs ?_);go_big_quiet_step (fail);refine wpQuiet_nil ?_)
 intro k4
 go_wp2_with fail
 go_ret
 exact ⟨rfl,lv',M14.out.drewN k4,HK.out.shut (by have:=HL.out;omega) lv' 2⟩
end
structure HsOk (sl:List (Option Snp)) (ts:List (List UInt8)) (hs:List HdV) (n:Nat):Prop where
 len:hs.length=n
 cs:∀k,k < n->(sl[k]?=some none/\hs[k]?=some HdV.zero)\/∃(s:Snp) (i:Nat) (tx:List UInt8) (x:HdV),sl[k]?=some (some s)/\s.ix=(i:Int)/\ts[i]?=some tx/\hs[k]?=some x/\HdOf s tx x/\Uniq s.ms
section
variable {sl:List (Option Snp)} {ts:List (List UInt8)} {hs:List HdV} {n:Nat}
theorem HsOk.app (h:HsOk sl ts hs n) (l:List (List UInt8)):HsOk sl (ts++l) hs n:=by
 refine ⟨h.len,fun k hk=>?_⟩
 rcases h.cs k hk with h | ⟨s,i,tx,x,h1,h2,h3,h4⟩
 ·exact .inl h
 ·exact .inr ⟨s,i,tx,x,h1,h2,by rw [List.getElem?_append_left (List.getElem?_eq_some_iff.1 h3).1];exact h3,h4⟩
theorem HsOk.slot (h:HsOk sl ts hs n) {k:Nat} (hk:k < n) {s:Snp} (hs':sl[k]?=some (some s)):∃(i:Nat) (tx:List UInt8) (x:HdV),s.ix=(i:Int)/\ts[i]?=some tx/\hs[k]?=some x/\HdOf s tx x/\Uniq s.ms:=by
 rcases h.cs k hk with ⟨h,_⟩ | ⟨s',i,tx,x,h1,h2⟩
 ·rw [hs'] at h;cases h
 ·rw [hs'] at h1
  injection h1 with h1;injection h1 with h1;subst h1
  exact ⟨i,tx,x,h2⟩
theorem HsOk.free (h:HsOk sl ts hs n) {k:Nat} (hk:k < n) (hs':sl[k]?=some none):hs[k]?=some HdV.zero:=by
 rcases h.cs k hk with ⟨_,h⟩ | ⟨s',i,tx,x,h1,h2⟩
 ·exact h
 ·rw [hs'] at h1;cases h1
theorem HsOk.set (h:HsOk sl ts hs n) {k:Nat} (hk:k < n) {o:Option Snp} {x:HdV} (ho:(o=none/\x=HdV.zero)\/∃(s:Snp) (i:Nat) (tx:List UInt8),o=some s/\s.ix=(i:Int)/\ts[i]?=some tx/\HdOf s tx x/\Uniq s.ms):HsOk (sl.set k o) ts (hs.set k x) n:=by
 have hl1:k < sl.length:=by
  rcases h.cs k hk with ⟨h,_⟩ | ⟨s,i,tx,x,h,_⟩
  ·exact (List.getElem?_eq_some_iff.1 h).1
  ·exact (List.getElem?_eq_some_iff.1 h).1
 have hl2:k < hs.length:=by rw [h.len];exact hk
 refine ⟨by rw [List.length_set];exact h.len,fun j hj=>?_⟩
 by_cases e:k=j
 ·subst e
  rw [List.getElem?_set_self hl1,List.getElem?_set_self hl2]
  rcases ho with ⟨rfl,rfl⟩ | ⟨s,i,tx,rfl,h1,h2,h3⟩
  ·exact .inl ⟨rfl,rfl⟩
  ·exact .inr ⟨s,i,tx,x,rfl,h1,h2,rfl,h3⟩
 ·rw [List.getElem?_set_ne e,List.getElem?_set_ne e]
  exact h.cs j hj
theorem HsOk.cur (h:HsOk sl ts hs n) {k:Nat} (hk:k < n) {s:Snp} {x:HdV} (h1:sl[k]?=some (some s)) (h2:hs[k]?=some x) (c:Int):HsOk (setCur sl k c) ts (hs.set k { x with cu:=c }) n:=by
 obtain ⟨i,tx,x',e1,e2,e3,e4,e5⟩:=h.slot hk h1
 rw [h2] at e3
 injection e3 with e3;subst e3
 rw [setCur_at c h1]
 exact h.set hk (.inr ⟨_,i,tx,rfl,e1,e2,⟨e4.is,e4.s,e4.ms,e4.h,rfl⟩,e5⟩)
theorem free1_least:∀(l:List (Option Nat)) (b k:Nat),free1 l b=((b+k:Nat):Int)->l[k]?=some none/\∀j < k,∃g,l[j]?=some (some g)
 | [],b,k,h=>by simp only [free1] at h;omega
 | none::l,b,k,h=>by
  simp only [free1] at h
  obtain rfl:k=0:=by omega
  exact ⟨rfl,fun j hj=>absurd hj (Nat.not_lt_zero _)⟩
 | some g::l,b,0,h=>by
  exfalso
  simp only [free1] at h
  have ge:∀(l:List (Option Nat)) (b:Nat),free1 l b = -1\/(b:Int)<=free1 l b:=by
   intro l
   induction l with
   | nil=>intro b;exact .inl rfl
   | cons o l ih=>
    intro b
    cases o with
    | none=>exact .inr (Int.le_refl _)
    | some g=>
     simp only [free1]
     rcases ih (b+1) with h | h
     ·exact .inl h
     ·exact .inr (by omega)
  rcases ge l (b+1) with h' | h' <;> omega
 | some g::l,b,k+1,h=>by
  simp only [free1] at h
  obtain ⟨h1,h2⟩:=free1_least l (b+1) k (by rw [h];congr 1;omega)
  refine ⟨by simpa using h1,fun j hj=>?_⟩
  cases j with
  | zero=>exact ⟨g,rfl⟩
  | succ j=>
   obtain ⟨g',h⟩:=h2 j (by omega)
   exact ⟨g',by simpa using h⟩
theorem free1_full:∀(l:List (Option Nat)) (b:Nat),free1 l b < 0->∀j,j < l.length->∃g,l[j]?=some (some g)
 | [],_,_,j,hj=>absurd hj (Nat.not_lt_zero _)
 | none::l,b,h,_,_=>by simp only [free1] at h;omega
 | some g::l,b,h,0,_=>⟨g,rfl⟩
 | some g::l,b,h,j+1,hj=>by
  obtain ⟨g',h'⟩:=free1_full l (b+1) (by simpa only [free1] using h) j (by simpa using hj)
  exact ⟨g',by simpa using h'⟩
theorem sptr_some {k g:Nat} (h:(sl.map sptr)[k]?=some (some g)):∃s,sl[k]?=some (some s):=by
 rw [List.getElem?_map] at h
 cases e:sl[k]? with
 | none=>rw [e] at h;cases h
 | some o=>
  cases o with
  | none=>rw [e] at h;cases h
  | some s=>exact ⟨s,rfl⟩
theorem HsOk.first (h:HsOk sl ts hs n) (hl:sl.length=n) {k:Nat} (hf:free1 (sl.map sptr) 0=(k:Int)):k < n/\sl[k]?=some none/\hs[k]?=some HdV.zero/\∀(j:Nat) (y:HdV),j < k->hs[j]?=some y->y.is=true:=by
 obtain ⟨h1,h2⟩:=free1_least _ 0 k (by rw [hf,Nat.zero_add])
 have h3:=sptr_none h1
 have hk:k < n:=by rw [<-hl];exact (List.getElem?_eq_some_iff.1 h3).1
 refine ⟨hk,h3,h.free hk h3,fun j y hj hy=>?_⟩
 obtain ⟨g,hg⟩:=h2 j hj
 obtain ⟨s,hs'⟩:=sptr_some hg
 obtain ⟨i,tx,x,_,_,e3,e4,_⟩:=h.slot (by omega) hs'
 rw [hy] at e3
 injection e3 with e3
 rw [e3]
 exact e4.is
theorem HsOk.full (h:HsOk sl ts hs n) (hl:sl.length=n) (hf:free1 (sl.map sptr) 0 < 0):∀y ∈ hs,y.is=true:=by
 intro y hy
 obtain ⟨j,hj⟩:=List.mem_iff_getElem?.1 hy
 have hjn:j < n:=by rw [<-h.len];exact (List.getElem?_eq_some_iff.1 hj).1
 obtain ⟨g,hg⟩:=free1_full _ 0 hf j (by rw [List.length_map,hl];exact hjn)
 obtain ⟨s,hs'⟩:=sptr_some hg
 obtain ⟨i,tx,x,_,_,e3,e4,_⟩:=h.slot hjn hs'
 rw [hj] at e3
 injection e3 with e3
 rw [e3]
 exact e4.is
theorem done_err {now:HdV} {c:Cop} {r:RsV} (h:r.er≠0):hdDone now hs c r=hs:=by
 unfold hdDone
 rw [if_neg h]
theorem done_seek {now:HdV} {k a:Nat} {r:RsV} {x:HdV} (h:r.er=0) (hx:hs[k]?=some x):hdDone now hs (.seek k a) r=hs.set k { x with cu:=r.at' }:=by
 unfold hdDone
 rw [if_pos h]
 simp only [hx]
theorem done_next {now:HdV} {k a:Nat} {r:RsV} {x:HdV} (h:r.er=0) (hx:hs[k]?=some x):hdDone now hs (.next k a) r=hs.set k { x with cu:=r.at' }:=by
 unfold hdDone
 rw [if_pos h]
 simp only [hx]
theorem HsOk.eff {σ:RS} {c:Cop} {pg:Pg} (h:HsOk σ.sl ts hs n) (hc:c≠.acq) (hk:c.slot < n) (hp:StartP σ ts c pg) (now:HdV):∃x,hs[c.slot]?=some x/\pg.out=(if x.is=true then wantH x c else { RsV.zero with er:=16 })/\HsOk (pg.eff σ.sl) ts (hdDone now hs c pg.out) n:=by
 rcases hp with ⟨e,_⟩ | ⟨_,⟨h0,rfl⟩ | ⟨s,i,tx,h1,h2,h3,hp⟩⟩
 ·exact absurd e hc
 ·refine ⟨_,h.free hk h0,rfl,?_⟩
  rw [done_err (by decide)]
  exact h
 ·obtain ⟨i',tx',x,e1,e2,e3,e4,e5⟩:=h.slot hk h1
  obtain rfl:i=i':=by omega
  rw [h3] at e2
  injection e2 with e2;subst e2
  refine ⟨x,e3,by rw [if_pos e4.is];exact run_want e4 e5 hp,?_⟩
  cases c with
  | acq=>exact absurd rfl hc
  | len k=>
   rw [show pg=_ from hp]
   exact h
  | read k a b=>
   rcases hp with ⟨_,rfl⟩ | ⟨_,_,rfl⟩ | ⟨_,_,jx,_,rfl⟩ <;> exact h
  | rune k b=>
   rcases hp with ⟨_,rfl⟩ | ⟨_,rfl⟩ | ⟨_,jx,_,rfl⟩ <;> exact h
  | line k b=>
   rcases hp with ⟨_,rfl⟩ | ⟨_,rfl⟩ | ⟨_,_,jx,_,rfl⟩ <;> exact h
  | mark k i=>
   rcases hp with ⟨_,rfl⟩ | ⟨_,_,_,rfl⟩
   ·exact h
   ·exact h
  | seek k a=>
   rcases hp with ⟨_,rfl⟩ | ⟨_,rfl⟩
   ·rw [done_err (by decide)];exact h
   ·have e:hdDone now hs (.seek k a) (Pg.out (.seek k a))=hs.set k { x with cu:=(a:Int) }:=by
     exact done_seek rfl e3
    rw [e]
    exact h.cur hk h1 e3 _
  | next k b=>
   obtain ⟨c0,_,⟨_,rfl⟩ | ⟨_,jx,_,rfl⟩⟩:=hp
   ·have e:hdDone now hs (.next k b) (Pg.out (.take k true c0))=hs.set k { x with cu:=(c0:Int) }:=by
     exact done_next rfl e3
    rw [e]
    exact h.cur hk h1 e3 _
   ·have e:hdDone now hs (.next k b) (Pg.out (.byte k true tx c0 (min b (tx.length - c0)) 0 jx c0 ⟨0,0,0⟩))=hs.set k { x with cu:=((c0+min b (tx.length - c0):Nat):Int) }:=by
     exact done_next rfl e3
    rw [e]
    exact h.cur hk h1 e3 _
  | rel k=>
   rw [show pg=_ from hp]
   exact h.set hk (.inl ⟨rfl,rfl⟩)
end
structure ShI (σ:RS) (p:PlS) (n:Nat) (ts:List (List UInt8)):Prop where
 P:PlOk p σ n ts
 un:∀(i:Nat) (r:RvS),σ.rs[i]?=some r->Uniq r.ms
 H:HsOk σ.sl ts p.hs n
 st:σ.st=0
 pz:n=0\/(HdV.zero.mv,HdV.zero.ms) ∈ p.pool
theorem mks_uniq (x:EvR):Uniq x.mks:=by
 intro a ha b hb h
 simp only [EvR.mks,List.mem_map] at ha hb
 obtain ⟨i,_,rfl⟩:=ha
 obtain ⟨j,_,rfl⟩:=hb
 have e:i=j:=by simp only [EvR.mk1] at h;omega
 rw [e]
section
variable {σ σ':RS} {p:PlS} {y:Ly} {n m:Nat} {ts:List (List UInt8)} {hk:Option Nat}
theorem ShI.same (h:ShI σ p n ts) (S:Same σ σ') (h0:lk σ'.s.vs 0=lk σ.s.vs 0) (h1:lk σ'.s.vs 1=lk σ.s.vs 1) (hsl:σ'.sl=σ.sl):ShI σ' p n ts:=
 ⟨h.P.same S h0 h1,by rw [S.rs];exact h.un,by rw [hsl];exact h.H,by rw [S.st];exact h.st,h.pz⟩
theorem ShI.pub (h:ShI σ p n ts) (K:RnOk σ y n m ts hk) (ys:List An) (rv':Value) (r1:RvS) (lv':Value) (x:EvR) (mv:Value) (hm:r1.ms=x.mks):ShI (σ.pub ys rv' r1 lv' 2) (p.pub x mv r1) n (ts++[x.s.data.toList]):=by
 have hvl:1 < σ.s.vs.length:=by have:=K.O.vs;omega
 have e0:lk (σ.pub ys rv' r1 lv' 2).s.vs 0=lk σ.s.vs 0:=by
  show lk (σ.s.vs.set 1 _) 0=_
  exact lk_set_ne _ (by decide)
 have e1:lk (σ.pub ys rv' r1 lv' 2).s.vs 1=(σ.rs.length:Int):=by
  show lk (σ.s.vs.set 1 _) 1=_
  exact lk_set_eq _ hvl
 refine ⟨⟨⟨rfl,rfl⟩,?_,by simp,⟨r1,x.s.data.toList,?_,?_,rfl,hm.symm,rfl,rfl⟩,?_,h.P.hl,fun k z hz=>?_,?_⟩,fun i r hr=>?_,h.H.app _,h.st,?_⟩
 ·rw [e1,List.length_append,<-K.nt]
  rfl
 ·show (σ.rs++[r1])[_]?=_
  rw [List.length_append,K.nt]
  exact List.getElem?_concat_length
 ·rw [List.length_append]
  exact List.getElem?_concat_length
 ·exact List.mem_append_right _ (List.mem_singleton.2 rfl)
 ·exact List.mem_append_left _ (h.P.hp k z hz)
 ·rw [e0]
  exact h.P.cl
 ·have hr':(σ.rs++[r1])[i]?=some r:=hr
  rcases Nat.lt_or_ge i σ.rs.length with hi | hi
  ·rw [List.getElem?_append_left hi] at hr'
   exact h.un i r hr'
  ·rw [List.getElem?_append_right hi] at hr'
   have:r=r1:=by
    cases e:i - σ.rs.length with
    | zero=>rw [e] at hr';simpa using hr'.symm
    | succ j=>rw [e] at hr';simp at hr'
   rw [this,hm]
   exact mks_uniq x
 ·rcases h.pz with h | h
  ·exact .inl h
  ·exact .inr (List.mem_append_left _ h)
theorem ShI.shut (h:ShI σ p n ts) (K:RnOk σ y n m ts hk) (lv':Value):ShI (σ.shut lv' 2) p.shut n ts:=by
 have hvl:0 < σ.s.vs.length:=by have:=K.O.vs;omega
 have e0:lk (σ.shut lv' 2).s.vs 0=1:=by
  show lk (σ.s.vs.set 0 1) 0=_
  exact lk_set_eq _ hvl
 have e1:lk (σ.shut lv' 2).s.vs 1=lk σ.s.vs 1:=by
  show lk (σ.s.vs.set 0 1) 1=_
  exact lk_set_ne _ (by decide)
 exact ⟨⟨h.P.now,by rw [e1];exact h.P.rt,h.P.t0,h.P.rv,h.P.pool,h.P.hl,h.P.hp,by rw [e0];rfl⟩,h.un,h.H,h.st,h.pz⟩
def PlS.done (p:PlS) (c:Cop) (r:RsV):PlS:={ p with hs:=hdDone p.now p.hs c r }
theorem done_pool (h:PlOk p σ n ts) (hz:n=0\/(HdV.zero.mv,HdV.zero.ms) ∈ p.pool) (hn:0 < n) (c:Cop) (r:RsV):∀(k:Nat) (x:HdV),(hdDone p.now p.hs c r)[k]?=some x->(x.mv,x.ms) ∈ p.pool:=by
 have hz':(HdV.zero.mv,HdV.zero.ms) ∈ p.pool:=hz.resolve_left (by omega)
 have S:∀(j:Nat) (u:HdV),(u.mv,u.ms) ∈ p.pool->∀(k:Nat) (x:HdV),(p.hs.set j u)[k]?=some x->(x.mv,x.ms) ∈ p.pool:=fun j u hu k x hx=>by
  rcases List.mem_or_eq_of_mem_set (List.mem_of_getElem? hx) with h' | rfl
  ·obtain ⟨i,hi⟩:=List.mem_iff_getElem?.1 h'
   exact h.hp i x hi
  ·exact hu
 intro k x hx
 unfold hdDone at hx
 split at hx
 ·cases c with
  | acq=>exact S r.sl.toNat ⟨true,p.now.s,p.now.mv,p.now.ms,p.now.h,0⟩ h.pool k x hx
  | rel j=>exact S _ _ hz' k x hx
  | seek j a=>
   simp only at hx
   cases e:p.hs[j]? with
   | none=>rw [e] at hx;exact h.hp k x hx
   | some u=>rw [e] at hx;exact S j { u with cu:=r.at' } (h.hp j u e) k x hx
  | next j a=>
   simp only at hx
   cases e:p.hs[j]? with
   | none=>rw [e] at hx;exact h.hp k x hx
   | some u=>rw [e] at hx;exact S j { u with cu:=r.at' } (h.hp j u e) k x hx
  | len j=>exact h.hp k x hx
  | read j a b=>exact h.hp k x hx
  | rune j b=>exact h.hp k x hx
  | line j b=>exact h.hp k x hx
  | mark j b=>exact h.hp k x hx
 ·exact h.hp k x hx
theorem ShI.ended (h:ShI σ p n ts) (S:Same σ σ') (h0:lk σ'.s.vs 0=lk σ.s.vs 0) (h1:lk σ'.s.vs 1=lk σ.s.vs 1) (hn:0 < n) (c:Cop) (r:RsV) (H:HsOk σ'.sl ts (hdDone p.now p.hs c r) n):ShI σ' (p.done c r) n ts:=
 ⟨⟨h.P.now,by rw [h1];exact h.P.rt,h.P.t0,by rw [S.rs];exact h.P.rv,h.P.pool,H.len,done_pool h.P h.pz hn c r,by rw [h0];exact h.P.cl⟩,by rw [S.rs];exact h.un,H,by rw [S.st];exact h.st,h.pz⟩
theorem HsOk.acq (h:ShI σ p n ts) (hl:σ.sl.length=n) {k:Nat} (hf:free1 (σ.sl.map sptr) 0=(k:Int)) {i:Nat} {r:RvS} {s:Snp} (h1:lk σ.s.vs 1=(i:Int)) (h2:σ.rs[i]?=some r) (e1:s.x=r.x) (e2:s.ms=r.ms) (e3:s.ix=(i:Int)) (e4:s.cu=0) :
  AcqW { p with cl:=false } n { RsV.zero with sl:=(k:Int),rev:=r.x.num }/\HsOk (σ.sl.set k (some s)) ts (hdDone p.now p.hs .acq { RsV.zero with sl:=(k:Int),rev:=r.x.num }) n:=by
 obtain ⟨hk,g1,g2,g3⟩:=h.H.first hl hf
 obtain ⟨r',tx,q1,q2,q3,q4,q5,q6⟩:=h.P.rv
 obtain rfl:i=ts.length - 1:=by have:=h.P.rt;omega
 rw [h2] at q1
 injection q1 with q1;subst q1
 refine ⟨.inr (.inl ⟨rfl,k,HdV.zero,g2,rfl,g3,by rw [q6]⟩),?_⟩
 exact h.H.set hk (.inr ⟨s,ts.length - 1,tx,rfl,e3,q2,⟨rfl,q3,by rw [e2];exact q4,by rw [e1];exact q5,e4.symm⟩,by rw [e2];exact h.un _ _ h2⟩)
end
inductive Bz (σ:RS) (p:PlS) (n:Nat) (ts:List (List UInt8)) (c:Cop) (sh:Bool):Nat->Pg->Prop
 | a4 (h1:c=.acq) (h2:sh=p.cl):Bz σ p n ts c sh 4 .clos
 | a3 (k:Nat) (h1:c=.acq) (h2:sh=false) (h3:free1 (σ.sl.map sptr) 0=(k:Int)):Bz σ p n ts c sh 3 (.ep k)
 | a2 (k:Nat) (v:Int) (h1:c=.acq) (h2:sh=false) (h3:free1 (σ.sl.map sptr) 0=(k:Int)):Bz σ p n ts c sh 2 (.ann k v)
 | a1 (k:Nat) (h1:c=.acq) (h2:sh=false) (h3:free1 (σ.sl.map sptr) 0=(k:Int)):Bz σ p n ts c sh 1 (.root k)
 | rd (t:T) (f:Nat) (pg:Pg) (x:HdV) (h1:c≠.acq) (h2:c.slot < n) (h3:t.good) (h4:RdK t σ f pg) (h5:p.hs[c.slot]?=some x) (h6:pg.out=(if x.is=true then wantH x c else { RsV.zero with er:=16 })) (h7:HsOk (pg.eff σ.sl) ts (hdDone p.now p.hs c pg.out) n):Bz σ p n ts c sh f pg
def WantR (p:PlS) (n:Nat) (c:Cop) (sh:Bool) (r:RsV):Prop:=
 (c=.acq/\AcqW { p with cl:=sh } n r)\/(c≠.acq/\c.slot < n/\∃x,p.hs[c.slot]?=some x/\r=(if x.is=true then wantH x c else { RsV.zero with er:=16 }))
theorem hdDone_now {a b:HdV} {hs:List HdV} {c:Cop} {r:RsV} (h:c≠.acq):hdDone a hs c r=hdDone b hs c r:=by
 unfold hdDone
 split
 ·cases c with
  | acq=>exact absurd rfl h
  | _=>rfl
 ·rfl
theorem done_same {p:PlS} {c:Cop} {r:RsV} (h:r.er≠0):p.done c r=p:=by
 unfold PlS.done
 rw [done_err h]
section
variable {σ σ':RS} {p:PlS} {y:Ly} {n m f:Nat} {ts:List (List UInt8)} {hv:Int} {pg pg':Pg} {c:Cop} {sh:Bool}
theorem Bz.pos (h:Bz σ p n ts c sh f pg):0 < f:=by
 cases h with
 | rd t f pg x h1 h2 h3 h4=>exact h4.pos
 | _=>decide
theorem nxt_acc (hn:Nxt σ σ' m hv pg' pg):hv=0\/σ'.s=σ.s:=by
 cases pg with
 | fin x=>exact hn.elim
 | byte=>exact .inr hn.2.1
 | rune=>exact .inr hn.2.1
 | line=>exact .inr hn.2.1
 | _=>exact .inl hn.1
theorem lk_slot {hk:Option Nat} (K:RnOk σ y n m ts hk) {k:Nat} (hk':k < n) (t v:Int):lk (σ.s.store t (σ.f.slot (m+k):Nat) v).vs 0=lk σ.s.vs 0/\lk (σ.s.store t (σ.f.slot (m+k):Nat) v).vs 1=lk σ.s.vs 1:=by
 have hm:=K.O.mn
 have e:(σ.s.store t (σ.f.slot (m+k):Nat) v).vs=σ.s.vs.set (σ.f.slot (m+k)) v:=rfl
 rw [e]
 exact ⟨lk_set_ne _ (Ne.symm (slot_ne0 K (by omega))),lk_set_ne _ (Ne.symm (slot_ne1 K (by omega)))⟩
theorem Bz.step (h:Bz σ p n ts c sh f pg) (I:ShI σ p n ts) (K:RnOk σ y n m ts pg.hk) (hrel:∀k,pg=.rel k->k < n) (S:Same σ σ') (hn:Nxt σ σ' m hv pg' pg) :
  (pg'.ended=false/\∃f',f'+1<=f/\ShI σ' p n ts/\Bz σ' p n ts c sh f' pg')\/∃r,pg'=.fin r/\ShI σ' (p.done c r) n ts/\WantR p n c sh r:=by
 have hl:=K.O.nl
 cases h with
 | a4 h1 h2=>
  obtain ⟨_,e1,e2,h⟩:=hn
  have I':=I.same S (by rw [e1];rfl) (by rw [e1];rfl) e2
  have hcl:=I.P.cl
  rcases h with ⟨h,rfl⟩ | ⟨h,h',rfl⟩ | ⟨h,k,h',rfl⟩
  ·refine .inr ⟨_,rfl,by rw [done_same (by decide)];exact I',.inl ⟨h1,.inl ⟨?_,rfl⟩⟩⟩
   show sh=true
   rw [h2,hcl]
   exact decide_eq_true h
  ·refine .inr ⟨_,rfl,by rw [done_same (by decide)];exact I',.inl ⟨h1,.inr (.inr ⟨?_,I.H.full hl h',rfl⟩)⟩⟩
   show sh=false
   rw [h2,hcl]
   exact decide_eq_false (fun g=>g h)
  ·refine .inl ⟨rfl,3,Nat.le_refl _,I',.a3 k h1 ?_ (by rw [e2];exact h')⟩
   rw [h2,hcl]
   exact decide_eq_false (fun g=>g h)
 | a3 k h1 h2 h3=>
  obtain ⟨_,e1,e2,rfl⟩:=hn
  exact .inl ⟨rfl,2,Nat.le_refl _,I.same S (by rw [e1];rfl) (by rw [e1];rfl) e2,.a2 k _ h1 h2 (by rw [e2];exact h3)⟩
 | a2 k v h1 h2 h3=>
  obtain ⟨_,e1,e2,rfl⟩:=hn
  obtain ⟨hk,_⟩:=I.H.first hl h3
  obtain ⟨g0,g1⟩:=lk_slot K hk σ.r.cl (v+1)
  exact .inl ⟨rfl,1,Nat.le_refl _,I.same S (by rw [e1];exact g0) (by rw [e1];exact g1) e2,.a1 k h1 h2 (by rw [e2];exact h3)⟩
 | a1 k h1 h2 h3=>
  obtain ⟨_,e1,i,r,s,q1,q2,q3,q4,q5,q6,e2,rfl⟩:=hn
  obtain ⟨hk,_⟩:=I.H.first hl h3
  subst h1 h2
  have W:=HsOk.acq I hl h3 q1 q2 q3 q4 q5 q6
  refine .inr ⟨_,rfl,I.ended S (by rw [e1];rfl) (by rw [e1];rfl) (by omega) .acq _ ?_,.inl ⟨rfl,?_⟩⟩
  ·rw [e2]
   exact W.2
  ·exact W.1
 | rd t f pg x h1 h2 h3 h4 h5 h6 h7=>
  by_cases hr:pg.reads=true
  ·obtain ⟨o1,o2,o3⟩:=nxt_out hr hn
   rcases o3 with ⟨o3,o4⟩ | ⟨o3,o4,o5,o6⟩
   ·have e:pg'=.fin pg.out:=by
     cases pg' with
     | fin r=>rw [<-o1];rfl
     | _=>cases o3
    refine .inr ⟨_,e,I.ended S (by rw [o2]) (by rw [o2]) (by omega) c _ (by rw [o4];exact h7),.inr ⟨h1,h2,x,h5,h6⟩⟩
   ·rcases rdK_step h4 S K.P h3 hn with h | ⟨_,f',hf,h⟩
    ·rw [o3] at h;cases h
    ·exact .inl ⟨o3,f',hf,I.same S (by rw [o2]) (by rw [o2]) o5,.rd t f' pg' x h1 h2 h3 h h5 (by rw [o1];exact h6) (by rw [o1,o6,o5];exact h7)⟩
  ·cases h4 with
   | rel k=>
    obtain ⟨_,e1,e2,rfl⟩:=hn
    obtain ⟨g0,g1⟩:=lk_slot K (hrel k rfl) σ.r.cl 0
    exact .inr ⟨_,rfl,I.ended S (by rw [e1];exact g0) (by rw [e1];exact g1) (by omega) c _ (by rw [e2];exact h7),.inr ⟨h1,h2,x,h5,h6⟩⟩
   | _=>exact absurd rfl hr
theorem Bz.pub (h:Bz σ p n ts c sh f pg) (hne:pg≠.clos) (ys:List An) (rv':Value) (r1:RvS) (lv':Value) (x:EvR) (mv:Value) (tx:List UInt8):Bz (σ.pub ys rv' r1 lv' 2) (p.pub x mv r1) n (ts++[tx]) c sh f pg:=by
 cases h with
 | a4 h1 h2=>exact absurd rfl hne
 | a3 k h1 h2 h3=>exact .a3 k h1 h2 h3
 | a2 k v h1 h2 h3=>exact .a2 k v h1 h2 h3
 | a1 k h1 h2 h3=>exact .a1 k h1 h2 h3
 | rd t f pg z h1 h2 h3 h4 h5 h6 h7=>exact .rd t f pg z h1 h2 h3 (h4.move (ys:=ys) rfl rfl) h5 h6 (by rw [hdDone_now (b:=p.now) h1];exact h7.app _)
theorem Bz.shut (h:Bz σ p n ts c sh f pg) (hne:pg≠.clos) (lv':Value):Bz (σ.shut lv' 2) p.shut n ts c sh f pg:=by
 cases h with
 | a4 h1 h2=>exact absurd rfl hne
 | a3 k h1 h2 h3=>exact .a3 k h1 h2 h3
 | a2 k v h1 h2 h3=>exact .a2 k v h1 h2 h3
 | a1 k h1 h2 h3=>exact .a1 k h1 h2 h3
 | rd t f pg z h1 h2 h3 h4 h5 h6 h7=>exact .rd t f pg z h1 h2 h3 (h4.move (ys:=[]) (by rw [List.append_nil];rfl) rfl) h5 h6 h7
theorem Bz.start {hgt:Nat} (K:RnOk σ y n m ts none) (I:ShI σ p n ts) (hc:c≠.acq->c.slot < n) (hh:∀s,σ.sl[c.slot]?=some (some s)->s.x.h=(hgt:Int)) (S:Same σ σ') (hsl:σ'.sl=σ.sl) (h:StartP σ ts c pg):∃f,f<=bdN hgt c/\Bz σ' p n ts c p.cl f pg:=by
 by_cases e:c=.acq
 ·rcases h with ⟨_,rfl⟩ | ⟨h,_⟩
  ·subst e
   exact ⟨4,Nat.le_refl _,.a4 rfl rfl⟩
  ·exact absurd e h
 ·obtain ⟨t,f,h1,h2,h3⟩:=start_bd K e (hc e) hh h
  obtain ⟨x,g1,g2,g3⟩:=I.H.eff e (hc e) h p.now
  exact ⟨f,h3,.rd t f pg x e (hc e) h1 (h2.move (ys:=[]) (by rw [List.append_nil];exact S.ns) hsl) g1 g2 (by rw [hsl];exact g3)⟩
end
end Go.Proofs.YtjcdknhejcbpiaaGreat
