/- Lemmas that the proof of the last text leans on; no condition. -/
import Derived.Test.YtjcdknhejcbpiaaGreatAb35
import Derived.Test.YtjcdknhejcbpiaaGreatAb36
import Derived.Test.YtjcdknhejcbpiaaGreatAb38
set_option maxHeartbeats 2000000
namespace Go.Proofs.YtjcdknhejcbpiaaGreat
open Go.RowKit
set_option linter.unusedVariables false
set_option linter.unusedSimpArgs false
set_option linter.unusedSectionVars false
theorem Dn.at_ {f:Ms→Int} {tx:List UInt8} {ns:List An} {ix:Nat} {n r:Int} {base:Ms} (h:Dn f tx ns ix n r base):∃z,ns[ix]?=some z:=by
 obtain ⟨u,pre,post,hn,_⟩:=h.ex
 cases hn with
 | leaf hi e=>exact ⟨_,hi⟩
 | node hi e hl hm hk=>exact ⟨_,hi⟩
section
variable {B:Nat} {w0 w:World} {R:List Res} {σ σ':RS} {bs':List Bx} {y:Ly} {n m:Nat} {ts:List (List UInt8)} {hk hk':Option Nat}
theorem RnOk.cur (K:RnOk σ y n m ts none) (S:Same σ σ') (O':σ'.Ok y n m) (h1:σ'.s=σ.s) (h3:σ'.ps=σ.ps) {k:Nat} {s:Snp} {c:Int} (hs:σ.sl[k]?=some (some s)) (h2:σ'.sl=σ.sl.set k (some { s with cu:=c })) (hc0:0≤c) (hc1:c≤s.x.b):RnOk σ' y n m ts none:=by
 refine K.of S O' (by rw [h1]) (by rw [h1]) (fun j t hj=>?_) (fun j hj hne=>?_)
 ·rw [h2] at hj
  rcases sset hj with ⟨_,e⟩ | ⟨_,hj⟩
  ·injection e with e
   subst e
   obtain ⟨i,r,a,b,c',d,_⟩:=K.sn k s hs
   exact ⟨i,r,a,b,c',d,hc0,hc1⟩
  ·exact K.sn j t hj
 ·rw [h1,h2,h3]
  by_cases hjk:j=k
  ·subst hjk
   rcases K.pn j hj (fun e=>by cases e) with ⟨a,_,_⟩ | ⟨s',g,q,_,b,c',d⟩
   ·rw [hs] at a
    injection a with a
    cases a
   ·exact .inr ⟨_,g,q,List.getElem?_set_self (List.getElem?_eq_some_iff.1 hs).1,b,c',d⟩
  ·rw [List.getElem?_set,if_neg (fun e=>hjk e.symm)]
   exact K.pn j hj (fun e=>by cases e)
theorem stp_seek {k:Nat} {pos:Int} (M:Mem B w0 (σ.L B++(boxR bs'::R)) w) (K:RnOk σ y n m ts none) (hp:PgAt σ bs' n m ts (.seek k pos)) :
  Calls Tryz.prog 15 #[.pointer (some ⟨σ.g,0,none⟩)] w (StepTo B w0 R σ bs' y n m ts (.seek k pos)):=by
 obtain ⟨hb,hd,hph,ob,zb,rb,s,op,hdv,hs,hop,hp0,hp1,rfl⟩:=hp
 have b1:Blk w ob 26 op.arr:=m_box M ⟨ob,_,_⟩ (.head _)
 have b2:Blk w zb 140 #[.pointer (some ⟨s.g,0,none⟩)]:=m_box M ⟨zb,_,_⟩ (.tail _ (.head _))
 have b3:Blk w rb 45 #[.pointer (some ⟨σ.g,0,none⟩)]:=m_box M ⟨rb,_,_⟩ (.tail _ (.tail _ (.head _)))
 refine stpb_of M K.O hb _ _ hdv (fun W=>by kernel_rfl) fun R' W M' c=>?_
 refine (seek_m M' hs (c.blk b1 id) (c.blk b2 id) (c.blk b3 id)).mono ?_
 rintro e w' ⟨rfl,M2⟩
 rw [hop] at M2
 have S:Same σ { σ with sl:=σ.sl.set k (some { s with cu:=pos }),r:=σ.r.fin { RsV.zero with at':=pos },tx:=[] }:=⟨rfl,rfl,rfl,rfl,rfl,rfl,rfl,rfl,rfl,rfl,rfl,rfl,rfl,rfl,rfl,rfl⟩
 exact ⟨0,_,rfl,M2,S,.fin { RsV.zero with at':=pos },K.cur S ((K.O.slot k (some { s with cu:=pos })).rd _ [] rfl rfl) rfl rfl hs rfl hp0 hp1,⟨rfl,rfl,rfl⟩,⟨rfl,rfl,⟨s,hs,rfl⟩,rfl⟩,rfl⟩
theorem stp_take {k:Nat} {a:Bool} {pos:Int} (M:Mem B w0 (σ.L B++(boxR bs'::R)) w) (K:RnOk σ y n m ts none) (hp:PgAt σ bs' n m ts (.take k a pos)) :
  Calls Tryz.prog 15 #[.pointer (some ⟨σ.g,0,none⟩)] w (StepTo B w0 R σ bs' y n m ts (.take k a pos)):=by
 obtain ⟨hb,hd,hph,hdv,hop,hsl,htx,hnx,s,hs,hp0,hp1⟩:=hp
 cases a with
 | false=>
  refine stp_of M K.O hb _ hdv (fun W=>by kernel_rfl) fun R' W M'=>?_
  refine (taken_read M' hop).mono ?_
  rintro e w' ⟨rfl,M2⟩
  rw [htx] at M2
  have S:Same σ { σ with r:=σ.r.fin RsV.zero,tx:=[] }:=⟨rfl,rfl,rfl,rfl,rfl,rfl,rfl,rfl,rfl,rfl,rfl,rfl,rfl,rfl,rfl,rfl⟩
  exact ⟨0,_,rfl,M2,S,.fin RsV.zero,K.same S (K.O.rd _ [] rfl rfl) rfl rfl rfl,⟨rfl,rfl,rfl⟩,⟨rfl,rfl,rfl,rfl⟩,rfl⟩
 | true=>
  refine stp_of M K.O hb _ hdv (fun W=>by kernel_rfl) fun R' W M'=>?_
  refine (taken_next M' K.O hop hsl hs).mono ?_
  rintro e w' ⟨rfl,M2⟩
  rw [htx,hnx] at M2
  have S:Same σ { σ with sl:=σ.sl.set k (some { s with cu:=pos }),r:=σ.r.fin { RsV.zero with at':=pos },tx:=[] }:=⟨rfl,rfl,rfl,rfl,rfl,rfl,rfl,rfl,rfl,rfl,rfl,rfl,rfl,rfl,rfl,rfl⟩
  exact ⟨0,_,rfl,M2,S,.fin { RsV.zero with at':=pos },K.cur S ((K.O.slot k (some { s with cu:=pos })).rd _ [] rfl rfl) rfl rfl hs rfl hp0 hp1,⟨rfl,rfl,rfl⟩,⟨rfl,rfl,⟨s,hs,rfl⟩,rfl⟩,rfl⟩
theorem stp_rune {k:Nat} {tx:List UInt8} {q ix:Nat} {rest:Int} {base:Ms} (M:Mem B w0 (σ.L B++(boxR bs'::R)) w) (K:RnOk σ y n m ts none) (hp:PgAt σ bs' n m ts (.rune k tx q ix rest base)) :
  Calls Tryz.prog 15 #[.pointer (some ⟨σ.g,0,none⟩)] w (StepTo B w0 R σ bs' y n m ts (.rune k tx q ix rest base)):=by
 obtain ⟨hb,hd,hph,hdv,hsh,hat,hre,hba,D⟩:=hp
 have htl:tx.length≤1000000:=by
  obtain ⟨_,i,_,_,ht⟩:=hsh
  have:=K.tl tx (List.mem_of_getElem? ht)
  omega
 obtain ⟨z,hz⟩:=D.at_
 refine stp_of M K.O hb _ hdv (fun W=>by kernel_rfl) fun R' W M'=>?_
 refine (visitRune_m M' K.O K.P htl (by rw [hre,hba];exact D) hat hz).mono ?_
 rintro e w' ⟨rfl,⟨h0,ci,k',r,hk,hc,M2⟩ | ⟨h0,M2⟩⟩
 ·rw [hre,Int.sub_zero] at hc
  rw [hba,Int.add_zero] at M2
  have S:Same σ { σ with r:={ σ.r with at':=hdl k'.at',rest:=r,base:=bsK base z.x.ks ci } }:=⟨rfl,rfl,rfl,rfl,rfl,rfl,rfl,rfl,rfl,rfl,rfl,rfl,rfl,rfl,rfl,rfl⟩
  exact ⟨hdl ix,_,rfl,M2,S,.rune k tx q k'.at' r (bsK base z.x.ks ci),K.same S (K.O.rd _ σ.tx rfl rfl) rfl rfl rfl,⟨hb,hd,hph,hdv,hsh,rfl,rfl,rfl,by rw [bsK_eq];exact D.down (fun _ _=>rfl) hz h0 hk hc⟩,⟨rfl,rfl,rfl,z,hz,.inl ⟨h0,ci,k',r,hk,hc,rfl⟩⟩,hd⟩
 ·obtain ⟨pre,post,e1,e2,e3,e4,e5⟩:=D.leaf K.P hz h0
  have hv:σ.r.base.b+((nthP begB (bs z.x.s) (σ.r.rest - 0).toNat:Nat):Int)=((nthP begB (u8s tx) q:Nat):Int):=by
   rw [hre,hba,Int.sub_zero]
   have hb':base.b=(pre.length:Int):=by rw [←e2];rfl
   have hr':base.r=(cntP begB (u8s pre):Int):=by rw [←e2];rfl
   have hlt:rest.toNat < cntP begB (u8s z.x.s.data.toList):=by
    rw [mOf_list,mL_r] at e5
    omega
   have:=nth_leaf (p:=begB) (n:=q) (r:=rest.toNat) e1 (by rw [hr'] at e3;omega) hlt
   rw [this,hb']
   show _=((pre.length+nthP begB (bs z.x.s) rest.toNat:Nat):Int)
   push_cast
   rfl
  rw [hv] at M2
  have S:Same σ { σ with r:=σ.r.fin { RsV.zero with at':=((nthP begB (u8s tx) q:Nat):Int) },tx:=[] }:=⟨rfl,rfl,rfl,rfl,rfl,rfl,rfl,rfl,rfl,rfl,rfl,rfl,rfl,rfl,rfl,rfl⟩
  exact ⟨hdl ix,_,rfl,M2,S,.fin { RsV.zero with at':=((nthP begB (u8s tx) q:Nat):Int) },K.same S (K.O.rd _ [] rfl rfl) rfl rfl rfl,⟨rfl,rfl,rfl⟩,⟨rfl,rfl,rfl,z,hz,.inr ⟨h0,rfl⟩⟩,rfl⟩
theorem stp_line {k:Nat} {tx:List UInt8} {q ix:Nat} {rest:Int} {base:Ms} (M:Mem B w0 (σ.L B++(boxR bs'::R)) w) (K:RnOk σ y n m ts none) (hp:PgAt σ bs' n m ts (.line k tx q ix rest base)) :
  Calls Tryz.prog 15 #[.pointer (some ⟨σ.g,0,none⟩)] w (StepTo B w0 R σ bs' y n m ts (.line k tx q ix rest base)):=by
 obtain ⟨hb,hd,hph,hdv,hsh,hat,hre,hba,D⟩:=hp
 have htl:tx.length≤1000000:=by
  obtain ⟨_,i,_,_,ht⟩:=hsh
  have:=K.tl tx (List.mem_of_getElem? ht)
  omega
 obtain ⟨z,hz⟩:=D.at_
 refine stp_of M K.O hb _ hdv (fun W=>by kernel_rfl) fun R' W M'=>?_
 refine (visitLine_m M' K.O K.P htl (by rw [hre,hba];exact D) hat hz).mono ?_
 rintro e w' ⟨rfl,⟨h0,ci,k',r,hk,hc,M2⟩ | ⟨h0,M2⟩⟩
 ·rw [hre] at hc
  rw [hba] at M2
  have S:Same σ { σ with r:={ σ.r with at':=hdl k'.at',rest:=r+1,base:=bsK base z.x.ks ci } }:=⟨rfl,rfl,rfl,rfl,rfl,rfl,rfl,rfl,rfl,rfl,rfl,rfl,rfl,rfl,rfl,rfl⟩
  exact ⟨hdl ix,_,rfl,M2,S,.line k tx q k'.at' (r+1) (bsK base z.x.ks ci),K.same S (K.O.rd _ σ.tx rfl rfl) rfl rfl rfl,⟨hb,hd,hph,hdv,hsh,rfl,rfl,rfl,by rw [bsK_eq,show r+1 - 1=r by omega];exact D.down (fun _ _=>rfl) hz h0 hk hc⟩,⟨rfl,rfl,rfl,z,hz,.inl ⟨h0,ci,k',r,hk,hc,rfl⟩⟩,hd⟩
 ·obtain ⟨pre,post,e1,e2,e3,e4,e5⟩:=D.leaf K.P hz h0
  have hv:σ.r.base.b+(((nthP (fun b=>b == 10) (bs z.x.s) (σ.r.rest - 1).toNat:Nat):Int)+1)=((nthP isLF (u8s tx) q:Nat):Int)+1:=by
   rw [hre,hba]
   have hb':base.b=(pre.length:Int):=by rw [←e2];rfl
   have hr':base.l=(cntP isLF (u8s pre):Int):=by rw [←e2];rfl
   have hlt:(rest - 1).toNat < cntP isLF (u8s z.x.s.data.toList):=by
    rw [mOf_list,mL_l] at e5
    omega
   have:=nth_leaf (p:=isLF) (n:=q) (r:=(rest - 1).toNat) e1 (by rw [hr'] at e3;omega) hlt
   rw [this,hb']
   show _=((pre.length+nthP isLF (bs z.x.s) (rest - 1).toNat:Nat):Int)+1
   have e9:nthP (fun b=>b == 10) (bs z.x.s) (rest - 1).toNat=nthP isLF (bs z.x.s) (rest - 1).toNat:=rfl
   rw [e9]
   push_cast
   omega
  rw [hv] at M2
  have S:Same σ { σ with r:=σ.r.fin { RsV.zero with at':=((nthP isLF (u8s tx) q:Nat):Int)+1 },tx:=[] }:=⟨rfl,rfl,rfl,rfl,rfl,rfl,rfl,rfl,rfl,rfl,rfl,rfl,rfl,rfl,rfl,rfl⟩
  exact ⟨hdl ix,_,rfl,M2,S,.fin { RsV.zero with at':=((nthP isLF (u8s tx) q:Nat):Int)+1 },K.same S (K.O.rd _ [] rfl rfl) rfl rfl rfl,⟨rfl,rfl,rfl⟩,⟨rfl,rfl,rfl,z,hz,.inr ⟨h0,rfl⟩⟩,rfl⟩
theorem stp_byte {k:Nat} {a:Bool} {tx:List UInt8} {p0 N d ix:Nat} {rest:Int} {base:Ms} (M:Mem B w0 (σ.L B++(boxR bs'::R)) w) (K:RnOk σ y n m ts none) (hp:PgAt σ bs' n m ts (.byte k a tx p0 N d ix rest base)) :
  Calls Tryz.prog 15 #[.pointer (some ⟨σ.g,0,none⟩)] w (StepTo B w0 R σ bs' y n m ts (.byte k a tx p0 N d ix rest base)):=by
 obtain ⟨hb,hd,hph,hdv,hop,hsl,hsh,hat,hre,hba,hnx,hnd,hdN,hpN,htx,D⟩:=hp
 obtain ⟨s,i,hs,hsi,hti⟩:=id hsh
 have htl:tx.length≤100000:=K.tl tx (List.mem_of_getElem? hti)
 obtain ⟨z,hz⟩:=D.at_
 have hop':σ.r.op.k=7∨σ.r.op.k=12:=by
  cases a
  ·exact .inl hop
  ·exact .inr hop
 have htxl:σ.tx.length≤1000000:=by
  rw [htx,List.length_take]
  omega
 refine stp_of M K.O hb _ hdv (fun W=>by kernel_rfl) fun R' W M'=>?_
 refine (visitByte_m M' K.O K.P (tx:=tx) (by omega) (by rw [hre,hba];exact D) hat hz hsl hs hop' htxl (by rw [hnx];omega) (by rw [hnd];omega)).mono ?_
 rintro e w' ⟨rfl,⟨h0,ci,k',q,hk,hc,M2⟩ | ⟨h0,c,rn,hrn,hcm,hL⟩⟩
 ·rw [hre] at hc
  rw [hba] at M2
  have S:Same σ { σ with r:={ σ.r with at':=hdl k'.at',rest:=q,base:=bsK base z.x.ks ci } }:=⟨rfl,rfl,rfl,rfl,rfl,rfl,rfl,rfl,rfl,rfl,rfl,rfl,rfl,rfl,rfl,rfl⟩
  exact ⟨hdl ix,_,rfl,M2,S,.byte k a tx p0 N d k'.at' q (bsK base z.x.ks ci),K.same S (K.O.rd _ σ.tx rfl rfl) rfl rfl rfl,⟨hb,hd,hph,hdv,hop,hsl,hsh,rfl,rfl,rfl,hnx,hnd,hdN,hpN,htx,by rw [bsK_eq];exact D.down (fun _ _=>rfl) hz h0 hk hc⟩,⟨rfl,rfl,z,hz,.inl ⟨h0,rfl,ci,k',q,hk,hc,rfl⟩⟩,hd⟩
 ·obtain ⟨pre,post,e1,e2,e3,e4,e5⟩:=D.leaf K.P hz h0
  rw [hre] at hrn
  subst hrn
  have hb':base.b=(pre.length:Int):=by rw [←e2];rfl
  have e3':p0+d=pre.length+rn:=by
   have:((p0+d:Nat):Int)=base.b+(rn:Int):=e3
   rw [hb'] at this
   omega
  have e5':rn < z.x.s.size:=by
   rw [mOf_list,mL_b,dsize] at e5
   omega
  have hcm':c=min (N - d) (z.x.s.size - rn):=by rw [hcm,hnd];rfl
  have htk:=take_leaf (o:=p0+d) (k:=c) e1 e3' (by omega)
  have htx2:σ.tx++(z.x.s.extract rn (rn+c)).data.toList=(tx.drop p0).take (d+c):=by
   rw [htx,←htk,List.take_add,List.drop_drop]
  rw [htx2] at hL
  obtain ⟨ri,rr,hri,hsx,hsm,hsx2,hcu0,hcu1⟩:=K.sn k s hs
  have hii:ri=i:=by rw [hsi] at hsx2;omega
  subst hii
  obtain ⟨⟨hxb,_,_,hrev⟩,_⟩:=K.rv ri rr tx hri hti
  have hxb':s.x.b=(tx.length:Int):=by rw [hsx,hxb];rfl
  have HREV:=hid hrev
  clear hrev
  rcases hL with ⟨hlt,tv,M2⟩ | ⟨heq,h7,M2⟩ | ⟨heq,h12,M2⟩
  ·rw [hnd] at hlt
   rw [hnx,hnd] at M2
   rcases HREV.out with ⟨h,_⟩ | ⟨jx,t,ht1,ht2,ht3,_⟩
   ·rw [h] at hpN
    simp at hpN
    omega
   have M3:Mem B w0 (RS.L B { σ with r:={ σ.r with tx:=tv,next:=((p0+(d+c):Nat):Int),need:=((N - (d+c):Nat):Int),ph:=12,dv:=visF σ.g,at':=s.x.at',rest:=((p0+(d+c):Nat):Int),base:=⟨0,0,0⟩ },tx:=(tx.drop p0).take (d+c) }++R') w':=by
    rw [show ((p0+(d+c):Nat):Int)=((p0+d:Nat):Int)+(c:Int) by push_cast;omega,show ((N - (d+c):Nat):Int)=((N - d:Nat):Int) - (c:Int) by omega]
    exact M2
   have S:Same σ { σ with r:={ σ.r with tx:=tv,next:=((p0+(d+c):Nat):Int),need:=((N - (d+c):Nat):Int),ph:=12,dv:=visF σ.g,at':=s.x.at',rest:=((p0+(d+c):Nat):Int),base:=⟨0,0,0⟩ },tx:=(tx.drop p0).take (d+c) }:=⟨rfl,rfl,rfl,rfl,rfl,rfl,rfl,rfl,rfl,rfl,rfl,rfl,rfl,rfl,rfl,rfl⟩
   have D':Dn (fun m=>m.b) tx σ.ns jx ((p0+(d+c):Nat):Int) ((p0+(d+c):Nat):Int) ⟨0,0,0⟩:=by
    have:=Dn.start (f:=fun m=>m.b) rfl ht2 (n:=((p0+(d+c):Nat):Int)) (by omega) (by rw [ht3];show _ < (tx.length:Int);omega)
    rw [ht3] at this
    exact this
   exact ⟨hdl ix,_,rfl,M3,S,.byte k a tx p0 N (d+c) jx ((p0+(d+c):Nat):Int) ⟨0,0,0⟩,K.same S (K.O.rd _ _ rfl rfl) rfl rfl rfl,⟨hb,hd,rfl,rfl,hop,hsl,hsh,by show s.x.at'=_;rw [hsx];exact ht1,rfl,rfl,rfl,rfl,by omega,hpN,rfl,D'⟩,⟨rfl,rfl,z,hz,.inr ⟨h0,c,rn,rfl,hcm',.inl ⟨by omega,rfl,jx,rfl,s,hs,by rw [hsx];exact ht1⟩⟩⟩,hd⟩
  ·rw [hnd] at heq
   have hdc:d+c=N:=by omega
   cases a with
   | true=>rw [h7] at hop;cases hop
   | false=>
    rw [hdc] at M2
    have S:Same σ { σ with r:=Rd.fin { σ.r with next:=σ.r.next+c,need:=σ.r.need - c } { RsV.zero with s:=⟨((tx.drop p0).take N).toArray⟩ },tx:=[] }:=⟨rfl,rfl,rfl,rfl,rfl,rfl,rfl,rfl,rfl,rfl,rfl,rfl,rfl,rfl,rfl,rfl⟩
    exact ⟨hdl ix,_,rfl,M2,S,.fin { RsV.zero with s:=⟨((tx.drop p0).take N).toArray⟩ },K.same S (K.O.rd _ _ rfl rfl) rfl rfl rfl,⟨rfl,rfl,rfl⟩,⟨rfl,rfl,z,hz,.inr ⟨h0,c,rn,rfl,hcm',.inr ⟨hdc,rfl,rfl⟩⟩⟩,rfl⟩
  ·rw [hnd] at heq
   have hdc:d+c=N:=by omega
   cases a with
   | false=>rw [h12] at hop;cases hop
   | true=>
    rw [hdc] at M2
    have hnxc:σ.r.next+(c:Int)=((p0+N:Nat):Int):=by rw [hnx];omega
    rw [hnxc] at M2
    have S:Same σ { σ with sl:=σ.sl.set k (some { s with cu:=((p0+N:Nat):Int) }),r:=Rd.fin { σ.r with next:=((p0+N:Nat):Int),need:=σ.r.need - c } { RsV.zero with at':=((p0+N:Nat):Int),s:=⟨((tx.drop p0).take N).toArray⟩ },tx:=[] }:=⟨rfl,rfl,rfl,rfl,rfl,rfl,rfl,rfl,rfl,rfl,rfl,rfl,rfl,rfl,rfl,rfl⟩
    exact ⟨hdl ix,_,rfl,M2,S,.fin { RsV.zero with at':=((p0+N:Nat):Int),s:=⟨((tx.drop p0).take N).toArray⟩ },K.cur S ((K.O.slot k (some { s with cu:=((p0+N:Nat):Int) })).rd _ _ rfl rfl) rfl rfl hs rfl (by omega) (by rw [hxb'];omega),⟨rfl,rfl,rfl⟩,⟨rfl,rfl,z,hz,.inr ⟨h0,c,rn,rfl,hcm',.inr ⟨hdc,⟨s,hs,rfl⟩,rfl⟩⟩⟩,rfl⟩
theorem step_all {pg:Pg} (M:Mem B w0 (σ.L B++(boxR bs'::R)) w) (K:RnOk σ y n m ts pg.hk) (hl:σ.s.lg.length < 800000) (hp:PgAt σ bs' n m ts pg) (he:pg.ended=false) :
  Calls Tryz.prog 15 #[.pointer (some ⟨σ.g,0,none⟩)] w (StepTo B w0 R σ bs' y n m ts pg):=by
 cases pg with
 | fin x=>cases he
 | loc x=>exact stp_loc M K hp
 | clos=>exact stp_clos M K hl hp
 | ep k=>exact stp_ep M K hl hp
 | ann k v=>exact stp_ann M K hl hp
 | root k=>exact stp_root M K hl hp
 | rel k=>exact stp_rel M K hl hp
 | seek k pos=>exact stp_seek M K hp
 | take k a pos=>exact stp_take M K hp
 | byte k a tx p0 N d ix rest base=>exact stp_byte M K hp
 | rune k tx q ix rest base=>exact stp_rune M K hp
 | line k tx q ix rest base=>exact stp_line M K hp
end
theorem rev_tree {ns:List An} {x:Rv} {tx:List UInt8} (h:RevOk ns x tx) (h0:0 < tx.length):∃jx t,x.at'=hdl jx∧Nt ns jx t∧t.text=tx∧x.h=(t.ht:Int)∧t.good∧∃s:ByteArray,buildT s=[t]:=by
 obtain ⟨_,_,_,⟨h,_⟩ | h⟩:=h
 ·rw [h] at h0
  cases h0
 ·exact h
theorem read_z (g:Nat) (r:Rd) (x:Rv) (pos num:Int) (h:num=0):Rd.read g r x pos num={ r with tx:=.slice none 0 0,next:=pos,need:=num,ph:=1,dv:=takenF g }:=if_pos h
theorem read_n (g:Nat) (r:Rd) (x:Rv) (pos num:Int) (h:num≠0):Rd.read g r x pos num={ r with tx:=.slice none 0 0,next:=pos,need:=num,ph:=12,dv:=visF g,at':=x.at',rest:=pos,base:=⟨0,0,0⟩ }:=if_neg h
section
variable {B:Nat} {w0 w:World} {R:List Res} {σ σ':RS} {bs':List Bx} {y:Ly} {n m:Nat} {ts:List (List UInt8)}
theorem beg_len {k:Nat} (M:Mem B w0 (σ.L B++(boxR bs'::R)) w) (K:RnOk σ y n m ts none) (hb:σ.r.busy=false) (hk:k < n) :
  Calls Tryz.prog 13 #[.pointer (some ⟨σ.g,0,none⟩),(Cop.len k).op.v] w (BegTo B w0 R σ y n m ts (.len k)):=by
 rcases slot_case K hk with h | ⟨s,i,tx,h,h1,h2,h3,h4,h5,h6,h7⟩
 ·exact begin_free M K hb (.len k) (fun e=>by cases e) hk rfl (by simp [Cop.op]) h (fm6 σ.g σ.lb n _ k K.O.sl (by omega) (by omega))
 ·obtain ⟨e1,e2,e3,_⟩:=h3
  refine begin_loc M K hb (.len k) _ (.inr ⟨nofun,.inr ⟨s,i,tx,h,h1,h2,rfl⟩⟩) fun W M1=>?_
  have:=start_6 σ.g σ.lb n k s.g (σ.beg (Cop.len k).op).r _ s.x s.mv s.dv s.ix s.cu W (m_rd M1) K.O.sl (m_sl M1).b rfl hk (sptr_at h) ((m_sl M1).s k s h).b
  rw [e1,e2,e3] at this
  exact this
theorem begin_set (M:Mem B w0 (σ.L B++(boxR bs'::R)) w) (K:RnOk σ y n m ts none) (hb:σ.r.busy=false) (c:Cop) (r':Rd) (pg:Pg) (hr1:r'.sb=σ.r.sb) (hr2:r'.sl=σ.r.sl) (hr3:r'.cl=σ.r.cl) (hr4:r'.op=c.op) (tx':List UInt8) (ht:(r'.tx=.slice none 0 0∧tx'=[])∨(r'.tx=σ.r.tx∧tx'=σ.tx)) (hp:PgAt { σ with r:=r',tx:=tx' } bs' n m ts pg) (hk:pg.hk=none) (he:pg.ended=false) (hs:StartP σ ts c pg)
  (hck:∀W,Mem B w0 (RS.L B (σ.beg c.op)++(boxR bs'::R)) W→Calls Tryz.prog 38 #[.pointer (some ⟨σ.g,0,none⟩)] W (RdSet σ.g r' W (.tuple #[]))) :
  Calls Tryz.prog 13 #[.pointer (some ⟨σ.g,0,none⟩),c.op.v] w (BegTo B w0 R σ y n m ts c):=by
 refine begin_of M K hb c fun W M1 K1=>?_
 refine (hck W M1).mono ?_
 intro e w' hset
 have M2:Mem B w0 (RS.L B { σ with r:=r',tx:=tx' }++(boxR bs'::R)) w':=by
  rcases ht with ⟨h1,h2⟩ | ⟨h1,h2⟩
  ·rw [h2]
   exact m_rdz M1 hset hr1 h1
  ·rw [h2]
   exact m_set M1 hset hr1 h1
 obtain ⟨rfl,_,_⟩:=hset
 have S:Same σ { σ with r:=r',tx:=tx' }:=⟨rfl,hr1,hr3,rfl,rfl,rfl,rfl,rfl,rfl,rfl,rfl,rfl,rfl,rfl,rfl,rfl⟩
 exact ⟨rfl,_,_,M2,S,rfl,rfl,rfl,hr4,K.same S (K.O.rd r' tx' hr2 hr3) rfl rfl rfl,pg,hp,hk,he,hs⟩
theorem beg_read {k a b:Nat} (M:Mem B w0 (σ.L B++(boxR bs'::R)) w) (K:RnOk σ y n m ts none) (hb:σ.r.busy=false) (hk:k < n) :
  Calls Tryz.prog 13 #[.pointer (some ⟨σ.g,0,none⟩),(Cop.read k a b).op.v] w (BegTo B w0 R σ y n m ts (.read k a b)):=by
 rcases slot_case K hk with h | ⟨s,i,tx,h,h1,h2,h3,h4,h5,h6,h7⟩
 ·exact begin_free M K hb (.read k a b) (fun e=>by cases e) hk rfl (by simp [Cop.op]) h (fm7 σ.g σ.lb n _ k a b K.O.sl (by omega) (by omega) (by omega) (by omega))
 ·have hxb:s.x.b=(tx.length:Int):=h3.1
  by_cases hab:a+b≤tx.length
  ·have hst:∀W,Mem B w0 (RS.L B (σ.beg (Cop.read k a b).op)++(boxR bs'::R)) W→Calls Tryz.prog 38 #[.pointer (some ⟨σ.g,0,none⟩)] W (RdSet σ.g (Rd.read σ.g (σ.beg (Cop.read k a b).op).r s.x a b) W (.tuple #[])):=fun W M1=>
    start_7 σ.g σ.lb n k s.g (σ.beg (Cop.read k a b).op).r _ s.x s.mv s.dv s.ix s.cu a b W (m_rd M1) K.O.sl (m_sl M1).b rfl hk (sptr_at h) ((m_sl M1).s k s h).b (by omega) (by omega) (by omega) (by omega)
   by_cases hb0:b=0
   ·subst hb0
    refine begin_set M K hb (.read k a 0) { (σ.beg (Cop.read k a 0).op).r with tx:=.slice none 0 0,next:=(a:Int),need:=((0:Nat):Int),ph:=1,dv:=takenF σ.g } (.take k false a) rfl rfl rfl rfl [] (.inl ⟨rfl,rfl⟩) ⟨rfl,rfl,rfl,rfl,rfl,rfl,rfl,rfl,s,h,by omega,by omega⟩ rfl rfl (.inr ⟨nofun,.inr ⟨s,i,tx,h,h1,h2,.inr (.inl ⟨hab,rfl,rfl⟩)⟩⟩) fun W M1=>?_
    have:=hst W M1
    rw [read_z _ _ _ _ ((0:Nat):Int) rfl] at this
    exact this
   ·obtain ⟨jx,t,t1,t2,t3,_⟩:=rev_tree h3 (by omega)
    have D:Dn (fun m=>m.b) tx σ.ns jx ((a+0:Nat):Int) (a:Int) ⟨0,0,0⟩:=by
     have:=Dn.start (f:=fun m=>m.b) rfl t2 (n:=((a+0:Nat):Int)) (by omega) (by rw [t3];show _ < (tx.length:Int);omega)
     rw [t3] at this
     exact this
    refine begin_set M K hb (.read k a b) { (σ.beg (Cop.read k a b).op).r with tx:=.slice none 0 0,next:=(a:Int),need:=(b:Int),ph:=12,dv:=visF σ.g,at':=s.x.at',rest:=(a:Int),base:=⟨0,0,0⟩ } (.byte k false tx a b 0 jx a ⟨0,0,0⟩) rfl rfl rfl rfl [] (.inl ⟨rfl,rfl⟩) ⟨rfl,rfl,rfl,rfl,rfl,rfl,⟨s,i,h,h1,h2⟩,t1,rfl,rfl,rfl,rfl,by omega,hab,rfl,D⟩ rfl rfl (.inr ⟨nofun,.inr ⟨s,i,tx,h,h1,h2,.inr (.inr ⟨hab,by omega,jx,t1,rfl⟩)⟩⟩) fun W M1=>?_
    have:=hst W M1
    rw [read_n _ _ _ _ _ (by omega:¬((b:Int)=0))] at this
    exact this
  ·refine begin_err M K hb (.read k a b) 3 (by decide) (.inr ⟨nofun,.inr ⟨s,i,tx,h,h1,h2,.inl ⟨by omega,rfl⟩⟩⟩) fun W M1=>?_
   have:=check_7 σ.g σ.lb n k s.g (σ.beg (Cop.read k a b).op).r _ s.x s.mv s.dv s.ix s.cu W (m_rd M1) K.O.sl (m_sl M1).b hk (sptr_at h) ((m_sl M1).s k s h).b a b (by omega) (by omega) (fm7 σ.g σ.lb n _ k a b K.O.sl (by omega) (by omega) (by omega) (by omega))
   rw [if_pos (by omega)] at this
   exact this
theorem beg_next {k b:Nat} (M:Mem B w0 (σ.L B++(boxR bs'::R)) w) (K:RnOk σ y n m ts none) (hb:σ.r.busy=false) (hk:k < n) :
  Calls Tryz.prog 13 #[.pointer (some ⟨σ.g,0,none⟩),(Cop.next k b).op.v] w (BegTo B w0 R σ y n m ts (.next k b)):=by
 rcases slot_case K hk with h | ⟨s,i,tx,h,h1,h2,h3,h4,h5,h6,h7⟩
 ·exact begin_free M K hb (.next k b) (fun e=>by cases e) hk rfl (by simp [Cop.op]) h (fm12 σ.g σ.lb n _ k b K.O.sl (by omega) (by omega) (by omega))
 ·have hxb:s.x.b=(tx.length:Int):=h3.1
  obtain ⟨c,hc⟩:∃c:Nat,s.cu=(c:Int):=⟨s.cu.toNat,by omega⟩
  have hmin:min (b:Int) (s.x.b - s.cu)=((min b (tx.length - c):Nat):Int):=by rw [hxb,hc];omega
  have hst:∀W,Mem B w0 (RS.L B (σ.beg (Cop.next k b).op)++(boxR bs'::R)) W→Calls Tryz.prog 38 #[.pointer (some ⟨σ.g,0,none⟩)] W (RdSet σ.g (Rd.read σ.g (σ.beg (Cop.next k b).op).r s.x c ((min b (tx.length - c):Nat):Int)) W (.tuple #[])):=fun W M1=>by
   have:=start_12 σ.g σ.lb n k s.g (σ.beg (Cop.next k b).op).r _ s.x s.mv s.dv s.ix s.cu b W (m_rd M1) K.O.sl (m_sl M1).b rfl hk (sptr_at h) ((m_sl M1).s k s h).b (by omega) (by omega) ⟨h4,h5⟩
   rw [hmin,hc] at this
   exact this
  by_cases hb0:min b (tx.length - c)=0
  ·rw [hb0] at hst
   refine begin_set M K hb (.next k b) { (σ.beg (Cop.next k b).op).r with tx:=.slice none 0 0,next:=(c:Int),need:=((0:Nat):Int),ph:=1,dv:=takenF σ.g } (.take k true c) rfl rfl rfl rfl [] (.inl ⟨rfl,rfl⟩) ⟨rfl,rfl,rfl,rfl,rfl,rfl,rfl,rfl,s,h,by omega,by omega⟩ rfl rfl (.inr ⟨nofun,.inr ⟨s,i,tx,h,h1,h2,c,hc,.inl ⟨hb0,rfl⟩⟩⟩) fun W M1=>?_
   have:=hst W M1
   rw [read_z _ _ _ _ ((0:Nat):Int) rfl] at this
   exact this
  ·obtain ⟨jx,t,t1,t2,t3,_⟩:=rev_tree h3 (by omega)
   have D:Dn (fun m=>m.b) tx σ.ns jx ((c+0:Nat):Int) (c:Int) ⟨0,0,0⟩:=by
    have:=Dn.start (f:=fun m=>m.b) rfl t2 (n:=((c+0:Nat):Int)) (by omega) (by rw [t3];show _ < (tx.length:Int);omega)
    rw [t3] at this
    exact this
   refine begin_set M K hb (.next k b) { (σ.beg (Cop.next k b).op).r with tx:=.slice none 0 0,next:=(c:Int),need:=((min b (tx.length - c):Nat):Int),ph:=12,dv:=visF σ.g,at':=s.x.at',rest:=(c:Int),base:=⟨0,0,0⟩ } (.byte k true tx c (min b (tx.length - c)) 0 jx c ⟨0,0,0⟩) rfl rfl rfl rfl [] (.inl ⟨rfl,rfl⟩) ⟨rfl,rfl,rfl,rfl,rfl,rfl,⟨s,i,h,h1,h2⟩,t1,rfl,rfl,rfl,rfl,by omega,by omega,rfl,D⟩ rfl rfl (.inr ⟨nofun,.inr ⟨s,i,tx,h,h1,h2,c,hc,.inr ⟨by omega,jx,t1,rfl⟩⟩⟩) fun W M1=>?_
   have:=hst W M1
   rw [read_n _ _ _ _ _ (by omega:¬(((min b (tx.length - c):Nat):Int)=0))] at this
   exact this
theorem beg_rune {k b:Nat} (M:Mem B w0 (σ.L B++(boxR bs'::R)) w) (K:RnOk σ y n m ts none) (hb:σ.r.busy=false) (hk:k < n) :
  Calls Tryz.prog 13 #[.pointer (some ⟨σ.g,0,none⟩),(Cop.rune k b).op.v] w (BegTo B w0 R σ y n m ts (.rune k b)):=by
 rcases slot_case K hk with h | ⟨s,i,tx,h,h1,h2,h3,h4,h5,h6,h7⟩
 ·exact begin_free M K hb (.rune k b) (fun e=>by cases e) hk rfl (by simp [Cop.op]) h (fm8 σ.g σ.lb n _ k b K.O.sl (by omega) (by omega) (by omega))
 ·have hxb:s.x.b=(tx.length:Int):=h3.1
  have hxr:s.x.r=(cntP begB (u8s tx):Int):=h3.2.1
  rcases Nat.lt_trichotomy b (cntP begB (u8s tx)) with hlt | heq | hgt
  ·have htx:0 < tx.length:=by
    rcases Nat.eq_zero_or_pos tx.length with e | e
    ·rw [List.eq_nil_of_length_eq_zero e] at hlt
     exact absurd hlt (Nat.not_lt_zero _)
    ·exact e
   obtain ⟨jx,t,t1,t2,t3,_⟩:=rev_tree h3 htx
   have D:Dn (fun m=>m.r) tx σ.ns jx (b:Int) (b:Int) ⟨0,0,0⟩:=by
    have:=Dn.start (f:=fun m=>m.r) rfl t2 (n:=(b:Int)) (by omega) (by rw [t3];show _ < (cntP begB (u8s tx):Int);omega)
    rw [t3] at this
    exact this
   refine begin_set M K hb (.rune k b) { (σ.beg (Cop.rune k b).op).r with ph:=12,dv:=visRF σ.g,at':=s.x.at',rest:=b,base:=⟨0,0,0⟩ } (.rune k tx b jx b ⟨0,0,0⟩) rfl rfl rfl rfl σ.tx (.inr ⟨rfl,rfl⟩) ⟨rfl,rfl,rfl,rfl,⟨s,i,h,h1,h2⟩,t1,rfl,rfl,D⟩ rfl rfl (.inr ⟨nofun,.inr ⟨s,i,tx,h,h1,h2,.inr (.inr ⟨hlt,jx,t1,rfl⟩)⟩⟩) fun W M1=>?_
   exact start_8 σ.g σ.lb n k s.g (σ.beg (Cop.rune k b).op).r _ s.x s.mv s.dv s.ix s.cu b W (m_rd M1) K.O.sl (m_sl M1).b rfl hk (sptr_at h) ((m_sl M1).s k s h).b (by omega) (by omega) (by omega)
  ·refine begin_loc M K hb (.rune k b) _ (.inr ⟨nofun,.inr ⟨s,i,tx,h,h1,h2,.inr (.inl ⟨heq,rfl⟩)⟩⟩) fun W M1=>?_
   have:=start_8e σ.g σ.lb n k s.g (σ.beg (Cop.rune k b).op).r _ s.x s.mv s.dv s.ix s.cu W (m_rd M1) K.O.sl (m_sl M1).b (by rw [hxr,←heq];rfl) hk (sptr_at h) ((m_sl M1).s k s h).b (by omega)
   rw [hxb] at this
   exact this
  ·refine begin_err M K hb (.rune k b) 3 (by decide) (.inr ⟨nofun,.inr ⟨s,i,tx,h,h1,h2,.inl ⟨hgt,rfl⟩⟩⟩) fun W M1=>?_
   have:=check_8 σ.g σ.lb n k s.g (σ.beg (Cop.rune k b).op).r _ s.x s.mv s.dv s.ix s.cu W (m_rd M1) K.O.sl (m_sl M1).b hk (sptr_at h) ((m_sl M1).s k s h).b b (fm8 σ.g σ.lb n _ k b K.O.sl (by omega) (by omega) (by omega))
   rw [if_pos (by omega)] at this
   exact this
theorem beg_line {k b:Nat} (M:Mem B w0 (σ.L B++(boxR bs'::R)) w) (K:RnOk σ y n m ts none) (hb:σ.r.busy=false) (hk:k < n) :
  Calls Tryz.prog 13 #[.pointer (some ⟨σ.g,0,none⟩),(Cop.line k b).op.v] w (BegTo B w0 R σ y n m ts (.line k b)):=by
 rcases slot_case K hk with h | ⟨s,i,tx,h,h1,h2,h3,h4,h5,h6,h7⟩
 ·exact begin_free M K hb (.line k b) (fun e=>by cases e) hk rfl (by simp [Cop.op]) h (fm9 σ.g σ.lb n _ k b K.O.sl (by omega) (by omega) (by omega))
 ·have hxb:s.x.b=(tx.length:Int):=h3.1
  have hxl:s.x.l=(cntP isLF (u8s tx):Int):=h3.2.2.1
  rcases Nat.eq_zero_or_pos b with hb0 | hb0
  ·subst hb0
   refine begin_loc M K hb (.line k 0) _ (.inr ⟨nofun,.inr ⟨s,i,tx,h,h1,h2,.inr (.inl ⟨rfl,rfl⟩)⟩⟩) fun W M1=>?_
   exact start_9z σ.g σ.lb n k s.g (σ.beg (Cop.line k 0).op).r _ s.x s.mv s.dv s.ix s.cu W (m_rd M1) K.O.sl (m_sl M1).b rfl hk (sptr_at h) ((m_sl M1).s k s h).b (by omega)
  ·by_cases hle:b≤cntP isLF (u8s tx)
   ·have htx:0 < tx.length:=by
     rcases Nat.eq_zero_or_pos tx.length with e | e
     ·rw [List.eq_nil_of_length_eq_zero e] at hle
      have:cntP isLF (u8s [])=0:=rfl
      omega
     ·exact e
    obtain ⟨jx,t,t1,t2,t3,_⟩:=rev_tree h3 htx
    have D:Dn (fun m=>m.l) tx σ.ns jx ((b - 1:Nat):Int) ((b:Int) - 1) ⟨0,0,0⟩:=by
     have:=Dn.start (f:=fun m=>m.l) rfl t2 (n:=((b - 1:Nat):Int)) (by omega) (by rw [t3];show _ < (cntP isLF (u8s tx):Int);omega)
     rw [t3] at this
     rw [show (b:Int) - 1=((b - 1:Nat):Int) by omega]
     exact this
    refine begin_set M K hb (.line k b) { (σ.beg (Cop.line k b).op).r with ph:=12,dv:=visLF σ.g,at':=s.x.at',rest:=b,base:=⟨0,0,0⟩ } (.line k tx (b - 1) jx b ⟨0,0,0⟩) rfl rfl rfl rfl σ.tx (.inr ⟨rfl,rfl⟩) ⟨rfl,rfl,rfl,rfl,⟨s,i,h,h1,h2⟩,t1,rfl,rfl,D⟩ rfl rfl (.inr ⟨nofun,.inr ⟨s,i,tx,h,h1,h2,.inr (.inr ⟨hle,hb0,jx,t1,rfl⟩)⟩⟩) fun W M1=>?_
    exact start_9 σ.g σ.lb n k s.g (σ.beg (Cop.line k b).op).r _ s.x s.mv s.dv s.ix s.cu b W (m_rd M1) K.O.sl (m_sl M1).b rfl hk (sptr_at h) ((m_sl M1).s k s h).b (by omega) (by omega) (by omega)
   ·refine begin_err M K hb (.line k b) 3 (by decide) (.inr ⟨nofun,.inr ⟨s,i,tx,h,h1,h2,.inl ⟨by omega,rfl⟩⟩⟩) fun W M1=>?_
    have:=check_9 σ.g σ.lb n k s.g (σ.beg (Cop.line k b).op).r _ s.x s.mv s.dv s.ix s.cu W (m_rd M1) K.O.sl (m_sl M1).b hk (sptr_at h) ((m_sl M1).s k s h).b b (fm9 σ.g σ.lb n _ k b K.O.sl (by omega) (by omega) (by omega))
    rw [if_pos (by omega)] at this
    exact this
theorem beg_seek {k a:Nat} (M:Mem B w0 (σ.L B++(boxR bs'::R)) w) (K:RnOk σ y n m ts none) (hb:σ.r.busy=false) (hk:k < n) :
  Calls Tryz.prog 13 #[.pointer (some ⟨σ.g,0,none⟩),(Cop.seek k a).op.v] w (BegTo B w0 R σ y n m ts (.seek k a)):=by
 rcases slot_case K hk with h | ⟨s,i,tx,h,h1,h2,h3,h4,h5,h6,h7⟩
 ·exact begin_free M K hb (.seek k a) (fun e=>by cases e) hk rfl (by simp [Cop.op]) h (fm11 σ.g σ.lb n _ k a K.O.sl (by omega) (by omega) (by omega))
 ·have hxb:s.x.b=(tx.length:Int):=h3.1
  by_cases ha:a≤tx.length
  ·refine begin_of M K hb (.seek k a) fun W M1 K1=>?_
   refine (start_11 σ.g σ.lb n k s.g (σ.beg (Cop.seek k a).op).r _ s.x s.mv s.dv s.ix s.cu a W (m_rd M1) K.O.sl (m_sl M1).b rfl hk (sptr_at h) ((m_sl M1).s k s h).b (by omega) (by omega)).mono ?_
   rintro e w' ⟨ob,zb,rb,hset,b1,b2,b3,h8,h9,h10,h11,h12⟩
   have M2:=m_setbox M1 hset rfl rfl [⟨ob,26,OpV.arr (Cop.seek k a).op⟩,⟨zb,140,#[.pointer (some ⟨s.g,0,none⟩)]⟩,⟨rb,45,#[.pointer (some ⟨σ.g,0,none⟩)]⟩] (fun b hb=>by
    simp at hb
    rcases hb with rfl | rfl | rfl
    ·exact b1
    ·exact b2
    ·exact b3) (fun b hb=>by
    simp at hb
    rcases hb with rfl | rfl | rfl
    ·exact Nat.le_trans h8 (Nat.le_of_lt h9)
    ·exact h12
    ·exact h8)
   obtain ⟨rfl,_,_⟩:=hset
   exact ⟨rfl,_,_,M2,⟨rfl,rfl,rfl,rfl,rfl,rfl,rfl,rfl,rfl,rfl,rfl,rfl,rfl,rfl,rfl,rfl⟩,rfl,rfl,rfl,rfl,K1.same ⟨rfl,rfl,rfl,rfl,rfl,rfl,rfl,rfl,rfl,rfl,rfl,rfl,rfl,rfl,rfl,rfl⟩ (K1.O.rd _ σ.tx rfl rfl) rfl rfl rfl,.seek k a,⟨rfl,rfl,rfl,ob,zb,rb,s,(Cop.seek k a).op,rfl,h,rfl,by omega,by omega,rfl⟩,rfl,rfl,.inr ⟨nofun,.inr ⟨s,i,tx,h,h1,h2,.inr ⟨ha,rfl⟩⟩⟩⟩
  ·refine begin_err M K hb (.seek k a) 3 (by decide) (.inr ⟨nofun,.inr ⟨s,i,tx,h,h1,h2,.inl ⟨by omega,rfl⟩⟩⟩) fun W M1=>?_
   have:=check_11 σ.g σ.lb n k s.g (σ.beg (Cop.seek k a).op).r _ s.x s.mv s.dv s.ix s.cu W (m_rd M1) K.O.sl (m_sl M1).b hk (sptr_at h) ((m_sl M1).s k s h).b a (fm11 σ.g σ.lb n _ k a K.O.sl (by omega) (by omega) (by omega))
   rw [if_pos (by omega)] at this
   exact this
end
mutual
def T.lvs:T→List ByteArray
 | .leaf s=>[s]
 | .node _ ks=>T.lvsL ks
def T.lvsL:List T→List ByteArray
 | []=>[]
 | t::ts=>t.lvs++T.lvsL ts
end
def flatS (l:List ByteArray):List UInt8:=(l.map fun s=>s.data.toList).flatten
theorem flatS_app (a b:List ByteArray):flatS (a++b)=flatS a++flatS b:=by simp [flatS]
theorem flatS_cons (s:ByteArray) (l:List ByteArray):flatS (s::l)=s.data.toList++flatS l:=by simp [flatS]
theorem flatS_one (s:ByteArray):flatS [s]=s.data.toList:=by simp [flatS]
theorem flatS_nil:flatS []=[]:=rfl
theorem lvsL_app (a b:List T):T.lvsL (a++b)=T.lvsL a++T.lvsL b:=by
 induction a with
 | nil=>rfl
 | cons t l ih=>simp [T.lvsL,ih]
theorem lvs_text (t:T):t.text=flatS t.lvs:=by
 induction t using T.ind with
 | hl s=>rw [T.lvs,flatS_one];rfl
 | hn h ks ih=>
  have hl:∀(l:List T),(∀t ∈ l,t.text=flatS t.lvs)→T.textL l=flatS (T.lvsL l):=by
   intro l
   induction l with
   | nil=>intro _;rfl
   | cons t ts ih'=>
    intro h
    rw [T.textL,T.lvsL,flatS_app,h t (by simp),ih' (fun t ht=>h t (by simp [ht]))]
  exact hl ks ih
theorem lvsL_text (l:List T):T.textL l=flatS (T.lvsL l):=by
 induction l with
 | nil=>rfl
 | cons t ts ih=>rw [T.textL,T.lvsL,flatS_app,lvs_text,ih]
theorem lvs_fit:∀(h:Nat) (t:T),T.fit h t→∀s ∈ t.lvs,8≤s.size
 | 0,.leaf s,hf,x,hx=>by
  simp [T.lvs] at hx
  rw [hx]
  exact hf.1
 | 0,.node k ks,hf,_,_=>hf.elim
 | h+1,.leaf s,hf,_,_=>hf.elim
 | h+1,.node k ks,hf,x,hx=>by
  have hl:∀(l:List T),(∀t ∈ l,T.fit h t)→∀x ∈ T.lvsL l,8≤x.size:=by
   intro l
   induction l with
   | nil=>intro _ x hx;simp [T.lvsL] at hx
   | cons t ts ih=>
    intro hf x hx
    simp [T.lvsL] at hx
    rcases hx with hx | hx
    ·exact lvs_fit h t (hf t (by simp)) x hx
    ·exact ih (fun t ht=>hf t (by simp [ht])) x hx
  exact hl ks hf.2.2.2 x hx
theorem lvs_pos {t:T} (h:t.good):∀s ∈ t.lvs,0 < s.size:=by
 rcases h with ⟨s,rfl,h1,_⟩ | ⟨k,_,h⟩
 ·intro x hx
  simp [T.lvs] at hx
  rw [hx]
  exact h1
 ·intro x hx
  have:=lvs_fit k t h x hx
  omega
theorem bnd:∀(A A':List ByteArray) (C C':List ByteArray) (s':ByteArray),A++C=A'++s'::C'→(∀s ∈ A++C,0 < s.size)→(flatS A').length≤(flatS A).length→(flatS A).length < (flatS A').length+s'.size→A=A'
 | [],[],_,_,_,_,_,_,_=>rfl
 | [],a::A',C,C',s',h,hp,h1,_=>by
  rw [List.nil_append] at h hp
  have:=hp a (by rw [h];simp)
  rw [flatS_cons,List.length_append,dsize,flatS_nil,List.length_nil] at h1
  omega
 | a::A,[],C,C',s',h,hp,_,h2=>by
  rw [List.cons_append,List.nil_append] at h
  injection h with h _
  rw [flatS_cons,List.length_append,dsize,flatS_nil,List.length_nil,h] at h2
  omega
 | a::A,a'::A',C,C',s',h,hp,h1,h2=>by
  rw [List.cons_append,List.cons_append] at h
  injection h with h h'
  subst h
  rw [flatS_cons,List.length_append,flatS_cons,List.length_append] at h1 h2
  rw [bnd A A' C C' s' h' (fun s hs=>hp s (by rw [List.cons_append];exact List.mem_cons_of_mem _ hs)) (by omega) (by omega)]
theorem nt_kidL {ns:List An} {ix:Nat} {u:T} (h:Nt ns ix u) {y:An} (hy:ns[ix]?=some y) (h0:y.x.h≠0) {i:Nat} {k:Kd} (hk:y.x.ks[i]?=some k) :
  ∃t A C,Nt ns k.at' t∧u.lvs=A++t.lvs++C∧mL (flatS A)=msum ((y.x.ks.map Kd.m).take i)∧k.m=mL t.text:=by
 cases h with
 | leaf hi e=>
  rw [hy] at hi;injection hi with hi;subst hi
  rw [e] at h0
  exact absurd rfl h0
 | node hi e hl hm hkk=>
  rename_i hh ks y' kd
  rw [hy] at hi;injection hi with hi;subst hi
  rw [e] at hk ⊢
  simp only at hk ⊢
  have hlt:i < ks.length:=by rw [←hl];exact (List.getElem?_eq_some_iff.1 hk).1
  obtain ⟨t,ht⟩:∃t,ks[i]?=some t:=⟨ks[i],List.getElem?_eq_getElem hlt⟩
  refine ⟨t,T.lvsL (ks.take i),T.lvsL (ks.drop (i+1)),hkk i k t hk ht,?_,?_,by rw [hm i k t hk ht,meas_text]⟩
  ·have e2:ks=ks.take i++(t::ks.drop (i+1)):=by
    have hx:ks[i]=t:=(List.getElem?_eq_some_iff.1 ht).2
    rw [←hx,←List.drop_eq_getElem_cons hlt,List.take_append_drop]
   show T.lvsL ks=_
   conv=>lhs;rw [e2]
   rw [lvsL_app,T.lvsL,List.append_assoc]
  ·have hms:(kd.map Kd.m).take i=(ks.take i).map T.meas:=by
    apply List.ext_getElem?
    intro j
    rw [List.getElem?_take,List.getElem?_map,List.getElem?_map,List.getElem?_take]
    by_cases hj:j < i
    ·rw [if_pos hj,if_pos hj]
     have hjl:j < kd.length:=by rw [hl];omega
     have hjk:j < ks.length:=by omega
     rw [List.getElem?_eq_getElem hjl,List.getElem?_eq_getElem hjk]
     simp only [Option.map_some]
     rw [hm j _ _ (List.getElem?_eq_getElem hjl) (List.getElem?_eq_getElem hjk)]
    ·rw [if_neg hj,if_neg hj];rfl
   rw [hms,←lvsL_text]
   have hl2:∀(l:List T),msum (l.map T.meas)=mL (T.textL l):=by
    intro l
    induction l with
    | nil=>rfl
    | cons t ts ih=>simp only [List.map_cons,T.textL];rw [msum_cons,mL_app,ih,meas_text]
   rw [hl2]
structure Wy (t:T) (ns:List An) (p:Nat) (ix:Nat) (rest:Int) (u:T):Prop where
 nt:Nt ns ix u
 ex:∃A C,t.lvs=A++u.lvs++C∧((flatS A).length:Int)+rest=(p:Int)∧0≤rest∧rest < (u.text.length:Int)
theorem Wy.start {t:T} {ns:List An} {p ix:Nat} (h:Nt ns ix t) (hp:p < t.text.length):Wy t ns p ix (p:Int) t:=⟨h,[],[],by simp,by simp [flatS],by omega,by omega⟩
theorem Wy.app {t:T} {ns:List An} {p ix:Nat} {rest:Int} {u:T} (h:Wy t ns p ix rest u) (ys:List An):Wy t (ns++ys) p ix rest u:=⟨h.nt.app,h.ex⟩
theorem Wy.down {t:T} {ns:List An} {p ix:Nat} {rest:Int} {u:T} (h:Wy t ns p ix rest u) (P:ArP ns) {y:An} (hy:ns[ix]?=some y) (h0:y.x.h≠0) {i:Nat} {k:Kd} {q:Int} (hk:y.x.ks[i]?=some k) (hc:Chosen (fun m=>m.b) (y.x.ks.map Kd.m) rest i q) :
  ∃u',Wy t ns p k.at' q u'∧u'.ht+1=u.ht:=by
 obtain ⟨u',A',C',hn,e1,e2,e3⟩:=nt_kidL h.nt hy h0 hk
 obtain ⟨A,C,f1,f2,f3,f4⟩:=h.ex
 obtain ⟨⟨mm,hmm,hlt⟩,hq0,heq⟩:=hc
 have hmm':mm=k.m:=by
  rw [List.getElem?_map,hk] at hmm
  simp at hmm
  exact hmm.symm
 refine ⟨u',⟨hn,A++A',C'++C,by rw [f1,e1];simp,?_,hq0,?_⟩,?_⟩
 ·rw [flatS_app,List.length_append]
  have:((flatS A').length:Int)=(msum ((y.x.ks.map Kd.m).take i)).b:=by rw [←e2];rfl
  push_cast
  omega
 ·rw [hmm',e3] at hlt
  exact hlt
 ·obtain ⟨_,z,hz,hzh,_⟩:=P.kids ix y hy k (List.mem_of_getElem? hk)
  have a:=nt_ht hn hz
  have b:=nt_ht h.nt hy
  omega
def remB (N d:Nat):Nat:=if d=0 then (N+6) / 8 else (N - d+7) / 8 - 1
inductive RdK (t:T) (σ:RS):Nat→Pg→Prop
 | loc (x:RsV):RdK t σ 1 (.loc x)
 | rel (k:Nat):RdK t σ 1 (.rel k)
 | seek (k:Nat) (pos:Int):RdK t σ 1 (.seek k pos)
 | take (k:Nat) (a:Bool) (pos:Int):RdK t σ 1 (.take k a pos)
 | rune {k:Nat} {tx:List UInt8} {q ix:Nat} {rest:Int} {base:Ms} (u:T) (h:Nt σ.ns ix u):RdK t σ (u.ht+1) (.rune k tx q ix rest base)
 | line {k:Nat} {tx:List UInt8} {q ix:Nat} {rest:Int} {base:Ms} (u:T) (h:Nt σ.ns ix u):RdK t σ (u.ht+1) (.line k tx q ix rest base)
 | byte {k:Nat} {a:Bool} {tx:List UInt8} {p0 N d ix:Nat} {rest:Int} {base:Ms} (u:T) (h:Wy t σ.ns (p0+d) ix rest u) (hb:d=0∨∃A C,t.lvs=A++C∧(flatS A).length=p0+d) (hs:∃s jx,σ.sl[k]?=some (some s)∧s.x.at'=hdl jx∧Nt σ.ns jx t) (hd:d < N) (hl:p0+N≤t.text.length):RdK t σ (u.ht+1+(t.ht+1) * remB N d) (.byte k a tx p0 N d ix rest base)
theorem RdK.pos {t:T} {σ:RS} {f:Nat} {pg:Pg} (h:RdK t σ f pg):0 < f:=by
 cases h <;> omega
theorem RdK.run {t:T} {σ:RS} {f:Nat} {pg:Pg} (h:RdK t σ f pg):pg.ended=false∧pg.hk=none:=by
 cases h <;> exact ⟨rfl,rfl⟩
theorem RdK.move {t:T} {σ σ':RS} {f:Nat} {pg:Pg} (h:RdK t σ f pg) {ys:List An} (h1:σ'.ns=σ.ns++ys) (h2:σ'.sl=σ.sl):RdK t σ' f pg:=by
 cases h with
 | loc x=>exact .loc x
 | rel k=>exact .rel k
 | seek k pos=>exact .seek k pos
 | take k a pos=>exact .take k a pos
 | rune u h=>exact .rune u (by rw [h1];exact h.app)
 | line u h=>exact .line u (by rw [h1];exact h.app)
 | byte u h hb hs hd hl=>
  obtain ⟨s,jx,a,b,c⟩:=hs
  exact .byte u (by rw [h1];exact h.app ys) hb ⟨s,jx,by rw [h2];exact a,b,by rw [h1];exact c.app⟩ hd hl
theorem rdK_step {t:T} {σ σ':RS} {m f:Nat} {hv:Int} {pg pg':Pg} (h:RdK t σ f pg) (S:Same σ σ') (P:ArP σ.ns) (hg:t.good) (hn:Nxt σ σ' m hv pg' pg):pg'.ended=true∨(pg'.ended=false∧∃f',f'+1≤f∧RdK t σ' f' pg'):=by
 cases h with
 | loc x=>obtain ⟨_,_,_,rfl⟩:=hn;exact .inl rfl
 | rel k=>obtain ⟨_,_,_,rfl⟩:=hn;exact .inl rfl
 | seek k pos=>obtain ⟨_,_,_,rfl⟩:=hn;exact .inl rfl
 | take k a pos=>obtain ⟨_,_,_,rfl⟩:=hn;exact .inl rfl
 | rune u h=>
  obtain ⟨_,_,_,z,hz,⟨h0,ci,k',r,hk,hc,rfl⟩ | ⟨_,rfl⟩⟩:=hn
  ·obtain ⟨u',A',C',hn,_⟩:=nt_kidL h hz h0 hk
   obtain ⟨_,z',hz',hzh,_⟩:=P.kids _ z hz k' (List.mem_of_getElem? hk)
   have a:=nt_ht hn hz'
   have b:=nt_ht h hz
   exact .inr ⟨rfl,u'.ht+1,by omega,.rune u' (by rw [S.ns];exact hn)⟩
  ·exact .inl rfl
 | line u h=>
  obtain ⟨_,_,_,z,hz,⟨h0,ci,k',r,hk,hc,rfl⟩ | ⟨_,rfl⟩⟩:=hn
  ·obtain ⟨u',A',C',hn,_⟩:=nt_kidL h hz h0 hk
   obtain ⟨_,z',hz',hzh,_⟩:=P.kids _ z hz k' (List.mem_of_getElem? hk)
   have a:=nt_ht hn hz'
   have b:=nt_ht h hz
   exact .inr ⟨rfl,u'.ht+1,by omega,.line u' (by rw [S.ns];exact hn)⟩
  ·exact .inl rfl
 | byte u h hb hs hd hl=>
  rename_i k a tx p0 N d ix rest base
  obtain ⟨s0,j0,g1,g2,g3⟩:=hs
  obtain ⟨_,_,z,hz,⟨h0,hsl,ci,k',q,hk,hc,rfl⟩ | ⟨h0,c,rn,hrn,hcm,⟨hlt,hsl,jx,rfl,s,hs,hsj⟩ | ⟨_,_,rfl⟩⟩⟩:=hn
  ·obtain ⟨u',hw,hht⟩:=h.down P hz h0 hk hc
   exact .inr ⟨rfl,u'.ht+1+(t.ht+1) * remB N d,by omega,.byte u' (by rw [S.ns];exact hw) hb ⟨s0,j0,by rw [hsl];exact g1,g2,by rw [S.ns];exact g3⟩ hd hl⟩
  ·have hu:u=.leaf z.x.s:=nt_leaf h.nt hz h0 P
   obtain ⟨A,C,e1,e2,e3,e4⟩:=h.ex
   rw [hu] at e1 e4
   have e4':rn < z.x.s.size:=by
    have:rest < ((T.leaf z.x.s).text.length:Int):=e4
    rw [text_len] at this
    have e9:(T.leaf z.x.s).bytes=z.x.s.size:=rfl
    rw [e9] at this
    omega
   have hcc:c=z.x.s.size - rn:=by omega
   have e1':t.lvs=(A++[z.x.s])++C:=e1
   have hpos:=lvs_pos hg
   have hjj:jx=j0:=by
    rw [hs] at g1
    injection g1 with g1
    injection g1 with g1
    subst g1
    rw [hsj] at g2
    exact hdl_inj g2
   subst hjj
   have hbound:(flatS (A++[z.x.s])).length=p0+(d+c):=by
    rw [flatS_app,List.length_append,flatS_one,dsize]
    omega
   refine .inr ⟨rfl,t.ht+1+(t.ht+1) * remB N (d+c),?_,.byte t (by rw [S.ns];exact Wy.start g3 (by omega)) (.inr ⟨A++[z.x.s],C,e1',hbound⟩) ⟨s,jx,by rw [hsl];exact hs,hsj,by rw [S.ns];exact g3⟩ hlt hl⟩
   have hrem:remB N (d+c)+1≤remB N d:=by
    rcases Nat.eq_zero_or_pos d with hd0 | hd0
    ·subst hd0
     unfold remB
     rw [if_neg (by omega),if_pos rfl]
     omega
    ·have hrest:rn=0:=by
      rcases hb with hb | ⟨A2,C2,b1,b2⟩
      ·omega
      ·have b3:A2++C2=A++z.x.s::C:=by rw [←b1,e1'];simp
       have:=bnd A2 A C2 C z.x.s b3 (fun s hs=>hpos s (by rw [b1];exact hs)) (by omega) (by omega)
       rw [this] at b2
       omega
     have h8:8≤z.x.s.size:=by
      rcases hg with ⟨s',rfl,_,_⟩ | ⟨k9,_,hfit⟩
      ·exfalso
       have e5:[s']=A++z.x.s::C:=by have e6:=e1';rw [List.append_assoc] at e6;exact e6
       cases A with
       | nil=>simp [flatS] at e2;omega
       | cons a A=>
        rw [List.cons_append] at e5
        injection e5 with _ e5
        cases A <;> cases e5
      ·exact lvs_fit k9 t hfit z.x.s (by rw [e1'];simp)
     unfold remB
     rw [if_neg (by omega),if_neg (by omega)]
     omega
   have hmul:(t.ht+1) * (remB N (d+c)+1)≤(t.ht+1) * remB N d:=Nat.mul_le_mul_left _ hrem
   rw [Nat.mul_add,Nat.mul_one] at hmul
   omega
  ·exact .inl rfl
def Pg.out:Pg→RsV
 | .fin x=>x
 | .loc x=>x
 | .seek _ pos=>{ RsV.zero with at':=pos }
 | .take _ a pos=>{ RsV.zero with at':=if a then pos else 0 }
 | .byte _ a tx p0 N _ _ _ _=>{ RsV.zero with s:=⟨((tx.drop p0).take N).toArray⟩,at':=if a then ((p0+N:Nat):Int) else 0 }
 | .rune _ tx q _ _ _=>{ RsV.zero with at':=((nthP begB (u8s tx) q:Nat):Int) }
 | .line _ tx q _ _ _=>{ RsV.zero with at':=((nthP isLF (u8s tx) q:Nat):Int)+1 }
 | _=>RsV.zero
def setCur (l:List (Option Snp)) (k:Nat) (c:Int):List (Option Snp):=match l[k]? with
 | some (some s)=>l.set k (some { s with cu:=c })
 | _=>l
theorem setCur_at {l:List (Option Snp)} {k:Nat} {s:Snp} (c:Int) (h:l[k]?=some (some s)):setCur l k c=l.set k (some { s with cu:=c }):=by
 unfold setCur
 rw [h]
def Pg.eff (l:List (Option Snp)):Pg→List (Option Snp)
 | .seek k pos=>setCur l k pos
 | .take k a pos=>if a then setCur l k pos else l
 | .byte k a _ p0 N _ _ _ _=>if a then setCur l k ((p0+N:Nat):Int) else l
 | .rel k=>l.set k none
 | _=>l
def Pg.reads:Pg→Bool
 | .loc _=>true
 | .seek _ _=>true
 | .take _ _ _=>true
 | .byte _ _ _ _ _ _ _ _ _=>true
 | .rune _ _ _ _ _ _=>true
 | .line _ _ _ _ _ _=>true
 | _=>false
theorem nxt_out {σ σ':RS} {m:Nat} {hv:Int} {pg pg':Pg} (hr:pg.reads=true) (hn:Nxt σ σ' m hv pg' pg):pg'.out=pg.out∧σ'.s=σ.s∧((pg'.ended=true∧σ'.sl=pg.eff σ.sl)∨(pg'.ended=false∧pg'.reads=true∧σ'.sl=σ.sl∧∀l,pg'.eff l=pg.eff l)):=by
 cases pg with
 | fin x=>cases hr
 | clos=>cases hr
 | ep k=>cases hr
 | ann k v=>cases hr
 | root k=>cases hr
 | rel k=>cases hr
 | loc x=>obtain ⟨_,h1,h2,rfl⟩:=hn;exact ⟨rfl,h1,.inl ⟨rfl,h2⟩⟩
 | seek k pos=>obtain ⟨_,h1,⟨s,hs,h2⟩,rfl⟩:=hn;exact ⟨rfl,h1,.inl ⟨rfl,by rw [Pg.eff,setCur_at pos hs];exact h2⟩⟩
 | take k a pos=>
  obtain ⟨_,h1,h2,rfl⟩:=hn
  cases a with
  | false=>exact ⟨rfl,h1,.inl ⟨rfl,h2⟩⟩
  | true=>
   obtain ⟨s,hs,h2⟩:=h2
   exact ⟨rfl,h1,.inl ⟨rfl,by simp only [Pg.eff,if_true];rw [setCur_at pos hs];exact h2⟩⟩
 | byte k a tx p0 N d ix rest base=>
  obtain ⟨_,h1,z,hz,⟨h0,hsl,ci,k',q,hk,hc,rfl⟩ | ⟨h0,c,rn,hrn,hcm,⟨hlt,hsl,jx,rfl,s,hs,hsj⟩ | ⟨_,h2,rfl⟩⟩⟩:=hn
  ·exact ⟨rfl,h1,.inr ⟨rfl,rfl,hsl,fun _=>rfl⟩⟩
  ·exact ⟨rfl,h1,.inr ⟨rfl,rfl,hsl,fun _=>rfl⟩⟩
  ·cases a with
   | false=>exact ⟨rfl,h1,.inl ⟨rfl,h2⟩⟩
   | true=>
    obtain ⟨s,hs,h2⟩:=h2
    exact ⟨rfl,h1,.inl ⟨rfl,by simp only [Pg.eff,if_true];rw [setCur_at _ hs];exact h2⟩⟩
 | rune k tx q ix rest base=>
  obtain ⟨_,h1,h2,z,hz,⟨h0,ci,k',r,hk,hc,rfl⟩ | ⟨_,rfl⟩⟩:=hn
  ·exact ⟨rfl,h1,.inr ⟨rfl,rfl,h2,fun _=>rfl⟩⟩
  ·exact ⟨rfl,h1,.inl ⟨rfl,h2⟩⟩
 | line k tx q ix rest base=>
  obtain ⟨_,h1,h2,z,hz,⟨h0,ci,k',r,hk,hc,rfl⟩ | ⟨_,rfl⟩⟩:=hn
  ·exact ⟨rfl,h1,.inr ⟨rfl,rfl,h2,fun _=>rfl⟩⟩
  ·exact ⟨rfl,h1,.inl ⟨rfl,h2⟩⟩
section
variable {B:Nat} {w0 w:World} {R:List Res} {σ σ':RS} {bs':List Bx} {y:Ly} {n m:Nat} {ts:List (List UInt8)}
theorem finish_all (c:Cop) (Kst:Nat→List Int→RS→Pg→Prop) (Kend:List Int→RS→RsV→Prop) (M:Mem B w0 (σ.L B++(boxR bs'::R)) w) (hl:σ.s.lg.length < 700000)
  (hbeg:∀R W,Mem B w0 (σ.L B++(boxR bs'::R)) W→Calls Tryz.prog 13 #[.pointer (some ⟨σ.g,0,none⟩),c.op.v] W (BegTo B w0 R σ y n m ts c))
  (h0:∀σ1 bs1 pg,Same σ σ1→σ1.s=σ.s→σ1.sl=σ.sl→RnOk σ1 y n m ts none→PgAt σ1 bs1 n m ts pg→StartP σ ts c pg→∃f,f≤200∧Kst f [] σ1 pg)
  (h1:∀f phs σ1 σ2 hv pg pg',Kst f phs σ1 pg→(∃b,PgAt σ1 b n m ts pg)→RnOk σ1 y n m ts pg.hk→RnOk σ2 y n m ts pg'.hk→Same σ σ1→Same σ1 σ2→Nxt σ1 σ2 m hv pg' pg→(∃x,pg'=.fin x∧Kend (phs++[σ1.r.ph]) σ2 x)∨(pg'.ended=false∧∃f',f'+1≤f∧Kst f' (phs++[σ1.r.ph]) σ2 pg'))
  (h2:∀f phs σ1 pg,Kst f phs σ1 pg→0 < f) :
  Calls Tryz.prog 12 #[.pointer (some ⟨σ.g,0,none⟩),c.op.v] w (FinTo B w0 R σ y n m ts Kend):=
 finish_gen c Kst Kend M hl hbeg h0 h1 (fun _ _ _ _ _ _ _ M K hl hp he _=>step_all M K hl hp he) h2
theorem finish_any (c:Cop) (Kst:Nat→List Int→RS→Pg→Prop) (Kend:List Int→RS→RsV→Prop) (M:Mem B w0 (σ.L B++(boxR bs'::R)) w) (hl:σ.s.lg.length < 700000)
  (hbeg:∀R W,Mem B w0 (σ.L B++(boxR bs'::R)) W→Calls Tryz.prog 13 #[.pointer (some ⟨σ.g,0,none⟩),c.op.v] W (BegTo B w0 R σ y n m ts c))
  (h0:∀σ1 bs1 pg,Same σ σ1→σ1.s=σ.s→σ1.sl=σ.sl→RnOk σ1 y n m ts none→PgAt σ1 bs1 n m ts pg→StartP σ ts c pg→∃f,f≤200∧Kst f [] σ1 pg)
  (h1:∀f phs σ1 σ2 hv pg pg',Kst f phs σ1 pg→RnOk σ1 y n m ts pg.hk→RnOk σ2 y n m ts pg'.hk→Same σ σ1→Same σ1 σ2→Nxt σ1 σ2 m hv pg' pg→(∃x,pg'=.fin x∧Kend (phs++[σ1.r.ph]) σ2 x)∨(pg'.ended=false∧∃f',f'+1≤f∧Kst f' (phs++[σ1.r.ph]) σ2 pg'))
  (h2:∀f phs σ1 pg,Kst f phs σ1 pg→0 < f) :
  Calls Tryz.prog 12 #[.pointer (some ⟨σ.g,0,none⟩),c.op.v] w (FinTo B w0 R σ y n m ts Kend):=
 finish_all c Kst Kend M hl hbeg h0 (fun f phs σ1 σ2 hv pg pg' a _=>h1 f phs σ1 σ2 hv pg pg' a) h2
end
end Go.Proofs.YtjcdknhejcbpiaaGreat
