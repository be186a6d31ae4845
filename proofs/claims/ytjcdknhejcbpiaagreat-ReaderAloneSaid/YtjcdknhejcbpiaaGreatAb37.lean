/- Lemmas that the proof of the last text leans on; no condition. -/
import Derived.Test.YtjcdknhejcbpiaaGreatAb36
namespace Go.Proofs.YtjcdknhejcbpiaaGreat
open Go.RowKit
set_option linter.unusedVariables false
set_option linter.unusedSimpArgs false
set_option linter.unusedSectionVars false
theorem nxt_len {σ σ':RS} {m:Nat} {hv:Int} {pg pg':Pg} (h:Nxt σ σ' m hv pg' pg):σ'.s.lg.length≤σ.s.lg.length+1:=by
 cases pg with
 | fin x=>exact h.elim
 | loc x=>obtain ⟨_,h,_⟩:=h;rw [h];omega
 | clos=>obtain ⟨_,h,_⟩:=h;rw [h,load_len];omega
 | ep k=>obtain ⟨_,h,_⟩:=h;rw [h,load_len];omega
 | ann k v=>obtain ⟨_,h,_⟩:=h;rw [h,store_len];omega
 | root k=>obtain ⟨_,h,_⟩:=h;rw [h,load_len];omega
 | rel k=>obtain ⟨_,h,_⟩:=h;rw [h,store_len];omega
 | seek k pos=>obtain ⟨_,h,_⟩:=h;rw [h];omega
 | take k a pos=>obtain ⟨_,h,_⟩:=h;rw [h];omega
 | byte k a tx p0 N d ix rest base=>obtain ⟨_,h,_⟩:=h;rw [h];omega
 | rune k tx q ix rest base=>obtain ⟨_,h,_⟩:=h;rw [h];omega
 | line k tx q ix rest base=>obtain ⟨_,h,_⟩:=h;rw [h];omega
def acq1 (σ:RS):BS:=σ.s.load σ.r.cl 0
def acq2 (σ:RS):BS:=(acq1 σ).load σ.r.cl σ.f.ep
def acq3 (σ:RS) (m k:Nat):BS:=(acq2 σ).store σ.r.cl (σ.f.slot (m+k):Nat) (lk σ.s.vs σ.f.ep+1)
def acq4 (σ:RS) (m k:Nat):BS:=(acq3 σ m k).load σ.r.cl 1
inductive AcqK (σ0:RS) (m:Nat) (σ:RS):Nat→Pg→Prop
 | a4 (h1:σ.s=σ0.s) (h2:σ.sl=σ0.sl):AcqK σ0 m σ 4 .clos
 | a3 (k:Nat) (h0:free1 (σ0.sl.map sptr) 0=(k:Int)) (h1:σ.s=acq1 σ0) (h2:σ.sl=σ0.sl):AcqK σ0 m σ 3 (.ep k)
 | a2 (k:Nat) (h0:free1 (σ0.sl.map sptr) 0=(k:Int)) (h1:σ.s=acq2 σ0) (h2:σ.sl=σ0.sl):AcqK σ0 m σ 2 (.ann k (lk σ0.s.vs σ0.f.ep))
 | a1 (k:Nat) (h0:free1 (σ0.sl.map sptr) 0=(k:Int)) (h1:σ.s=acq3 σ0 m k) (h2:σ.sl=σ0.sl):AcqK σ0 m σ 1 (.root k)
def AcqEnd (σ0:RS) (m:Nat) (σ:RS) (x:RsV):Prop:=
 (x.er≠0∧σ.sl=σ0.sl∧σ.s=acq1 σ0∧((lk σ0.s.vs 0≠0∧x={ RsV.zero with er:=13 })∨(lk σ0.s.vs 0=0∧free1 (σ0.sl.map sptr) 0 < 0∧x={ RsV.zero with er:=15 })))∨
 (lk σ0.s.vs 0=0∧∃(k:Nat) (s:Snp) (i:Nat) (r:RvS),free1 (σ0.sl.map sptr) 0=(k:Int)∧lk σ0.s.vs 1=(i:Int)∧σ0.rs[i]?=some r∧s.x=r.x∧s.ms=r.ms∧s.ix=(i:Int)∧s.cu=0∧x={ RsV.zero with sl:=(k:Int),rev:=r.x.num }∧σ.sl=σ0.sl.set k (some s)∧σ.s=acq4 σ0 m k)
section
variable {σ0 σ σ':RS} {y:Ly} {n m:Nat} {ts:List (List UInt8)} {pg pg':Pg} {f:Nat} {hv:Int}
theorem acqK_step (h:AcqK σ0 m σ f pg) (S:Same σ0 σ) (hz:f < 4→lk σ0.s.vs 0=0) (K:RnOk σ0 y n m ts none) (K1:RnOk σ y n m ts pg.hk) (hn:Nxt σ σ' m hv pg' pg) :
  (∃x,pg'=.fin x∧AcqEnd σ0 m σ' x)∨(pg'.ended=false∧∃f',f'+1=f∧lk σ0.s.vs 0=0∧AcqK σ0 m σ' f' pg'):=by
 cases h with
 | a4 h1 h2=>
  obtain ⟨_,e1,e2,h⟩:=hn
  rw [h1,S.cl] at e1
  rw [h2] at e2 h
  rw [h1] at h
  rcases h with ⟨h,rfl⟩ | ⟨h,h',rfl⟩ | ⟨h,k,h',rfl⟩
  ·exact .inl ⟨_,rfl,.inl ⟨by decide,e2,e1,.inl ⟨h,rfl⟩⟩⟩
  ·exact .inl ⟨_,rfl,.inl ⟨by decide,e2,e1,.inr ⟨h,h',rfl⟩⟩⟩
  ·exact .inr ⟨rfl,3,rfl,h,.a3 k h' e1 e2⟩
 | a3 k h0 h1 h2=>
  obtain ⟨_,e1,e2,rfl⟩:=hn
  rw [h1,S.cl,S.f] at e1
  rw [h2] at e2
  refine .inr ⟨rfl,2,rfl,hz (by omega),?_⟩
  rw [h1,S.f]
  exact .a2 k h0 e1 e2
 | a2 k h0 h1 h2=>
  obtain ⟨_,e1,e2,rfl⟩:=hn
  rw [h1,S.cl,S.f] at e1
  rw [h2] at e2
  exact .inr ⟨rfl,1,rfl,hz (by omega),.a1 k h0 e1 e2⟩
 | a1 k h0 h1 h2=>
  obtain ⟨_,e1,i,r,s,hi,hr,a1,a2,a3,a4,e2,rfl⟩:=hn
  rw [h1,S.cl] at e1
  rw [h2] at e2
  rw [S.rs] at hr
  have hkn:k < n:=by
   rcases free1_spec (σ0.sl.map sptr) 0 with h | ⟨i,h,hi⟩
   ·omega
   ·have hl:=(List.getElem?_eq_some_iff.1 hi).1
    rw [List.length_map,K.O.nl] at hl
    omega
  have hmk:m+k < σ0.f.n:=by have:=K.O.mn;omega
  have hfs:=K.O.fs (m+k) hmk
  have hi':lk σ0.s.vs 1=(i:Int):=by
   rw [h1] at hi
   have e:(acq3 σ0 m k).vs=σ0.s.vs.set (σ0.f.slot (m+k)) (lk σ0.s.vs σ0.f.ep+1):=rfl
   rw [e,lk_set_ne _ (by omega)] at hi
   exact hi
  exact .inl ⟨_,rfl,.inr ⟨hz (by omega),k,s,i,r,h0,hi',hr,a1,a2,a3,a4,rfl,e2,e1⟩⟩
def RelEnd (σ0:RS) (m k:Nat) (σ:RS) (x:RsV):Prop:=
 (σ0.sl[k]?=some none∧σ.s=σ0.s∧σ.sl=σ0.sl∧x={ RsV.zero with er:=16 })∨(∃s,σ0.sl[k]?=some (some s)∧σ.s=σ0.s.store σ0.r.cl (σ0.f.slot (m+k):Nat) 0∧σ.sl=σ0.sl.set k none∧x=RsV.zero)
end
end Go.Proofs.YtjcdknhejcbpiaaGreat
