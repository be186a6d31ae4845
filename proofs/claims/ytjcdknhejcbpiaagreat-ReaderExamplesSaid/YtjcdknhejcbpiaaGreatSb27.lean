/- Lemmas; no condition. -/
import Derived.Test.YtjcdknhejcbpiaaGreatSb20
set_option maxRecDepth 100000
set_option maxHeartbeats 2000000
namespace Go.Proofs.YtjcdknhejcbpiaaGreat
open Go.RowKit
set_option linter.unusedVariables false
set_option linter.unusedSimpArgs false
set_option linter.unusedSectionVars false
theorem dsize (s:ByteArray):s.data.toList.length=s.size:=by rw [Array.length_toList];rfl
mutual
def T.text:T->List UInt8
 | .leaf s=>s.data.toList
 | .node _ ks=>T.textL ks
def T.textL:List T->List UInt8
 | []=>[]
 | t::ts=>t.text++T.textL ts
end
theorem textL_app (a b:List T):T.textL (a++b)=T.textL a++T.textL b:=by
 induction a with
 | nil=>rfl
 | cons t l ih=>simp [T.textL,ih]
theorem text_len (t:T):t.text.length=t.bytes:=by
 induction t using T.ind with
 | hl s=>exact dsize s
 | hn h ks ih=>
  have hl:∀(l:List T),(∀t ∈ l,t.text.length=t.bytes)->(T.textL l).length=T.bytesL l:=by
   intro l
   induction l with
   | nil=>intro _;rfl
   | cons t ts ih'=>
    intro h
    simp only [T.textL,List.length_append,T.bytesL]
    rw [h t (by simp),ih' (fun t ht=>h t (by simp [ht]))]
  exact hl ks ih
theorem group_text (l:List T):(groupT l).text=T.textL l:=by
 unfold groupT
 split
 ·simp [T.textL]
 ·rfl
theorem rowUp_text (l:List T):T.textL (rowUp l)=T.textL l:=by
 have h1:∀(L:List (List T)),T.textL (L.map groupT)=T.textL L.flatten:=by
  intro L
  induction L with
  | nil=>rfl
  | cons x L ih=>simp only [List.map_cons,T.textL,List.flatten_cons,textL_app,group_text,ih]
 unfold rowUp
 rw [h1,cutL_flat _ _ (sizes_sum _ _ (by decide))]
theorem topT_text (l:List T):T.textL (topT l)=T.textL l:=by
 by_cases h1:l.length<=1
 ·rw [topT_le h1]
 ·rw [topT_up (by omega),topT_text (rowUp l),rowUp_text]
termination_by l.length
decreasing_by exact rowUp_lt (by omega)
theorem bext_list (s:ByteArray) (i j:Nat):(s.extract i j).data.toList=(s.data.toList.drop i).take (j - i):=by
 simp only [ByteArray.data_extract,Array.toList_extract,List.extract_eq_drop_take']
theorem cutS_text:∀(ns:List Nat) (s:ByteArray),ns.sum=s.size->T.textL ((cutS ns s).map .leaf)=s.data.toList
 | [],s,h=>by
  have:s.data.toList=[]:=List.eq_nil_of_length_eq_zero (by rw [dsize];simpa using h.symm)
  rw [this]
  try rfl
 | n::ns,s,h=>by
  simp at h
  simp only [cutS,List.map_cons,T.textL,T.text]
  rw [cutS_text ns (s.extract n s.size) (by rw [ByteArray.size_extract];omega),bext_list,bext_list]
  have hs:=dsize s
  rw [List.drop_zero,Nat.sub_zero,List.take_of_length_le (l:=s.data.toList.drop n) (by rw [List.length_drop];omega),List.take_append_drop]
theorem base_text (s:ByteArray):T.textL (baseT s)=s.data.toList:=cutS_text _ _ (sizes_sum _ _ (by decide))
theorem build_text {s:ByteArray} {t:T} (h:buildT s=[t]):t.text=s.data.toList:=by
 have:=topT_text (baseT s)
 rw [base_text] at this
 rw [<-this,show topT (baseT s)=[t] from h]
 simp [T.textL]
def u8s (l:List UInt8):List Int:=l.map fun u=>(u.toNat:Int)
def mL (l:List UInt8):Ms:=⟨(l.length:Int),(cntP begB (u8s l):Int),(cntP (fun b=>b == 10) (u8s l):Int)⟩
theorem mOf_list (s:ByteArray):mOf s=mL s.data.toList:=by
 unfold mOf mL bs u8s
 rw [dsize]
theorem cntP_app (f:Int->Bool) (a b:List Int):cntP f (a++b)=cntP f a+cntP f b:=by
 unfold cntP
 rw [List.filter_append,List.length_append]
theorem mL_app (a b:List UInt8):mL (a++b)=(mL a).add (mL b):=by
 simp only [mL,Ms.add,u8s,List.map_append,cntP_app,List.length_append]
 push_cast
 try rfl
theorem ms_assoc (a b c:Ms):(a.add b).add c=a.add (b.add c):=by
 simp only [Ms.add,Int.add_assoc]
theorem ms_zero (a:Ms):(⟨0,0,0⟩:Ms).add a=a:=by
 simp only [Ms.add,Int.zero_add]
theorem fold_add:∀(l:List Ms) (m:Ms),l.foldl Ms.add m=m.add (l.foldl Ms.add ⟨0,0,0⟩)
 | [],m=>by simp [Ms.add]
 | x::l,m=>by
  simp only [List.foldl_cons]
  rw [fold_add l (m.add x),fold_add l (Ms.add ⟨0,0,0⟩ x),ms_zero,ms_assoc]
theorem msum_cons (m:Ms) (l:List Ms):msum (m::l)=m.add (msum l):=by
 unfold msum
 rw [List.foldl_cons,fold_add,ms_zero]
theorem meas_text (t:T):t.meas=mL t.text:=by
 induction t using T.ind with
 | hl s=>exact mOf_list s
 | hn h ks ih=>
  have hl:∀(l:List T),(∀t ∈ l,t.meas=mL t.text)->msum (T.measL l)=mL (T.textL l):=by
   intro l
   induction l with
   | nil=>intro _;rfl
   | cons t ts ih'=>
    intro h
    simp only [T.measL,T.textL]
    rw [msum_cons,mL_app,h t (by simp),ih' (fun t ht=>h t (by simp [ht]))]
  exact hl ks ih
inductive Nt (ns:List An):Nat->T->Prop
 | leaf {i:Nat} {s:ByteArray} {y:An} (hi:ns[i]?=some y) (e:y.x=⟨0,s,[]⟩):Nt ns i (.leaf s)
 | node {i h:Nat} {ks:List T} {y:An} {kd:List Kd} (hi:ns[i]?=some y) (e:y.x=⟨h,⟨#[]⟩,kd⟩) (hl:kd.length=ks.length) (hm:∀(j:Nat) (k:Kd) (t:T),kd[j]?=some k->ks[j]?=some t->k.m=t.meas)
   (hk:∀(j:Nat) (k:Kd) (t:T),kd[j]?=some k->ks[j]?=some t->Nt ns k.at' t):Nt ns i (.node h ks)
theorem Nt.app {ns l:List An} {i:Nat} {t:T} (h:Nt ns i t):Nt (ns++l) i t:=by
 induction h with
 | leaf hi e=>exact .leaf (by rw [List.getElem?_append_left (List.getElem?_eq_some_iff.1 hi).1];exact hi) e
 | node hi e hl hm hk ih=>exact .node (by rw [List.getElem?_append_left (List.getElem?_eq_some_iff.1 hi).1];exact hi) e hl hm ih
theorem postL_at:∀(ks:List T) (n j:Nat) (t:T),ks[j]?=some t->∃m,(rootL n ks)[j]?=some (n+m+t.cnt - 1)/\∀i sp,(T.post (n+m) t)[i]?=some sp->(T.postL n ks)[m+i]?=some sp
 | [],n,j,t,h=>by simp at h
 | u::us,n,0,t,h=>by
  simp at h
  subst h
  refine ⟨0,rfl,fun i sp hi=>?_⟩
  rw [Nat.add_zero] at hi
  rw [Nat.zero_add,T.postL,List.getElem?_append_left (List.getElem?_eq_some_iff.1 hi).1]
  exact hi
 | u::us,n,j+1,t,h=>by
  obtain ⟨m,h1,h2⟩:=postL_at us (n+u.cnt) j t (by simpa using h)
  refine ⟨u.cnt+m,?_,fun i sp hi=>?_⟩
  ·rw [rootL,List.getElem?_cons_succ,h1,Nat.add_assoc n]
  ·rw [T.postL,List.getElem?_append_right (by rw [post_len];omega),post_len,show u.cnt+m+i - u.cnt=m+i by omega]
   exact h2 i sp (by rw [Nat.add_assoc];exact hi)
theorem nt_post (L:List Sp) (n0:Nat) (ns:List An) (hL:∀i sp,L[i]?=some sp->∃y,ns[n0+i]?=some y/\y.x=sp.nd n0 L) (t:T):∀n,(∀i sp,(T.post n t)[i]?=some sp->L[n+i]?=some sp)->Nt ns (n0+(n+t.cnt - 1)) t:=by
 induction t using T.ind with
 | hl s=>
  intro n h
  obtain ⟨y,hy,e⟩:=hL n _ (h 0 _ rfl)
  exact .leaf (by simpa [T.cnt] using hy) e
 | hn hh ks ih=>
  intro n h
  have hlast:(T.post n (.node hh ks))[T.cntL ks]?=some ⟨hh,⟨#[]⟩,rootL n ks,msum (T.measL ks)⟩:=by
   rw [T.post,List.getElem?_append_right (by rw [postL_len];exact Nat.le_refl _),postL_len,Nat.sub_self];rfl
  obtain ⟨y,hy,e⟩:=hL _ _ (h _ _ hlast)
  have hpart:∀(j:Nat) (k:Kd) (t:T),((rootL n ks).map fun j=>(⟨n0+j,mAt 0 L j⟩:Kd))[j]?=some k->ks[j]?=some t->k.m=t.meas/\Nt ns k.at' t:=by
   intro j k t hk ht
   obtain ⟨m,h1,h2⟩:=postL_at ks n j t ht
   rw [List.getElem?_map,h1] at hk
   injection hk with hk
   subst hk
   have hsub:∀i sp,(T.post (n+m) t)[i]?=some sp->L[n+m+i]?=some sp:=fun i sp hi=>by
    have:=h (m+i) sp (by
     have hp:=h2 i sp hi
     rw [T.post,List.getElem?_append_left (List.getElem?_eq_some_iff.1 hp).1]
     exact hp)
    rw [Nat.add_assoc];exact this
   refine ⟨?_,ih t (List.mem_of_getElem? ht) (n+m) hsub⟩
   obtain ⟨sp,hs,hm,_⟩:=post_last' t (n+m)
   have hc:=cnt_pos t
   have:=hsub _ _ hs
   show mAt 0 L _=_
   unfold mAt
   rw [Nat.sub_zero,show n+m+t.cnt - 1=n+m+(t.cnt - 1) by omega,this]
   exact hm
  refine .node (y:=y) (kd:=(rootL n ks).map fun j=>(⟨n0+j,mAt 0 L j⟩:Kd)) (by rw [T.cnt,show n+(T.cntL ks+1) - 1=n+T.cntL ks by omega];exact hy) e (by rw [List.length_map,rootL_len]) (fun j k t a b=>(hpart j k t a b).1) (fun j k t a b=>(hpart j k t a b).2)
theorem nt_root {ns:List An} {n0:Nat} {t:T} (h:∀i sp,(T.post 0 t)[i]?=some sp->∃y,ns[n0+i]?=some y/\y.x=sp.nd n0 (T.post 0 t)):Nt ns (n0+(t.cnt - 1)) t:=by
 have:=nt_post (T.post 0 t) n0 ns h t 0 (fun i sp hi=>by rw [Nat.zero_add];exact hi)
 rwa [Nat.zero_add] at this
def nthP (p:Int->Bool):List Int->Nat->Nat
 | [],_=>0
 | x::l,n=>if p x=true then (if n=0 then 0 else 1+nthP p l (n - 1)) else 1+nthP p l n
theorem cntP_cons (p:Int->Bool) (x:Int) (l:List Int):cntP p (x::l)=(if p x=true then 1 else 0)+cntP p l:=by
 unfold cntP
 rw [List.filter_cons]
 split
 ·rw [List.length_cons];omega
 ·omega
theorem nthP_app1 (p:Int->Bool):∀(a b:List Int) (n:Nat),n < cntP p a->nthP p (a++b) n=nthP p a n
 | [],b,n,h=>by simp [cntP] at h
 | x::a,b,n,h=>by
  rw [cntP_cons] at h
  simp only [List.cons_append,nthP]
  by_cases hx:p x=true
  ·rw [if_pos hx] at h
   rw [if_pos hx,if_pos hx]
   by_cases h0:n=0
   ·rw [if_pos h0,if_pos h0]
   ·rw [if_neg h0,if_neg h0,nthP_app1 p a b (n - 1) (by omega)]
  ·rw [if_neg hx] at h
   rw [if_neg hx,if_neg hx,nthP_app1 p a b n (by omega)]
theorem nthP_app2 (p:Int->Bool):∀(a b:List Int) (n:Nat),cntP p a<=n->nthP p (a++b) n=a.length+nthP p b (n - cntP p a)
 | [],b,n,h=>by simp [cntP]
 | x::a,b,n,h=>by
  rw [cntP_cons] at h |-
  simp only [List.cons_append,nthP,List.length_cons]
  by_cases hx:p x=true
  ·rw [if_pos hx] at h |-
   rw [if_pos hx,if_neg (by omega),nthP_app2 p a b (n - 1) (by omega),show n - 1 - cntP p a=n - (1+cntP p a) by omega]
   omega
  ·rw [if_neg hx] at h |-
   rw [if_neg hx,nthP_app2 p a b n (by omega),Nat.zero_add]
   omega
theorem nthP_at (p:Int->Bool) (l:List Int) (i n:Nat) (hi:i < l.length) (hp:p (lk l i)=true) (hc:cntP p (l.take i)=n):nthP p l n=i:=by
 have e:l=l.take i++(lk l i::l.drop (i+1)):=by
  have hx:l[i]=lk l i:=by simp [lk,hi]
  rw [<-hx,<-List.drop_eq_getElem_cons hi,List.take_append_drop]
 have hl:(l.take i).length=i:=by rw [List.length_take];omega
 rw [e,nthP_app2 p _ _ n (by omega),hc,Nat.sub_self,hl]
 simp [nthP,hp]
theorem nthP_lt (p:Int->Bool):∀(l:List Int) (n:Nat),n < cntP p l->nthP p l n < l.length
 | [],n,h=>by simp [cntP] at h
 | x::l,n,h=>by
  rw [cntP_cons] at h
  simp only [nthP,List.length_cons]
  by_cases hx:p x=true
  ·rw [if_pos hx] at h |-
   by_cases h0:n=0
   ·rw [if_pos h0];omega
   ·rw [if_neg h0]
    have:=nthP_lt p l (n - 1) (by omega)
    omega
  ·rw [if_neg hx] at h |-
   have:=nthP_lt p l n (by omega)
   omega
theorem u8s_app (a b:List UInt8):u8s (a++b)=u8s a++u8s b:=by unfold u8s;rw [List.map_append]
theorem u8s_len (a:List UInt8):(u8s a).length=a.length:=by unfold u8s;rw [List.length_map]
def isLF (b:Int):Bool:=b == 10
theorem mL_l (l:List UInt8):(mL l).l=(cntP isLF (u8s l):Int):=rfl
theorem mL_r (l:List UInt8):(mL l).r=(cntP begB (u8s l):Int):=rfl
theorem mL_b (l:List UInt8):(mL l).b=(l.length:Int):=rfl
structure Chosen (f:Ms->Int) (ms:List Ms) (n:Int) (i:Nat) (r:Int):Prop where
 at':∃m,ms[i]?=some m/\r < f m
 nn:0<=r
 eq:n=f (msum (ms.take i))+r
theorem nt_leaf {ns:List An} {i:Nat} {t:T} (h:Nt ns i t) {y:An} (hy:ns[i]?=some y) (h0:y.x.h=0) (hp:ArP ns):t=.leaf y.x.s:=by
 cases h with
 | leaf hi e=>
  rw [hy] at hi;injection hi with hi;subst hi
  rw [e]
 | node hi e hl hm hk=>
  rw [hy] at hi;injection hi with hi;subst hi
  rcases hp.ok y (List.mem_of_getElem? hy) with ⟨_,h1,_,_⟩ | ⟨h1,_⟩
  ·rw [e] at h1
   exact absurd h1 (Nat.not_succ_le_zero 0)
  ·omega
theorem nt_kid {ns:List An} {ix:Nat} {u:T} (h:Nt ns ix u) {y:An} (hy:ns[ix]?=some y) (h0:y.x.h≠0) {i:Nat} {k:Kd} (hk:y.x.ks[i]?=some k) :
  ∃t A C,Nt ns k.at' t/\u.text=A++t.text++C/\mL A=msum ((y.x.ks.map Kd.m).take i)/\k.m=mL t.text:=by
 cases h with
 | leaf hi e=>
  rw [hy] at hi;injection hi with hi;subst hi
  rw [e] at h0
  exact absurd rfl h0
 | node hi e hl hm hkk=>
  rename_i hh ks y' kd
  rw [hy] at hi;injection hi with hi;subst hi
  rw [e] at hk |-
  simp only at hk |-
  have hlt:i < ks.length:=by rw [<-hl];exact (List.getElem?_eq_some_iff.1 hk).1
  obtain ⟨t,ht⟩:∃t,ks[i]?=some t:=⟨ks[i],List.getElem?_eq_getElem hlt⟩
  refine ⟨t,T.textL (ks.take i),T.textL (ks.drop (i+1)),hkk i k t hk ht,?_,?_,by rw [hm i k t hk ht,meas_text]⟩
  ·have e2:ks=ks.take i++(t::ks.drop (i+1)):=by
    have hx:ks[i]=t:=(List.getElem?_eq_some_iff.1 ht).2
    rw [<-hx,<-List.drop_eq_getElem_cons hlt,List.take_append_drop]
   show T.textL ks=_
   conv=>lhs;rw [e2]
   rw [textL_app,T.textL,List.append_assoc]
  {
 have hms:(kd.map Kd.m).take i=(ks.take i).map T.meas:=by
  apply List.ext_getElem?
  intro j
  rw [List.getElem?_take,List.getElem?_map,List.getElem?_map,List.getElem?_take]
  by_cases hj:j < i
  ·rw [if_pos hj,if_pos hj]
   have hjl:j < kd.length:=by rw [hl];omega
   have hjk:j < ks.length:=by omega
   rw [List.getElem?_eq_getElem hjl,List.getElem?_eq_getElem hjk]
   simp only [Option.map_some]
   rw [hm j _ _ (List.getElem?_eq_getElem hjl) (List.getElem?_eq_getElem hjk)]
  ·rw [if_neg hj,if_neg hj];rfl
 rw [hms]
 have hl2:∀(l:List T),msum (l.map T.meas)=mL (T.textL l):=by
  intro l
  induction l with
  | nil=>rfl
  | cons t ts ih=>simp only [List.map_cons,T.textL];rw [msum_cons,mL_app,ih,meas_text]
 rw [hl2]
 }
structure Dn (f:Ms->Int) (tx:List UInt8) (ns:List An) (ix:Nat) (n r:Int) (base:Ms):Prop where
 ex:∃u pre post,Nt ns ix u/\tx=pre++u.text++post/\mL pre=base/\n=f base+r/\0<=r/\r < f (mL u.text)
theorem Dn.start {f:Ms->Int} (hf:f ⟨0,0,0⟩=0) {t:T} {ns:List An} {ix:Nat} {n:Int} (h:Nt ns ix t) (h0:0<=n) (hn:n < f (mL t.text)):Dn f t.text ns ix n n ⟨0,0,0⟩:=
 ⟨⟨t,[],[],h,by simp,rfl,by rw [hf];omega,h0,hn⟩⟩
theorem Dn.down {f:Ms->Int} (hf:∀a b,f (a.add b)=f a+f b) {tx:List UInt8} {ns:List An} {ix:Nat} {n r:Int} {base:Ms} (h:Dn f tx ns ix n r base) {y:An} (hy:ns[ix]?=some y) (h0:y.x.h≠0) {i:Nat} {k:Kd} {q:Int} (hk:y.x.ks[i]?=some k) (hc:Chosen f (y.x.ks.map Kd.m) r i q) :
  Dn f tx ns k.at' n q (base.add (msum ((y.x.ks.map Kd.m).take i))):=by
 obtain ⟨u,pre,post,hu,htx,hb,hn,hr,hlt⟩:=h.ex
 obtain ⟨t,A,C,ht,hut,hA,hkm⟩:=nt_kid hu hy h0 hk
 obtain ⟨m,hm,hqm⟩:=hc.at'
 rw [List.getElem?_map,hk] at hm
 injection hm with hm
 refine ⟨⟨t,pre++A,C++post,ht,by rw [htx,hut];simp,by rw [mL_app,hb,hA],?_,hc.nn,by rw [<-hkm,hm];exact hqm⟩⟩
 rw [hf,hn,hc.eq]
 omega
theorem Dn.sum {f:Ms->Int} {tx:List UInt8} {ns:List An} {ix:Nat} {n r:Int} {base:Ms} (h:Dn f tx ns ix n r base) (hp:ArP ns) {y:An} (hy:ns[ix]?=some y):0<=r/\r < f y.x.ms:=by
 obtain ⟨u,pre,post,hu,htx,hb,hn,hr,hlt⟩:=h.ex
 refine ⟨hr,?_⟩
 have e:y.x.ms=mL u.text:=by
  cases hu with
  | leaf hi e=>
   rw [hy] at hi;injection hi with hi;subst hi
   rw [e]
   show mOf _=_
   rw [mOf_list];rfl
  | node hi e hl hm hkk=>
   rename_i hh ks y' kd
   rw [hy] at hi;injection hi with hi;subst hi
   have h1:hh≠0:=by
    rintro rfl
    rcases hp.ok y (List.mem_of_getElem? hy) with ⟨_,h1,_,_⟩ | ⟨h1,_⟩
    ·rw [e] at h1;exact absurd h1 (Nat.not_succ_le_zero 0)
    ·rw [e] at h1;exact absurd h1 (Nat.not_succ_le_zero 0)
   rw [e]
   show (if hh=0 then _ else msum (kd.map Kd.m))=mL (T.textL ks)
   rw [if_neg h1]
   have hms:kd.map Kd.m=ks.map T.meas:=by
    apply List.ext_getElem?
    intro j
    rw [List.getElem?_map,List.getElem?_map]
    by_cases hj:j < ks.length
    ·have hjl:j < kd.length:=by omega
     rw [List.getElem?_eq_getElem hjl,List.getElem?_eq_getElem hj]
     simp only [Option.map_some]
     rw [hm j _ _ (List.getElem?_eq_getElem hjl) (List.getElem?_eq_getElem hj)]
    ·rw [List.getElem?_eq_none (by omega),List.getElem?_eq_none (by omega)];rfl
   rw [hms]
   have hl2:∀(l:List T),msum (l.map T.meas)=mL (T.textL l):=by
    intro l
    induction l with
    | nil=>rfl
    | cons t ts ih=>simp only [List.map_cons,T.textL];rw [msum_cons,mL_app,ih,meas_text]
   rw [hl2]
 rw [e];exact hlt
theorem Dn.leaf {f:Ms->Int} {tx:List UInt8} {ns:List An} {ix:Nat} {n r:Int} {base:Ms} (h:Dn f tx ns ix n r base) (hp:ArP ns) {y:An} (hy:ns[ix]?=some y) (h0:y.x.h=0) :
  ∃pre post,tx=pre++y.x.s.data.toList++post/\mL pre=base/\n=f base+r/\0<=r/\r < f (mOf y.x.s):=by
 obtain ⟨u,pre,post,hu,htx,hb,hn,hr,hlt⟩:=h.ex
 have hu2:=nt_leaf hu hy h0 hp
 subst hu2
 exact ⟨pre,post,htx,hb,hn,hr,by rw [mOf_list];exact hlt⟩
theorem nth_leaf {p:Int->Bool} {tx pre post:List UInt8} {s:ByteArray} {n r:Nat} (h:tx=pre++s.data.toList++post) (hn:n=cntP p (u8s pre)+r) (hr:r < cntP p (u8s s.data.toList)):nthP p (u8s tx) n=pre.length+nthP p (u8s s.data.toList) r:=by
 rw [h,u8s_app,u8s_app,List.append_assoc,nthP_app2 p _ _ n (by omega),u8s_len,show n - cntP p (u8s pre)=r by omega,nthP_app1 p _ _ r hr]
theorem take_leaf {tx pre post:List UInt8} {s:ByteArray} {o r k:Nat} (h:tx=pre++s.data.toList++post) (ho:o=pre.length+r) (hk:r+k<=s.size):(tx.drop o).take k=(s.extract r (r+k)).data.toList:=by
 rw [bext_list,h,ho,show r+k - r=k by omega,List.append_assoc,<-List.drop_drop,List.drop_left,List.drop_append_of_le_length (by rw [dsize];omega),List.take_append_of_le_length (by rw [List.length_drop,dsize];omega)]
theorem nt_ht {ns:List An} {ix:Nat} {u:T} (h:Nt ns ix u) {y:An} (hy:ns[ix]?=some y):y.x.h=u.ht:=by
 cases h with
 | leaf hi e=>rw [hy] at hi;injection hi with hi;subst hi;rw [e];rfl
 | node hi e hl hm hkk=>rw [hy] at hi;injection hi with hi;subst hi;rw [e];rfl
theorem take_succ_map {l:List Kd} {k:Nat} {x:Kd} (h:l[k]?=some x):(l.map Kd.m).take (k+1)=(l.map Kd.m).take k++[x.m]:=by
 have hl:=(List.getElem?_eq_some_iff.1 h).1
 have e:(l.map Kd.m)[k]?=some x.m:=by rw [List.getElem?_map,h];rfl
 rw [List.take_add_one,e];rfl
theorem msum_take_snoc {l:List Kd} {k:Nat} {x:Kd} (h:l[k]?=some x):msum ((l.map Kd.m).take (k+1))=(msum ((l.map Kd.m).take k)).add x.m:=by rw [take_succ_map h,msum_snoc]
theorem part_b (m:Ms) (w:World):Calls Tryz.prog 148 #[.agg #[.int .i64 m.b,.int .i64 m.r,.int .i64 m.l]] w fun e w'=>e=.returned (.int .i64 m.b)/\Ch (fun _=>False) w w':=by
 go_enter Tryz.func148,Tryz.ntmps148
 go_wp2_with fail
 go_ret
 exact ⟨rfl,(Ch.refl _ w).alloc _⟩
theorem choose_b (S:Nat->Prop) (x:Nd) (a:Option Addr) (n c:Nat) (w:World) (hok:x.ok) (h0:x.h≠0) (hI:InP Kd.cells 4 w S a n x.ks) (r:Int) (hr:0<=r) (hlt:r < x.ms.b) :
  Calls Tryz.prog 132 #[x.v a n c,.int .i64 r,.func (.func 148) #[] #[]] w fun e w'=>∃(i:Nat) (q:Int),e=.returned (.tuple #[.int .i64 (i:Int),.int .i64 q,.int .i64 0])/\Chosen (fun m=>m.b) (x.ks.map Kd.m) r i q/\i < n/\q<=1000000/\Ch (fun _=>False) w w':=by
 have hb:=hok.ms
 have hms:x.ms=msum (x.ks.map Kd.m):=by unfold Nd.ms;rw [if_neg h0]
 have hkm:∀k ∈ x.ks,k.m.ok:=fun k hk=>by
  rcases hok with ⟨e,_⟩ | ⟨_,_,_,_,_,h6,_⟩
  ·exact absurd e h0
  ·exact (h6 k hk).ms
 have HC:=hid (fun W (hW:InP Kd.cells 4 W S a n x.ks)=>ncheck_any S x a n c W hok hW)
 obtain ⟨hh,s,ks⟩:=x
 simp only at hms hkm h0 hI hlt hb HC |-
 rw [hms] at hlt hb
 simp only [Nd.v] at HC |-
 have d0:(((hh:Nat):Int) == 0)=false:=by rw [beq_eq_false_iff_ne];omega
 have d1:decide (r < 0)=false:=decide_eq_false (by omega)
 have hn:ks.length=n:=hI.1
 have HN:=hid hn
 have HI:=hid hI
 have HK:=hid hkm
 have HLT:=hid hlt
 have HB:=hid (show r<=1000000 from by omega)
 have n4:n<=1000:=by
  have:=hok
  rcases hok with ⟨_,_,_,e⟩ | ⟨_,_,_,_,e,_⟩
  ·simp only at e;rw [e] at hn;simp at hn;omega
  ·simp only at e;omega
 clear hms hkm hlt hb hI hn hok
 go_enter Tryz.func132,Tryz.ntmps132
 go_wp2_with fail
 refine calls_world fun W1 hW1=>?_
 have C1:=hid (show Ch (fun _=>False) w W1 from by rw [hW1];exact (Ch.refl _ w).alloc _)
 have X1:=hid (show Blk W1 w.heap.size 229 #[.int .i64 hh,.string s,.slice a n c] from by rw [hW1];exact Blk.new w _ _)
 clear hW1
 refine (HC.out W1 (HI.out.keep C1.out (fun _ _ _=>id) (fun _ _ h=>h))).mono ?_
 rintro e w2 ⟨rfl,hc⟩
 have C2:=hid (C1.out.trans hc (fun _ _ h=>h))
 have X2:=hid (hc.blk X1.out id)
 clear hc
 obtain ⟨x0,-,x2⟩:=X2.out.c3
 go_wp2_with fail
 clear x0 x2
 go_loopw [1,25] (fun m i W=>∃(k:Nat) (q:Int),k<=n/\i=.int .i64 (k:Int)/\m=.int .i64 q/\0<=q/\q<=1000000/\r=(msum ((ks.map Kd.m).take k)).b+q/\Ch (fun _=>False) w W) (fun _ i _=>n - (intOf i).toNat)
 case atStart=>exact ⟨0,r,Nat.zero_le _,rfl,rfl,hr,HB.out,by simp [msum],C2.out⟩
 case round=>
  obtain ⟨k,q,hk,rfl,rfl,hq0,hq1,hrq,hC⟩:=hrel
  have HC2:=hid hC
  have HRQ:=hid hrq
  have HQ0:=hid hq0
  clear hC hrq hq0
  by_cases hlt:k < n
  {
 obtain ⟨b,off,rfl⟩:=HI.out.some (by omega)
 obtain ⟨x,hx⟩:∃x,ks[k]?=some x:=⟨ks[k]'(by rw [HN.out];exact hlt),List.getElem?_eq_getElem _⟩
 have I2:=HI.out.keep (S':=S) HC2.out (fun _ _ _=>id) (fun _ _ h=>h)
 have c0:wr.cell? ⟨b,off+k * 4,none⟩=some (.int .u64 (hdl x.at')):=I2.at k x hx 0 _ rfl
 have c1:wr.cell? ⟨b,off+k * 4+1,none⟩=some (.int .i64 x.m.b):=I2.at k x hx 1 _ rfl
 have c2:wr.cell? ⟨b,off+k * 4+2,none⟩=some (.int .i64 x.m.r):=I2.at k x hx 2 _ rfl
 have c3:wr.cell? ⟨b,off+k * 4+3,none⟩=some (.int .i64 x.m.l):=I2.at k x hx 3 _ rfl
 have hxm:=HK.out x (List.mem_of_getElem? hx)
 have e1:decide ((k:Int) < (n:Int))=true:=decide_eq_true (by omega)
 have e2:decide (k < n)=true:=decide_eq_true hlt
 have HX:=hid hx
 have HXM:=hid hxm
 clear hx I2 hxm
 go_wp2_with fail
 refine calls_world fun W3 hW3=>?_
 have C3:=hid (show Ch (fun _=>False) w W3 from by rw [hW3];exact HC2.out.alloc _)
 have K3:=hid (show Blk W3 wr.heap.size 266 #[.int .u64 (hdl x.at'),.int .i64 x.m.b,.int .i64 x.m.r,.int .i64 x.m.l] from by rw [hW3];exact Blk.new wr _ _)
 clear hW3 c0 c1 c2 c3
 refine (part_b x.m W3).mono ?_
 rintro e w4 ⟨rfl,hc⟩
 have C4:=hid (C3.out.trans hc (fun _ _ h=>h))
 have K4:=hid (hc.blk K3.out id)
 clear hc
 by_cases hp:q < x.m.b
 ·have p1:decide (q < x.m.b)=true:=decide_eq_true hp
  have HP:=hid hp
  clear hp
  go_wp2_with fail
  go_ret3
  refine ⟨k,q,rfl,⟨⟨x.m,by rw [List.getElem?_map,HX.out];rfl,HP.out⟩,HQ0.out,HRQ.out⟩,hlt,hq1,C4.out⟩
 ·have p1:decide (q < x.m.b)=false:=decide_eq_false hp
  have HP:=hid hp
  clear hp
  obtain ⟨-,k1,k2,k3⟩:=K4.out.c4
  have wq:IntKind.i64.wrap (q - x.m.b)=q - x.m.b:=IntWalk.i64_in _ (by have:=HP.out;have:=HQ0.out;obtain ⟨h1,h2,h3,h4⟩:=HXM.out;omega)
  go_wp2_with fail
  refine (part_b x.m w4).mono ?_
  rintro e w5 ⟨rfl,hc⟩
  have C5:=hid (C4.out.trans hc (fun _ _ h=>h))
  clear hc k1 k2 k3
  go_wp2_with fail
  go_roundw
  case rel=>
   refine ⟨k+1,q - x.m.b,by omega,by go_num,rfl,by have:=HP.out;omega,by have:=HQ0.out;obtain ⟨h1,h2,h3,h4⟩:=HXM.out;omega,?_,C5.out⟩
   rw [msum_take_snoc HX.out,HRQ.out]
   simp only [Ms.add]
   omega
  case measure=>simp [intOf];omega
 }
  ·exfalso
   obtain rfl:n=k:=by omega
   have h1:=HRQ.out
   have h2:=HLT.out
   have h3:=HQ0.out
   rw [List.take_of_length_le (by rw [List.length_map,HN.out];exact Nat.le_refl _)] at h1
   omega
theorem part_r (m:Ms) (w:World):Calls Tryz.prog 133 #[.agg #[.int .i64 m.b,.int .i64 m.r,.int .i64 m.l]] w fun e w'=>e=.returned (.int .i64 m.r)/\Ch (fun _=>False) w w':=by
 go_enter Tryz.func133,Tryz.ntmps133
 go_wp2_with fail
 go_ret
 exact ⟨rfl,(Ch.refl _ w).alloc _⟩
theorem choose_r (S:Nat->Prop) (x:Nd) (a:Option Addr) (n c:Nat) (w:World) (hok:x.ok) (h0:x.h≠0) (hI:InP Kd.cells 4 w S a n x.ks) (r:Int) (hr:0<=r) (hlt:r < x.ms.r) :
  Calls Tryz.prog 132 #[x.v a n c,.int .i64 r,.func (.func 133) #[] #[]] w fun e w'=>∃(i:Nat) (q:Int),e=.returned (.tuple #[.int .i64 (i:Int),.int .i64 q,.int .i64 0])/\Chosen (fun m=>m.r) (x.ks.map Kd.m) r i q/\i < n/\q<=1000000/\Ch (fun _=>False) w w':=by
 have hb:=hok.ms
 have hms:x.ms=msum (x.ks.map Kd.m):=by unfold Nd.ms;rw [if_neg h0]
 have hkm:∀k ∈ x.ks,k.m.ok:=fun k hk=>by
  rcases hok with ⟨e,_⟩ | ⟨_,_,_,_,_,h6,_⟩
  ·exact absurd e h0
  ·exact (h6 k hk).ms
 have HC:=hid (fun W (hW:InP Kd.cells 4 W S a n x.ks)=>ncheck_any S x a n c W hok hW)
 obtain ⟨hh,s,ks⟩:=x
 simp only at hms hkm h0 hI hlt hb HC |-
 rw [hms] at hlt hb
 simp only [Nd.v] at HC |-
 have d0:(((hh:Nat):Int) == 0)=false:=by rw [beq_eq_false_iff_ne];omega
 have d1:decide (r < 0)=false:=decide_eq_false (by omega)
 have hn:ks.length=n:=hI.1
 have HN:=hid hn
 have HI:=hid hI
 have HK:=hid hkm
 have HLT:=hid hlt
 have HB:=hid (show r<=1000000 from by omega)
 have n4:n<=1000:=by
  have:=hok
  rcases hok with ⟨_,_,_,e⟩ | ⟨_,_,_,_,e,_⟩
  ·simp only at e;rw [e] at hn;simp at hn;omega
  ·simp only at e;omega
 clear hms hkm hlt hb hI hn hok
 go_enter Tryz.func132,Tryz.ntmps132
 go_wp2_with fail
 refine calls_world fun W1 hW1=>?_
 have C1:=hid (show Ch (fun _=>False) w W1 from by rw [hW1];exact (Ch.refl _ w).alloc _)
 have X1:=hid (show Blk W1 w.heap.size 229 #[.int .i64 hh,.string s,.slice a n c] from by rw [hW1];exact Blk.new w _ _)
 clear hW1
 refine (HC.out W1 (HI.out.keep C1.out (fun _ _ _=>id) (fun _ _ h=>h))).mono ?_
 rintro e w2 ⟨rfl,hc⟩
 have C2:=hid (C1.out.trans hc (fun _ _ h=>h))
 have X2:=hid (hc.blk X1.out id)
 clear hc
 obtain ⟨x0,-,x2⟩:=X2.out.c3
 go_wp2_with fail
 clear x0 x2
 go_loopw [1,25] (fun m i W=>∃(k:Nat) (q:Int),k<=n/\i=.int .i64 (k:Int)/\m=.int .i64 q/\0<=q/\q<=1000000/\r=(msum ((ks.map Kd.m).take k)).r+q/\Ch (fun _=>False) w W) (fun _ i _=>n - (intOf i).toNat)
 case atStart=>exact ⟨0,r,Nat.zero_le _,rfl,rfl,hr,HB.out,by simp [msum],C2.out⟩
 case round=>
  obtain ⟨k,q,hk,rfl,rfl,hq0,hq1,hrq,hC⟩:=hrel
  have HC2:=hid hC
  have HRQ:=hid hrq
  have HQ0:=hid hq0
  clear hC hrq hq0
  by_cases hlt:k < n
  {
 obtain ⟨b,off,rfl⟩:=HI.out.some (by omega)
 obtain ⟨x,hx⟩:∃x,ks[k]?=some x:=⟨ks[k]'(by rw [HN.out];exact hlt),List.getElem?_eq_getElem _⟩
 have I2:=HI.out.keep (S':=S) HC2.out (fun _ _ _=>id) (fun _ _ h=>h)
 have c0:wr.cell? ⟨b,off+k * 4,none⟩=some (.int .u64 (hdl x.at')):=I2.at k x hx 0 _ rfl
 have c1:wr.cell? ⟨b,off+k * 4+1,none⟩=some (.int .i64 x.m.b):=I2.at k x hx 1 _ rfl
 have c2:wr.cell? ⟨b,off+k * 4+2,none⟩=some (.int .i64 x.m.r):=I2.at k x hx 2 _ rfl
 have c3:wr.cell? ⟨b,off+k * 4+3,none⟩=some (.int .i64 x.m.l):=I2.at k x hx 3 _ rfl
 have hxm:=HK.out x (List.mem_of_getElem? hx)
 have e1:decide ((k:Int) < (n:Int))=true:=decide_eq_true (by omega)
 have e2:decide (k < n)=true:=decide_eq_true hlt
 have HX:=hid hx
 have HXM:=hid hxm
 clear hx I2 hxm
 go_wp2_with fail
 refine calls_world fun W3 hW3=>?_
 have C3:=hid (show Ch (fun _=>False) w W3 from by rw [hW3];exact HC2.out.alloc _)
 have K3:=hid (show Blk W3 wr.heap.size 266 #[.int .u64 (hdl x.at'),.int .i64 x.m.b,.int .i64 x.m.r,.int .i64 x.m.l] from by rw [hW3];exact Blk.new wr _ _)
 clear hW3 c0 c1 c2 c3
 refine (part_r x.m W3).mono ?_
 rintro e w4 ⟨rfl,hc⟩
 have C4:=hid (C3.out.trans hc (fun _ _ h=>h))
 have K4:=hid (hc.blk K3.out id)
 clear hc
 by_cases hp:q < x.m.r
 ·have p1:decide (q < x.m.r)=true:=decide_eq_true hp
  have HP:=hid hp
  clear hp
  go_wp2_with fail
  go_ret3
  refine ⟨k,q,rfl,⟨⟨x.m,by rw [List.getElem?_map,HX.out];rfl,HP.out⟩,HQ0.out,HRQ.out⟩,hlt,hq1,C4.out⟩
 ·have p1:decide (q < x.m.r)=false:=decide_eq_false hp
  have HP:=hid hp
  clear hp
  obtain ⟨-,k1,k2,k3⟩:=K4.out.c4
  have wq:IntKind.i64.wrap (q - x.m.r)=q - x.m.r:=IntWalk.i64_in _ (by have:=HP.out;have:=HQ0.out;obtain ⟨h1,h2,h3,h4⟩:=HXM.out;omega)
  go_wp2_with fail
  refine (part_r x.m w4).mono ?_
  rintro e w5 ⟨rfl,hc⟩
  have C5:=hid (C4.out.trans hc (fun _ _ h=>h))
  clear hc k1 k2 k3
  go_wp2_with fail
  go_roundw
  case rel=>
   refine ⟨k+1,q - x.m.r,by omega,by go_num,rfl,by have:=HP.out;omega,by have:=HQ0.out;obtain ⟨h1,h2,h3,h4⟩:=HXM.out;omega,?_,C5.out⟩
   rw [msum_take_snoc HX.out,HRQ.out]
   simp only [Ms.add]
   omega
  case measure=>simp [intOf];omega
 }
  ·exfalso
   obtain rfl:n=k:=by omega
   have h1:=HRQ.out
   have h2:=HLT.out
   have h3:=HQ0.out
   rw [List.take_of_length_le (by rw [List.length_map,HN.out];exact Nat.le_refl _)] at h1
   omega
theorem part_l (m:Ms) (w:World):Calls Tryz.prog 139 #[.agg #[.int .i64 m.b,.int .i64 m.r,.int .i64 m.l]] w fun e w'=>e=.returned (.int .i64 m.l)/\Ch (fun _=>False) w w':=by
 go_enter Tryz.func139,Tryz.ntmps139
 go_wp2_with fail
 go_ret
 exact ⟨rfl,(Ch.refl _ w).alloc _⟩
theorem choose_l (S:Nat->Prop) (x:Nd) (a:Option Addr) (n c:Nat) (w:World) (hok:x.ok) (h0:x.h≠0) (hI:InP Kd.cells 4 w S a n x.ks) (r:Int) (hr:0<=r) (hlt:r < x.ms.l) :
  Calls Tryz.prog 132 #[x.v a n c,.int .i64 r,.func (.func 139) #[] #[]] w fun e w'=>∃(i:Nat) (q:Int),e=.returned (.tuple #[.int .i64 (i:Int),.int .i64 q,.int .i64 0])/\Chosen (fun m=>m.l) (x.ks.map Kd.m) r i q/\i < n/\q<=1000000/\Ch (fun _=>False) w w':=by
 have hb:=hok.ms
 have hms:x.ms=msum (x.ks.map Kd.m):=by unfold Nd.ms;rw [if_neg h0]
 have hkm:∀k ∈ x.ks,k.m.ok:=fun k hk=>by
  rcases hok with ⟨e,_⟩ | ⟨_,_,_,_,_,h6,_⟩
  ·exact absurd e h0
  ·exact (h6 k hk).ms
 have HC:=hid (fun W (hW:InP Kd.cells 4 W S a n x.ks)=>ncheck_any S x a n c W hok hW)
 obtain ⟨hh,s,ks⟩:=x
 simp only at hms hkm h0 hI hlt hb HC |-
 rw [hms] at hlt hb
 simp only [Nd.v] at HC |-
 have d0:(((hh:Nat):Int) == 0)=false:=by rw [beq_eq_false_iff_ne];omega
 have d1:decide (r < 0)=false:=decide_eq_false (by omega)
 have hn:ks.length=n:=hI.1
 have HN:=hid hn
 have HI:=hid hI
 have HK:=hid hkm
 have HLT:=hid hlt
 have HB:=hid (show r<=1000000 from by omega)
 have n4:n<=1000:=by
  have:=hok
  rcases hok with ⟨_,_,_,e⟩ | ⟨_,_,_,_,e,_⟩
  ·simp only at e;rw [e] at hn;simp at hn;omega
  ·simp only at e;omega
 clear hms hkm hlt hb hI hn hok
 go_enter Tryz.func132,Tryz.ntmps132
 go_wp2_with fail
 refine calls_world fun W1 hW1=>?_
 have C1:=hid (show Ch (fun _=>False) w W1 from by rw [hW1];exact (Ch.refl _ w).alloc _)
 have X1:=hid (show Blk W1 w.heap.size 229 #[.int .i64 hh,.string s,.slice a n c] from by rw [hW1];exact Blk.new w _ _)
 clear hW1
 refine (HC.out W1 (HI.out.keep C1.out (fun _ _ _=>id) (fun _ _ h=>h))).mono ?_
 rintro e w2 ⟨rfl,hc⟩
 have C2:=hid (C1.out.trans hc (fun _ _ h=>h))
 have X2:=hid (hc.blk X1.out id)
 clear hc
 obtain ⟨x0,-,x2⟩:=X2.out.c3
 go_wp2_with fail
 clear x0 x2
 go_loopw [1,25] (fun m i W=>∃(k:Nat) (q:Int),k<=n/\i=.int .i64 (k:Int)/\m=.int .i64 q/\0<=q/\q<=1000000/\r=(msum ((ks.map Kd.m).take k)).l+q/\Ch (fun _=>False) w W) (fun _ i _=>n - (intOf i).toNat)
 case atStart=>exact ⟨0,r,Nat.zero_le _,rfl,rfl,hr,HB.out,by simp [msum],C2.out⟩
 case round=>
  obtain ⟨k,q,hk,rfl,rfl,hq0,hq1,hrq,hC⟩:=hrel
  have HC2:=hid hC
  have HRQ:=hid hrq
  have HQ0:=hid hq0
  clear hC hrq hq0
  by_cases hlt:k < n
  {
 obtain ⟨b,off,rfl⟩:=HI.out.some (by omega)
 obtain ⟨x,hx⟩:∃x,ks[k]?=some x:=⟨ks[k]'(by rw [HN.out];exact hlt),List.getElem?_eq_getElem _⟩
 have I2:=HI.out.keep (S':=S) HC2.out (fun _ _ _=>id) (fun _ _ h=>h)
 have c0:wr.cell? ⟨b,off+k * 4,none⟩=some (.int .u64 (hdl x.at')):=I2.at k x hx 0 _ rfl
 have c1:wr.cell? ⟨b,off+k * 4+1,none⟩=some (.int .i64 x.m.b):=I2.at k x hx 1 _ rfl
 have c2:wr.cell? ⟨b,off+k * 4+2,none⟩=some (.int .i64 x.m.r):=I2.at k x hx 2 _ rfl
 have c3:wr.cell? ⟨b,off+k * 4+3,none⟩=some (.int .i64 x.m.l):=I2.at k x hx 3 _ rfl
 have hxm:=HK.out x (List.mem_of_getElem? hx)
 have e1:decide ((k:Int) < (n:Int))=true:=decide_eq_true (by omega)
 have e2:decide (k < n)=true:=decide_eq_true hlt
 have HX:=hid hx
 have HXM:=hid hxm
 clear hx I2 hxm
 go_wp2_with fail
 refine calls_world fun W3 hW3=>?_
 have C3:=hid (show Ch (fun _=>False) w W3 from by rw [hW3];exact HC2.out.alloc _)
 have K3:=hid (show Blk W3 wr.heap.size 266 #[.int .u64 (hdl x.at'),.int .i64 x.m.b,.int .i64 x.m.r,.int .i64 x.m.l] from by rw [hW3];exact Blk.new wr _ _)
 clear hW3 c0 c1 c2 c3
 refine (part_l x.m W3).mono ?_
 rintro e w4 ⟨rfl,hc⟩
 have C4:=hid (C3.out.trans hc (fun _ _ h=>h))
 have K4:=hid (hc.blk K3.out id)
 clear hc
 by_cases hp:q < x.m.l
 ·have p1:decide (q < x.m.l)=true:=decide_eq_true hp
  have HP:=hid hp
  clear hp
  go_wp2_with fail
  go_ret3
  refine ⟨k,q,rfl,⟨⟨x.m,by rw [List.getElem?_map,HX.out];rfl,HP.out⟩,HQ0.out,HRQ.out⟩,hlt,hq1,C4.out⟩
 ·have p1:decide (q < x.m.l)=false:=decide_eq_false hp
  have HP:=hid hp
  clear hp
  obtain ⟨-,k1,k2,k3⟩:=K4.out.c4
  have wq:IntKind.i64.wrap (q - x.m.l)=q - x.m.l:=IntWalk.i64_in _ (by have:=HP.out;have:=HQ0.out;obtain ⟨h1,h2,h3,h4⟩:=HXM.out;omega)
  go_wp2_with fail
  refine (part_l x.m w4).mono ?_
  rintro e w5 ⟨rfl,hc⟩
  have C5:=hid (C4.out.trans hc (fun _ _ h=>h))
  clear hc k1 k2 k3
  go_wp2_with fail
  go_roundw
  case rel=>
   refine ⟨k+1,q - x.m.l,by omega,by go_num,rfl,by have:=HP.out;omega,by have:=HQ0.out;obtain ⟨h1,h2,h3,h4⟩:=HXM.out;omega,?_,C5.out⟩
   rw [msum_take_snoc HX.out,HRQ.out]
   simp only [Ms.add]
   omega
  case measure=>simp [intOf];omega
 }
  ·exfalso
   obtain rfl:n=k:=by omega
   have h1:=HRQ.out
   have h2:=HLT.out
   have h3:=HQ0.out
   rw [List.take_of_length_le (by rw [List.length_map,HN.out];exact Nat.le_refl _)] at h1
   omega
theorem nchild_any (S:Nat->Prop) (x:Nd) (a:Option Addr) (n c:Nat) (w:World) (hok:x.ok) (h0:x.h≠0) (hI:InP Kd.cells 4 w S a n x.ks) (r:Int) (hr:0<=r) (hlt:r < x.ms.b) :
  Calls Tryz.prog 129 #[x.v a n c,.int .i64 r] w fun e w'=>∃(i:Nat) (q:Int),e=.returned (.tuple #[.int .i64 (i:Int),.int .i64 q,.int .i64 0])/\Chosen (fun m=>m.b) (x.ks.map Kd.m) r i q/\i < n/\q<=1000000/\Ch (fun _=>False) w w':=by
 have HC:=hid (fun W (hW:InP Kd.cells 4 W S a n x.ks)=>choose_b S x a n c W hok h0 hW r hr hlt)
 have HI:=hid hI
 simp only [Nd.v] at HC |-
 obtain ⟨hh,s,ks⟩:=x
 simp only at HC HI |-
 clear hok h0 hI hr hlt
 go_enter Tryz.func129,Tryz.ntmps129
 go_wp2_with fail
 refine calls_world fun W1 hW1=>?_
 have C1:=hid (show Ch (fun _=>False) w W1 from by rw [hW1];exact (Ch.refl _ w).alloc _)
 clear hW1
 refine (HC.out W1 (HI.out.keep C1.out (fun _ _ _=>id) (fun _ _ h=>h))).mono ?_
 rintro e w2 ⟨i,q,rfl,hch,hin,hq,hc⟩
 have HCH:=hid hch
 have C2:=hid (C1.out.trans hc (fun _ _ h=>h))
 clear hch hc
 go_wp2_with fail
 go_ret3
 exact ⟨i,q,rfl,HCH.out,hin,hq,C2.out⟩
theorem nrune_any (S:Nat->Prop) (x:Nd) (a:Option Addr) (n c:Nat) (w:World) (hok:x.ok) (h0:x.h≠0) (hI:InP Kd.cells 4 w S a n x.ks) (r:Int) (hr:0<=r) (hlt:r < x.ms.r) :
  Calls Tryz.prog 108 #[x.v a n c,.int .i64 r] w fun e w'=>∃(i:Nat) (q:Int),e=.returned (.tuple #[.int .i64 (i:Int),.int .i64 q,.int .i64 0])/\Chosen (fun m=>m.r) (x.ks.map Kd.m) r i q/\i < n/\q<=1000000/\Ch (fun _=>False) w w':=by
 have HC:=hid (fun W (hW:InP Kd.cells 4 W S a n x.ks)=>choose_r S x a n c W hok h0 hW r hr hlt)
 have HI:=hid hI
 simp only [Nd.v] at HC |-
 obtain ⟨hh,s,ks⟩:=x
 simp only at HC HI |-
 clear hok h0 hI hr hlt
 go_enter Tryz.func108,Tryz.ntmps108
 go_wp2_with fail
 refine calls_world fun W1 hW1=>?_
 have C1:=hid (show Ch (fun _=>False) w W1 from by rw [hW1];exact (Ch.refl _ w).alloc _)
 clear hW1
 refine (HC.out W1 (HI.out.keep C1.out (fun _ _ _=>id) (fun _ _ h=>h))).mono ?_
 rintro e w2 ⟨i,q,rfl,hch,hin,hq,hc⟩
 have HCH:=hid hch
 have C2:=hid (C1.out.trans hc (fun _ _ h=>h))
 clear hch hc
 go_wp2_with fail
 go_ret3
 exact ⟨i,q,rfl,HCH.out,hin,hq,C2.out⟩
theorem find_begins (s:ByteArray) (hs:s.size<=1000000) (n:Nat) (hn:n < cntP begB (bs s)) (w:World):Calls Tryz.prog 135 #[.string s,.func (.func 136) #[] #[],.int .i64 (n:Int)] w fun e w'=>e=.returned (.tuple #[.int .i64 (nthP begB (bs s) n:Nat),.bool true])/\w=w':=by
 have hle:=cntP_le begB (bs s)
 rw [bs_length] at hle
 have HN:=hid hn
 have hn1:n<=1000000:=by omega
 clear hn hle
 go_enter Tryz.func135,Tryz.ntmps135
 go_wp2_with fail
 go_loopw [2,11] (fun m i W=>∃k c:Nat,k<=s.size/\i=.int .i64 (k:Int)/\cntP begB ((bs s).take k)=c/\c<=n/\m=.int .i64 ((n - c:Nat):Int)/\W=w) (fun _ i _=>s.size - (intOf i).toNat)
 case atStart=>exact ⟨0,0,Nat.zero_le _,rfl,by simp [cntP],Nat.zero_le _,rfl,rfl⟩
 case round=>
  obtain ⟨k,c,hk,rfl,hc,hcn,rfl,rfl⟩:=hrel
  have HC:=hid hc
  clear hc
  by_cases hlt:k < s.size
  {
 have hg:=bs_get s k hlt
 have hct:=hid (cntP_take begB (bs s) k (by rw [bs_length];exact hlt))
 go_wp2_with fail
 refine (begins_any (lk (bs s) k) wr).mono ?_
 rintro e w' ⟨rfl,rfl⟩
 by_cases hp:begB (lk (bs s) k)=true
 ·rw [show begB (lk (bs s) k)=true from hp]
  by_cases h0:n - c=0
  ·have hnc:n=c:=by omega
   have RES:=hid (nthP_at begB (bs s) k n (by rw [bs_length];exact hlt) hp (by rw [HC.out,hnc]))
   rw [h0]
   go_wp2_with fail
   go_ret2
   exact ⟨by rw [RES.out];rfl,rfl⟩
  ·have hct2:=hid (show cntP begB ((bs s).take (k+1))=c+1 from by have:=hct.out;rw [if_pos hp,HC.out] at this;exact this)
   obtain ⟨m,hm⟩:∃m,n - c=m+1:=⟨n - c - 1,by omega⟩
   rw [hm]
   have e0:(((m+1:Nat):Int) == 0)=false:=by rw [beq_eq_false_iff_ne];omega
   have e1:((m:Int)+1 == 0)=false:=by rw [beq_eq_false_iff_ne];omega
   have hm1:m<=1000000:=by omega
   have HM:=hid hm
   clear hm
   go_wp2_with fail
   go_roundw
   case rel=>exact ⟨k+1,c+1,by omega,by go_num,hct2.out,by have:=HM.out;omega,by have:=HM.out;rw [show n - (c+1)=m by omega],by first | trivial | rfl⟩
   case measure=>simp [intOf];omega
 ·have hp':begB (lk (bs s) k)=false:=by simpa using hp
  rw [show begB (lk (bs s) k)=false from hp']
  have hct2:=hid (show cntP begB ((bs s).take (k+1))=c from by have:=hct.out;rw [if_neg hp,HC.out] at this;exact this)
  go_wp2_with fail
  go_roundw
  case rel=>exact ⟨k+1,c,by omega,by go_num,hct2.out,hcn,rfl,by first | trivial | rfl⟩
  case measure=>simp [intOf];omega
 }
  ·exfalso
   obtain rfl:s.size=k:=by omega
   have h1:=HC.out
   rw [List.take_of_length_le (by rw [bs_length];exact Nat.le_refl _)] at h1
   have:=HN.out
   omega
theorem find_feeds (s:ByteArray) (hs:s.size<=1000000) (n:Nat) (hn:n < cntP (fun b=>b == 10) (bs s)) (w:World):Calls Tryz.prog 135 #[.string s,.func (.func 140) #[] #[],.int .i64 (n:Int)] w fun e w'=>e=.returned (.tuple #[.int .i64 (nthP (fun b=>b == 10) (bs s) n:Nat),.bool true])/\w=w':=by
 have hle:=cntP_le (fun b=>b == 10) (bs s)
 rw [bs_length] at hle
 have HN:=hid hn
 have hn1:n<=1000000:=by omega
 clear hn hle
 go_enter Tryz.func135,Tryz.ntmps135
 go_wp2_with fail
 go_loopw [2,11] (fun m i W=>∃k c:Nat,k<=s.size/\i=.int .i64 (k:Int)/\cntP (fun b=>b == 10) ((bs s).take k)=c/\c<=n/\m=.int .i64 ((n - c:Nat):Int)/\W=w) (fun _ i _=>s.size - (intOf i).toNat)
 case atStart=>exact ⟨0,0,Nat.zero_le _,rfl,by simp [cntP],Nat.zero_le _,rfl,rfl⟩
 case round=>
  obtain ⟨k,c,hk,rfl,hc,hcn,rfl,rfl⟩:=hrel
  have HC:=hid hc
  clear hc
  by_cases hlt:k < s.size
  {
 have hg:=bs_get s k hlt
 have hct:=hid (cntP_take (fun b=>b == 10) (bs s) k (by rw [bs_length];exact hlt))
 go_wp2_with fail
 refine (feeds_any (lk (bs s) k) wr).mono ?_
 rintro e w' ⟨rfl,rfl⟩
 by_cases hp:(fun b=>b == 10) (lk (bs s) k)=true
 ·rw [show (lk (bs s) k == 10)=true from hp]
  by_cases h0:n - c=0
  ·have hnc:n=c:=by omega
   have RES:=hid (nthP_at (fun b=>b == 10) (bs s) k n (by rw [bs_length];exact hlt) hp (by rw [HC.out,hnc]))
   rw [h0]
   go_wp2_with fail
   go_ret2
   exact ⟨by rw [RES.out];rfl,rfl⟩
  ·have hct2:=hid (show cntP (fun b=>b == 10) ((bs s).take (k+1))=c+1 from by have:=hct.out;rw [if_pos hp,HC.out] at this;exact this)
   obtain ⟨m,hm⟩:∃m,n - c=m+1:=⟨n - c - 1,by omega⟩
   rw [hm]
   have e0:(((m+1:Nat):Int) == 0)=false:=by rw [beq_eq_false_iff_ne];omega
   have e1:((m:Int)+1 == 0)=false:=by rw [beq_eq_false_iff_ne];omega
   have hm1:m<=1000000:=by omega
   have HM:=hid hm
   clear hm
   go_wp2_with fail
   go_roundw
   case rel=>exact ⟨k+1,c+1,by omega,by go_num,hct2.out,by have:=HM.out;omega,by have:=HM.out;rw [show n - (c+1)=m by omega],by first | trivial | rfl⟩
   case measure=>simp [intOf];omega
 ·have hp':(fun b=>b == 10) (lk (bs s) k)=false:=by simpa using hp
  rw [show (lk (bs s) k == 10)=false from hp']
  have hct2:=hid (show cntP (fun b=>b == 10) ((bs s).take (k+1))=c from by have:=hct.out;rw [if_neg hp,HC.out] at this;exact this)
  go_wp2_with fail
  go_roundw
  case rel=>exact ⟨k+1,c,by omega,by go_num,hct2.out,hcn,rfl,by first | trivial | rfl⟩
  case measure=>simp [intOf];omega
 }
  ·exfalso
   obtain rfl:s.size=k:=by omega
   have h1:=HC.out
   rw [List.take_of_length_le (by rw [bs_length];exact Nat.le_refl _)] at h1
   have:=HN.out
   omega
theorem mrune_any (s:ByteArray) (hs:s.size<=1000000) (n:Nat) (hn:n < cntP begB (bs s)) (w:World):Calls Tryz.prog 110 #[.string s,.int .i64 (n:Int)] w fun e w'=>e=.returned (.tuple #[.int .i64 (nthP begB (bs s) n:Nat),.int .i64 0])/\w=w':=by
 have F:=hid (find_begins s hs n hn w)
 have hle:=cntP_le begB (bs s)
 rw [bs_length] at hle
 have hn1:n<=1000000:=by omega
 have d1:decide ((n:Int) < 0)=false:=decide_eq_false (by omega)
 clear hn hle
 go_enter Tryz.func110,Tryz.ntmps110
 go_wp2_with fail
 refine F.out.mono ?_
 rintro e w' ⟨rfl,rfl⟩
 go_wp2_with fail
 go_ret2
 exact ⟨rfl,rfl⟩
theorem mline_any (s:ByteArray) (hs:s.size<=1000000) (n:Nat) (hn:n < cntP (fun b=>b == 10) (bs s)) (w:World):Calls Tryz.prog 112 #[.string s,.int .i64 ((n:Int)+1)] w fun e w'=>e=.returned (.tuple #[.int .i64 ((nthP (fun b=>b == 10) (bs s) n:Nat)+1),.int .i64 0])/\w=w':=by
 have F:=hid (find_feeds s hs n hn w)
 have hle:=cntP_le (fun b=>b == 10) (bs s)
 have hl2:=nthP_lt _ _ _ hn
 rw [bs_length] at hle hl2
 have hn1:n<=1000000:=by omega
 obtain ⟨q,hq⟩:∃q,q=nthP (fun b=>b == 10) (bs s) n:=⟨_,rfl⟩
 rw [<-hq] at hl2 |-
 have F:=hid (show Calls Tryz.prog 135 #[.string s,.func (.func 140) #[] #[],.int .i64 (n:Int)] w fun e w'=>e=.returned (.tuple #[.int .i64 (q:Int),.bool true])/\w=w' from by rw [hq];exact F.out)
 have d0:((n:Int)+1 == 0)=false:=by rw [beq_eq_false_iff_ne];omega
 have d1:decide ((0:Int) < (n:Int)+1)=true:=decide_eq_true (by omega)
 clear hn hle hq
 go_enter Tryz.func112,Tryz.ntmps112
 go_wp2_with fail
 refine F.out.mono ?_
 rintro e w' ⟨rfl,rfl⟩
 go_wp2_with fail
 go_ret2
 exact ⟨rfl,rfl⟩
theorem nline_any (S:Nat->Prop) (x:Nd) (a:Option Addr) (n c:Nat) (w:World) (hok:x.ok) (h0:x.h≠0) (hI:InP Kd.cells 4 w S a n x.ks) (r:Int) (hr:0<=r) (hlt:r < x.ms.l) :
  Calls Tryz.prog 111 #[x.v a n c,.int .i64 (r+1)] w fun e w'=>∃(i:Nat) (q:Int),e=.returned (.tuple #[.int .i64 (i:Int),.int .i64 (q+1),.int .i64 0])/\Chosen (fun m=>m.l) (x.ks.map Kd.m) r i q/\i < n/\q<=1000000/\Ch (fun _=>False) w w':=by
 have HC:=hid (fun W (hW:InP Kd.cells 4 W S a n x.ks)=>choose_l S x a n c W hok h0 hW r hr hlt)
 have HI:=hid hI
 have hb:=hok.ms
 have hr2:r<=1000000:=by omega
 have d1:decide (r+1 < 1)=false:=decide_eq_false (by omega)
 have w0:wrap64 r=r:=by unfold wrap64;omega
 have wr1:IntKind.i64.wrap (r+1)=r+1:=IntWalk.i64_in _ (by omega)
 have HR:=hid (show 0<=r/\r<=1000000 from ⟨hr,hr2⟩)
 simp only [Nd.v] at HC |-
 obtain ⟨hh,s,ks⟩:=x
 simp only at HC HI |-
 clear hok h0 hI hr hlt hb hr2
 go_enter Tryz.func111,Tryz.ntmps111
 go_wp2_with fail
 refine calls_world fun W1 hW1=>?_
 have C1:=hid (show Ch (fun _=>False) w W1 from by rw [hW1];exact (Ch.refl _ w).alloc _)
 clear hW1
 try rw [w0]
 refine (HC.out W1 (HI.out.keep C1.out (fun _ _ _=>id) (fun _ _ h=>h))).mono ?_
 rintro e w2 ⟨i,q,rfl,hch,hin,hq,hc⟩
 have HCH:=hid hch
 have C2:=hid (C1.out.trans hc (fun _ _ h=>h))
 have wq:IntKind.i64.wrap (q+1)=q+1:=IntWalk.i64_in _ (by have:=hch.nn;omega)
 clear hch hc
 go_wp2_with fail
 go_ret3
 exact ⟨i,q,rfl,HCH.out,hin,hq,C2.out⟩
end Go.Proofs.YtjcdknhejcbpiaaGreat
