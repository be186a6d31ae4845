/- Lemmas; no condition. -/
import Derived.Test.YtjcdknhejcbpiaaGreatSb14
import Derived.Test.YtjcdknhejcbpiaaGreatSb08
import Derived.Test.YtjcdknhejcbpiaaGreatSb16
import Derived.IntWalk
import Derived.Laws.EntriesVeiled
set_option maxRecDepth 100000
set_option maxHeartbeats 2000000
namespace Go.Proofs.YtjcdknhejcbpiaaGreat
open Go.RowKit
set_option linter.unusedVariables false
set_option linter.unusedSimpArgs false
set_option linter.unusedSectionVars false
theorem fit_bounds (t:T):∀h,T.fit h t->t.bytes<=65536->loB h<=t.bytes/\t.bytes<=hiB h:=by
 induction t using T.ind with
 | hl s=>
  intro h hf _
  obtain ⟨rfl,h1,h2⟩:=fit_leaf hf
  exact ⟨by simpa [loB,T.bytes] using h1,by simp only [hiB,T.bytes];omega⟩
 | hn k ks ih=>
  intro h hf hb
  obtain ⟨m,rfl,rfl,h1,h2,h3⟩:=fit_node hf
  have key:∀l:List T,(∀t ∈ l,loB m<=t.bytes/\t.bytes<=hiB m)->loB m * l.length<=T.bytesL l/\T.bytesL l<=hiB m * l.length:=by
   intro l
   induction l with
   | nil=>intro _;simp [T.bytesL]
   | cons t ts ih'=>
    intro hl
    obtain ⟨a,b⟩:=ih' (fun t ht=>hl t (by simp [ht]))
    obtain ⟨c,d⟩:=hl t (by simp)
    simp only [T.bytesL,List.length_cons,Nat.mul_succ]
    omega
  simp only [T.bytes] at hb |-
  have hle:∀t ∈ ks,t.bytes<=T.bytesL ks:=by
   intro t ht
   clear ih hf h3 hb key h1 h2
   induction ks with
   | nil=>simp at ht
   | cons u us ih=>
    simp only [T.bytesL]
    rcases List.mem_cons.1 ht with rfl | ht
    ·omega
    ·have:=ih ht;omega
  obtain ⟨a,b⟩:=key ks (fun t ht=>ih t ht m (h3 t ht) (by have:=hle t ht;omega))
  rw [lo_succ,hi_succ]
  have e1:loB m * 2<=loB m * ks.length:=Nat.mul_le_mul_left _ h1
  have e2:hiB m * ks.length<=hiB m * 4:=Nat.mul_le_mul_left _ h2
  omega
def mAt (n:Nat) (l:List Sp) (j:Nat):Ms:=match l[j - n]? with
 | some q=>q.m
 | none=>⟨0,0,0⟩
def SpOK (n:Nat) (l:List Sp) (i:Nat) (sp:Sp):Prop:=(sp.h=0/\1<=sp.s.size/\sp.s.size<=16/\sp.ks=[]/\sp.m=mOf sp.s)\/
 (1<=sp.h/\sp.h<=16/\sp.s=⟨#[]⟩/\2<=sp.ks.length/\sp.ks.length<=4/\(∀j ∈ sp.ks,∃q,n<=j/\j < n+i/\l[j - n]?=some q/\q.h+1=sp.h/\q.m.ord/\(loB q.h:Int)<=q.m.b/\q.m.b<=(hiB q.h:Int))/\sp.m=msum (sp.ks.map (mAt n l))/\sp.m.b<=65536)
def PostOK (n:Nat) (l:List Sp):Prop:=∀i sp,l[i]?=some sp->SpOK n l i sp
theorem SpOK.app {n i:Nat} {l l2:List Sp} {sp:Sp} (h:SpOK n l i sp):SpOK n (l++l2) i sp:=by
 rcases h with h | ⟨h1,h2,h3,h4,h5,h6,h7,h8⟩
 ·exact .inl h
 ·have key:∀(j:Nat) (q:Sp),l[j - n]?=some q->(l++l2)[j - n]?=some q:=fun j q hj=>by
   rw [List.getElem?_append_left (List.getElem?_eq_some_iff.1 hj).1,hj]
  refine .inr ⟨h1,h2,h3,h4,h5,fun j hj=>?_,?_,h8⟩
  ·obtain ⟨q,a,b,c,d⟩:=h6 j hj
   exact ⟨q,a,b,key j q c,d⟩
  ·rw [h7]
   congr 1
   refine List.map_congr_left fun j hj=>?_
   obtain ⟨q,a,b,c,d⟩:=h6 j hj
   unfold mAt
   rw [c,key j q c]
theorem SpOK.shift {n i:Nat} {l l2:List Sp} {sp:Sp} (h:SpOK (n+l.length) l2 i sp):SpOK n (l++l2) (l.length+i) sp:=by
 rcases h with h | ⟨h1,h2,h3,h4,h5,h6,h7,h8⟩
 ·exact .inl h
 ·have key:∀(j:Nat) (q:Sp),n+l.length<=j->l2[j - (n+l.length)]?=some q->(l++l2)[j - n]?=some q:=fun j q hn hj=>by
   rw [List.getElem?_append_right (by omega),show j - n - l.length=j - (n+l.length) by omega,hj]
  refine .inr ⟨h1,h2,h3,h4,h5,fun j hj=>?_,?_,h8⟩
  ·obtain ⟨q,a,b,c,d⟩:=h6 j hj
   exact ⟨q,by omega,by omega,key j q a c,d⟩
  ·rw [h7]
   congr 1
   refine List.map_congr_left fun j hj=>?_
   obtain ⟨q,a,b,c,d⟩:=h6 j hj
   unfold mAt
   rw [c,key j q a c]
theorem PostOK.app {n:Nat} {l l2:List Sp} (h:PostOK n l) (h2:PostOK (n+l.length) l2):PostOK n (l++l2):=by
 intro i sp hi
 by_cases hl:i < l.length
 ·rw [List.getElem?_append_left hl] at hi
  exact (h i sp hi).app
 ·rw [List.getElem?_append_right (by omega)] at hi
  have t:=(h2 _ sp hi).shift
  rw [show l.length+(i - l.length)=i by omega] at t
  exact t
theorem post_last' (t:T) (n:Nat):∃sp,(T.post n t)[t.cnt - 1]?=some sp/\sp.m=t.meas/\sp.h=t.ht:=by
 cases t with
 | leaf s=>exact ⟨_,rfl,rfl,rfl⟩
 | node h ks=>
  refine ⟨⟨h,⟨#[]⟩,rootL n ks,msum (T.measL ks)⟩,?_,rfl,rfl⟩
  simp only [T.post,T.cnt]
  rw [List.getElem?_append_right (by rw [postL_len];omega),postL_len,show T.cntL ks+1 - 1 - T.cntL ks=0 by omega]
  rfl
theorem root_at (ts:List T):∀(n:Nat),∀j ∈ rootL n ts,∃q,∃t ∈ ts,(T.postL n ts)[j - n]?=some q/\q.m=t.meas/\q.h=t.ht:=by
 induction ts with
 | nil=>intro n j hj;simp [rootL] at hj
 | cons t ts ih=>
  intro n j hj
  simp only [rootL,List.mem_cons] at hj
  have hc:=cnt_pos t
  rcases hj with rfl | hj
  ·obtain ⟨q,hq,h1,h2⟩:=post_last' t n
   refine ⟨q,t,by simp,?_,h1,h2⟩
   simp only [T.postL]
   rw [List.getElem?_append_left (by rw [post_len];omega),show n+t.cnt - 1 - n=t.cnt - 1 by omega]
   exact hq
  ·obtain ⟨q,u,hu,hq,h1,h2⟩:=ih _ j hj
   have hb:=rootL_bd ts _ j hj
   refine ⟨q,u,by simp [hu],?_,h1,h2⟩
   simp only [T.postL]
   rw [List.getElem?_append_right (by rw [post_len];omega),post_len,show j - n - t.cnt=j - (n+t.cnt) by omega]
   exact hq
theorem root_meas (ts:List T):∀(n:Nat),(rootL n ts).map (mAt n (T.postL n ts))=T.measL ts:=by
 induction ts with
 | nil=>intro n;rfl
 | cons t ts ih=>
  intro n
  have hc:=cnt_pos t
  simp only [rootL,List.map_cons,T.measL,T.postL]
  congr 1
  ·obtain ⟨q,hq,h1,h2⟩:=post_last' t n
   unfold mAt
   rw [List.getElem?_append_left (by rw [post_len];omega),show n+t.cnt - 1 - n=t.cnt - 1 by omega,hq]
   exact h1
  ·rw [<-ih (n+t.cnt)]
   refine List.map_congr_left fun j hj=>?_
   have hb:=rootL_bd ts _ j hj
   unfold mAt
   rw [List.getElem?_append_right (by rw [post_len];omega),post_len,show j - n - t.cnt=j - (n+t.cnt) by omega]
theorem post_ok (t:T):∀g,g<=16->T.fit g t->t.bytes<=65536->∀n,PostOK n (T.post n t):=by
 induction t using T.ind with
 | hl s=>
  intro g _ hf _ n i sp hi
  obtain ⟨_,h1,h2⟩:=fit_leaf hf
  match i,hi with
  | 0,hi=>
   simp [T.post] at hi
   subst hi
   exact .inl ⟨rfl,by show 1<=s.size;omega,h2,rfl,rfl⟩
  | i+1,hi=>simp [T.post] at hi
 | hn k ks ih=>
  intro g hg hf hb n
  obtain ⟨m,rfl,rfl,h1,h2,h3⟩:=fit_node hf
  simp only [T.bytes] at hb
  have hle:∀(l:List T),∀t ∈ l,t.bytes<=T.bytesL l:=by
   intro l t ht
   induction l with
   | nil=>simp at ht
   | cons u us ih=>
    simp only [T.bytesL]
    rcases List.mem_cons.1 ht with rfl | ht
    ·omega
    ·have:=ih ht;omega
  have hL:∀(l:List T) (n:Nat),(∀t ∈ l,∀n,PostOK n (T.post n t))->PostOK n (T.postL n l):=by
   intro l
   induction l with
   | nil=>intro n _ i sp hi;simp [T.postL] at hi
   | cons t ts ih'=>
    intro n h
    simp only [T.postL]
    refine (h t (by simp) n).app ?_
    rw [post_len]
    exact ih' _ (fun t ht=>h t (by simp [ht]))
  have hks:=hL ks n (fun t ht n=>ih t ht m (by omega) (h3 t ht) (by have:=hle ks t ht;omega) n)
  simp only [T.post]
  intro i sp hi
  by_cases hl:i < (T.postL n ks).length
  ·rw [List.getElem?_append_left hl] at hi
   exact (hks i sp hi).app
  {
 have hlt:=(List.getElem?_eq_some_iff.1 hi).1
 simp at hlt
 rw [postL_len] at hl hlt
 rw [List.getElem?_append_right (by rw [postL_len];omega),postL_len,show i - T.cntL ks=0 by omega] at hi
 simp at hi
 subst hi
 have hkey:∀j ∈ rootL n ks,∃q,n<=j/\j < n+i/\(T.postL n ks)[j - n]?=some q/\q.h+1=m+1/\q.m.ord/\(loB q.h:Int)<=q.m.b/\q.m.b<=(hiB q.h:Int):=fun j hj=>by
  obtain ⟨q,t,ht,hq,e1,e2⟩:=root_at ks n j hj
  have hbd:=rootL_bd ks n j hj
  have hfit:=h3 t ht
  have hht:=T.fit_ht hfit
  obtain ⟨b1,b2⟩:=fit_bounds t m hfit (by have:=hle ks t ht;omega)
  obtain ⟨m1,m2⟩:=meas_bytes t
  refine ⟨q,hbd.1,by omega,hq,by omega,by rw [e1];exact m2,?_,?_⟩
  ·rw [e1,e2,hht,m1];omega
  ·rw [e1,e2,hht,m1];omega
 refine .inr ⟨by show 1<=m+1;omega,hg,rfl,by show 2<=(rootL n ks).length;rw [rootL_len];exact h1,by show (rootL n ks).length<=4;rw [rootL_len];exact h2,fun j hj=>?_,?_,?_⟩
 ·obtain ⟨q,a,b,c,d⟩:=hkey j hj
  exact ⟨q,a,b,by rw [List.getElem?_append_left (List.getElem?_eq_some_iff.1 c).1,c],d⟩
 ·show msum (T.measL ks)=_
  congr 1
  rw [<-root_meas ks n]
  refine List.map_congr_left fun j hj=>?_
  obtain ⟨q,a,b,c,d⟩:=hkey j hj
  unfold mAt
  rw [c,List.getElem?_append_left (List.getElem?_eq_some_iff.1 c).1,c]
 ·show (msum (T.measL ks)).b<=65536
  rw [measL_b]
  omega
 }
theorem gpost_ok (t:T) (hg:t.good) (hb:t.bytes<=65536) (n:Nat):PostOK n (T.post n t):=by
 rcases hg with ⟨s,rfl,h1,h2⟩ | ⟨g,hg16,hf⟩
 ·intro i sp hi
  match i,hi with
  | 0,hi=>
   simp [T.post] at hi
   subst hi
   exact .inl ⟨rfl,h1,h2,rfl,rfl⟩
  | i+1,hi=>simp [T.post] at hi
 ·exact post_ok t g hg16 hf hb n
def Sp.nd (n0:Nat) (l:List Sp) (sp:Sp):Nd:=⟨sp.h,sp.s,sp.ks.map fun j=>⟨n0+j,mAt 0 l j⟩⟩
theorem nd_ms {n0 i:Nat} {l:List Sp} {sp:Sp} (h:SpOK 0 l i sp):(sp.nd n0 l).ms=sp.m:=by
 rcases h with ⟨h1,h2,h3,h4,h5⟩ | ⟨h1,h2,h3,h4,h5,h6,h7,h8⟩
 ·simp [Nd.ms,Sp.nd,h1,h5]
 ·have:sp.h≠0:=by omega
  simp [Nd.ms,Sp.nd,this]
  rw [h7]
  rfl
theorem nd_ok {n0 i:Nat} {l:List Sp} {sp:Sp} (h:SpOK 0 l i sp) (hi:n0+i<=16384):(sp.nd n0 l).ok:=by
 rcases h with ⟨h1,h2,h3,h4,h5⟩ | ⟨h1,h2,h3,h4,h5,h6,h7,h8⟩
 ·exact .inl ⟨h1,h2,h3,by simp [Sp.nd,h4]⟩
 ·refine .inr ⟨h1,h2,h3,by simpa [Sp.nd] using h4,by simpa [Sp.nd] using h5,fun k hk=>?_,?_⟩
  ·obtain ⟨j,hj,rfl⟩:=List.mem_map.1 hk
   obtain ⟨q,a,b,c,d,o,e,f⟩:=h6 j hj
   have hm:mAt 0 l j=q.m:=by unfold mAt;rw [c]
   have hh:sp.h - 1=q.h:=by omega
   show Kd.ok (sp.h - 1) ⟨n0+j,mAt 0 l j⟩
   rw [hm,hh]
   exact ⟨by show n0+j < 16384;omega,e,f,o.1,o.2.1,o.2.2⟩
  ·have:(sp.nd n0 l).ks.map Kd.m=sp.ks.map (mAt 0 l):=by simp [Sp.nd,Function.comp_def]
   rw [this,<-h7]
   exact h8
structure Ed where
 ep:Nat
 sl:Int
 n:Nat
def edCells (p:Nat) (f:Ed) (pins sc:Value):Array Value:=#[.pointer (some ⟨p,0,none⟩),.int .i64 f.ep,.int .i64 f.sl,.int .i64 f.n,pins,sc]
structure EdOk (s:BS) (f:Ed):Prop where
 e:f.ep < s.vs.length
 n:f.n<=64
 s:∀i:Nat,i < f.n->0<=f.sl+i/\f.sl+i < s.vs.length
structure EpochM (B:Nat) (w:World) (p cb qb:Nat) (lv:Value) (s:BS) (f:Ed) (pins sc:Value):Prop where
 b:Bank B w p cb lv s.vs s.lg
 fd:Blk w qb 200 (edCells p f pins sc)
 ok:EdOk s f
 bf:B<=qb
section
variable {B p cb qb:Nat} {lv:Value} {s:BS} {f:Ed} {pins sc:Value} {w w':World}
theorem EpochM.ch {fp:Nat->Prop} (h:EpochM B w p cb qb lv s f pins sc) (c:Ch fp w w') (h1:¬fp p) (h2:¬fp cb) (h3:∀k,lv.ownBlock=some k->¬fp k) (h4:¬fp qb):EpochM B w' p cb qb lv s f pins sc:=
 ⟨h.b.ch c h1 h2 h3,c.blk h.fd h4,h.ok,h.bf⟩
theorem EpochM.keep (h:EpochM B w p cb qb lv s f pins sc) (c:Ch (fun _=>False) w w'):EpochM B w' p cb qb lv s f pins sc:=h.ch c id id (fun _ _=>id) id
theorem EpochM.drewN (h:EpochM B w p cb qb lv s f pins sc) (n:Nat):EpochM B (w.drewN n) p cb qb lv s f pins sc:=h.keep ((Ch.refl _ w).drewN n)
theorem bank_drew {vs:List Int} {lg:List Acc} (h:Bank B w p cb lv vs lg) (n:Nat):Bank B (w.drewN n) p cb lv vs lg:=h.ch ((Ch.refl (fun _=>False) w).drewN n) id id (fun _ _=>id)
end
section
variable (B p cb qb:Nat) (lv:Value) (s:BS) (f:Ed) (pins sc:Value) (w:World) (h:EpochM B w p cb qb lv s f pins sc)
include h
end
structure Pn where
 t:Int
 slot:Nat
 seen:Int
 ph:Int
def Ed.slot (f:Ed) (i:Nat):Nat:=(f.sl+(i:Int)).toNat
def pnDo (g:Nat) (ph:Int):Value:=if ph=9 then .func (.func 126) #[.pointer (some ⟨g,0,none⟩)] #[] else if ph=10 then .func (.func 146) #[.pointer (some ⟨g,0,none⟩)] #[] else .nilFunc
def pnCells (qb g:Nat) (q:Pn):Array Value:=#[.pointer (some ⟨qb,0,none⟩),.int .i64 q.t,.int .u8 q.ph,pnDo g q.ph,.int .i64 q.slot,.int .u64 q.seen]
def ERes (B p cb qb g:Nat) (t:TypeId) (lv:Value) (f:Ed) (pins sc:Value) (s':BS) (cs:Array Value) (w:World) (e:Ending) (w':World):Prop:=
 e=.returned (.tuple #[])/\∃lv',EpochM B w' p cb qb lv' s' f pins sc/\Blk w' g t cs/\Ch (fun b=>FP p cb lv b\/b=g) w w'/\Fresh w lv lv'
section
variable {B p cb qb g:Nat} {t:TypeId} {lv lv':Value} {s s':BS} {f:Ed} {pins sc:Value} {cs cs':Array Value} {w w1 w':World}
theorem not_fp {vs:List Int} {lg:List Acc} (h:Bank B w p cb lv vs lg) (hg:Blk w g t cs) (h1:t≠147) (h2:t≠152) (h3:t≠89):¬FP p cb lv g:=by
 rintro (e | e | e)
 ·exact hg.ne h.hp h1 e
 ·exact hg.ne h.hc h2 e
 ·exact hg.own h.hl h3 e
theorem eafter {n:Nat} (h:EpochM B w p cb qb lv s f pins sc) (hq:Blk w g t cs) (hs:BStep B (w.drewN n) w1 p cb lv s') (h1:t≠147:=by decide) (h2:t≠152:=by decide) (h3:t≠89:=by decide) :
  ∃lv',Bank B w1 p cb lv' s'.vs s'.lg/\Ch (FP p cb lv) w w1/\Fresh w lv lv'/\Blk w1 qb 200 (edCells p f pins sc)/\Blk w1 g t cs:=by
 obtain ⟨lv',hb,hc,hf⟩:=hs
 have c1:Ch (FP p cb lv) w w1:=hc.ofDrewN
 exact ⟨lv',hb,c1,hf,c1.blk h.fd (not_fp h.b h.fd (by decide) (by decide) (by decide)),c1.blk hq (not_fp h.b hq h1 h2 h3)⟩
theorem EdOk.of (h:EdOk s f) (hl:s'.vs.length=s.vs.length):EdOk s' f:=⟨by rw [hl];exact h.e,h.n,by rw [hl];exact h.s⟩
theorem eres_close (h:EpochM B w p cb qb lv s f pins sc) (hb1:Bank B w1 p cb lv' s'.vs s'.lg) (hc1:Ch (FP p cb lv) w w1) (hf1:Fresh w lv lv') (hfd:Blk w1 qb 200 (edCells p f pins sc)) (hqd:Blk w1 g t cs) (hl:s'.vs.length=s.vs.length)
  (c2:Ch (fun b=>b=g) w1 w') (hq':Blk w' g t cs') (h1:t≠147:=by decide) (h2:t≠152:=by decide) (h3:t≠89:=by decide) (h4:t≠200:=by decide) :
  ERes B p cb qb g t lv f pins sc s' cs' w (.returned (.tuple #[])) w':=by
 have n1:=not_fp hb1 hqd h1 h2 h3
 refine ⟨rfl,lv',⟨hb1.ch c2 (fun e=>n1 (.inl e.symm)) (fun e=>n1 (.inr (.inl e.symm))) (fun k hk e=>n1 (.inr (.inr (by rw [<-e];exact hk)))),c2.blk hfd (fun e=>hqd.ne hfd h4 e.symm),h.ok.of hl,h.bf⟩,hq',?_,hf1⟩
 exact (hc1.mono fun _ _ h=>.inl h).trans c2 (fun _ _ h=>.inr h)
theorem slot_lt (h:EdOk s f) {i:Nat} (hi:i < f.n):(f.slot i:Int)=f.sl+i/\f.slot i < s.vs.length:=by
 have:=h.s i hi
 unfold Ed.slot
 omega
end
def SetOp (g:Nat) (t:TypeId) (cs:Array Value) (u v:Value) (w:World) (e:Ending) (w':World):Prop:=
 e=.returned (.tuple #[])/\Blk w' g t ((cs.setIfInBounds 2 u).setIfInBounds 3 v)/\Ch (fun b=>b=g) w w'
theorem setop_of {g:Nat} {t:TypeId} {cs:Array Value} {w:World} (h:Blk w g t cs) (u v:Value):SetOp g t cs u v w (.returned (.tuple #[])) ((w.setCell ⟨g,2,none⟩ u).setCell ⟨g,3,none⟩ v):=
 ⟨rfl,(h.put 2 u).put 3 v,((Ch.refl (fun b=>b=g) w).set (fun _=>rfl) _).set (fun _=>rfl) _⟩
section
variable (g:Nat) (t:TypeId) (cs:Array Value) (w:World) (h:Blk w g t cs) (u v:Value) (h2:cs[2]?=some u) (h3:cs[3]?=some v)
include h h2 h3
theorem then_any (ph:Int) (F:FuncId):Calls Tryz.prog 125 #[.pointer (some ⟨g,0,none⟩),.int .u8 ph,.func (.func F) #[.pointer (some ⟨g,0,none⟩)] #[]] w (SetOp g t cs (.int .u8 ph) (.func (.func F) #[.pointer (some ⟨g,0,none⟩)] #[]) w):=by
 have a2:w.cell? ⟨g,2,none⟩=some u:=(h.cell 2).trans h2
 have a3:w.cell? ⟨g,3,none⟩=some v:=(h.cell 3).trans h3
 have f2:=h.free 2
 have f3:=h.free 3
 have H:=hid h
 clear h h2 h3
 go_enter Tryz.func125,Tryz.ntmps125
 go_wp2_with fail
 go_end0
 exact setop_of H.out _ _
theorem end_any:Calls Tryz.prog 163 #[.pointer (some ⟨g,0,none⟩)] w (SetOp g t cs (.int .u8 0) .nilFunc w):=by
 have a2:w.cell? ⟨g,2,none⟩=some u:=(h.cell 2).trans h2
 have a3:w.cell? ⟨g,3,none⟩=some v:=(h.cell 3).trans h3
 have f2:=h.free 2
 have f3:=h.free 3
 have H:=hid h
 clear h h2 h3
 go_enter Tryz.func163,Tryz.ntmps163
 go_wp2_with fail
 go_end0
 exact setop_of H.out _ _
end
def ckerr (f:Ed) (t k:Int):Int:=if t < 0\/16<=t then 2 else if k < 0\/(f.n:Int)<=k then 3 else 0
theorem check_e (B p cb qb:Nat) (lv:Value) (s:BS) (f:Ed) (pins sc:Value) (w:World) (h:EpochM B w p cb qb lv s f pins sc) (t k:Int) :
  Calls Tryz.prog 124 #[.pointer (some ⟨qb,0,none⟩),.int .i64 t,.int .i64 k] w fun e w'=>e=.returned (.int .i64 (ckerr f t k))/\w=w':=by
 have g3:w.cell? ⟨qb,3,none⟩=some (.int .i64 f.n):=h.fd.cell 3
 unfold ckerr
 by_cases h1:t < 0
 ·have d1:decide (t < 0)=true:=decide_eq_true h1
  rw [if_pos (.inl h1)]
  go_enter Tryz.func124,Tryz.ntmps124
  go_wp2_with fail
  go_ret
  exact ⟨rfl,rfl⟩
 have d1:decide (t < 0)=false:=decide_eq_false h1
 by_cases h2:16<=t
 ·have d2:decide (16<=t)=true:=decide_eq_true h2
  rw [if_pos (.inr h2)]
  go_enter Tryz.func124,Tryz.ntmps124
  go_wp2_with fail
  go_ret
  exact ⟨rfl,rfl⟩
 have d2:decide (16<=t)=false:=decide_eq_false h2
 rw [if_neg (by omega)]
 by_cases h3:k < 0
 ·have d3:decide (k < 0)=true:=decide_eq_true h3
  rw [if_pos (.inl h3)]
  go_enter Tryz.func124,Tryz.ntmps124
  go_wp2_with fail
  go_ret
  exact ⟨rfl,rfl⟩
 have d3:decide (k < 0)=false:=decide_eq_false h3
 by_cases h4:(f.n:Int)<=k
 ·have d4:decide ((f.n:Int)<=k)=true:=decide_eq_true h4
  rw [if_pos (.inr h4)]
  go_enter Tryz.func124,Tryz.ntmps124
  go_wp2_with fail
  go_ret
  exact ⟨rfl,rfl⟩
 have d4:decide ((f.n:Int)<=k)=false:=decide_eq_false h4
 rw [if_neg (by omega)]
 go_enter Tryz.func124,Tryz.ntmps124
 go_wp2_with fail
 go_ret
 exact ⟨rfl,rfl⟩
section
variable (B p cb qb g:Nat) (lv:Value) (s:BS) (f:Ed) (pins sc:Value) (q:Pn) (w:World) (h:EpochM B w p cb qb lv s f pins sc) (hq:Blk w g 256 (pnCells qb g q)) (ht:0<=q.t/\q.t < 16) (hlen:s.lg.length < 1000000) (hB:B<=w.heap.size)
include h hq ht hlen hB
theorem pn_load:Calls Tryz.prog 126 #[.pointer (some ⟨g,0,none⟩)] w (ERes B p cb qb g 256 lv f pins sc (s.load q.t f.ep) (pnCells qb g { q with seen:=lk s.vs f.ep,ph:=10 }) w):=by
 obtain ⟨a0,a1,a2⟩:=hq.c3
 obtain ⟨-,-,-,-,a4,a5⟩:=hq.c6
 obtain ⟨b0,b1⟩:=h.fd.c2
 have fa5:=hq.free 5
 have hn:=h.b.hn
 have hke:=h.ok.e
 go_enter Tryz.func126,Tryz.ntmps126
 go_wp2_with fail
 refine Mix.rt [1,0,0,0,0,0,0,0,0,0,0,0,0,0,0,0,0,0,0,0,0,0,2,0,0,1,0,0,2] [0,1,2,3,4,5,6,7,8,9,10,11,12,13,14,15,16,17,18,19,20,21,22,23,24,25,26,27,28] ?_
 repeat (first | (refine Mix.zq ?_;go_big_quiet_step (fail);refine wpQuiet_nil ?_) | (refine Mix.zp ?_;go_big_quiet_step (fail);refine wpQuiet_nil ?_))
 refine Mix.ze fun W hW=>?_
 obtain ⟨n1,rfl⟩:=hW
 go_wp2_with fail
 refine (load_ok B p cb lv s q.t (f.ep:Nat) _ (bank_drew h.b n1) ⟨ht.1,ht.2,by omega,by omega⟩ hlen hB).mono ?_
 rintro e w1 ⟨rfl,hs1⟩
 obtain ⟨lv',hb1,hc1,hf1,hfd,hqd⟩:=eafter h hq hs1
 clear a0 a1 a2 a4 a5 b0 b1 fa5
 have a5:w1.cell? ⟨g,5,none⟩=some (.int .u64 q.seen):=hqd.cell 5
 have fa5:=hqd.free 5
 have Hb1:=hid hb1
 have Hc1:=hid hc1
 have Hf1:=hid hf1
 have Hfd:=hid hfd
 have Hqd:=hid hqd
 clear hs1 hb1 hc1 hf1 hfd hqd
 rw [Int.toNat_natCast]
 go_wp2_with fail
 repeat (first | (refine Mix.zq ?_;go_big_quiet_step (fail);refine wpQuiet_nil ?_) | (refine Mix.zp ?_;go_big_quiet_step (fail);refine wpQuiet_nil ?_))
 refine Mix.ze fun W2 hW2=>?_
 obtain ⟨n2,rfl⟩:=hW2
 go_wp2_with fail
 intro n3
 go_wp2_with fail
 have k2:=((Hqd.out.drewN n2).put 5 (.int .u64 (lk s.vs f.ep))).drewN n3
 refine (then_any g 256 _ _ k2 (.int .u8 q.ph) (pnDo g q.ph) rfl rfl 10 146).mono ?_
 rintro e w3 ⟨rfl,k3,c3⟩
 go_wp2_with fail
 go_end0
 exact eres_close h Hb1.out Hc1.out Hf1.out Hfd.out Hqd.out rfl ((((Ch.refl (fun b=>b=g) w1).drewN n2).set (fun _=>rfl) _).drewN n3 |>.trans c3 (fun _ _ h=>h)) k3
theorem pn_ann (hs:q.slot < f.n):Calls Tryz.prog 146 #[.pointer (some ⟨g,0,none⟩)] w (ERes B p cb qb g 256 lv f pins sc (s.store q.t (f.slot q.slot:Nat) (w64 (q.seen+1))) (pnCells qb g { q with ph:=0 }) w):=by
 obtain ⟨a0,a1,a2⟩:=hq.c3
 obtain ⟨-,-,-,-,a4,a5⟩:=hq.c6
 obtain ⟨b0,b1,b2⟩:=h.fd.c3
 have hn:=h.b.hn
 obtain ⟨hk1,hk2⟩:=slot_lt h.ok hs
 have hwr:IntKind.i64.wrap (f.sl+(q.slot:Int))=(f.slot q.slot:Int):=by rw [hk1];exact IntWalk.i64_in _ (by omega)
 have hw0:IntKind.u64.wrap (q.seen+1)=w64 (q.seen+1):=w64_wrap _
 have hbd0:=w64_bd (q.seen+1)
 obtain ⟨t1,ht1⟩:∃t1,t1=w64 (q.seen+1):=⟨_,rfl⟩
 rw [<-ht1] at hw0 hbd0 |-
 obtain ⟨k,hk⟩:∃k,k=f.slot q.slot:=⟨_,rfl⟩
 rw [<-hk] at hk2 hwr |-
 have Hbd:=hid hbd0
 clear ht1 hk hk1 hbd0 hs
 go_enter Tryz.func146,Tryz.ntmps146
 go_wp2_with fail
 refine Mix.rt [0,0,0,0,0,0,0,0,0,0,0,0,0,0,0,0,0,0,0,0,0,0,0,0,0,0,0,0,0,0,0,2] [0,1,2,3,4,5,6,7,8,9,10,11,12,13,14,15,16,17,18,19,20,21,22,23,24,25,26,27,28,29,30,31] ?_
 repeat (first | (refine Mix.zq ?_;go_big_quiet_step (fail);refine wpQuiet_nil ?_) | (refine Mix.zp ?_;go_big_quiet_step (fail);refine wpQuiet_nil ?_))
 refine Mix.ze fun W hW=>?_
 obtain ⟨n1,rfl⟩:=hW
 go_wp2_with fail
 refine (store_ok B p cb lv s q.t (k:Nat) t1 _ (bank_drew h.b n1) ⟨ht.1,ht.2,by omega,by omega⟩ hlen hB Hbd.out).mono ?_
 rintro e w1 ⟨rfl,hs1⟩
 obtain ⟨lv',hb1,hc1,hf1,hfd,hqd⟩:=eafter h hq hs1
 clear a0 a1 a2 a4 a5 b0 b1 b2 hs1 hwr hw0
 have Hb1:=hid hb1
 have Hc1:=hid hc1
 have Hf1:=hid hf1
 have Hfd:=hid hfd
 have Hqd:=hid hqd
 clear hb1 hc1 hf1 hfd hqd
 go_wp2_with fail
 intro n2
 go_wp2_with fail
 refine (end_any g 256 _ _ (Hqd.out.drewN n2) (.int .u8 q.ph) (pnDo g q.ph) rfl rfl).mono ?_
 rintro e w3 ⟨rfl,k3,c3⟩
 go_wp2_with fail
 go_end0
 exact eres_close h Hb1.out Hc1.out Hf1.out Hfd.out Hqd.out (List.length_set ..) (((Ch.refl (fun b=>b=g) w1).drewN n2).trans c3 (fun _ _ h=>h)) k3
end
section
variable {B p cb qb g:Nat} {t:TypeId} {lv lv':Value} {s s':BS} {f:Ed} {pins sc:Value} {cs cs':Array Value} {w w1 w2 w':World} {e:Ending}
def EStep (B p cb qb g:Nat) (t:TypeId) (lv:Value) (f:Ed) (pins sc:Value) (s':BS) (cs:Array Value) (ph:Int) (b:Bool) (w:World) (e:Ending) (w':World):Prop:=
 e=.returned (.tuple #[.int .u8 ph,.bool b])/\∃lv',EpochM B w' p cb qb lv' s' f pins sc/\Blk w' g t cs/\Ch (fun b=>FP p cb lv b\/b=g) w w'/\Fresh w lv lv'
end
section
end
section
end
theorem os_load (B p cb qb g:Nat) (t:TypeId) (lv:Value) (s':BS) (f:Ed) (pins sc:Value) (cs cs':Array Value) (ph:Int) (w:World) (hq:Blk w g t cs) (h2:cs[2]?=some (.int .u8 ph)) (h3:cs[3]?=some (.func (.func 126) #[.pointer (some ⟨g,0,none⟩)] #[]))
  (hF:Calls Tryz.prog 126 #[.pointer (some ⟨g,0,none⟩)] w (ERes B p cb qb g t lv f pins sc s' cs' w)) (h3':cs'[3]?=some (.func (.func 146) #[.pointer (some ⟨g,0,none⟩)] #[])) :
  Calls Tryz.prog 147 #[.pointer (some ⟨g,0,none⟩)] w (EStep B p cb qb g t lv f pins sc s' cs' ph false w):=by
 have hd:∀W:World,(binOp .eql 1 (.func (.func 146) #[.pointer (some ⟨g,0,none⟩)] #[]) .nilFunc).run Tryz.prog W=.ok (.bool false) W:=fun W=>by kernel_rfl
 have a2:w.cell? ⟨g,2,none⟩=some (.int .u8 ph):=(hq.cell 2).trans h2
 have a3:w.cell? ⟨g,3,none⟩=some (.func (.func 126) #[.pointer (some ⟨g,0,none⟩)] #[]):=(hq.cell 3).trans h3
 have hfn:∀W:World,(binOp .neq 1 (.func (.func 126) #[.pointer (some ⟨g,0,none⟩)] #[]) .nilFunc).run Tryz.prog W=.ok (.bool true) W:=fun W=>by kernel_rfl
 have HF:=hid hF
 have H3':=hid h3'
 clear hq h2 h3 hF h3'
 go_enter Tryz.func147,Tryz.ntmps147
 go_wp2_with fail
 refine HF.out.mono ?_
 rintro e w1 ⟨rfl,lv',hM,hB,hc,hf⟩
 have a3':w1.cell? ⟨g,3,none⟩=some (.func (.func 146) #[.pointer (some ⟨g,0,none⟩)] #[]):=(hB.cell 3).trans H3'.out
 have HM:=hid hM
 have HB:=hid hB
 have HC:=hid hc
 have HFr:=hid hf
 clear a2 a3 hM hB hc hf
 go_wp2_with fail
 go_quiet (fail)
 go_wp2_with fail
 go_ret2
 exact ⟨rfl,lv',HM.out.drewN nq,HB.out.drewN nq,HC.out.drewN nq,HFr.out⟩
theorem os_ann (B p cb qb g:Nat) (t:TypeId) (lv:Value) (s':BS) (f:Ed) (pins sc:Value) (cs cs':Array Value) (ph:Int) (w:World) (hq:Blk w g t cs) (h2:cs[2]?=some (.int .u8 ph)) (h3:cs[3]?=some (.func (.func 146) #[.pointer (some ⟨g,0,none⟩)] #[]))
  (hF:Calls Tryz.prog 146 #[.pointer (some ⟨g,0,none⟩)] w (ERes B p cb qb g t lv f pins sc s' cs' w)) (h3':cs'[3]?=some (.nilFunc)) :
  Calls Tryz.prog 147 #[.pointer (some ⟨g,0,none⟩)] w (EStep B p cb qb g t lv f pins sc s' cs' ph true w):=by
 have hd:∀W:World,(binOp .eql 1 (.nilFunc) .nilFunc).run Tryz.prog W=.ok (.bool true) W:=fun W=>by kernel_rfl
 have a2:w.cell? ⟨g,2,none⟩=some (.int .u8 ph):=(hq.cell 2).trans h2
 have a3:w.cell? ⟨g,3,none⟩=some (.func (.func 146) #[.pointer (some ⟨g,0,none⟩)] #[]):=(hq.cell 3).trans h3
 have hfn:∀W:World,(binOp .neq 1 (.func (.func 146) #[.pointer (some ⟨g,0,none⟩)] #[]) .nilFunc).run Tryz.prog W=.ok (.bool true) W:=fun W=>by kernel_rfl
 have HF:=hid hF
 have H3':=hid h3'
 clear hq h2 h3 hF h3'
 go_enter Tryz.func147,Tryz.ntmps147
 go_wp2_with fail
 refine HF.out.mono ?_
 rintro e w1 ⟨rfl,lv',hM,hB,hc,hf⟩
 have a3':w1.cell? ⟨g,3,none⟩=some (.nilFunc):=(hB.cell 3).trans H3'.out
 have HM:=hid hM
 have HB:=hid hB
 have HC:=hid hc
 have HFr:=hid hf
 clear a2 a3 hM hB hc hf
 go_wp2_with fail
 go_quiet (fail)
 go_wp2_with fail
 go_ret2
 exact ⟨rfl,lv',HM.out.drewN nq,HB.out.drewN nq,HC.out.drewN nq,HFr.out⟩
section
variable (B p cb qb g:Nat) (lv:Value) (s:BS) (f:Ed) (pins sc:Value) (q:Pn) (w:World) (h:EpochM B w p cb qb lv s f pins sc) (hq:Blk w g 256 (pnCells qb g q)) (ht:0<=q.t/\q.t < 16) (hlen:s.lg.length < 1000000) (hB:B<=w.heap.size)
include h hq ht hlen hB
theorem pn_step9 (hph:q.ph=9):Calls Tryz.prog 127 #[.pointer (some ⟨g,0,none⟩)] w (EStep B p cb qb g 256 lv f pins sc (s.load q.t f.ep) (pnCells qb g { q with seen:=lk s.vs f.ep,ph:=10 }) q.ph false w):=by
 have C0:=os_load B p cb qb g 256 lv _ f pins sc (pnCells qb g q) (pnCells qb g { q with seen:=lk s.vs f.ep,ph:=10 }) q.ph w hq rfl (by show some (pnDo g q.ph)=_;rw [hph];rfl) (pn_load B p cb qb g lv s f pins sc q w h hq ht hlen hB) rfl
 have C:=hid C0
 clear C0 hph
 try clear E
 try clear h1
 try clear h0
 go_enter Tryz.func127,Tryz.ntmps127
 go_wp2_with fail
 refine C.out.mono ?_
 rintro e w1 ⟨rfl,k⟩
 go_wp2_with fail
 go_ret2
 exact ⟨rfl,k⟩
theorem pn_step10 (hph:q.ph=10) (hs:q.slot < f.n):Calls Tryz.prog 127 #[.pointer (some ⟨g,0,none⟩)] w (EStep B p cb qb g 256 lv f pins sc (s.store q.t (f.slot q.slot:Nat) (w64 (q.seen+1))) (pnCells qb g { q with ph:=0 }) q.ph true w):=by
 have C0:=os_ann B p cb qb g 256 lv _ f pins sc (pnCells qb g q) (pnCells qb g { q with ph:=0 }) q.ph w hq rfl (by show some (pnDo g q.ph)=_;rw [hph];rfl) (pn_ann B p cb qb g lv s f pins sc q w h hq ht hlen hB hs) rfl
 have C:=hid C0
 clear C0 hph
 try clear E
 try clear h1
 try clear h0
 go_enter Tryz.func127,Tryz.ntmps127
 go_wp2_with fail
 refine C.out.mono ?_
 rintro e w1 ⟨rfl,k⟩
 go_wp2_with fail
 go_ret2
 exact ⟨rfl,k⟩
end
section
end
def pinV (o:Option Nat):Value:=.pointer (o.map fun g=>⟨g,0,none⟩)
def pinsA (ps:List (Option Nat)):Array Value:=(ps.map pinV).toArray
theorem pinsA_at {ps:List (Option Nat)} {k:Nat} {o:Option Nat} (h:ps[k]?=some o):(pinsA ps)[k]?=some (pinV o):=by simp [pinsA,h]
theorem pinsA_set (ps:List (Option Nat)) (k:Nat) (o:Option Nat):(pinsA ps).setIfInBounds k (pinV o)=pinsA (ps.set k o):=by simp [pinsA,List.map_set]
section
variable (B p cb qb pb:Nat) (lv:Value) (s:BS) (f:Ed) (sc:Value) (ps:List (Option Nat)) (w:World) (h:EpochM B w p cb qb lv s f (.slice (some ⟨pb,0,none⟩) f.n f.n) sc) (hp:Blk w pb 109 (pinsA ps)) (hl:ps.length=f.n) (t:Int)
include h hp hl
def PnBegun (B p cb qb pb:Nat) (lv:Value) (s:BS) (f:Ed) (sc:Value) (ps:List (Option Nat)) (k:Nat) (t:Int) (w:World) (e:Ending) (w':World):Prop:=
 ∃g,e=.returned (.tuple #[.pointer (some ⟨g,0,none⟩),.int .i64 0])/\Blk w' g 256 (pnCells qb g ⟨t,k,0,9⟩)/\Blk w' pb 109 (pinsA (ps.set k (some g)))/\Ch (fun b=>b=pb) w w'/\w.heap.size<=g
theorem pin_ok (k:Nat) (hb:ckerr f t k=0) (hk:ps[k]?=some none):Calls Tryz.prog 98 #[.pointer (some ⟨qb,0,none⟩),.int .i64 t,.int .i64 k] w (PnBegun B p cb qb pb lv s f sc ps k t w):=by
 have CK0:=check_e B p cb qb lv s f _ sc w h t k
 rw [hb] at CK0
 have g4:w.cell? ⟨qb,4,none⟩=some (.slice (some ⟨pb,0,none⟩) f.n f.n):=h.fd.cell 4
 have ck:w.cell? ⟨pb,k,none⟩=some (.pointer none):=(hp.cell k).trans (pinsA_at hk)
 have hlt:k < f.n:=by rw [<-hl];exact (List.getElem?_eq_some_iff.1 hk).1
 have H:=hid h
 have HP:=hid hp
 have HK:=hid hk
 clear hb hk h hp hl
 go_enter Tryz.func98,Tryz.ntmps98
 go_wp2_with fail
 refine CK0.mono ?_
 rintro e w1 ⟨rfl,rfl⟩
 clear CK0
 go_wp2_with fail
 refine calls_world fun W hW=>?_
 have k1:Blk W w.heap.size 256 #[.pointer (some ⟨qb,0,none⟩),.int .i64 t,.int .u8 0,.nilFunc,.int .i64 k,.int .u64 0]:=by rw [hW];exact Blk.new w _ _
 have c1:Ch (fun b=>b=pb) w W:=by rw [hW];exact (Ch.refl _ w).alloc _
 have p1:Blk W pb 109 (pinsA ps):=by rw [hW];exact HP.out.alloc _
 have q1:Blk W qb 200 (edCells p f (.slice (some ⟨pb,0,none⟩) f.n f.n) sc):=by rw [hW];exact H.out.fd.alloc _
 have K1:=hid k1
 have C1:=hid c1
 have P1:=hid p1
 have Q1:=hid q1
 clear hW k1 c1 p1 q1 g4 ck
 refine (then_any w.heap.size 256 _ W K1.out (.int .u8 0) .nilFunc rfl rfl 9 126).mono ?_
 rintro e w2 ⟨rfl,k2,c2⟩
 have hne:pb≠w.heap.size:=Nat.ne_of_lt HP.out.lt
 have hnq:qb≠w.heap.size:=Nat.ne_of_lt H.out.fd.lt
 have p2:=c2.blk P1.out hne
 have q2:=c2.blk Q1.out hnq
 have g4:w2.cell? ⟨qb,4,none⟩=some (.slice (some ⟨pb,0,none⟩) f.n f.n):=q2.cell 4
 have ck2:w2.cell? ⟨pb,k,none⟩=some (.pointer none):=(p2.cell k).trans (pinsA_at HK.out)
 have fk2:=p2.free k
 have HP2:=hid p2
 have HK2:=hid k2
 have HC2:=hid c2
 clear p2 q2 k2 c2
 go_wp2_with fail
 go_ret2
 refine ⟨w.heap.size,rfl,HK2.out.far (Ne.symm hne) _,by rw [<-pinsA_set];exact HP2.out.put k _,?_,Nat.le_refl _⟩
 exact ((C1.out.trans HC2.out (fun i hi e=>absurd e (Nat.ne_of_lt hi))).set (fun _=>rfl) _)
def Unpinned (B p cb qb pb:Nat) (lv:Value) (s':BS) (f:Ed) (pins sc:Value) (ps:List (Option Nat)) (k:Nat) (w:World) (e:Ending) (w':World):Prop:=
 e=.returned (.int .i64 0)/\∃lv',EpochM B w' p cb qb lv' s' f pins sc/\Blk w' pb 109 (pinsA (ps.set k none))/\Ch (fun b=>FP p cb lv b\/b=pb) w w'/\Fresh w lv lv'
theorem unpin_ok (hlen:s.lg.length < 1000000) (hB:B<=w.heap.size) (k:Nat) (hb:ckerr f t k=0) (g:Nat) (hk:ps[k]?=some (some g)) (q:Pn) (hg:Blk w g 256 (pnCells qb g q)) (hph:q.ph=0) :
  Calls Tryz.prog 104 #[.pointer (some ⟨qb,0,none⟩),.int .i64 t,.int .i64 k] w (Unpinned B p cb qb pb lv (s.store t (f.slot k:Nat) 0) f (.slice (some ⟨pb,0,none⟩) f.n f.n) sc ps k w):=by
 have CK0:=check_e B p cb qb lv s f _ sc w h t k
 rw [hb] at CK0
 have ht:0<=t/\t < 16:=by
  unfold ckerr at hb
  split at hb
  ·cases hb
  ·omega
 have g4:w.cell? ⟨qb,4,none⟩=some (.slice (some ⟨pb,0,none⟩) f.n f.n):=h.fd.cell 4
 have ck:w.cell? ⟨pb,k,none⟩=some (.pointer (some ⟨g,0,none⟩)):=(hp.cell k).trans (pinsA_at hk)
 have fk:=hp.free k
 have hlt:k < f.n:=by rw [<-hl];exact (List.getElem?_eq_some_iff.1 hk).1
 have a3:w.cell? ⟨g,3,none⟩=some .nilFunc:=(hg.cell 3).trans (by show some (pnDo g q.ph)=_;rw [hph];rfl)
 have hfn:∀W:World,(binOp .neq 1 .nilFunc .nilFunc).run Tryz.prog W=.ok (.bool false) W:=fun W=>by kernel_rfl
 have hn:=h.b.hn
 obtain ⟨hk1,hk2⟩:=slot_lt h.ok hlt
 have hwr:IntKind.i64.wrap (f.sl+(k:Int))=(f.slot k:Int):=by rw [hk1];exact IntWalk.i64_in _ (by omega)
 obtain ⟨m,hm⟩:∃m,m=f.slot k:=⟨_,rfl⟩
 rw [<-hm] at hk2 hwr |-
 have H:=hid h
 have HP:=hid hp
 clear hb hk h hp hl hg hph hm hk1
 go_enter Tryz.func104,Tryz.ntmps104
 go_wp2_with fail
 refine CK0.mono ?_
 rintro e w1 ⟨rfl,rfl⟩
 clear CK0
 have nq:=HP.out.ne H.out.fd (by decide)
 have nq':=Ne.symm nq
 go_wp2_with fail
 clear g4 ck fk a3
 obtain ⟨W,hW⟩:∃W,W=w.setCell ⟨pb,k,none⟩ (.pointer none):=⟨_,rfl⟩
 have p1:Blk W pb 109 (pinsA (ps.set k none)):=by rw [hW,<-pinsA_set];exact HP.out.put k _
 have n1:=not_fp H.out.b HP.out (by decide) (by decide) (by decide)
 have m1:EpochM B W p cb qb lv s f (.slice (some ⟨pb,0,none⟩) f.n f.n) sc:=by
  rw [hW]
  exact H.out.ch ((Ch.refl (fun b=>b=pb) w).set (fun _=>rfl) _) (fun e=>n1 (.inl e.symm)) (fun e=>n1 (.inr (.inl e.symm))) (fun k hk e=>n1 (.inr (.inr (by rw [<-e];exact hk)))) (fun e=>nq e.symm)
 have c1:Ch (fun b=>b=pb) w W:=by rw [hW];exact (Ch.refl (fun b=>b=pb) w).set (fun _=>rfl) _
 obtain ⟨b0,-,b2⟩:=m1.fd.c3
 have P1:=hid p1
 have M1:=hid m1
 have C1:=hid c1
 rw [<-hW]
 clear hW p1 m1 c1
 refine Mix.rt [0,0,0,0,0,0,0,0,0,0,0,2,0] [0,1,2,3,4,5,6,7,8,9,10,11,12] ?_
 repeat (first | (refine Mix.zq ?_;go_big_quiet_step (fail);refine wpQuiet_nil ?_) | (refine Mix.zp ?_;go_big_quiet_step (fail);refine wpQuiet_nil ?_))
 refine Mix.ze fun W2 hW2=>?_
 obtain ⟨n1,rfl⟩:=hW2
 go_wp2_with fail
 refine (store_ok B p cb lv s t (m:Nat) 0 _ (bank_drew M1.out.b n1) ⟨ht.1,ht.2,by omega,by omega⟩ hlen (Nat.le_trans hB C1.out.size) ⟨by decide,by decide⟩).mono ?_
 rintro e w3 ⟨rfl,hs3⟩
 obtain ⟨lv',hb3,hc3,hf3,hfd3,hpd3⟩:=eafter M1.out P1.out hs3
 have m3:EpochM B w3 p cb qb lv' (s.store t (m:Nat) 0) f (.slice (some ⟨pb,0,none⟩) f.n f.n) sc:=⟨hb3,hfd3,M1.out.ok.of (List.length_set ..),M1.out.bf⟩
 have M3:=hid m3
 have P3:=hid hpd3
 have C3:=hid hc3
 have F3:=hid hf3
 clear b0 b2 hs3 hb3 hc3 hf3 hfd3 hpd3 m3
 go_wp2_with fail
 repeat (first | (refine Mix.zq ?_;go_big_quiet_step (fail);refine wpQuiet_nil ?_) | (refine Mix.zp ?_;go_big_quiet_step (fail);refine wpQuiet_nil ?_))
 intro n2
 go_wp2_with fail
 go_ret
 exact ⟨rfl,lv',M3.out.drewN n2,P3.out.drewN n2,((C1.out.mono fun _ _ h=>.inr h).trans C3.out (fun _ _ h=>.inl h)).drewN n2,F3.out.imp id fun h b hb=>Nat.le_trans C1.out.size (h b hb)⟩
end
section
variable (B p cb qb:Nat) (lv:Value) (s:BS) (f:Ed) (pins sc:Value) (w:World) (h:EpochM B w p cb qb lv s f pins sc) (t:Int)
include h
end
section
variable (B p cb qb:Nat) (lv:Value) (s:BS) (f:Ed) (pins sc:Value) (w:World) (h:EpochM B w p cb qb lv s f pins sc) (t:Int)
include h
end
section
variable (qb g:Nat) (w:World)
theorem pn_next (q:Pn) (hq:Blk w g 256 (pnCells qb g q)):Calls Tryz.prog 100 #[.pointer (some ⟨g,0,none⟩)] w fun e w'=>e=.returned (.int .u8 q.ph)/\w=w':=by
 have a2:w.cell? ⟨g,2,none⟩=some (.int .u8 q.ph):=hq.cell 2
 clear hq
 go_enter Tryz.func100,Tryz.ntmps100
 go_wp2_with fail
 go_ret
 exact ⟨rfl,rfl⟩
end
def fzero (p first n:Nat):Array Value:=#[.pointer (some ⟨p,0,none⟩),.int .i64 first,.int .i64 n,.int .u64 0,.int .u64 0,.int .u64 0,.bool false,.bool false]
open Classical in
noncomputable def ferr (vs:List Int) (first n:Int):Int:=
 if n < 1\/64 < n then 2 else if first < 0\/(vs.length:Int) - 4 - n < first then 3 else if (∃j:Nat,(j:Int) < 4+n/\lk vs (first.toNat+j)≠0) then 8 else 0
def FOut (k:Int) (w w':World) (t:TypeId) (cs:Array Value) (e:Ending):Prop:=
 Ch (fun _=>False) w w'/\((k≠0/\e=.returned (.tuple #[.pointer none,.int .i64 k]))\/(k=0/\∃q,w.heap.size<=q/\e=.returned (.tuple #[.pointer (some ⟨q,0,none⟩),.int .i64 0])/\Blk w' q t cs))
theorem ferr_2 {vs:List Int} {first n:Int} (h:n < 1\/64 < n):ferr vs first n=2:=by unfold ferr;rw [if_pos h]
theorem ferr_3 {vs:List Int} {first n:Int} (h:¬(n < 1\/64 < n)) (h2:first < 0\/(vs.length:Int) - 4 - n < first):ferr vs first n=3:=by unfold ferr;rw [if_neg h,if_pos h2]
theorem ferr_8 {vs:List Int} {first n:Nat} (h:1<=n/\n<=64) (h2:first+4+n<=vs.length) (j:Nat) (hj:j < 4+n) (hz:lk vs (first+j)≠0):ferr vs first n=8:=by
 unfold ferr
 rw [if_neg (by omega),if_neg (by omega),if_pos ⟨j,by omega,by rw [Int.toNat_natCast];exact hz⟩]
theorem ferr_0 {vs:List Int} {first n:Nat} (h:1<=n/\n<=64) (h2:first+4+n<=vs.length) (hz:∀j,j < 4+n->lk vs (first+j)=0):ferr vs first n=0:=by
 unfold ferr
 rw [if_neg (by omega),if_neg (by omega),if_neg]
 rintro ⟨j,hj,hb⟩
 rw [Int.toNat_natCast] at hb
 exact hb (hz j (by omega))
theorem fnew_any (B p cb:Nat) (lv:Value) (s:BS) (w:World) (first n:Int) (h:Bank B w p cb lv s.vs s.lg) (hLn:s.vs.length<=4096) :
  Calls Tryz.prog 50 #[.pointer (some ⟨p,0,none⟩),.int .i64 first,.int .i64 n] w fun e w'=>FOut (ferr s.vs first n) w w' 202 (fzero p first.toNat n.toNat) e:=by
 by_cases g1:n < 1
 ·have HQ:=hid (ferr_2 (vs:=s.vs) (first:=first) (.inl g1))
  have d0:decide (n < 1)=true:=decide_eq_true g1
  go_enter Tryz.func50,Tryz.ntmps50
  go_wp2_with fail
  go_ret2
  exact ⟨Ch.refl _ _,.inl ⟨by rw [HQ.out];decide,by rw [HQ.out];rfl⟩⟩
 ·by_cases g2:64 < n
  ·have HQ:=hid (ferr_2 (vs:=s.vs) (first:=first) (.inr g2))
   have d0:decide (n < 1)=false:=decide_eq_false g1
   have d1:decide (64 < n)=true:=decide_eq_true g2
   go_enter Tryz.func50,Tryz.ntmps50
   go_wp2_with fail
   go_ret2
   exact ⟨Ch.refl _ _,.inl ⟨by rw [HQ.out];decide,by rw [HQ.out];rfl⟩⟩
  {
 obtain ⟨n,rfl⟩:=Int.eq_ofNat_of_zero_le (show 0<=n by omega)
 have d0:decide ((n:Int) < 1)=false:=decide_eq_false g1
 have d1:decide ((64:Int) < (n:Int))=false:=decide_eq_false g2
 by_cases g3:first < 0
 ·have HQ:=hid (ferr_3 (vs:=s.vs) (by omega:¬((n:Int) < 1\/64 < (n:Int))) (.inl g3))
  have d2:decide (first < 0)=true:=decide_eq_true g3
  go_enter Tryz.func50,Tryz.ntmps50
  go_wp2_with fail
  refine (values_any B p cb lv s w h).mono ?_
  rintro e w1 ⟨gv,rfl,hval,hc1,hgv⟩
  go_wp2_with fail
  go_ret2
  exact ⟨hc1,.inl ⟨by rw [HQ.out];decide,by rw [HQ.out];rfl⟩⟩
 ·have d2:decide (first < 0)=false:=decide_eq_false g3
  by_cases g4:(s.vs.length:Int) - 4 - (n:Int) < first
  ·have HQ:=hid (ferr_3 (vs:=s.vs) (by omega:¬((n:Int) < 1\/64 < (n:Int))) (.inr g4))
   have d3:decide ((s.vs.length:Int) - 4 - (n:Int) < first)=true:=decide_eq_true g4
   go_enter Tryz.func50,Tryz.ntmps50
   go_wp2_with fail
   refine (values_any B p cb lv s w h).mono ?_
   rintro e w1 ⟨gv,rfl,hval,hc1,hgv⟩
   go_wp2_with fail
   go_ret2
   exact ⟨hc1,.inl ⟨by rw [HQ.out];decide,by rw [HQ.out];rfl⟩⟩
  {
 obtain ⟨first,rfl⟩:=Int.eq_ofNat_of_zero_le (show 0<=first by omega)
 have d3:decide ((s.vs.length:Int) - 4 - (n:Int) < (first:Int))=false:=decide_eq_false g4
 go_enter Tryz.func50,Tryz.ntmps50
 go_wp2_with fail
 refine (values_any B p cb lv s w h).mono ?_
 rintro e w1 ⟨gv,rfl,hval,hc1,hgv⟩
 go_wp2_with fail
 go_loop [10,40] (fun _ i=>∃j:Nat,j<=4+n/\i=.int .i64 j/\∀i,i < j->lk s.vs (first+i)=0) (fun _ i=>4+n - (intOf i).toNat)
 case atStart=>exact ⟨0,Nat.zero_le _,rfl,fun i hi=>absurd hi (Nat.not_lt_zero _)⟩
 case round=>
  obtain ⟨j,hj,rfl,hinv⟩:=hrel
  have Hinv:=hid hinv
  clear hinv
  by_cases hlt:j < 4+n
  {
 have hcell:=(hval.cell (first+j)).trans (u64s_getD s.vs (first+j) (by omega))
 have d5:decide (j < 4+n)=true:=by simpa using hlt
 obtain ⟨z,hz⟩:∃z,z=lk s.vs (first+j):=⟨_,rfl⟩
 rw [<-hz] at hcell
 have Hz:=hid hz
 clear hz
 by_cases hz0:z=0
 ·subst hz0
  go_wp2_with fail
  go_round
  case rel=>exact ⟨j+1,by omega,by go_num,fun i hi=>by
   by_cases hij:i < j
   ·exact Hinv.out i hij
   ·have:i=j:=by omega
    subst this
    exact Hz.out.symm⟩
  case measure=>simp [intOf];omega
 ·have hzb:(z != 0)=true:=by simpa using hz0
  have HQ:=hid (ferr_8 (vs:=s.vs) (first:=first) (n:=n) (by omega) (by omega) j hlt (by rw [<-Hz.out];exact hz0))
  go_wp2_with fail
  go_ret2
  exact ⟨hc1,.inl ⟨by rw [HQ.out];decide,by rw [HQ.out];rfl⟩⟩
 }
  ·have hjn:j=4+n:=by omega
   have HQ:=hid (ferr_0 (vs:=s.vs) (first:=first) (n:=n) (by omega) (by omega) (fun i hi=>Hinv.out i (by omega)))
   clear hjn
   go_wp2_with fail
   go_ret2
   exact ⟨hc1.alloc _,.inr ⟨HQ.out,_,hc1.size,rfl,Blk.new w1 _ (fzero p first n)⟩⟩
 }
 }
theorem kids_in {A:ArA} {w:World} {ns:List An} {st:Int} (h:ArM A w ns st) {i:Nat} {y:An} (hy:ns[i]?=some y):InP Kd.cells 4 w y.kb y.a y.x.ks.length y.x.ks:=h.ks y (List.mem_of_getElem? hy)
theorem get_any (A:ArA) (ns:List An) (st:Int) (i:Nat) (y:An) (w:World) (h:ArM A w ns st) (hy:ns[i]?=some y) (hn:y.x.ks.length<=1000) :
  Calls Tryz.prog 131 #[.pointer (some ⟨A.ab,0,none⟩),.int .u64 (hdl i)] w fun e w'=>∃a c,y.x.ks.length<=c/\e=.returned (.tuple #[y.x.v a y.x.ks.length c,.int .i64 0])/\InP Kd.cells 4 w' (fun b=>w.heap.size<=b) a y.x.ks.length y.x.ks/\Ch (fun _=>False) w w':=by
 have H:=hid h
 have HI:=hid (kids_in h hy)
 have HZ:=hid (h.kn y (List.mem_of_getElem? hy))
 have HY:=hid (show u64At (entsF 0 ns) (hdl i)=some y.v from by have t:=ents_at ns 0 i;rw [Nat.zero_add,hy] at t;exact t)
 obtain ⟨⟨hh,s,ks⟩,ya,yc⟩:=y
 simp only at hn HI HZ HY |-
 simp only [An.v,Nd.v] at HY |-
 have HN:=hid hn
 clear h hy hn
 have a2:w.cell? ⟨A.ab,2,none⟩=some (.map (some A.mb)):=H.out.a.cell 2
 have la:=H.out.a.lt
 have hlk:=run_lookok_u64 (w:=w.alloc (.cells #[.int .i64 0,.string ⟨#[]⟩,.slice none 0 0] 229)) Tryz.underlying162 Tryz.underlying55 (H.out.m.ch ((Ch.refl (fun _=>False) w).alloc _) id) (hdl i) _ (zero_nd _)
 rw [HY.out] at hlk
 simp only [Option.getD_some,Option.isSome_some] at hlk
 go_enter Tryz.func131,Tryz.ntmps131
 go_wp2_with fail
 refine calls_world fun W1 hW1=>?_
 have C1:=hid (show Ch (fun _=>False) w W1 from by rw [hW1];exact ((Ch.refl _ w).alloc _).alloc _)
 have R1:=hid (show Blk W1 w.heap.size 229 #[.int .i64 0,.string ⟨#[]⟩,.slice none 0 0] from by rw [hW1];exact (Blk.new w _ _).alloc _)
 obtain ⟨xb,hxb⟩:∃x,x=w.heap.size+1:=⟨_,rfl⟩
 have X1:=hid (show Blk W1 xb 229 #[.int .i64 hh,.string s,.slice ya ks.length yc] from by rw [hW1,hxb];have t:=Blk.new (w.alloc (.cells #[.int .i64 0,.string ⟨#[]⟩,.slice none 0 0] 229)) 229 #[.int .i64 hh,.string s,.slice ya ks.length yc];simpa using t)
 have nx:w.heap.size < xb:=by omega
 have nx1:w.heap.size≠xb:=Nat.ne_of_lt nx
 have nx2:xb≠w.heap.size:=Ne.symm nx1
 rw [<-hxb]
 clear hW1 hxb hlk a2
 refine (cloneKd_any _ ya ks.length yc ks W1 (HI.out.keep C1.out (fun _ _ _=>id) (fun _ _ h=>h)) (by have:=HN.out;omega) HZ.out).mono ?_
 rintro e w2 ⟨a',c',rfl,hz',hown,hc⟩
 have C2:=hid (C1.out.trans hc (fun _ _ h=>h))
 have R2:=hid (hc.blk R1.out id)
 have X2:=hid (hc.blk X1.out id)
 have OW:=hid hown
 have HCL:=hid (show ks.length<=c' from by obtain ⟨A,cap,hq,hcap⟩:=own_slice hown;injection hq with _ _ h3;rw [h3];exact hcap)
 have L1:=hid (C1.out.size)
 clear hown hc hz'
 obtain ⟨r0,r1,r2⟩:=R2.out.c3
 obtain ⟨s0,s1,s2⟩:=R2.out.f3
 obtain ⟨x0,x1,x2⟩:=X2.out.c3
 have z2:=X2.out.free 2
 go_wp2_with fail
 refine at_world fun WZ hWZ=>?_
 have CZ:=hid (show Ch (fun k=>k=w.heap.size\/k=xb) w2 WZ from by rw [hWZ];exact ((((Ch.refl (fun k=>k=w.heap.size\/k=xb) w2).set (fun _=>.inr rfl) _).set (fun _=>.inl rfl) _).set (fun _=>.inl rfl) _).set (fun _=>.inl rfl) _)
 have BZ:=hid (show Blk WZ w.heap.size 229 #[.int .i64 hh,.string s,.slice a' ks.length c'] from by rw [hWZ];exact (((R2.out.far nx1 _).put 0 _).put 1 _).put 2 _)
 clear hWZ r0 r1 r2 s0 s1 s2 x0 x1 x2 z2
 obtain ⟨t0,t1,t2⟩:=BZ.out.c3
 have hck:Ch (fun _=>False) w WZ:=C2.out.trans CZ.out (fun i hi e=>by rcases e with e | e <;> omega)
 have hin:=InP.ofOwn (cells:=Kd.cells) kd_len rfl OW.out (fun k=>W1.heap.size<=k) (fun k _ h=>h)
 have hin2:=hin.keep (S':=fun k=>w.heap.size<=k) CZ.out (fun k _ h e=>by have h':W1.heap.size<=k:=h;have m1:=X1.out.lt;rcases e with e | e <;> omega) (fun k _ h=>Nat.le_trans L1.out h)
 exact bodyPost_ret (v:=.tuple #[.agg #[.int .i64 hh,.string s,.slice a' ks.length c'],.int .i64 0]) (by simp [results,Tryz.results131,go_sem,t0,t1,t2]) rfl ⟨a',c',HCL.out,rfl,hin2,hck⟩
end Go.Proofs.YtjcdknhejcbpiaaGreat
