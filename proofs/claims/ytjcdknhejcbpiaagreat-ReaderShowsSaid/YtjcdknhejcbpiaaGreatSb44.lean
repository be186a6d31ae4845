/- Lemmas; no condition. -/
import Derived.Test.YtjcdknhejcbpiaaGreatSb43
namespace Go.Proofs.YtjcdknhejcbpiaaGreat
open Go.RowKit
set_option linter.unusedVariables false
set_option linter.unusedSimpArgs false
set_option linter.unusedSectionVars false
def opZ:Array Value:=#[.int .u8 0,.int .i64 0,.int .i64 0,.int .i64 0,.int .u32 0,.int .u8 0,.string ⟨#[]⟩]
section
variable {w0 W:World} {ob n:Nat} {σ:RS} {p:PlS} {y:Ly} {s:ByteArray}
theorem shi_start (h:PlainP σ p y n s):ShI σ p n [s.data.toList]:=by
 refine ⟨h.P,fun i r hr=>?_,⟨h.P.hl,fun k hk=>.inl ⟨?_,?_⟩⟩,h.st,?_⟩
 ·have hl:=h.K.nt
  have hi:=(List.getElem?_eq_some_iff.1 hr).1
  obtain ⟨r',tx,h1,_,_,h4,_⟩:=h.P.rv
  obtain rfl:i=0:=by simp at hl;omega
  have h1':σ.rs[0]?=some r':=h1
  rw [hr] at h1'
  injection h1' with h1'
  have:r.ms=[]:=by rw [h1',<-h4];exact h.nm
  rw [this]
  intro a ha
  cases ha
 ·rw [h.sl,List.getElem?_replicate,if_pos hk]
 ·rw [h.hs,List.getElem?_replicate,if_pos hk]
 ·by_cases e:n=0
  ·exact .inl e
  ·refine .inr (h.P.hp 0 HdV.zero ?_)
   rw [h.hs,List.getElem?_replicate,if_pos (by omega)]
theorem shs_start (h:PlainP σ p y n s) (hs:s.size<=120) (M:Mem w0.heap.size w0 (σ.L w0.heap.size++(boxR []::(p.L w0.heap.size σ.r.sb σ.g n++[blkR ob 26 opZ]))) W):ShS w0 p.g ob n 0 0 opZ W σ [] p [s.data.toList]/\Ph σ p [] n y [s.data.toList] opZ false 0 false:=
 ⟨⟨M,shi_start h,rfl,h.an,by have:=h.nl;omega,rfl,by rw [h.lg];exact Nat.le_refl _,fun tx ht=>by rw [List.mem_singleton.1 ht,dsize];exact hs,rfl⟩,.idle 0 false RsV.zero h.K h.G⟩
end
structure RdyS (w0:World) (pb ob n c k:Nat) (cc:Cop) (W:World) (σ:RS) (bs:List Bx) (p:PlS) (ts:List (List UInt8)) (y:Ly) (pg:Pg) (f hgt st:Nat) (sh:Bool):Prop where
 S:ShS w0 pb ob n c k (opA cc) W σ bs p ts
 K:RnOk σ y n n ts pg.hk
 G:PgAt σ bs n n ts pg
 e:pg.ended=false
 Z:Bz σ p n ts cc sh f pg
 ht:HtOk p cc hgt
 sm:cc.small n
 le:st+f<=bdN hgt cc
section
variable {w0 W W':World} {pb ob n c k f st hgt:Nat} {oa:Array Value} {σ σ':RS} {bs bs':List Bx} {p:PlS} {y:Ly} {ts:List (List UInt8)} {sh:Bool} {cc:Cop} {pg pg':Pg} {hv:Int}
theorem rdy_busy (h:ShS w0 pb ob n c k oa W σ bs p ts) (g:Ph σ p bs n y ts oa true st sh):∃cc pg f hgt,RdyS w0 pb ob n c k cc W σ bs p ts y pg f hgt st sh:=by
 cases g with
 | busy cc pg f hgt _ _ h1 h2 h3 h4 h5 h6 h7 h8 h9=>
  subst h1
  exact ⟨cc,pg,f,hgt,h,h3,h4,h5,h7,h8,h2,h9⟩
theorem rdy_begin (h:ShS w0 pb ob n c k (opA cc) W σ bs p ts) (K:RnOk σ y n n ts none) (hs:cc.small n) (M:Mem w0.heap.size w0 (σ'.L w0.heap.size++(boxR bs'::(p.L w0.heap.size σ.r.sb σ.g n++[blkR ob 26 (opA cc)]))) W') (B:BegP σ y n n ts cc σ' bs'):∃pg f hgt,RdyS w0 pb ob n c k cc W' σ' bs' p ts y pg f hgt 0 p.cl:=by
 obtain ⟨S,e1,e2,_,_,K',pg,G,hk,he,hst⟩:=B
 obtain ⟨hgt,h1,h2⟩:=ht_of h.I K h.tz cc hs
 have hsl:cc≠.acq->cc.slot < n:=fun e=>by
  cases cc with
  | acq=>exact absurd rfl e
  | len k=>exact hs
  | read k a b=>exact hs.1
  | rune k b=>exact hs.1
  | line k b=>exact hs.1
  | mark k b=>exact hs.1
  | seek k a=>exact hs.1
  | next k b=>exact hs.1
  | rel k=>exact hs
 have I':=h.I.same S (by rw [e1]) (by rw [e1]) e2
 have HS:ShS w0 pb ob n c k (opA cc) W' σ' bs' p ts:=⟨p_same M S,I',h.hg,by rw [S.A];exact h.an,by rw [S.ns];exact h.nl,h.tl,by rw [e1];exact h.lg,h.tz,rfl⟩
 by_cases e:cc=.acq
 ·rcases hst with ⟨_,rfl⟩ | ⟨g,_⟩
  ·exact ⟨_,4,hgt,HS,by rw [hk];exact K',G,he,.a4 e rfl,h1,hs,by rw [e];exact Nat.le_refl _⟩
  ·exact absurd e g
 ·obtain ⟨f,hf,Z⟩:=Bz.start K h.I hsl (fun s hs=>h2 s e hs) S e2 hst
  exact ⟨pg,f,hgt,HS,by rw [hk];exact K',G,he,Z,h1,hs,by omega⟩
theorem rdy_step (h:RdyS w0 pb ob n c k cc W σ bs p ts y pg f hgt st sh) (M:Mem w0.heap.size w0 (σ'.L w0.heap.size++(boxR bs::(p.L w0.heap.size σ.r.sb σ.g n++[blkR ob 26 (opA cc)]))) W') (S:Same σ σ') (K':RnOk σ' y n n ts pg'.hk) (G':PgAt σ' bs n n ts pg') (N:Nxt σ σ' n hv pg' pg) :
  (hv=0\/σ'.s.lg.length=σ.s.lg.length)/\st+1<=bdN hgt cc/\
  ((pg'.ended=false/\ShS w0 pb ob n c (k+1) (opA cc) W' σ' bs p ts/\Ph σ' p bs n y ts (opA cc) true (st+1) sh)\/
   (∃r,pg'=.fin r/\WantR p n cc sh r/\HzOk p/\σ'.s.lg.length<=k+1/\
    Mem w0.heap.size w0 (σ'.L w0.heap.size++(boxR bs::(p.L w0.heap.size σ'.r.sb σ'.g n++[blkR ob 26 (opA cc)]))) W'/\ShI σ' (p.done cc r) n ts/\
    ∀W2,Mem w0.heap.size w0 (σ'.L w0.heap.size++(boxR bs::((p.done cc r).L w0.heap.size σ'.r.sb σ'.g n++[blkR ob 26 (opA cc)]))) W2->ShS w0 pb ob n c (k+1) (opA cc) W2 σ' bs (p.done cc r) ts/\∀st' sh',Ph σ' (p.done cc r) bs n y ts (opA cc) false st' sh')):=by
 have hp:=h.Z.pos
 have hl:=h.le
 have hlg:σ'.s.lg.length<=k+1:=by have:=nxt_len N;have:=h.S.lg;omega
 refine ⟨?_,by omega,?_⟩
 ·rcases nxt_acc N with e | e
  ·exact .inl e
  ·exact .inr (by rw [e])
 ·have hrel:∀j,pg=.rel j->j < n:=fun j e=>by
   have G:=h.G
   rw [e] at G
   exact G.2.2.2.2.2.1
  rcases h.Z.step h.S.I h.K hrel S N with ⟨e,f',hf,I',Z'⟩ | ⟨r,e,I',hw⟩
  ·refine .inl ⟨e,⟨p_same M S,I',h.S.hg,by rw [S.A];exact h.S.an,by rw [S.ns];exact h.S.nl,h.S.tl,hlg,h.S.tz,rfl⟩,.busy cc pg' f' hgt _ _ rfl h.sm K' G' e (fun g=>?_) Z' h.ht (by omega)⟩
   rw [g] at Z'
   obtain ⟨g1,g2⟩:=Z'.clos
   have:=h.Z.le4 g2
   omega
  ·subst e
   refine .inr ⟨r,rfl,hw,hz_of h.S.I h.K h.S.tz,hlg,p_same M S,I',fun W2 M2=>⟨⟨M2,I',h.S.hg,by rw [S.A];exact h.S.an,by rw [S.ns];exact h.S.nl,h.S.tl,hlg,h.S.tz,rfl⟩,fun st' sh'=>.idle st' sh' r K' G'⟩⟩
theorem bd_le (cc:Cop) (hs:cc.small n) (hh:hgt<=2):bdN hgt cc<=1000:=by
 have L:∀b,b < 150->max 1 ((hgt+1) * leavesN b)<=1000:=fun b hb=>by
  have h1:leavesN b<=200:=by
   unfold leavesN
   split
   ·omega
   ·split <;> omega
  have h2:(hgt+1) * leavesN b<=3 * 200:=Nat.mul_le_mul (by omega) h1
  exact Nat.max_le.2 ⟨by decide,by omega⟩
 cases cc with
 | read k a b=>exact L b hs.2.2
 | next k b=>exact L b hs.2
 | rune k b=>show hgt+1<=1000;omega
 | line k b=>show hgt+1<=1000;omega
 | acq=>show 4<=1000;decide
 | _=>show 1<=1000;decide
end
end Go.Proofs.YtjcdknhejcbpiaaGreat
