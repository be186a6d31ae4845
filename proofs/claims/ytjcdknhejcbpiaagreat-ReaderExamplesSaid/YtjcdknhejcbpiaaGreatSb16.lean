/- Lemmas; no condition. -/
import Derived.Test.YtjcdknhejcbpiaaGreatSb13
import Derived.Test.YtjcdknhejcbpiaaGreatSb07
set_option maxRecDepth 100000
set_option maxHeartbeats 1000000
namespace Go.Proofs.YtjcdknhejcbpiaaGreat
open Go.RowKit
set_option linter.unusedVariables false
set_option linter.unusedSimpArgs false
theorem ArP.nil:ArP []:=⟨fun y hy=>by simp at hy,fun i y hi=>by simp at hi⟩
theorem arena_new (n:Nat) (g:Int) (h1:1<=n) (h2:n<=16384) (g1:1<=g) (g2:g<=4294967295) (w:World):Calls Tryz.prog 46 #[.int .i64 (n:Int),.int .u64 g] w fun e w'=>∃A:ArA,A.n=n/\A.g=g/\e=.returned (.tuple #[.pointer (some ⟨A.ab,0,none⟩),.int .i64 0])/\ArM A w' [] 0/\Ch (fun _=>False) w w'/\∀k,A.foot [] k->w.heap.size<=k:=by
 refine (anew_ok n g h1 h2 g1 g2 w).mono ?_
 rintro e w' ⟨ab,lb,mb,rfl,hA,hC,z1,z2,z3,q0,q1,q2,hf,y0,y1,y2⟩
 have e:fillA (fun _=>Value.int .u8 1) (.int .u8 0) n 0=fillA (fun _=>.int .u8 0) (.int .u8 0) n n:=by simp [fillA]
 have t:=hf.b1
 rw [<-e] at t
 refine ⟨⟨ab,lb,mb,q0,q1,q2,n,g⟩,rfl,rfl,rfl,⟨hA.a,hf.l,hf.b0,t,hf.b2,⟨[],rfl,hA.m⟩,Nat.zero_le _,fun y hy=>by simp at hy,fun y hy=>by simp at hy,fun y hy=>by simp at hy⟩,hC,?_⟩
 rintro k ((rfl | rfl | rfl | rfl) | rfl | rfl | ⟨y,hy,_⟩) <;> first | assumption | simp at hy
structure Res where
 holds:World->Prop
 foot:Nat->Prop
 stable:∀{w w':World} {fp:Nat->Prop},holds w->Ch fp w w'->(∀k,foot k->¬fp k)->holds w'
 lt:∀{w:World},holds w->∀k,foot k->k < w.heap.size
def blkR (g:Nat) (t:TypeId) (cs:Array Value):Res where
 holds w:=Blk w g t cs
 foot k:=k=g
 stable h c hn:=c.blk h (hn g rfl)
 lt h k hk:=by rw [hk];exact h.lt
def rowR (B:Nat) (e:TypeId) (size n:Nat) (v:Value) (xs:List Value):Res where
 holds w:=w.ownsRow B e size v n xs
 foot k:=v.ownBlock=some k
 stable h c hn:=c.own h hn
 lt h k hk:=(h.lt k hk).2
structure Mem (B:Nat) (w0:World) (L:List Res) (w:World):Prop where
 each:∀(i:Nat) (r:Res),L[i]?=some r->r.holds w
 apart:∀(i j:Nat) (r s:Res),L[i]?=some r->L[j]?=some s->i≠j->∀k,r.foot k->¬s.foot k
 low:∀(i:Nat) (r:Res),L[i]?=some r->∀k,r.foot k->B<=k
 bel:Below B w0 w
 bz:B<=w.heap.size
theorem Ch.belowB {fp:Nat->Prop} {w w':World} {B:Nat} (c:Ch fp w w') (hB:B<=w.heap.size) (hf:∀k,k < w.heap.size->fp k->B<=k):Below B w w':=
 ⟨c.os,c.tape,c.output,c.size,fun k hk=>c.block k (by omega) (fun e=>by have:=hf k (by omega) e;omega)⟩
section
variable {B:Nat} {w0 w w':World} {L:List Res} {fp:Nat->Prop}
theorem Mem.keep (h:Mem B w0 L w) (c:Ch (fun _=>False) w w'):Mem B w0 L w':=
 ⟨fun i r hi=>r.stable (h.each i r hi) c (fun _ _=>id),h.apart,h.low,h.bel.trans (c.belowB h.bz (fun _ _ e=>e.elim)),Nat.le_trans h.bz c.size⟩
theorem Mem.drewN (h:Mem B w0 L w) (n:Nat):Mem B w0 L (w.drewN n):=h.keep ((Ch.refl _ w).drewN n)
theorem Mem.alloc (h:Mem B w0 L w) (o:Obj):Mem B w0 L (w.alloc o):=h.keep ((Ch.refl _ w).alloc o)
theorem mem_set {L:List Res} {i j:Nat} {r s:Res} (h:(L.set i r)[j]?=some s):(j=i/\s=r/\i < L.length)\/(j≠i/\L[j]?=some s):=by
 rw [List.getElem?_set] at h
 split at h
 ·rename_i e
  split at h
  ·rename_i hl
   exact .inl ⟨e.symm,(Option.some.inj h).symm,hl⟩
  ·cases h
 ·rename_i e
  exact .inr ⟨fun e'=>e e'.symm,h⟩
theorem Mem.upd (h:Mem B w0 L w) {i:Nat} {r:Res} (r':Res) (hi:L[i]?=some r) (c:Ch fp w w') (hfp:∀k,k < w.heap.size->fp k->r.foot k) (h':r'.holds w') (hf:∀k,r'.foot k->r.foot k\/w.heap.size<=k):Mem B w0 (L.set i r') w':=by
 have hk:∀(j:Nat) (s:Res),L[j]?=some s->j≠i->∀k,s.foot k->¬fp k:=fun j s hj hne k hs hp=>h.apart i j r s hi hj (Ne.symm hne) k (hfp k (s.lt (h.each j s hj) k hs) hp) hs
 have hr':∀(j:Nat) (s:Res),L[j]?=some s->j≠i->∀k,r'.foot k->¬s.foot k:=fun j s hj hne k hr hs=>by
  rcases hf k hr with e | e
  ·exact h.apart i j r s hi hj (Ne.symm hne) k e hs
  ·have:=s.lt (h.each j s hj) k hs
   omega
 refine ⟨fun j s hj=>?_,fun j j' s s' hj hj' hne k hs hs'=>?_,fun j s hj k hs=>?_,h.bel.trans (c.belowB h.bz (fun k hk hp=>h.low i r hi k (hfp k hk hp))),Nat.le_trans h.bz c.size⟩
 ·rcases mem_set hj with ⟨rfl,rfl,_⟩ | ⟨hne,hj⟩
  ·exact h'
  ·exact s.stable (h.each j s hj) c (hk j s hj hne)
 ·rcases mem_set hj with ⟨rfl,rfl,_⟩ | ⟨hn1,hj1⟩
  ·rcases mem_set hj' with ⟨rfl,_,_⟩ | ⟨hn2,hj2⟩
   ·exact hne rfl
   ·exact hr' j' s' hj2 hn2 k hs hs'
  ·rcases mem_set hj' with ⟨rfl,rfl,_⟩ | ⟨hn2,hj2⟩
   ·exact hr' j s hj1 hn1 k hs' hs
   ·exact h.apart j j' s s' hj1 hj2 hne k hs hs'
 ·rcases mem_set hj with ⟨rfl,rfl,_⟩ | ⟨hne,hj⟩
  ·rcases hf k hs with e | e
   ·exact h.low j r hi k e
   ·exact Nat.le_trans h.bz e
  ·exact h.low j s hj k hs
theorem Mem.upd2 (h:Mem B w0 L w) {i j:Nat} {r s:Res} (r' s':Res) (hi:L[i]?=some r) (hj:L[j]?=some s) (hij:i≠j) (c:Ch fp w w') (hfp:∀k,k < w.heap.size->fp k->r.foot k\/s.foot k) (h1:r'.holds w') (h2:s'.holds w')
  (hf1:∀k,r'.foot k->r.foot k\/w.heap.size<=k) (hf2:∀k,s'.foot k->s.foot k):Mem B w0 ((L.set i r').set j s') w':=by
 have hk:∀(m:Nat) (t:Res),L[m]?=some t->m≠i->m≠j->∀k,t.foot k->¬fp k:=fun m t hm hn1 hn2 k ht hp=>by
  rcases hfp k (t.lt (h.each m t hm) k ht) hp with e | e
  ·exact h.apart i m r t hi hm (Ne.symm hn1) k e ht
  ·exact h.apart j m s t hj hm (Ne.symm hn2) k e ht
 have get:∀(m:Nat) (t:Res),((L.set i r').set j s')[m]?=some t->(m=j/\t=s')\/(m≠j/\m=i/\t=r')\/(m≠j/\m≠i/\L[m]?=some t):=fun m t hm=>by
  rcases mem_set hm with ⟨rfl,rfl,_⟩ | ⟨hne,hm⟩
  ·exact .inl ⟨rfl,rfl⟩
  ·rcases mem_set hm with ⟨rfl,rfl,_⟩ | ⟨hn2,hm⟩
   ·exact .inr (.inl ⟨hne,rfl,rfl⟩)
   ·exact .inr (.inr ⟨hne,hn2,hm⟩)
 have old1:∀(m:Nat) (t:Res),L[m]?=some t->m≠i->∀k,r'.foot k->¬t.foot k:=fun m t hm hn k hr ht=>by
  rcases hf1 k hr with e | e
  ·exact h.apart i m r t hi hm (Ne.symm hn) k e ht
  ·have:=t.lt (h.each m t hm) k ht
   omega
 have old2:∀(m:Nat) (t:Res),L[m]?=some t->m≠j->∀k,s'.foot k->¬t.foot k:=fun m t hm hn k hr ht=>h.apart j m s t hj hm (Ne.symm hn) k (hf2 k hr) ht
 have rs:∀k,r'.foot k->¬s'.foot k:=fun k a b=>old1 j s hj (Ne.symm hij) k a (hf2 k b)
 refine ⟨fun m t hm=>?_,fun m m' t t' hm hm' hne k ht ht'=>?_,fun m t hm k ht=>?_,h.bel.trans (c.belowB h.bz (fun k hk hp=>(hfp k hk hp).elim (h.low i r hi k) (h.low j s hj k))),Nat.le_trans h.bz c.size⟩
 ·rcases get m t hm with ⟨rfl,rfl⟩ | ⟨_,rfl,rfl⟩ | ⟨n1,n2,hm⟩
  ·exact h2
  ·exact h1
  ·exact t.stable (h.each m t hm) c (hk m t hm n2 n1)
 ·rcases get m t hm with ⟨rfl,rfl⟩ | ⟨_,rfl,rfl⟩ | ⟨n1,n2,hm1⟩
  ·rcases get m' t' hm' with ⟨rfl,_⟩ | ⟨_,rfl,rfl⟩ | ⟨n3,n4,hm2⟩
   ·exact hne rfl
   ·exact rs k ht' ht
   ·exact old2 m' t' hm2 n3 k ht ht'
  ·rcases get m' t' hm' with ⟨rfl,rfl⟩ | ⟨_,rfl,_⟩ | ⟨n3,n4,hm2⟩
   ·exact rs k ht ht'
   ·exact hne rfl
   ·exact old1 m' t' hm2 n4 k ht ht'
  ·rcases get m' t' hm' with ⟨rfl,rfl⟩ | ⟨_,rfl,rfl⟩ | ⟨n3,n4,hm2⟩
   ·exact old2 m t hm1 n1 k ht' ht
   ·exact old1 m t hm1 n2 k ht' ht
   ·exact h.apart m m' t t' hm1 hm2 hne k ht ht'
 ·rcases get m t hm with ⟨rfl,rfl⟩ | ⟨_,rfl,rfl⟩ | ⟨n1,n2,hm⟩
  ·exact h.low m s hj k (hf2 k ht)
  ·rcases hf1 k ht with e | e
   ·exact h.low m r hi k e
   ·exact Nat.le_trans h.bz e
  ·exact h.low m t hm k ht
theorem mem_app {L:List Res} {j:Nat} {r s:Res} (h:(L++[r])[j]?=some s):(j=L.length/\s=r)\/L[j]?=some s:=by
 rw [List.getElem?_append] at h
 split at h
 ·exact .inr h
 ·have hj:j - L.length=0:=by
   have:=(List.getElem?_eq_some_iff.1 h).1
   simp at this
   omega
  rw [hj] at h
  simp at h
  exact .inl ⟨by omega,h.symm⟩
theorem Mem.add (h:Mem B w0 L w) (r:Res) (c:Ch (fun _=>False) w w') (h':r.holds w') (hf:∀k,r.foot k->w.heap.size<=k):Mem B w0 (L++[r]) w':=by
 have hk:=h.keep c
 have no:∀(j:Nat) (s:Res),L[j]?=some s->∀k,s.foot k->¬r.foot k:=fun j s hj k hs hr=>by
  have:=s.lt (h.each j s hj) k hs
  have:=hf k hr
  omega
 refine ⟨fun j s hj=>?_,fun j j' s s' hj hj' hne k hs hs'=>?_,fun j s hj k hs=>?_,hk.bel,hk.bz⟩
 ·rcases mem_app hj with ⟨_,rfl⟩ | hj
  ·exact h'
  ·exact hk.each j s hj
 ·rcases mem_app hj with ⟨rfl,rfl⟩ | hj1
  ·rcases mem_app hj' with ⟨rfl,_⟩ | hj2
   ·exact hne rfl
   ·exact no j' s' hj2 k hs' hs
  ·rcases mem_app hj' with ⟨rfl,rfl⟩ | hj2
   ·exact no j s hj1 k hs hs'
   ·exact h.apart j j' s s' hj1 hj2 hne k hs hs'
 ·rcases mem_app hj with ⟨_,rfl⟩ | hj
  ·exact Nat.le_trans h.bz (hf k hs)
  ·exact h.low j s hj k hs
theorem Mem.put (h:Mem B w0 L w) {i g:Nat} {t:TypeId} {cs:Array Value} (hi:L[i]?=some (blkR g t cs)) (o:Nat) (u:Value):Mem B w0 (L.set i (blkR g t (cs.setIfInBounds o u))) (w.setCell ⟨g,o,none⟩ u):=
 h.upd (blkR g t (cs.setIfInBounds o u)) hi ((Ch.refl (fun k=>k=g) w).set (fun _=>rfl) u) (fun _ _ e=>e) (Blk.put (h.each i _ hi) o u) (fun _ e=>.inl e)
theorem Mem.app (h:Mem B w0 L w) {i e size n n':Nat} {v v':Value} {xs xs':List Value} (hi:L[i]?=some (rowR B e size n v xs)) (hr:w'.ownsRow B e size v' n' xs') (hg:w.grownBy w' v.ownBlock) (hf:Fresh w v v') :
  Mem B w0 (L.set i (rowR B e size n' v' xs')) w':=by
 refine h.upd (rowR B e size n' v' xs') hi ((Ch.refl (fun k=>v.ownBlock=some k) w).grown hg (fun k hk _=>hk)) (fun _ _ e=>e) hr (fun k hk=>?_)
 rcases hf with e | e
 ·exact .inl (by show v.ownBlock=some k;rw [<-e];exact hk)
 ·exact .inr (e k hk)
end
theorem Mem.of {B:Nat} {w0 w:World} {L:List Res} (h1:∀r ∈ L,r.holds w) (h2:L.Pairwise fun r s=>∀k,r.foot k->¬s.foot k) (h3:∀r ∈ L,∀k,r.foot k->B<=k) (h4:Below B w0 w) (h5:B<=w.heap.size):Mem B w0 L w:=by
 refine ⟨fun i r hi=>h1 r (List.mem_of_getElem? hi),fun i j r s hi hj hij k hk hs=>?_,fun i r hi=>h3 r (List.mem_of_getElem? hi),h4,h5⟩
 have hp:=List.pairwise_iff_getElem.1 h2
 obtain ⟨li,ri⟩:=List.getElem?_eq_some_iff.1 hi
 obtain ⟨lj,rj⟩:=List.getElem?_eq_some_iff.1 hj
 rcases Nat.lt_or_gt_of_ne hij with h | h
 ·exact hp i j li lj h k (by rw [ri];exact hk) (by rw [rj];exact hs)
 ·exact hp j i lj li h k (by rw [rj];exact hs) (by rw [ri];exact hk)
theorem Mem.addK {B:Nat} {w0 w:World} {L:List Res} (h:Mem B w0 L w) (r:Res) (h':r.holds w) (ha:∀(i:Nat) (s:Res),L[i]?=some s->∀k,s.foot k->¬r.foot k) (hl:∀k,r.foot k->B<=k):Mem B w0 (L++[r]) w:=by
 refine ⟨fun j s hj=>?_,fun j j' s s' hj hj' hne k hs hs'=>?_,fun j s hj k hs=>?_,h.bel,h.bz⟩
 ·rcases mem_app hj with ⟨_,rfl⟩ | hj
  ·exact h'
  ·exact h.each j s hj
 ·rcases mem_app hj with ⟨rfl,rfl⟩ | hj1
  ·rcases mem_app hj' with ⟨rfl,_⟩ | hj2
   ·exact hne rfl
   ·exact ha j' s' hj2 k hs' hs
  ·rcases mem_app hj' with ⟨rfl,rfl⟩ | hj2
   ·exact ha j s hj1 k hs hs'
   ·exact h.apart j j' s s' hj1 hj2 hne k hs hs'
 ·rcases mem_app hj with ⟨_,rfl⟩ | hj
  ·exact hl k hs
  ·exact h.low j s hj k hs
theorem Mem.take {B:Nat} {w0 w:World} {L:List Res} (n:Nat) (h:Mem B w0 L w):Mem B w0 (L.take n) w:=by
 have hg:∀(i:Nat) (r:Res),(L.take n)[i]?=some r->L[i]?=some r:=fun i r hi=>by
  rw [List.getElem?_take] at hi
  split at hi
  ·exact hi
  ·cases hi
 exact ⟨fun i r hi=>h.each i r (hg i r hi),fun i j r s hi hj=>h.apart i j r s (hg i r hi) (hg j s hj),fun i r hi=>h.low i r (hg i r hi),h.bel,h.bz⟩
theorem Mem.perm {B:Nat} {w0 w:World} {L L':List Res} (h:Mem B w0 L w) (p:L.Perm L'):Mem B w0 L' w:=by
 refine Mem.of (fun r hr=>?_) ?_ (fun r hr=>?_) h.bel h.bz
 ·obtain ⟨i,hi⟩:=List.getElem?_of_mem (p.mem_iff.2 hr)
  exact h.each i r hi
 ·refine (p.pairwise_iff (fun {x y} hxy k hk hk'=>hxy k hk' hk)).1 ?_
  refine List.pairwise_iff_getElem.2 fun i j hi hj hij k hk=>?_
  exact h.apart i j _ _ (List.getElem?_eq_getElem hi) (List.getElem?_eq_getElem hj) (by omega) k hk
 ·obtain ⟨i,hi⟩:=List.getElem?_of_mem (p.mem_iff.2 hr)
  exact h.low i r hi
theorem Mem.drop {B:Nat} {w0 w:World} {L:List Res} (n:Nat) (h:Mem B w0 L w):Mem B w0 (L.drop n) w:=
 ⟨fun i r hi=>h.each (n+i) r (by rwa [List.getElem?_drop] at hi),fun i j r s hi hj hij=>h.apart (n+i) (n+j) r s (by rwa [List.getElem?_drop] at hi) (by rwa [List.getElem?_drop] at hj) (by omega),fun i r hi=>h.low (n+i) r (by rwa [List.getElem?_drop] at hi),h.bel,h.bz⟩
set_option linter.unusedSectionVars false
theorem latest_any (sb n c:Nat) (A:Option Addr) (w:World) (h:w.cell? ⟨sb,23,none⟩=some (.slice A (n+1) c)) (hn:n < 1000):Calls Tryz.prog 40 #[.pointer (some ⟨sb,0,none⟩)] w fun e w'=>e=.returned (.int .i64 n)/\w=w':=by
 go_enter Tryz.func40,Tryz.ntmps40
 go_wp2_with fail
 go_ret
 exact ⟨rfl,rfl⟩
theorem latest_q (sb n c:Nat) (A:Option Addr) (w:World) (h:w.cell? ⟨sb,23,none⟩=some (.slice A (n+1) c)) (hn:n < 1000) (k:Nat):Calls Tryz.prog 40 #[.pointer (some ⟨sb,0,none⟩)] (w.drewN k) fun e w''=>e=.returned (.int .i64 n)/\∃m,w''=w.drewN m:=
 Calls.quiet_of_same ((latest_any sb n c A (w.drewN k) h hn).mono fun e w' ⟨he,hw⟩=>⟨he,hw.symm⟩)
def PubRes (B sb:Nat) (cs:Array Value) (rv:Value) (n:Nat) (xs:List Value) (x:Rv) (ms:List Mk) (ds:List Pc) (w:World) (e:Ending) (w':World):Prop:=
 e=.returned (.tuple #[.int .i64 n,.int .i64 0])/\∃mv dv rv',Blk w' sb 125 (cs.setIfInBounds 23 rv')/\w'.ownsRow B 104 8 rv' (n+1) (xs++rvCells x mv dv)/\w'.ownsRow w.heap.size 160 3 mv ms.length (mkCells ms)/\w'.ownsRow w.heap.size 217 3 dv ds.length (pcCells ds)/\
  Ch (fun k=>k=sb\/rv.ownBlock=some k) w w'/\Fresh w rv rv'
theorem publish_any (B sb:Nat) (cs:Array Value) (A:Option Addr) (cap n:Nat) (xs:List Value) (last:Int) (x:Rv) (am ad:Option Addr) (n1 c1 n2 c2:Nat) (ms:List Mk) (ds:List Pc) (w:World)
  (hS:Blk w sb 125 cs) (h23:cs[23]?=some (.slice A (n+1) cap)) (hown:w.ownsRow B 104 8 (.slice A (n+1) cap) (n+1) xs) (hlast:xs[n * 8]?=some (.int .i64 last)) (hx:last < x.num) (hn:n < 900) (hB:B<=w.heap.size)
  (hm:InMk w am n1 ms) (hd:InPc w ad n2 ds) (zm:am=none->c1=0) (zd:ad=none->c2=0) (h1:n1 < 1000) (h2:n2 < 1000) :
  Calls Tryz.prog 73 #[.pointer (some ⟨sb,0,none⟩),.agg #[.int .i64 x.num,.int .u64 x.at',.int .i64 x.h,.int .i64 x.b,.int .i64 x.r,.int .i64 x.l,.slice am n1 c1,.slice ad n2 c2]] w (PubRes B sb cs (.slice A (n+1) cap) (n+1) xs x ms ds w):=by
 obtain ⟨g,cap',hv,hcap,hcm,hBg,hgl⟩:=own_form hown (by omega)
 injection hv with hA _ hc'
 subst hA hc'
 have k23:w.cell? ⟨sb,23,none⟩=some (.slice (some ⟨g,0,none⟩) (n+1) cap):=(hS.cell 23).trans h23
 have kl:w.cell? ⟨g,n * 8,none⟩=some (.int .i64 last):=by
  have:=hown.cells (g:=g) rfl (n * 8) _ hlast
  rw [addr_add0] at this
  exact this
 have dl:decide (x.num<=last)=false:=decide_eq_false (by omega)
 have hsl:=hS.lt
 have dn:decide (n < n+1)=true:=decide_eq_true (by omega)
 have dn':decide ((n:Int) < ((n+1:Nat):Int))=true:=decide_eq_true (by omega)
 have H:=hid hown
 have HS:=hid hS
 have HM:=hid hm
 have HD:=hid hd
 have HL:=hid hlast
 have H23:=hid h23
 clear hown hS hm hd hlast h23
 go_enter Tryz.func73,Tryz.ntmps73
 go_wp2_with fail
 refine at_world fun W1 hW1=>?_
 have cW:Ch (fun _=>False) w W1:=by rw [hW1];exact (Ch.refl _ w).alloc _
 have bB:Blk W1 w.heap.size 104 #[.int .i64 x.num,.int .u64 x.at',.int .i64 x.h,.int .i64 x.b,.int .i64 x.r,.int .i64 x.l,.slice am n1 c1,.slice ad n2 c2]:=by rw [hW1];exact Blk.new w _ _
 have HW:=hid cW
 have HB:=hid bB
 clear hW1 cW bB k23 kl
 have k23:W1.cell? ⟨sb,23,none⟩=some (.slice (some ⟨g,0,none⟩) (n+1) cap):=(HW.out.blk HS.out id).cell 23 |>.trans H23.out
 have kl:W1.cell? ⟨g,n * 8,none⟩=some (.int .i64 last):=by
  have:=(HW.out.own H.out (fun _ _=>id)).cells (g:=g) rfl (n * 8) _ HL.out
  rw [addr_add0] at this
  exact this
 have k0:W1.cell? ⟨w.heap.size,0,none⟩=some (.int .i64 x.num):=HB.out.cell 0
 go_quiet ((go_at_call 40;exact latest_q sb n cap (some ⟨g,0,none⟩) W1 k23 (by omega) _))
 go_wp2_with fail
 obtain ⟨i0,hi,hz0,hz1,hz2⟩:=info_parts (show (Tryz.prog.info? 104).map (fun i=>(i.zero,i.size,i.bytes))=some (some (Value.agg #[.int .i64 0,.int .u64 0,.int .i64 0,.int .i64 0,.int .i64 0,.int .i64 0,.slice none 0 0,.slice none 0 0]),8,96) by kernel_rfl)
 obtain ⟨S,hS⟩:∃S:Nat->Prop,∀k,S k↔k=sb:=⟨_,fun _=>Iff.rfl⟩
 have hSp:Mix.Has S sb:=(hS _).2 rfl
 have HSS:=hid hS
 clear hS
 refine Mix.rg S [1,1,1,1,4,0,3,3,2,0,0,2] [0,1,2,3,4,5,6,7,8,9,10,11] ?_
 refine Mix.mix_world fun W2 hW2=>?_
 have cW2:Ch (fun _=>False) w W2:=by rw [hW2];first | exact HW.out | exact HW.out.drewN _
 have bB2:Blk W2 w.heap.size 104 #[.int .i64 x.num,.int .u64 x.at',.int .i64 x.h,.int .i64 x.b,.int .i64 x.r,.int .i64 x.l,.slice am n1 c1,.slice ad n2 c2]:=by rw [hW2];first | exact HB.out | exact HB.out.drewN _
 have HW2:=hid cW2
 clear hW2 k23 kl k0
 have k23:W2.cell? ⟨sb,23,none⟩=some (.slice (some ⟨g,0,none⟩) (n+1) cap):=(HW2.out.blk HS.out id).cell 23 |>.trans H23.out
 obtain ⟨b0,b1,b2,b3,b4,b5,b6,b7⟩:=bB2.c8
 clear bB2 cW2
 repeat ((first | refine Mix.zq ?_ | refine Mix.zp ?_ | refine Mix.zs ?_);go_big_quiet_step (fail);refine wpQuiet_nil ?_)
 refine Mix.za fun W3 hW3=>?_
 obtain ⟨k1,rfl⟩:=hW3
 go_wp2_with fail
 refine (copied_any x am ad n1 c1 n2 c2 ms ds (W2.drewN k1) (HM.out.keep (HW2.out.drewN k1) (fun _ _ _ _=>id)) (HD.out.keep (HW2.out.drewN k1) (fun _ _ _ _=>id)) zm zd h1 h2).mono ?_
 rintro e w4 ⟨mv,dv,rfl,ho1,ho2,hc⟩
 obtain ⟨ma,mc,hmv,_⟩:=own_slice ho1
 obtain ⟨da,dc,hdv,_⟩:=own_slice ho2
 subst hmv hdv
 have c4:Ch (fun _=>False) W2 w4:=hc.ofDrewN
 have hkeep:Mix.Keep S W2 w4:=fun k hk=>by rw [(HSS.out k).1 hk];exact c4.block _ (HW2.out.blk HS.out id).lt id
 have HO1:=hid (own_mono ho1 (show w.heap.size<=(W2.drewN k1).heap.size from HW2.out.size))
 have HO2:=hid (own_mono ho2 (show w.heap.size<=(W2.drewN k1).heap.size from HW2.out.size))
 have HC4:=hid (HW2.out.trans c4 (fun _ _ h=>h))
 clear ho1 ho2 hc c4 k23 b0 b1 b2 b3 b4 b5 b6 b7
 simp only [rvA]
 go_wp2_with fail
 refine ⟨hkeep,?_⟩
 clear hkeep
 repeat ((first | refine Mix.zq ?_ | refine Mix.zp ?_ | refine Mix.zs ?_);go_big_quiet_step (fail);refine wpQuiet_nil ?_)
 refine Mix.za fun W5 hW5=>?_
 obtain ⟨k2,rfl⟩:=hW5
 go_wp2_with fail
 refine ⟨fun k hk=>Below.heap_alloc _ _ k (by rw [(HSS.out k).1 hk];exact (HC4.out.blk HS.out id).lt),Mix.mix_world fun W6 hW6=>?_⟩
 have c6:Ch (fun _=>False) w4 W6:=by rw [hW6];first | exact Ch.push rfl rfl rfl rfl | exact ((Ch.refl _ w4).drewN k2).alloc _
 have n6:Blk W6 w4.heap.size 104 #[.int .i64 x.num,.int .u64 x.at',.int .i64 x.h,.int .i64 x.b,.int .i64 x.r,.int .i64 x.l,.slice ma n1 mc,.slice da n2 dc]:=by rw [hW6];first | exact Blk.push rfl | exact Blk.new (w4.drewN k2) _ _
 have HC6:=hid (HC4.out.trans c6 (fun _ _ h=>h))
 have HO1b:=hid (c6.own HO1.out (fun _ _=>id))
 have HO2b:=hid (c6.own HO2.out (fun _ _=>id))
 have HN6:=hid n6
 clear hW6 c6 n6
 repeat ((first | refine Mix.zq ?_ | refine Mix.zp ?_ | refine Mix.zs ?_);go_big_quiet_step (fail);refine wpQuiet_nil ?_)
 refine Mix.ze fun W7 hW7=>?_
 obtain ⟨k3,rfl⟩:=hW7
 refine wpList_app _ rfl (.tmp 24) (.tmp 27) 121 rfl B 104 i0 _ 8 96 Tryz.underlying121 hi hz0 hz1 hz2 rfl (by decide) _ _ _ rfl ((HC6.out.drewN k3).own H.out (fun _ _=>id)) ⟨w4.heap.size,0,none⟩ 1 1 (rvCells x (.slice ma n1 mc) (.slice da n2 dc)) rfl rfl ?c1 ?c2 (by decide) ?c3 ?c4 ?c5 ?_
 case c1=>intro j u hu;rw [addr_add0];exact ((HN6.out.drewN k3).cell j).trans (by simpa [rvCells] using hu)
 case c2=>
  intro u hu
  simp only [rvCells,List.mem_cons,List.not_mem_nil,or_false] at hu
  rcases hu with rfl | rfl | rfl | rfl | rfl | rfl | rfl | rfl <;> rfl
 case c3=>unfold maxLen;omega
 case c4=>omega
 case c5=>exact Nat.le_trans hB HC6.out.size
 intro v' w' hown' hgrow hfresh
 obtain ⟨A',cap',hv',_⟩:=own_slice hown'
 subst hv'
 have hsg:(Value.slice (some ⟨g,0,none⟩) (n+1) cap).ownBlock≠some sb:=HS.out.own H.out (by decide)
 have hO1g:∀k,(Value.slice ma n1 mc).ownBlock=some k->(Value.slice (some ⟨g,0,none⟩) (n+1) cap).ownBlock≠some k:=fun k hk e=>by
  have h1:=(HO1b.out.lt k hk).1
  have h2:=(H.out.lt k e).2
  omega
 have hO2g:∀k,(Value.slice da n2 dc).ownBlock=some k->(Value.slice (some ⟨g,0,none⟩) (n+1) cap).ownBlock≠some k:=fun k hk e=>by
  have h1:=(HO2b.out.lt k hk).1
  have h2:=(H.out.lt k e).2
  omega
 have HS':=hid (((HC6.out.drewN k3).blk HS.out id).grown hgrow hsg)
 have HO1':=hid (own_grown ((Ch.refl (fun _=>False) W6).drewN k3 |>.own HO1b.out (fun _ _=>id)) hgrow (fun k hk=>hO1g k hk))
 have HO2':=hid (own_grown ((Ch.refl (fun _=>False) W6).drewN k3 |>.own HO2b.out (fun _ _=>id)) hgrow (fun k hk=>hO2g k hk))
 have HCw:=hid (((HC6.out.mono (fp':=fun k=>k=sb\/(Value.slice (some ⟨g,0,none⟩) (n+1) cap).ownBlock=some k) (fun _ _ h=>h.elim)).drewN k3).grown hgrow (fun k hk _=>.inr hk))
 have HOw:=hid hown'
 have HF:=hid (show Fresh w (.slice (some ⟨g,0,none⟩) (n+1) cap) (.slice A' (n+1+1) cap') from hfresh.imp id (fun h k hk=>Nat.le_trans HC6.out.size (h k hk)))
 have k23:w'.cell? ⟨sb,23,none⟩=some (.slice (some ⟨g,0,none⟩) (n+1) cap):=HS'.out.cell 23 |>.trans H23.out
 have f23:=HS'.out.free 23
 clear hown' hgrow hfresh hO1g hO2g hsg
 go_wp2_with fail
 repeat ((first | refine Mix.zq ?_ | refine Mix.zp ?_ | refine Mix.zs ?_);go_big_quiet_step (fail);refine wpQuiet_nil ?_)
 refine Mix.ze fun W8 hW8=>?_
 obtain ⟨k4,rfl⟩:=hW8
 go_wp2_with fail
 intro k5
 go_wp2_with fail
 refine calls_world fun W9 hW9=>?_
 have B9:Blk W9 sb 125 (cs.setIfInBounds 23 (.slice A' (n+1+1) cap')):=by rw [hW9];exact ((HS'.out.drewN k4).put 23 _).drewN k5
 have c9:Ch (fun k=>k=sb) w' W9:=by rw [hW9];exact (((Ch.refl (fun k=>k=sb) w').drewN k4).set (fun _=>rfl) _).drewN k5
 have q9:W9.cell? ⟨sb,23,none⟩=some (.slice A' (n+1+1) cap'):=(B9.cell 23).trans (by
  have:=(Array.getElem?_eq_some_iff.1 H23.out).1
  simp [Array.getElem?_setIfInBounds,this])
 have o0:=HS'.out.own HOw.out (by decide)
 have o1:=HS'.out.own HO1'.out (by decide)
 have o2:=HS'.out.own HO2'.out (by decide)
 have P9:=hid (show PubRes B sb cs (.slice (some ⟨g,0,none⟩) (n+1) cap) (n+1) xs x ms ds w (.returned (.tuple #[.int .i64 (n+1:Nat),.int .i64 0])) W9 from
  ⟨rfl,_,_,_,B9,c9.own HOw.out (fun k hk e=>o0 (by rw [hk,e])),by rw [HM.out.1];exact c9.own HO1'.out (fun k hk e=>o1 (by rw [hk,e])),by rw [HD.out.1];exact c9.own HO2'.out (fun k hk e=>o2 (by rw [hk,e])),HCw.out.trans c9 (fun _ _ e=>.inl e),HF.out⟩)
 clear hW9 B9 c9 o0 o1 o2 k23 f23
 refine (latest_any sb (n+1) cap' A' W9 q9 (by omega)).mono ?_
 rintro e _ ⟨rfl,rfl⟩
 go_wp2_with fail
 go_ret2
 exact P9.out
theorem revision_any (B sb:Nat) (cs:Array Value) (A:Option Addr) (cap N p:Nat) (xs:List Value) (x:Rv) (am ad:Option Addr) (n1 c1 n2 c2:Nat) (ms:List Mk) (ds:List Pc) (w:World)
  (hS:Blk w sb 125 cs) (h23:cs[23]?=some (.slice A N cap)) (hown:w.ownsRow B 104 8 (.slice A N cap) N xs) (hp:p < N) (hN:N < 1000) (hx:∀(j:Nat) (v:Value),(rvCells x (.slice am n1 c1) (.slice ad n2 c2))[j]?=some v->xs[p * 8+j]?=some v)
  (hm:InMk w am n1 ms) (hd:InPc w ad n2 ds) (zm:am=none->c1=0) (zd:ad=none->c2=0) (h1:n1 < 1000) (h2:n2 < 1000) :
  Calls Tryz.prog 37 #[.pointer (some ⟨sb,0,none⟩),.int .i64 p] w fun e w'=>∃mv dv,e=.returned (.tuple #[.agg (rvA x mv dv),.int .i64 0])/\w'.ownsRow w.heap.size 160 3 mv n1 (mkCells ms)/\w'.ownsRow w.heap.size 217 3 dv n2 (pcCells ds)/\Ch (fun _=>False) w w':=by
 obtain ⟨g,cap',hv,hcap,hcm,hBg,hgl⟩:=own_form hown (by omega)
 injection hv with hA _ hc'
 subst hA hc'
 have d1:decide ((p:Int) < 0)=false:=decide_eq_false (by omega)
 obtain ⟨d2,d2'⟩:=dc_leF (a:=N) (b:=p) (by omega)
 obtain ⟨d3,d3'⟩:=dc_ltT (a:=p) (b:=N) (by omega)
 have kc:∀(j:Nat) (v:Value),(rvCells x (.slice am n1 c1) (.slice ad n2 c2))[j]?=some v->w.cell? ⟨g,p * 8+j,none⟩=some v:=fun j v hj=>by
  have:=hown.cells (g:=g) rfl (p * 8+j) v (hx j v hj)
  rw [addr_add0] at this
  exact this
 have HS:=hid hS
 have H:=hid hown
 have HM:=hid hm
 have HD:=hid hd
 have HK:=hid kc
 have H23:=hid h23
 have hsl:=hS.lt
 have k23:w.cell? ⟨sb,23,none⟩=some (.slice (some ⟨g,0,none⟩) N cap):=(hS.cell 23).trans h23
 have b0:w.cell? ⟨g,p * 8,none⟩=some (.int .i64 x.num):=kc 0 _ rfl
 have b1:w.cell? ⟨g,p * 8+1,none⟩=some (.int .u64 x.at'):=kc 1 _ rfl
 have b2:w.cell? ⟨g,p * 8+2,none⟩=some (.int .i64 x.h):=kc 2 _ rfl
 have b3:w.cell? ⟨g,p * 8+3,none⟩=some (.int .i64 x.b):=kc 3 _ rfl
 have b4:w.cell? ⟨g,p * 8+4,none⟩=some (.int .i64 x.r):=kc 4 _ rfl
 have b5:w.cell? ⟨g,p * 8+5,none⟩=some (.int .i64 x.l):=kc 5 _ rfl
 have b6:w.cell? ⟨g,p * 8+6,none⟩=some (.slice am n1 c1):=kc 6 _ rfl
 have b7:w.cell? ⟨g,p * 8+7,none⟩=some (.slice ad n2 c2):=kc 7 _ rfl
 clear hS hown hm hd kc h23 hx HK
 go_enter Tryz.func37,Tryz.ntmps37
 go_wp2_with fail
 refine calls_world fun W1 hW1=>?_
 have cW:Ch (fun _=>False) w W1:=by rw [hW1];exact (Ch.refl _ w).alloc _
 have bR:Blk W1 w.heap.size 104 #[.int .i64 0,.int .u64 0,.int .i64 0,.int .i64 0,.int .i64 0,.int .i64 0,.slice none 0 0,.slice none 0 0]:=by rw [hW1];exact Blk.new w _ _
 have HW:=hid cW
 have HB:=hid bR
 clear hW1 cW bR k23 b0 b1 b2 b3 b4 b5 b6 b7
 refine (copied_any x am ad n1 c1 n2 c2 ms ds W1 (HM.out.keep HW.out (fun _ _ _ _=>id)) (HD.out.keep HW.out (fun _ _ _ _=>id)) zm zd h1 h2).mono ?_
 rintro e w4 ⟨mv,dv,rfl,ho1,ho2,hc⟩
 obtain ⟨ma,mc,hmv,_⟩:=own_slice ho1
 obtain ⟨da,dc,hdv,_⟩:=own_slice ho2
 subst hmv hdv
 have HO1:=hid (own_mono ho1 HW.out.size)
 have HO2:=hid (own_mono ho2 HW.out.size)
 have HC4:=hid (HW.out.trans hc (fun _ _ h=>h))
 have R4:=hc.blk HB.out id
 obtain ⟨r0,r1,r2,r3,r4,r5,r6,r7⟩:=R4.c8
 obtain ⟨s0,s1,s2,s3,s4,s5,s6,s7⟩:=R4.f8
 clear ho1 ho2 hc
 simp only [rvA]
 go_wp2_with fail
 refine at_world fun W7 hW7=>?_
 have R7:Blk W7 w.heap.size 104 #[.int .i64 x.num,.int .u64 x.at',.int .i64 x.h,.int .i64 x.b,.int .i64 x.r,.int .i64 x.l,.slice ma n1 mc,.slice da n2 dc]:=by
  rw [hW7];exact (((((((R4.put 0 _).put 1 _).put 2 _).put 3 _).put 4 _).put 5 _).put 6 _).put 7 _
 have c7:Ch (fun k=>k=w.heap.size) w4 W7:=by
  rw [hW7];exact ((((((((Ch.refl (fun k=>k=w.heap.size) w4).set (fun _=>rfl) _).set (fun _=>rfl) _).set (fun _=>rfl) _).set (fun _=>rfl) _).set (fun _=>rfl) _).set (fun _=>rfl) _).set (fun _=>rfl) _).set (fun _=>rfl) _
 have o1:=R4.own HO1.out (by decide)
 have o2:=R4.own HO2.out (by decide)
 obtain ⟨t0,t1,t2,t3,t4,t5,t6,t7⟩:=R7.c8
 refine bodyPost_ret (v:=.tuple #[.agg (rvA x (.slice ma n1 mc) (.slice da n2 dc)),.int .i64 0]) ?_ rfl ⟨_,_,rfl,c7.own HO1.out (fun k hk e=>o1 (by rw [hk,e])),c7.own HO2.out (fun k hk e=>o2 (by rw [hk,e])),HC4.out.trans c7 (fun i hi e=>absurd hi (by omega))⟩
 clear hW7 c7 o1 o2
 simp [results,Tryz.results37,go_sem,rvA,t0,t1,t2,t3,t4,t5,t6,t7]
open Go.RowKit Go.ChangeShapes Go.WideShapes Go.Deep
def fitsS:Option (Option IntKind)->Value->Prop
 | none,v=>∃s:ByteArray,v=.string s/\s.size<=maxLen
 | some none,v=>∃b,v=.bool b
 | some (some k),v=>∃n,v=.int k n/\(Lit.int k n).wf=true
def FitsS (ks:List (Option (Option IntKind))) (vs:List Value):Prop:=vs.length=ks.length/\∀(j:Nat) (k:Option (Option IntKind)),ks[j]?=some k->∃v,vs[j]?=some v/\fitsS k v
def InRowsS (ks:List (Option (Option IntKind))) (w:World) (a:Option Addr) (len:Nat) (ls:List (List Value)):Prop:=
 ls.length=len/\(∀vs ∈ ls,FitsS ks vs)/\(0 < len->∃b off,a=some ⟨b,off,none⟩/\b < w.heap.size/\∀i j vs v,ls[i]?=some vs->vs[j]?=some v->w.cell? ⟨b,off+(i * ks.length+j),none⟩=some v)
section
variable {H:Type} {enc:TypeId × Value->H} {P:Program} {w:World} {base:Nat} {spare:Nat->Bool} {held:Bool}
end
abbrev K0:=Option (Option IntKind)
abbrev K1:=K0 ⊕ List K0
def fitsN (w:World):K1->Value->Prop
 | .inl k,v=>fitsS k v
 | .inr ks,v=>∃a n c ls,v=.slice a n c/\n<=c/\c<=maxLen/\(a=none->c=0)/\InRowsS ks w a n ls
def FitsN (w:World) (ks:List K1) (vs:List Value):Prop:=vs.length=ks.length/\∀(j:Nat) (k:K1),ks[j]?=some k->∃v,vs[j]?=some v/\fitsN w k v
def InRowsN (ks:List K1) (w:World) (a:Option Addr) (len:Nat) (ls:List (List Value)):Prop:=
 ls.length=len/\(∀vs ∈ ls,FitsN w ks vs)/\(0 < len->∃b off,a=some ⟨b,off,none⟩/\b < w.heap.size/\∀i j vs v,ls[i]?=some vs->vs[j]?=some v->w.cell? ⟨b,off+(i * ks.length+j),none⟩=some v)
def flatOk (P:Program):Nat->TypeId->List K1->Bool
 | 0,_,_=>false
 | n+1,t,ks=>match P.underlying t with
  | some (.int k)=>match ks with
   | [.inl (some (some k'))]=>k' == k
   | _=>false
  | some .bool=>match ks with
   | [.inl (some none)]=>true
   | _=>false
  | some .string=>match ks with
   | [.inl none]=>true
   | _=>false
  | some (.slice e)=>match ks with
   | [.inr ks']=>0 < ks'.length && P.cellsOf e == ks'.length && flatOk P n e (ks'.map Sum.inl)
   | _=>false
  | some (.struct fs)=>P.cellsOf t == ks.length && ((List.range fs.size).all fun j=>match fs[j]? with
    | some f=>decide (f.offset+P.cellsOf f.type<=ks.length) && flatOk P n f.type ((ks.drop f.offset).take (P.cellsOf f.type))
    | none=>false) && ((List.range ks.length).all fun i=>(List.range fs.size).any fun j=>match fs[j]? with
    | some f=>decide (f.offset<=i/\i < f.offset+P.cellsOf f.type)
    | none=>false)
  | _=>false
theorem fitsS_of_N {w:World} {ks:List K0} {vs:List Value} (h:FitsN w (ks.map Sum.inl) vs):FitsS ks vs:=by
 obtain ⟨hl,hf⟩:=h
 refine ⟨by simpa using hl,fun j k hk=>?_⟩
 exact hf j (.inl k) (by simp [hk])
section
variable {H:Type} {enc:TypeId × Value->H} {P:Program} {w:World} {base:Nat} {spare:Nat->Bool} {held:Bool}
theorem fits_one {k:K1} {v:Value} (h:fitsN w k v):FitsN w [k] [v]:=
 ⟨rfl,fun j k' hk=>by
  match j,hk with
  | 0,hk=>injection hk with hk;subst hk;exact ⟨v,rfl,h⟩
  | j+1,hk=>simp at hk⟩
theorem rows_of_slice {n:Nat} (ih:∀(t:TypeId) (ks:List K1) (m:Nat) (cs:List Value) (x:DataW H × List MemPlace),flatOk P n t ks=true->DataW.trod enc P w base spare held m t cs=some x->FitsN w ks cs)
  {t e:TypeId} {ks:List K1} {m:Nat} {cs:List Value} {x:DataW H × List MemPlace} (ht:P.underlying t=some (.slice e)) (hB:flatOk P n e ks=true) (hC:P.cellsOf e=ks.length) (hpos:0 < ks.length)
  (hf:DataW.trod enc P w base spare held m t cs=some x):∃a len cap ls,cs=[.slice a len cap]/\len<=cap/\cap<=maxLen/\(a=none->cap=0)/\InRowsN ks w a len ls:=by
 rcases open_slice ht hf with ⟨hcs,_⟩ | ⟨x,len,c,m,n,D,Pl,hcs,_,hl,hm,hmm,_,hi⟩
 ·exact ⟨none,0,0,[],hcs,Nat.le_refl _,Nat.zero_le _,fun _=>rfl,rfl,by simp,fun h=>absurd h (by omega)⟩
 ·have hlm:len<=m:=by rw [hmm];split <;> omega
  have hall:∀i,i < len->∃vs:List Value,FitsN w ks vs/\∀j v,vs[j]?=some v->w.cell? (x.add (i * ks.length+j))=some v:=by
   intro i hil
   obtain ⟨cs',hc,htr⟩:=hi i (by omega)
   have hfit:=ih _ _ _ _ _ hB htr
   rw [hC] at hc
   obtain ⟨_,hcl,hat⟩:=World.cells?_some hc
   refine ⟨cs',hfit,fun j v hv=>?_⟩
   have hj:j < ks.length:=by have:=(List.getElem?_eq_some_iff.1 hv).1;have:=hfit.1;omega
   have:=hat j hj
   rw [<-Go.Deep.add_add,this,hv]
  obtain ⟨ls,hls,hr⟩:=exists_list (R:=fun i vs=>FitsN w ks vs/\∀j v,vs[j]?=some v->w.cell? (x.add (i * ks.length+j))=some v) len hall
  refine ⟨some x,len,c,ls,hcs,hl,hm,(fun h=>by cases h),hls,fun vs hvs=>?_,fun h0=>?_⟩
  ·obtain ⟨i,hi'⟩:=List.getElem?_of_mem hvs
   exact (hr i vs hi').1
  ·have h1:ls[0]?=some (ls[0]'(by omega)):=List.getElem?_eq_getElem (by omega)
   have hf0:=(hr 0 _ h1).1
   have hv0:(ls[0]'(by omega))[0]?=some ((ls[0]'(by omega))[0]'(by rw [hf0.1];exact hpos)):=List.getElem?_eq_getElem _
   have hc0:=(hr 0 _ h1).2 0 _ hv0
   have hs:=World.cell?_spot hc0
   obtain ⟨b,off,spot⟩:=x
   have hs':spot=none:=by simpa [Addr.add] using hs
   subst hs'
   refine ⟨b,off,rfl,?_,fun i j vs v hvs hv=>?_⟩
   ·have:=World.block_lt_of_cell? w _ hc0
    simpa [Addr.add] using this
   ·have:=(hr i vs hvs).2 j v hv
    rwa [addr_add] at this
theorem fitsN_of_trod:∀(n:Nat) (t:TypeId) (ks:List K1) (m:Nat) (cs:List Value) (x:DataW H × List MemPlace),flatOk P n t ks=true->DataW.trod enc P w base spare held m t cs=some x->FitsN w ks cs
 | 0,t,ks,m,cs,x,hB,_=>by simp [flatOk] at hB
 | n+1,t,ks,m,cs,x,hB,h=>by
  have ih:=fitsN_of_trod n
  unfold flatOk at hB
  split at hB
  ·rename_i k hu
   split at hB
   ·simp only [beq_iff_eq] at hB
    subst hB
    obtain ⟨i,hi,_,hw⟩:=DataW.trod_int hu h
    rw [hi]
    exact fits_one ⟨i,rfl,hw⟩
   ·cases hB
  ·rename_i hu
   split at hB
   ·obtain ⟨b,hb,_⟩:=DataW.trod_bool hu h
    rw [hb]
    exact fits_one ⟨b,rfl⟩
   ·cases hB
  ·rename_i hu
   split at hB
   ·obtain ⟨s,hs,_,hl⟩:=DataW.trod_string hu h
    rw [hs]
    exact fits_one ⟨s,rfl,hl⟩
   ·cases hB
  ·rename_i e hu
   split at hB
   ·rename_i ks'
    simp only [Bool.and_eq_true,decide_eq_true_eq,beq_iff_eq] at hB
    obtain ⟨⟨hp,hc⟩,hB⟩:=hB
    obtain ⟨a,len,cap,ls,rfl,h1,h2,h3,hls,hall,hcell⟩:=rows_of_slice ih hu hB (by rw [hc,List.length_map]) (by rw [List.length_map];exact hp) h
    refine fits_one ⟨a,len,cap,ls,rfl,h1,h2,h3,hls,fun vs hvs=>fitsS_of_N (hall vs hvs),?_⟩
    rw [List.length_map] at hcell
    exact hcell
   ·cases hB
  {
 rename_i fs hu
 simp only [Bool.and_eq_true,beq_iff_eq,List.all_eq_true,List.mem_range] at hB
 obtain ⟨⟨hC,hB1⟩,hB2⟩:=hB
 obtain ⟨xs,m',_,_,hcl,hxl,hf⟩:=DataW.trod_struct hu h
 refine ⟨by rw [hcl,hC],fun j k hk=>?_⟩
 have hj:j < ks.length:=(List.getElem?_eq_some_iff.1 hk).1
 have hc:=hB2 j hj
 rw [List.any_eq_true] at hc
 obtain ⟨i,hi,hfi⟩:=hc
 rw [List.mem_range] at hi
 have hb1:=hB1 i hi
 obtain ⟨f,hfj⟩:∃f,fs[i]?=some f:=⟨_,Array.getElem?_eq_getElem hi⟩
 rw [hfj] at hfi hb1
 simp only [decide_eq_true_eq,Bool.and_eq_true] at hfi hb1
 have h1:=hf i f hfj
 rw [show xs[i]?=some (xs[i]'(by omega)) from List.getElem?_eq_getElem (by omega)] at h1
 obtain ⟨_,hfit⟩:=ih _ _ _ _ _ hb1.2 h1
 have hk':((ks.drop f.offset).take (P.cellsOf f.type))[j - f.offset]?=some k:=by
  rw [List.getElem?_take,if_pos (by omega),List.getElem?_drop,show f.offset+(j - f.offset)=j by omega]
  exact hk
 obtain ⟨v,hv,hfv⟩:=hfit _ _ hk'
 refine ⟨v,?_,hfv⟩
 rw [List.getElem?_take,if_pos (by omega),List.getElem?_drop,show f.offset+(j - f.offset)=j by omega] at hv
 exact hv
 }
  ·cases hB
theorem in_rowsN {t e:TypeId} {ks:List K1} {a:Option Addr} {len cap:Nat} {d:DataW H} {p:List MemPlace} (ht:P.underlying t=some (.slice e))
  (hB:flatOk P 6 e ks=true) (hC:P.cellsOf e=ks.length) (hpos:0 < ks.length) (h:DataW.Trod enc P w base spare held t (.slice a len cap) d p):∃ls,InRowsN ks w a len ls:=by
 obtain ⟨fuel,hf⟩:=h
 have hf':DataW.trod enc P w base spare held fuel t [.slice a len cap]=some (d,p):=by simpa [Value.cells] using hf
 obtain ⟨a',len',cap',ls,hcs,_,_,_,hr⟩:=rows_of_slice (fun t ks m cs x=>fitsN_of_trod 6 t ks m cs x) ht hB hC hpos hf'
 simp at hcs
 obtain ⟨rfl,rfl,rfl⟩:=hcs
 exact ⟨ls,hr⟩
end
theorem Mem.addThree {B:Nat} {w0 w w':World} {L:List Res} (h:Mem B w0 L w) (c:Ch (fun _=>False) w w') (r1 r2 r3:Res) (h1:r1.holds w') (h2:r2.holds w') (h3:r3.holds w') (f1:∀k,r1.foot k->w.heap.size<=k) (f2:∀k,r2.foot k->w.heap.size<=k) (f3:∀k,r3.foot k->w.heap.size<=k)
  (a12:∀k,r1.foot k->¬r2.foot k) (a13:∀k,r1.foot k->¬r3.foot k) (a23:∀k,r2.foot k->¬r3.foot k):Mem B w0 (L++[r1,r2,r3]) w':=by
 have old:∀(i:Nat) (s:Res),L[i]?=some s->∀k,s.foot k->k < w.heap.size:=fun i s hi k hk=>s.lt (h.each i s hi) k hk
 have t1:=h.add r1 c h1 f1
 have t2:=t1.addK r2 h2 (fun i s hi k hs hr=>by
  rcases mem_app hi with ⟨_,rfl⟩ | hi
  ·exact a12 k hs hr
  ·have:=old i s hi k hs;have:=f2 k hr;omega) (fun k hk=>Nat.le_trans h.bz (f2 k hk))
 have t3:=t2.addK r3 h3 (fun i s hi k hs hr=>by
  rcases mem_app hi with ⟨_,rfl⟩ | hi
  ·exact a23 k hs hr
  ·rcases mem_app hi with ⟨_,rfl⟩ | hi
   ·exact a13 k hs hr
   ·have:=old i s hi k hs;have:=f3 k hr;omega) (fun k hk=>Nat.le_trans h.bz (f3 k hk))
 simpa using t3
theorem Mem.addTwo {B:Nat} {w0 w w':World} {L:List Res} (h:Mem B w0 L w) (c:Ch (fun _=>False) w w') (r1 r2:Res) (h1:r1.holds w') (h2:r2.holds w') (f1:∀k,r1.foot k->w.heap.size<=k) (f2:∀k,r2.foot k->w.heap.size<=k)
  (a12:∀k,r1.foot k->¬r2.foot k):Mem B w0 (L++[r1,r2]) w':=by
 have t1:=h.add r1 c h1 f1
 have t2:=t1.addK r2 h2 (fun i s hi k hs hr=>by
  rcases mem_app hi with ⟨_,rfl⟩ | hi
  ·exact a12 k hs hr
  ·have:=s.lt (h.each i s hi) k hs;have:=f2 k hr;omega) (fun k hk=>Nat.le_trans h.bz (f2 k hk))
 simpa using t2
end Go.Proofs.YtjcdknhejcbpiaaGreat
