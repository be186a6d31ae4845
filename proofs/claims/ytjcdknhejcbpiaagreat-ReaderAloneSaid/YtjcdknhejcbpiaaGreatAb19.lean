/- Lemmas that the proof of the last text leans on; no condition. -/
import Derived.Test.YtjcdknhejcbpiaaGreatAb14
import Derived.Test.YtjcdknhejcbpiaaGreatAb02
import Derived.Test.YtjcdknhejcbpiaaGreatAb07
import Derived.Test.YtjcdknhejcbpiaaGreatAb08
import Derived.Test.YtjcdknhejcbpiaaGreatAb01
import Derived.Test.YtjcdknhejcbpiaaGreatProg
import Derived.Lib.Builder
import Derived.Lib.AppendStr
import Derived.Lib.UnsafeStr
import Derived.Laws.Externs
import Derived.OwnWalk
import Derived.Test.YtjcdknhejcbpiaaGreatAb04
set_option maxRecDepth 100000
set_option maxHeartbeats 2000000
namespace Go.Proofs.YtjcdknhejcbpiaaGreat
open Go.RowKit
set_option linter.unusedVariables false
set_option linter.unusedSimpArgs false
theorem ArP.nil:ArP []:=⟨fun y hy=>by simp at hy,fun i y hi=>by simp at hi⟩
theorem arena_new (n:Nat) (g:Int) (h1:1≤n) (h2:n≤16384) (g1:1≤g) (g2:g≤4294967295) (w:World):Calls Tryz.prog 46 #[.int .i64 (n:Int),.int .u64 g] w fun e w'=>∃A:ArA,A.n=n∧A.g=g∧e=.returned (.tuple #[.pointer (some ⟨A.ab,0,none⟩),.int .i64 0])∧ArM A w' [] 0∧Ch (fun _=>False) w w'∧∀k,A.foot [] k→w.heap.size≤k:=by
 refine (anew_ok n g h1 h2 g1 g2 w).mono ?_
 rintro e w' ⟨ab,lb,mb,rfl,hA,hC,z1,z2,z3,q0,q1,q2,hf,y0,y1,y2⟩
 have e:fillA (fun _=>Value.int .u8 1) (.int .u8 0) n 0=fillA (fun _=>.int .u8 0) (.int .u8 0) n n:=by simp [fillA]
 have t:=hf.b1
 rw [←e] at t
 refine ⟨⟨ab,lb,mb,q0,q1,q2,n,g⟩,rfl,rfl,rfl,⟨hA.a,hf.l,hf.b0,t,hf.b2,⟨[],rfl,hA.m⟩,Nat.zero_le _,fun y hy=>by simp at hy,fun y hy=>by simp at hy,fun y hy=>by simp at hy⟩,hC,?_⟩
 rintro k ((rfl | rfl | rfl | rfl) | rfl | rfl | ⟨y,hy,_⟩) <;> first | assumption | simp at hy
structure Res where
 holds:World→Prop
 foot:Nat→Prop
 stable:∀{w w':World} {fp:Nat→Prop},holds w→Ch fp w w'→(∀k,foot k→¬fp k)→holds w'
 lt:∀{w:World},holds w→∀k,foot k→k < w.heap.size
def blkR (g:Nat) (t:TypeId) (cs:Array Value):Res where
 holds w:=Blk w g t cs
 foot k:=k=g
 stable h c hn:=c.blk h (hn g rfl)
 lt h k hk:=by rw [hk];exact h.lt
def rowR (B:Nat) (e:TypeId) (size n:Nat) (v:Value) (xs:List Value):Res where
 holds w:=w.ownsRow B e size v n xs
 foot k:=v.ownBlock=some k
 stable h c hn:=c.own h hn
 lt h k hk:=(h.lt k hk).2
structure Mem (B:Nat) (w0:World) (L:List Res) (w:World):Prop where
 each:∀(i:Nat) (r:Res),L[i]?=some r→r.holds w
 apart:∀(i j:Nat) (r s:Res),L[i]?=some r→L[j]?=some s→i≠j→∀k,r.foot k→¬s.foot k
 low:∀(i:Nat) (r:Res),L[i]?=some r→∀k,r.foot k→B≤k
 bel:Below B w0 w
 bz:B≤w.heap.size
theorem Ch.belowB {fp:Nat→Prop} {w w':World} {B:Nat} (c:Ch fp w w') (hB:B≤w.heap.size) (hf:∀k,k < w.heap.size→fp k→B≤k):Below B w w':=
 ⟨c.os,c.tape,c.output,c.size,fun k hk=>c.block k (by omega) (fun e=>by have:=hf k (by omega) e;omega)⟩
section
variable {B:Nat} {w0 w w':World} {L:List Res} {fp:Nat→Prop}
theorem Mem.keep (h:Mem B w0 L w) (c:Ch (fun _=>False) w w'):Mem B w0 L w':=
 ⟨fun i r hi=>r.stable (h.each i r hi) c (fun _ _=>id),h.apart,h.low,h.bel.trans (c.belowB h.bz (fun _ _ e=>e.elim)),Nat.le_trans h.bz c.size⟩
theorem Mem.drewN (h:Mem B w0 L w) (n:Nat):Mem B w0 L (w.drewN n):=h.keep ((Ch.refl _ w).drewN n)
theorem Mem.alloc (h:Mem B w0 L w) (o:Obj):Mem B w0 L (w.alloc o):=h.keep ((Ch.refl _ w).alloc o)
theorem mem_set {L:List Res} {i j:Nat} {r s:Res} (h:(L.set i r)[j]?=some s):(j=i∧s=r∧i < L.length)∨(j≠i∧L[j]?=some s):=by
 rw [List.getElem?_set] at h
 split at h
 ·rename_i e
  split at h
  ·rename_i hl
   exact .inl ⟨e.symm,(Option.some.inj h).symm,hl⟩
  ·cases h
 ·rename_i e
  exact .inr ⟨fun e'=>e e'.symm,h⟩
theorem Mem.upd (h:Mem B w0 L w) {i:Nat} {r:Res} (r':Res) (hi:L[i]?=some r) (c:Ch fp w w') (hfp:∀k,k < w.heap.size→fp k→r.foot k) (h':r'.holds w') (hf:∀k,r'.foot k→r.foot k∨w.heap.size≤k):Mem B w0 (L.set i r') w':=by
 have hk:∀(j:Nat) (s:Res),L[j]?=some s→j≠i→∀k,s.foot k→¬fp k:=fun j s hj hne k hs hp=>h.apart i j r s hi hj (Ne.symm hne) k (hfp k (s.lt (h.each j s hj) k hs) hp) hs
 have hr':∀(j:Nat) (s:Res),L[j]?=some s→j≠i→∀k,r'.foot k→¬s.foot k:=fun j s hj hne k hr hs=>by
  rcases hf k hr with e | e
  ·exact h.apart i j r s hi hj (Ne.symm hne) k e hs
  ·have:=s.lt (h.each j s hj) k hs
   omega
 refine ⟨fun j s hj=>?_,fun j j' s s' hj hj' hne k hs hs'=>?_,fun j s hj k hs=>?_,h.bel.trans (c.belowB h.bz (fun k hk hp=>h.low i r hi k (hfp k hk hp))),Nat.le_trans h.bz c.size⟩
 ·rcases mem_set hj with ⟨rfl,rfl,_⟩ | ⟨hne,hj⟩
  ·exact h'
  ·exact s.stable (h.each j s hj) c (hk j s hj hne)
 ·rcases mem_set hj with ⟨rfl,rfl,_⟩ | ⟨hn1,hj1⟩
  ·rcases mem_set hj' with ⟨rfl,_,_⟩ | ⟨hn2,hj2⟩
   ·exact hne rfl
   ·exact hr' j' s' hj2 hn2 k hs hs'
  ·rcases mem_set hj' with ⟨rfl,rfl,_⟩ | ⟨hn2,hj2⟩
   ·exact hr' j s hj1 hn1 k hs' hs
   ·exact h.apart j j' s s' hj1 hj2 hne k hs hs'
 ·rcases mem_set hj with ⟨rfl,rfl,_⟩ | ⟨hne,hj⟩
  ·rcases hf k hs with e | e
   ·exact h.low j r hi k e
   ·exact Nat.le_trans h.bz e
  ·exact h.low j s hj k hs
theorem Mem.upd2 (h:Mem B w0 L w) {i j:Nat} {r s:Res} (r' s':Res) (hi:L[i]?=some r) (hj:L[j]?=some s) (hij:i≠j) (c:Ch fp w w') (hfp:∀k,k < w.heap.size→fp k→r.foot k∨s.foot k) (h1:r'.holds w') (h2:s'.holds w')
  (hf1:∀k,r'.foot k→r.foot k∨w.heap.size≤k) (hf2:∀k,s'.foot k→s.foot k):Mem B w0 ((L.set i r').set j s') w':=by
 have hk:∀(m:Nat) (t:Res),L[m]?=some t→m≠i→m≠j→∀k,t.foot k→¬fp k:=fun m t hm hn1 hn2 k ht hp=>by
  rcases hfp k (t.lt (h.each m t hm) k ht) hp with e | e
  ·exact h.apart i m r t hi hm (Ne.symm hn1) k e ht
  ·exact h.apart j m s t hj hm (Ne.symm hn2) k e ht
 have get:∀(m:Nat) (t:Res),((L.set i r').set j s')[m]?=some t→(m=j∧t=s')∨(m≠j∧m=i∧t=r')∨(m≠j∧m≠i∧L[m]?=some t):=fun m t hm=>by
  rcases mem_set hm with ⟨rfl,rfl,_⟩ | ⟨hne,hm⟩
  ·exact .inl ⟨rfl,rfl⟩
  ·rcases mem_set hm with ⟨rfl,rfl,_⟩ | ⟨hn2,hm⟩
   ·exact .inr (.inl ⟨hne,rfl,rfl⟩)
   ·exact .inr (.inr ⟨hne,hn2,hm⟩)
 have old1:∀(m:Nat) (t:Res),L[m]?=some t→m≠i→∀k,r'.foot k→¬t.foot k:=fun m t hm hn k hr ht=>by
  rcases hf1 k hr with e | e
  ·exact h.apart i m r t hi hm (Ne.symm hn) k e ht
  ·have:=t.lt (h.each m t hm) k ht
   omega
 have old2:∀(m:Nat) (t:Res),L[m]?=some t→m≠j→∀k,s'.foot k→¬t.foot k:=fun m t hm hn k hr ht=>h.apart j m s t hj hm (Ne.symm hn) k (hf2 k hr) ht
 have rs:∀k,r'.foot k→¬s'.foot k:=fun k a b=>old1 j s hj (Ne.symm hij) k a (hf2 k b)
 refine ⟨fun m t hm=>?_,fun m m' t t' hm hm' hne k ht ht'=>?_,fun m t hm k ht=>?_,h.bel.trans (c.belowB h.bz (fun k hk hp=>(hfp k hk hp).elim (h.low i r hi k) (h.low j s hj k))),Nat.le_trans h.bz c.size⟩
 ·rcases get m t hm with ⟨rfl,rfl⟩ | ⟨_,rfl,rfl⟩ | ⟨n1,n2,hm⟩
  ·exact h2
  ·exact h1
  ·exact t.stable (h.each m t hm) c (hk m t hm n2 n1)
 ·rcases get m t hm with ⟨rfl,rfl⟩ | ⟨_,rfl,rfl⟩ | ⟨n1,n2,hm1⟩
  ·rcases get m' t' hm' with ⟨rfl,_⟩ | ⟨_,rfl,rfl⟩ | ⟨n3,n4,hm2⟩
   ·exact hne rfl
   ·exact rs k ht' ht
   ·exact old2 m' t' hm2 n3 k ht ht'
  ·rcases get m' t' hm' with ⟨rfl,rfl⟩ | ⟨_,rfl,_⟩ | ⟨n3,n4,hm2⟩
   ·exact rs k ht ht'
   ·exact hne rfl
   ·exact old1 m' t' hm2 n4 k ht ht'
  ·rcases get m' t' hm' with ⟨rfl,rfl⟩ | ⟨_,rfl,rfl⟩ | ⟨n3,n4,hm2⟩
   ·exact old2 m t hm1 n1 k ht' ht
   ·exact old1 m t hm1 n2 k ht' ht
   ·exact h.apart m m' t t' hm1 hm2 hne k ht ht'
 ·rcases get m t hm with ⟨rfl,rfl⟩ | ⟨_,rfl,rfl⟩ | ⟨n1,n2,hm⟩
  ·exact h.low m s hj k (hf2 k ht)
  ·rcases hf1 k ht with e | e
   ·exact h.low m r hi k e
   ·exact Nat.le_trans h.bz e
  ·exact h.low m t hm k ht
theorem mem_app {L:List Res} {j:Nat} {r s:Res} (h:(L++[r])[j]?=some s):(j=L.length∧s=r)∨L[j]?=some s:=by
 rw [List.getElem?_append] at h
 split at h
 ·exact .inr h
 ·have hj:j - L.length=0:=by
   have:=(List.getElem?_eq_some_iff.1 h).1
   simp at this
   omega
  rw [hj] at h
  simp at h
  exact .inl ⟨by omega,h.symm⟩
theorem Mem.add (h:Mem B w0 L w) (r:Res) (c:Ch (fun _=>False) w w') (h':r.holds w') (hf:∀k,r.foot k→w.heap.size≤k):Mem B w0 (L++[r]) w':=by
 have hk:=h.keep c
 have no:∀(j:Nat) (s:Res),L[j]?=some s→∀k,s.foot k→¬r.foot k:=fun j s hj k hs hr=>by
  have:=s.lt (h.each j s hj) k hs
  have:=hf k hr
  omega
 refine ⟨fun j s hj=>?_,fun j j' s s' hj hj' hne k hs hs'=>?_,fun j s hj k hs=>?_,hk.bel,hk.bz⟩
 ·rcases mem_app hj with ⟨_,rfl⟩ | hj
  ·exact h'
  ·exact hk.each j s hj
 ·rcases mem_app hj with ⟨rfl,rfl⟩ | hj1
  ·rcases mem_app hj' with ⟨rfl,_⟩ | hj2
   ·exact hne rfl
   ·exact no j' s' hj2 k hs' hs
  ·rcases mem_app hj' with ⟨rfl,rfl⟩ | hj2
   ·exact no j s hj1 k hs hs'
   ·exact h.apart j j' s s' hj1 hj2 hne k hs hs'
 ·rcases mem_app hj with ⟨_,rfl⟩ | hj
  ·exact Nat.le_trans h.bz (hf k hs)
  ·exact h.low j s hj k hs
theorem Mem.put (h:Mem B w0 L w) {i g:Nat} {t:TypeId} {cs:Array Value} (hi:L[i]?=some (blkR g t cs)) (o:Nat) (u:Value):Mem B w0 (L.set i (blkR g t (cs.setIfInBounds o u))) (w.setCell ⟨g,o,none⟩ u):=
 h.upd (blkR g t (cs.setIfInBounds o u)) hi ((Ch.refl (fun k=>k=g) w).set (fun _=>rfl) u) (fun _ _ e=>e) (Blk.put (h.each i _ hi) o u) (fun _ e=>.inl e)
theorem Mem.app (h:Mem B w0 L w) {i e size n n':Nat} {v v':Value} {xs xs':List Value} (hi:L[i]?=some (rowR B e size n v xs)) (hr:w'.ownsRow B e size v' n' xs') (hg:w.grownBy w' v.ownBlock) (hf:Fresh w v v') :
  Mem B w0 (L.set i (rowR B e size n' v' xs')) w':=by
 refine h.upd (rowR B e size n' v' xs') hi ((Ch.refl (fun k=>v.ownBlock=some k) w).grown hg (fun k hk _=>hk)) (fun _ _ e=>e) hr (fun k hk=>?_)
 rcases hf with e | e
 ·exact .inl (by show v.ownBlock=some k;rw [←e];exact hk)
 ·exact .inr (e k hk)
end
theorem Mem.of {B:Nat} {w0 w:World} {L:List Res} (h1:∀r ∈ L,r.holds w) (h2:L.Pairwise fun r s=>∀k,r.foot k→¬s.foot k) (h3:∀r ∈ L,∀k,r.foot k→B≤k) (h4:Below B w0 w) (h5:B≤w.heap.size):Mem B w0 L w:=by
 refine ⟨fun i r hi=>h1 r (List.mem_of_getElem? hi),fun i j r s hi hj hij k hk hs=>?_,fun i r hi=>h3 r (List.mem_of_getElem? hi),h4,h5⟩
 have hp:=List.pairwise_iff_getElem.1 h2
 obtain ⟨li,ri⟩:=List.getElem?_eq_some_iff.1 hi
 obtain ⟨lj,rj⟩:=List.getElem?_eq_some_iff.1 hj
 rcases Nat.lt_or_gt_of_ne hij with h | h
 ·exact hp i j li lj h k (by rw [ri];exact hk) (by rw [rj];exact hs)
 ·exact hp j i lj li h k (by rw [rj];exact hs) (by rw [ri];exact hk)
theorem Mem.addK {B:Nat} {w0 w:World} {L:List Res} (h:Mem B w0 L w) (r:Res) (h':r.holds w) (ha:∀(i:Nat) (s:Res),L[i]?=some s→∀k,s.foot k→¬r.foot k) (hl:∀k,r.foot k→B≤k):Mem B w0 (L++[r]) w:=by
 refine ⟨fun j s hj=>?_,fun j j' s s' hj hj' hne k hs hs'=>?_,fun j s hj k hs=>?_,h.bel,h.bz⟩
 ·rcases mem_app hj with ⟨_,rfl⟩ | hj
  ·exact h'
  ·exact h.each j s hj
 ·rcases mem_app hj with ⟨rfl,rfl⟩ | hj1
  ·rcases mem_app hj' with ⟨rfl,_⟩ | hj2
   ·exact hne rfl
   ·exact ha j' s' hj2 k hs' hs
  ·rcases mem_app hj' with ⟨rfl,rfl⟩ | hj2
   ·exact ha j s hj1 k hs hs'
   ·exact h.apart j j' s s' hj1 hj2 hne k hs hs'
 ·rcases mem_app hj with ⟨_,rfl⟩ | hj
  ·exact hl k hs
  ·exact h.low j s hj k hs
theorem Mem.take {B:Nat} {w0 w:World} {L:List Res} (n:Nat) (h:Mem B w0 L w):Mem B w0 (L.take n) w:=by
 have hg:∀(i:Nat) (r:Res),(L.take n)[i]?=some r→L[i]?=some r:=fun i r hi=>by
  rw [List.getElem?_take] at hi
  split at hi
  ·exact hi
  ·cases hi
 exact ⟨fun i r hi=>h.each i r (hg i r hi),fun i j r s hi hj=>h.apart i j r s (hg i r hi) (hg j s hj),fun i r hi=>h.low i r (hg i r hi),h.bel,h.bz⟩
theorem Mem.perm {B:Nat} {w0 w:World} {L L':List Res} (h:Mem B w0 L w) (p:L.Perm L'):Mem B w0 L' w:=by
 refine Mem.of (fun r hr=>?_) ?_ (fun r hr=>?_) h.bel h.bz
 ·obtain ⟨i,hi⟩:=List.getElem?_of_mem (p.mem_iff.2 hr)
  exact h.each i r hi
 ·refine (p.pairwise_iff (fun {x y} hxy k hk hk'=>hxy k hk' hk)).1 ?_
  refine List.pairwise_iff_getElem.2 fun i j hi hj hij k hk=>?_
  exact h.apart i j _ _ (List.getElem?_eq_getElem hi) (List.getElem?_eq_getElem hj) (by omega) k hk
 ·obtain ⟨i,hi⟩:=List.getElem?_of_mem (p.mem_iff.2 hr)
  exact h.low i r hi
theorem Mem.drop {B:Nat} {w0 w:World} {L:List Res} (n:Nat) (h:Mem B w0 L w):Mem B w0 (L.drop n) w:=
 ⟨fun i r hi=>h.each (n+i) r (by rwa [List.getElem?_drop] at hi),fun i j r s hi hj hij=>h.apart (n+i) (n+j) r s (by rwa [List.getElem?_drop] at hi) (by rwa [List.getElem?_drop] at hj) (by omega),fun i r hi=>h.low (n+i) r (by rwa [List.getElem?_drop] at hi),h.bel,h.bz⟩
set_option linter.unusedSectionVars false
theorem latest_any (sb n c:Nat) (A:Option Addr) (w:World) (h:w.cell? ⟨sb,23,none⟩=some (.slice A (n+1) c)) (hn:n < 1000):Calls Tryz.prog 40 #[.pointer (some ⟨sb,0,none⟩)] w fun e w'=>e=.returned (.int .i64 n)∧w=w':=by
 go_enter Tryz.func40,Tryz.ntmps40
 go_wp2_with fail
 go_ret
 exact ⟨rfl,rfl⟩
theorem latest_q (sb n c:Nat) (A:Option Addr) (w:World) (h:w.cell? ⟨sb,23,none⟩=some (.slice A (n+1) c)) (hn:n < 1000) (k:Nat):Calls Tryz.prog 40 #[.pointer (some ⟨sb,0,none⟩)] (w.drewN k) fun e w''=>e=.returned (.int .i64 n)∧∃m,w''=w.drewN m:=
 Calls.quiet_of_same ((latest_any sb n c A (w.drewN k) h hn).mono fun e w' ⟨he,hw⟩=>⟨he,hw.symm⟩)
def PubRes (B sb:Nat) (cs:Array Value) (rv:Value) (n:Nat) (xs:List Value) (x:Rv) (ms:List Mk) (ds:List Pc) (w:World) (e:Ending) (w':World):Prop:=
 e=.returned (.tuple #[.int .i64 n,.int .i64 0])∧∃mv dv rv',Blk w' sb 125 (cs.setIfInBounds 23 rv')∧w'.ownsRow B 104 8 rv' (n+1) (xs++rvCells x mv dv)∧w'.ownsRow w.heap.size 160 3 mv ms.length (mkCells ms)∧w'.ownsRow w.heap.size 217 3 dv ds.length (pcCells ds)∧
  Ch (fun k=>k=sb∨rv.ownBlock=some k) w w'∧Fresh w rv rv'
theorem publish_any (B sb:Nat) (cs:Array Value) (A:Option Addr) (cap n:Nat) (xs:List Value) (last:Int) (x:Rv) (am ad:Option Addr) (n1 c1 n2 c2:Nat) (ms:List Mk) (ds:List Pc) (w:World)
  (hS:Blk w sb 125 cs) (h23:cs[23]?=some (.slice A (n+1) cap)) (hown:w.ownsRow B 104 8 (.slice A (n+1) cap) (n+1) xs) (hlast:xs[n * 8]?=some (.int .i64 last)) (hx:last < x.num) (hn:n < 900) (hB:B≤w.heap.size)
  (hm:InMk w am n1 ms) (hd:InPc w ad n2 ds) (zm:am=none→c1=0) (zd:ad=none→c2=0) (h1:n1 < 1000) (h2:n2 < 1000) :
  Calls Tryz.prog 73 #[.pointer (some ⟨sb,0,none⟩),.agg #[.int .i64 x.num,.int .u64 x.at',.int .i64 x.h,.int .i64 x.b,.int .i64 x.r,.int .i64 x.l,.slice am n1 c1,.slice ad n2 c2]] w (PubRes B sb cs (.slice A (n+1) cap) (n+1) xs x ms ds w):=by
 obtain ⟨g,cap',hv,hcap,hcm,hBg,hgl⟩:=own_form hown (by omega)
 injection hv with hA _ hc'
 subst hA hc'
 have k23:w.cell? ⟨sb,23,none⟩=some (.slice (some ⟨g,0,none⟩) (n+1) cap):=(hS.cell 23).trans h23
 have kl:w.cell? ⟨g,n * 8,none⟩=some (.int .i64 last):=by
  have:=hown.cells (g:=g) rfl (n * 8) _ hlast
  rw [addr_add0] at this
  exact this
 have dl:decide (x.num≤last)=false:=decide_eq_false (by omega)
 have hsl:=hS.lt
 have dn:decide (n < n+1)=true:=decide_eq_true (by omega)
 have dn':decide ((n:Int) < ((n+1:Nat):Int))=true:=decide_eq_true (by omega)
 have H:=hid hown
 have HS:=hid hS
 have HM:=hid hm
 have HD:=hid hd
 have HL:=hid hlast
 have H23:=hid h23
 clear hown hS hm hd hlast h23
 go_enter Tryz.func73,Tryz.ntmps73
 go_wp2_with fail
 refine at_world fun W1 hW1=>?_
 have cW:Ch (fun _=>False) w W1:=by rw [hW1];exact (Ch.refl _ w).alloc _
 have bB:Blk W1 w.heap.size 104 #[.int .i64 x.num,.int .u64 x.at',.int .i64 x.h,.int .i64 x.b,.int .i64 x.r,.int .i64 x.l,.slice am n1 c1,.slice ad n2 c2]:=by rw [hW1];exact Blk.new w _ _
 have HW:=hid cW
 have HB:=hid bB
 clear hW1 cW bB k23 kl
 have k23:W1.cell? ⟨sb,23,none⟩=some (.slice (some ⟨g,0,none⟩) (n+1) cap):=(HW.out.blk HS.out id).cell 23 |>.trans H23.out
 have kl:W1.cell? ⟨g,n * 8,none⟩=some (.int .i64 last):=by
  have:=(HW.out.own H.out (fun _ _=>id)).cells (g:=g) rfl (n * 8) _ HL.out
  rw [addr_add0] at this
  exact this
 have k0:W1.cell? ⟨w.heap.size,0,none⟩=some (.int .i64 x.num):=HB.out.cell 0
 go_quiet ((go_at_call 40;exact latest_q sb n cap (some ⟨g,0,none⟩) W1 k23 (by omega) _))
 go_wp2_with fail
 obtain ⟨i0,hi,hz0,hz1,hz2⟩:=info_parts (show (Tryz.prog.info? 104).map (fun i=>(i.zero,i.size,i.bytes))=some (some (Value.agg #[.int .i64 0,.int .u64 0,.int .i64 0,.int .i64 0,.int .i64 0,.int .i64 0,.slice none 0 0,.slice none 0 0]),8,96) by kernel_rfl)
 obtain ⟨S,hS⟩:∃S:Nat→Prop,∀k,S k↔k=sb:=⟨_,fun _=>Iff.rfl⟩
 have hSp:Mix.Has S sb:=(hS _).2 rfl
 have HSS:=hid hS
 clear hS
 refine Mix.wp_region_mix S (fun i=>([1,1,1,1,4,0,3,3,2,0,0,2]:List Nat).getD i 0) [0,1,2,3,4,5,6,7,8,9,10,11] (by kernel_rfl) (by kernel_rfl) ?_
 refine Mix.mix_world fun W2 hW2=>?_
 have cW2:Ch (fun _=>False) w W2:=by rw [hW2];first | exact HW.out | exact HW.out.drewN _
 have bB2:Blk W2 w.heap.size 104 #[.int .i64 x.num,.int .u64 x.at',.int .i64 x.h,.int .i64 x.b,.int .i64 x.r,.int .i64 x.l,.slice am n1 c1,.slice ad n2 c2]:=by rw [hW2];first | exact HB.out | exact HB.out.drewN _
 have HW2:=hid cW2
 clear hW2 k23 kl k0
 have k23:W2.cell? ⟨sb,23,none⟩=some (.slice (some ⟨g,0,none⟩) (n+1) cap):=(HW2.out.blk HS.out id).cell 23 |>.trans H23.out
 have b0:W2.cell? ⟨w.heap.size,0,none⟩=some (.int .i64 x.num):=bB2.cell 0
 have b1:W2.cell? ⟨w.heap.size,1,none⟩=some (.int .u64 x.at'):=bB2.cell 1
 have b2:W2.cell? ⟨w.heap.size,2,none⟩=some (.int .i64 x.h):=bB2.cell 2
 have b3:W2.cell? ⟨w.heap.size,3,none⟩=some (.int .i64 x.b):=bB2.cell 3
 have b4:W2.cell? ⟨w.heap.size,4,none⟩=some (.int .i64 x.r):=bB2.cell 4
 have b5:W2.cell? ⟨w.heap.size,5,none⟩=some (.int .i64 x.l):=bB2.cell 5
 have b6:W2.cell? ⟨w.heap.size,6,none⟩=some (.slice am n1 c1):=bB2.cell 6
 have b7:W2.cell? ⟨w.heap.size,7,none⟩=some (.slice ad n2 c2):=bB2.cell 7
 clear bB2 cW2
 repeat ((first | refine Mix.q1 rfl ?_ | refine Mix.p1 rfl rfl ?_ | refine Mix.s1 rfl rfl ?_);go_big_quiet_step (fail);refine wpQuiet_nil ?_)
 refine Mix.a1 rfl fun W3 hW3=>?_
 obtain ⟨k1,rfl⟩:=hW3
 go_wp2_with fail
 refine (copied_any x am ad n1 c1 n2 c2 ms ds (W2.drewN k1) (HM.out.keep (HW2.out.drewN k1) (fun _ _ _ _=>id)) (HD.out.keep (HW2.out.drewN k1) (fun _ _ _ _=>id)) zm zd h1 h2).mono ?_
 rintro e w4 ⟨mv,dv,rfl,ho1,ho2,hc⟩
 obtain ⟨ma,mc,hmv,_⟩:=own_slice ho1
 obtain ⟨da,dc,hdv,_⟩:=own_slice ho2
 subst hmv hdv
 have c4:Ch (fun _=>False) W2 w4:=hc.ofDrewN
 have hkeep:Mix.Keep S W2 w4:=fun k hk=>by rw [(HSS.out k).1 hk];exact c4.block _ (HW2.out.blk HS.out id).lt id
 have HO1:=hid (own_mono ho1 (show w.heap.size≤(W2.drewN k1).heap.size from HW2.out.size))
 have HO2:=hid (own_mono ho2 (show w.heap.size≤(W2.drewN k1).heap.size from HW2.out.size))
 have HC4:=hid (HW2.out.trans c4 (fun _ _ h=>h))
 clear ho1 ho2 hc c4 k23 b0 b1 b2 b3 b4 b5 b6 b7
 simp only [rvA]
 go_wp2_with fail
 refine ⟨hkeep,?_⟩
 clear hkeep
 repeat ((first | refine Mix.q1 rfl ?_ | refine Mix.p1 rfl rfl ?_ | refine Mix.s1 rfl rfl ?_);go_big_quiet_step (fail);refine wpQuiet_nil ?_)
 refine Mix.a1 rfl fun W5 hW5=>?_
 obtain ⟨k2,rfl⟩:=hW5
 go_wp2_with fail
 refine ⟨fun k hk=>Below.heap_alloc _ _ k (by rw [(HSS.out k).1 hk];exact (HC4.out.blk HS.out id).lt),Mix.mix_world fun W6 hW6=>?_⟩
 have c6:Ch (fun _=>False) w4 W6:=by rw [hW6];first | exact Ch.push rfl rfl rfl rfl | exact ((Ch.refl _ w4).drewN k2).alloc _
 have n6:Blk W6 w4.heap.size 104 #[.int .i64 x.num,.int .u64 x.at',.int .i64 x.h,.int .i64 x.b,.int .i64 x.r,.int .i64 x.l,.slice ma n1 mc,.slice da n2 dc]:=by rw [hW6];first | exact Blk.push rfl | exact Blk.new (w4.drewN k2) _ _
 have HC6:=hid (HC4.out.trans c6 (fun _ _ h=>h))
 have HO1b:=hid (c6.own HO1.out (fun _ _=>id))
 have HO2b:=hid (c6.own HO2.out (fun _ _=>id))
 have HN6:=hid n6
 clear hW6 c6 n6
 repeat ((first | refine Mix.q1 rfl ?_ | refine Mix.p1 rfl rfl ?_ | refine Mix.s1 rfl rfl ?_);go_big_quiet_step (fail);refine wpQuiet_nil ?_)
 refine Mix.e1 rfl fun W7 hW7=>?_
 obtain ⟨k3,rfl⟩:=hW7
 refine wpList_app _ rfl (.tmp 24) (.tmp 27) 121 rfl B 104 i0 _ 8 96 Tryz.underlying121 hi hz0 hz1 hz2 rfl (by decide) _ _ _ rfl ((HC6.out.drewN k3).own H.out (fun _ _=>id)) ⟨w4.heap.size,0,none⟩ 1 1 (rvCells x (.slice ma n1 mc) (.slice da n2 dc)) rfl rfl ?c1 ?c2 (by decide) ?c3 ?c4 ?c5 ?_
 case c1=>intro j u hu;rw [addr_add0];exact ((HN6.out.drewN k3).cell j).trans (by simpa [rvCells] using hu)
 case c2=>
  intro u hu
  simp only [rvCells,List.mem_cons,List.not_mem_nil,or_false] at hu
  rcases hu with rfl | rfl | rfl | rfl | rfl | rfl | rfl | rfl <;> rfl
 case c3=>unfold maxLen;omega
 case c4=>omega
 case c5=>exact Nat.le_trans hB HC6.out.size
 intro v' w' hown' hgrow hfresh
 obtain ⟨A',cap',hv',_⟩:=own_slice hown'
 subst hv'
 have hsg:(Value.slice (some ⟨g,0,none⟩) (n+1) cap).ownBlock≠some sb:=HS.out.own H.out (by decide)
 have hO1g:∀k,(Value.slice ma n1 mc).ownBlock=some k→(Value.slice (some ⟨g,0,none⟩) (n+1) cap).ownBlock≠some k:=fun k hk e=>by
  have h1:=(HO1b.out.lt k hk).1
  have h2:=(H.out.lt k e).2
  omega
 have hO2g:∀k,(Value.slice da n2 dc).ownBlock=some k→(Value.slice (some ⟨g,0,none⟩) (n+1) cap).ownBlock≠some k:=fun k hk e=>by
  have h1:=(HO2b.out.lt k hk).1
  have h2:=(H.out.lt k e).2
  omega
 have HS':=hid (((HC6.out.drewN k3).blk HS.out id).grown hgrow hsg)
 have HO1':=hid (own_grown ((Ch.refl (fun _=>False) W6).drewN k3 |>.own HO1b.out (fun _ _=>id)) hgrow (fun k hk=>hO1g k hk))
 have HO2':=hid (own_grown ((Ch.refl (fun _=>False) W6).drewN k3 |>.own HO2b.out (fun _ _=>id)) hgrow (fun k hk=>hO2g k hk))
 have HCw:=hid (((HC6.out.mono (fp':=fun k=>k=sb∨(Value.slice (some ⟨g,0,none⟩) (n+1) cap).ownBlock=some k) (fun _ _ h=>h.elim)).drewN k3).grown hgrow (fun k hk _=>.inr hk))
 have HOw:=hid hown'
 have HF:=hid (show Fresh w (.slice (some ⟨g,0,none⟩) (n+1) cap) (.slice A' (n+1+1) cap') from hfresh.imp id (fun h k hk=>Nat.le_trans HC6.out.size (h k hk)))
 have k23:w'.cell? ⟨sb,23,none⟩=some (.slice (some ⟨g,0,none⟩) (n+1) cap):=HS'.out.cell 23 |>.trans H23.out
 have f23:=HS'.out.free 23
 clear hown' hgrow hfresh hO1g hO2g hsg
 go_wp2_with fail
 repeat ((first | refine Mix.q1 rfl ?_ | refine Mix.p1 rfl rfl ?_ | refine Mix.s1 rfl rfl ?_);go_big_quiet_step (fail);refine wpQuiet_nil ?_)
 refine Mix.e1 rfl fun W8 hW8=>?_
 obtain ⟨k4,rfl⟩:=hW8
 go_wp2_with fail
 intro k5
 go_wp2_with fail
 refine calls_world fun W9 hW9=>?_
 have B9:Blk W9 sb 125 (cs.setIfInBounds 23 (.slice A' (n+1+1) cap')):=by rw [hW9];exact ((HS'.out.drewN k4).put 23 _).drewN k5
 have c9:Ch (fun k=>k=sb) w' W9:=by rw [hW9];exact (((Ch.refl (fun k=>k=sb) w').drewN k4).set (fun _=>rfl) _).drewN k5
 have q9:W9.cell? ⟨sb,23,none⟩=some (.slice A' (n+1+1) cap'):=(B9.cell 23).trans (by
  have:=(Array.getElem?_eq_some_iff.1 H23.out).1
  simp [Array.getElem?_setIfInBounds,this])
 have o0:=HS'.out.own HOw.out (by decide)
 have o1:=HS'.out.own HO1'.out (by decide)
 have o2:=HS'.out.own HO2'.out (by decide)
 have P9:=hid (show PubRes B sb cs (.slice (some ⟨g,0,none⟩) (n+1) cap) (n+1) xs x ms ds w (.returned (.tuple #[.int .i64 (n+1:Nat),.int .i64 0])) W9 from
  ⟨rfl,_,_,_,B9,c9.own HOw.out (fun k hk e=>o0 (by rw [hk,e])),by rw [HM.out.1];exact c9.own HO1'.out (fun k hk e=>o1 (by rw [hk,e])),by rw [HD.out.1];exact c9.own HO2'.out (fun k hk e=>o2 (by rw [hk,e])),HCw.out.trans c9 (fun _ _ e=>.inl e),HF.out⟩)
 clear hW9 B9 c9 o0 o1 o2 k23 f23
 refine (latest_any sb (n+1) cap' A' W9 q9 (by omega)).mono ?_
 rintro e _ ⟨rfl,rfl⟩
 go_wp2_with fail
 go_ret2
 exact P9.out
theorem revision_any (B sb:Nat) (cs:Array Value) (A:Option Addr) (cap N p:Nat) (xs:List Value) (x:Rv) (am ad:Option Addr) (n1 c1 n2 c2:Nat) (ms:List Mk) (ds:List Pc) (w:World)
  (hS:Blk w sb 125 cs) (h23:cs[23]?=some (.slice A N cap)) (hown:w.ownsRow B 104 8 (.slice A N cap) N xs) (hp:p < N) (hN:N < 1000) (hx:∀(j:Nat) (v:Value),(rvCells x (.slice am n1 c1) (.slice ad n2 c2))[j]?=some v→xs[p * 8+j]?=some v)
  (hm:InMk w am n1 ms) (hd:InPc w ad n2 ds) (zm:am=none→c1=0) (zd:ad=none→c2=0) (h1:n1 < 1000) (h2:n2 < 1000) :
  Calls Tryz.prog 37 #[.pointer (some ⟨sb,0,none⟩),.int .i64 p] w fun e w'=>∃mv dv,e=.returned (.tuple #[.agg (rvA x mv dv),.int .i64 0])∧w'.ownsRow w.heap.size 160 3 mv n1 (mkCells ms)∧w'.ownsRow w.heap.size 217 3 dv n2 (pcCells ds)∧Ch (fun _=>False) w w':=by
 obtain ⟨g,cap',hv,hcap,hcm,hBg,hgl⟩:=own_form hown (by omega)
 injection hv with hA _ hc'
 subst hA hc'
 have d1:decide ((p:Int) < 0)=false:=decide_eq_false (by omega)
 have d2:decide (N≤p)=false:=decide_eq_false (by omega)
 have d2':decide ((N:Int)≤(p:Int))=false:=decide_eq_false (by omega)
 have d3:decide (p < N)=true:=decide_eq_true hp
 have d3':decide ((p:Int) < (N:Int))=true:=decide_eq_true (by omega)
 have kc:∀(j:Nat) (v:Value),(rvCells x (.slice am n1 c1) (.slice ad n2 c2))[j]?=some v→w.cell? ⟨g,p * 8+j,none⟩=some v:=fun j v hj=>by
  have:=hown.cells (g:=g) rfl (p * 8+j) v (hx j v hj)
  rw [addr_add0] at this
  exact this
 have HS:=hid hS
 have H:=hid hown
 have HM:=hid hm
 have HD:=hid hd
 have HK:=hid kc
 have H23:=hid h23
 have hsl:=hS.lt
 have k23:w.cell? ⟨sb,23,none⟩=some (.slice (some ⟨g,0,none⟩) N cap):=(hS.cell 23).trans h23
 have b0:w.cell? ⟨g,p * 8,none⟩=some (.int .i64 x.num):=kc 0 _ rfl
 have b1:w.cell? ⟨g,p * 8+1,none⟩=some (.int .u64 x.at'):=kc 1 _ rfl
 have b2:w.cell? ⟨g,p * 8+2,none⟩=some (.int .i64 x.h):=kc 2 _ rfl
 have b3:w.cell? ⟨g,p * 8+3,none⟩=some (.int .i64 x.b):=kc 3 _ rfl
 have b4:w.cell? ⟨g,p * 8+4,none⟩=some (.int .i64 x.r):=kc 4 _ rfl
 have b5:w.cell? ⟨g,p * 8+5,none⟩=some (.int .i64 x.l):=kc 5 _ rfl
 have b6:w.cell? ⟨g,p * 8+6,none⟩=some (.slice am n1 c1):=kc 6 _ rfl
 have b7:w.cell? ⟨g,p * 8+7,none⟩=some (.slice ad n2 c2):=kc 7 _ rfl
 clear hS hown hm hd kc h23 hx HK
 go_enter Tryz.func37,Tryz.ntmps37
 go_wp2_with fail
 refine calls_world fun W1 hW1=>?_
 have cW:Ch (fun _=>False) w W1:=by rw [hW1];exact (Ch.refl _ w).alloc _
 have bR:Blk W1 w.heap.size 104 #[.int .i64 0,.int .u64 0,.int .i64 0,.int .i64 0,.int .i64 0,.int .i64 0,.slice none 0 0,.slice none 0 0]:=by rw [hW1];exact Blk.new w _ _
 have HW:=hid cW
 have HB:=hid bR
 clear hW1 cW bR k23 b0 b1 b2 b3 b4 b5 b6 b7
 refine (copied_any x am ad n1 c1 n2 c2 ms ds W1 (HM.out.keep HW.out (fun _ _ _ _=>id)) (HD.out.keep HW.out (fun _ _ _ _=>id)) zm zd h1 h2).mono ?_
 rintro e w4 ⟨mv,dv,rfl,ho1,ho2,hc⟩
 obtain ⟨ma,mc,hmv,_⟩:=own_slice ho1
 obtain ⟨da,dc,hdv,_⟩:=own_slice ho2
 subst hmv hdv
 have HO1:=hid (own_mono ho1 HW.out.size)
 have HO2:=hid (own_mono ho2 HW.out.size)
 have HC4:=hid (HW.out.trans hc (fun _ _ h=>h))
 have R4:=hc.blk HB.out id
 have r0:w4.cell? ⟨w.heap.size,0,none⟩=some (.int .i64 0):=R4.cell 0
 have r1:w4.cell? ⟨w.heap.size,1,none⟩=some (.int .u64 0):=R4.cell 1
 have r2:w4.cell? ⟨w.heap.size,2,none⟩=some (.int .i64 0):=R4.cell 2
 have r3:w4.cell? ⟨w.heap.size,3,none⟩=some (.int .i64 0):=R4.cell 3
 have r4:w4.cell? ⟨w.heap.size,4,none⟩=some (.int .i64 0):=R4.cell 4
 have r5:w4.cell? ⟨w.heap.size,5,none⟩=some (.int .i64 0):=R4.cell 5
 have r6:w4.cell? ⟨w.heap.size,6,none⟩=some (.slice none 0 0):=R4.cell 6
 have r7:w4.cell? ⟨w.heap.size,7,none⟩=some (.slice none 0 0):=R4.cell 7
 have s0:=R4.free 0
 have s1:=R4.free 1
 have s2:=R4.free 2
 have s3:=R4.free 3
 have s4:=R4.free 4
 have s5:=R4.free 5
 have s6:=R4.free 6
 have s7:=R4.free 7
 clear ho1 ho2 hc
 simp only [rvA]
 go_wp2_with fail
 refine at_world fun W7 hW7=>?_
 have R7:Blk W7 w.heap.size 104 #[.int .i64 x.num,.int .u64 x.at',.int .i64 x.h,.int .i64 x.b,.int .i64 x.r,.int .i64 x.l,.slice ma n1 mc,.slice da n2 dc]:=by
  rw [hW7];exact (((((((R4.put 0 _).put 1 _).put 2 _).put 3 _).put 4 _).put 5 _).put 6 _).put 7 _
 have c7:Ch (fun k=>k=w.heap.size) w4 W7:=by
  rw [hW7];exact ((((((((Ch.refl (fun k=>k=w.heap.size) w4).set (fun _=>rfl) _).set (fun _=>rfl) _).set (fun _=>rfl) _).set (fun _=>rfl) _).set (fun _=>rfl) _).set (fun _=>rfl) _).set (fun _=>rfl) _).set (fun _=>rfl) _
 have o1:=R4.own HO1.out (by decide)
 have o2:=R4.own HO2.out (by decide)
 have t0:W7.cell? ⟨w.heap.size,0,none⟩=some (.int .i64 x.num):=R7.cell 0
 have t1:W7.cell? ⟨w.heap.size,1,none⟩=some (.int .u64 x.at'):=R7.cell 1
 have t2:W7.cell? ⟨w.heap.size,2,none⟩=some (.int .i64 x.h):=R7.cell 2
 have t3:W7.cell? ⟨w.heap.size,3,none⟩=some (.int .i64 x.b):=R7.cell 3
 have t4:W7.cell? ⟨w.heap.size,4,none⟩=some (.int .i64 x.r):=R7.cell 4
 have t5:W7.cell? ⟨w.heap.size,5,none⟩=some (.int .i64 x.l):=R7.cell 5
 have t6:W7.cell? ⟨w.heap.size,6,none⟩=some (.slice ma n1 mc):=R7.cell 6
 have t7:W7.cell? ⟨w.heap.size,7,none⟩=some (.slice da n2 dc):=R7.cell 7
 refine bodyPost_ret (v:=.tuple #[.agg (rvA x (.slice ma n1 mc) (.slice da n2 dc)),.int .i64 0]) ?_ rfl ⟨_,_,rfl,c7.own HO1.out (fun k hk e=>o1 (by rw [hk,e])),c7.own HO2.out (fun k hk e=>o2 (by rw [hk,e])),HC4.out.trans c7 (fun i hi e=>absurd hi (by omega))⟩
 clear hW7 c7 o1 o2
 simp [results,Tryz.results37,go_sem,rvA,t0,t1,t2,t3,t4,t5,t6,t7]
theorem Mem.addThree {B:Nat} {w0 w w':World} {L:List Res} (h:Mem B w0 L w) (c:Ch (fun _=>False) w w') (r1 r2 r3:Res) (h1:r1.holds w') (h2:r2.holds w') (h3:r3.holds w') (f1:∀k,r1.foot k→w.heap.size≤k) (f2:∀k,r2.foot k→w.heap.size≤k) (f3:∀k,r3.foot k→w.heap.size≤k)
  (a12:∀k,r1.foot k→¬r2.foot k) (a13:∀k,r1.foot k→¬r3.foot k) (a23:∀k,r2.foot k→¬r3.foot k):Mem B w0 (L++[r1,r2,r3]) w':=by
 have old:∀(i:Nat) (s:Res),L[i]?=some s→∀k,s.foot k→k < w.heap.size:=fun i s hi k hk=>s.lt (h.each i s hi) k hk
 have t1:=h.add r1 c h1 f1
 have t2:=t1.addK r2 h2 (fun i s hi k hs hr=>by
  rcases mem_app hi with ⟨_,rfl⟩ | hi
  ·exact a12 k hs hr
  ·have:=old i s hi k hs;have:=f2 k hr;omega) (fun k hk=>Nat.le_trans h.bz (f2 k hk))
 have t3:=t2.addK r3 h3 (fun i s hi k hs hr=>by
  rcases mem_app hi with ⟨_,rfl⟩ | hi
  ·exact a23 k hs hr
  ·rcases mem_app hi with ⟨_,rfl⟩ | hi
   ·exact a13 k hs hr
   ·have:=old i s hi k hs;have:=f3 k hr;omega) (fun k hk=>Nat.le_trans h.bz (f3 k hk))
 simpa using t3
theorem Mem.addTwo {B:Nat} {w0 w w':World} {L:List Res} (h:Mem B w0 L w) (c:Ch (fun _=>False) w w') (r1 r2:Res) (h1:r1.holds w') (h2:r2.holds w') (f1:∀k,r1.foot k→w.heap.size≤k) (f2:∀k,r2.foot k→w.heap.size≤k)
  (a12:∀k,r1.foot k→¬r2.foot k):Mem B w0 (L++[r1,r2]) w':=by
 have t1:=h.add r1 c h1 f1
 have t2:=t1.addK r2 h2 (fun i s hi k hs hr=>by
  rcases mem_app hi with ⟨_,rfl⟩ | hi
  ·exact a12 k hs hr
  ·have:=s.lt (h.each i s hi) k hs;have:=f2 k hr;omega) (fun k hk=>Nat.le_trans h.bz (f2 k hk))
 simpa using t2
def fzero (p first n:Nat):Array Value:=#[.pointer (some ⟨p,0,none⟩),.int .i64 first,.int .i64 n,.int .u64 0,.int .u64 0,.int .u64 0,.bool false,.bool false]
open Classical in
noncomputable def ferr (vs:List Int) (first n:Int):Int:=
 if n < 1∨64 < n then 2 else if first < 0∨(vs.length:Int) - 4 - n < first then 3 else if (∃j:Nat,(j:Int) < 4+n∧lk vs (first.toNat+j)≠0) then 8 else 0
def FOut (k:Int) (w w':World) (t:TypeId) (cs:Array Value) (e:Ending):Prop:=
 Ch (fun _=>False) w w'∧((k≠0∧e=.returned (.tuple #[.pointer none,.int .i64 k]))∨(k=0∧∃q,w.heap.size≤q∧e=.returned (.tuple #[.pointer (some ⟨q,0,none⟩),.int .i64 0])∧Blk w' q t cs))
theorem ferr_2 {vs:List Int} {first n:Int} (h:n < 1∨64 < n):ferr vs first n=2:=by unfold ferr;rw [if_pos h]
theorem ferr_3 {vs:List Int} {first n:Int} (h:¬(n < 1∨64 < n)) (h2:first < 0∨(vs.length:Int) - 4 - n < first):ferr vs first n=3:=by unfold ferr;rw [if_neg h,if_pos h2]
theorem ferr_8 {vs:List Int} {first n:Nat} (h:1≤n∧n≤64) (h2:first+4+n≤vs.length) (j:Nat) (hj:j < 4+n) (hz:lk vs (first+j)≠0):ferr vs first n=8:=by
 unfold ferr
 rw [if_neg (by omega),if_neg (by omega),if_pos ⟨j,by omega,by rw [Int.toNat_natCast];exact hz⟩]
theorem ferr_0 {vs:List Int} {first n:Nat} (h:1≤n∧n≤64) (h2:first+4+n≤vs.length) (hz:∀j,j < 4+n→lk vs (first+j)=0):ferr vs first n=0:=by
 unfold ferr
 rw [if_neg (by omega),if_neg (by omega),if_neg]
 rintro ⟨j,hj,hb⟩
 rw [Int.toNat_natCast] at hb
 exact hb (hz j (by omega))
theorem fnew_any (B p cb:Nat) (lv:Value) (s:BS) (w:World) (first n:Int) (h:Bank B w p cb lv s.vs s.lg) (hLn:s.vs.length≤4096) :
  Calls Tryz.prog 50 #[.pointer (some ⟨p,0,none⟩),.int .i64 first,.int .i64 n] w fun e w'=>FOut (ferr s.vs first n) w w' 202 (fzero p first.toNat n.toNat) e:=by
 by_cases g1:n < 1
 ·have HQ:=hid (ferr_2 (vs:=s.vs) (first:=first) (.inl g1))
  have d0:decide (n < 1)=true:=decide_eq_true g1
  go_enter Tryz.func50,Tryz.ntmps50
  go_wp2_with fail
  go_ret2
  exact ⟨Ch.refl _ _,.inl ⟨by rw [HQ.out];decide,by rw [HQ.out];rfl⟩⟩
 ·by_cases g2:64 < n
  ·have HQ:=hid (ferr_2 (vs:=s.vs) (first:=first) (.inr g2))
   have d0:decide (n < 1)=false:=decide_eq_false g1
   have d1:decide (64 < n)=true:=decide_eq_true g2
   go_enter Tryz.func50,Tryz.ntmps50
   go_wp2_with fail
   go_ret2
   exact ⟨Ch.refl _ _,.inl ⟨by rw [HQ.out];decide,by rw [HQ.out];rfl⟩⟩
  ·obtain ⟨n,rfl⟩:=Int.eq_ofNat_of_zero_le (show 0≤n by omega)
   have d0:decide ((n:Int) < 1)=false:=decide_eq_false g1
   have d1:decide ((64:Int) < (n:Int))=false:=decide_eq_false g2
   by_cases g3:first < 0
   ·have HQ:=hid (ferr_3 (vs:=s.vs) (by omega:¬((n:Int) < 1∨64 < (n:Int))) (.inl g3))
    have d2:decide (first < 0)=true:=decide_eq_true g3
    go_enter Tryz.func50,Tryz.ntmps50
    go_wp2_with fail
    refine (values_any B p cb lv s w h).mono ?_
    rintro e w1 ⟨gv,rfl,hval,hc1,hgv⟩
    go_wp2_with fail
    go_ret2
    exact ⟨hc1,.inl ⟨by rw [HQ.out];decide,by rw [HQ.out];rfl⟩⟩
   ·have d2:decide (first < 0)=false:=decide_eq_false g3
    by_cases g4:(s.vs.length:Int) - 4 - (n:Int) < first
    ·have HQ:=hid (ferr_3 (vs:=s.vs) (by omega:¬((n:Int) < 1∨64 < (n:Int))) (.inr g4))
     have d3:decide ((s.vs.length:Int) - 4 - (n:Int) < first)=true:=decide_eq_true g4
     go_enter Tryz.func50,Tryz.ntmps50
     go_wp2_with fail
     refine (values_any B p cb lv s w h).mono ?_
     rintro e w1 ⟨gv,rfl,hval,hc1,hgv⟩
     go_wp2_with fail
     go_ret2
     exact ⟨hc1,.inl ⟨by rw [HQ.out];decide,by rw [HQ.out];rfl⟩⟩
    ·obtain ⟨first,rfl⟩:=Int.eq_ofNat_of_zero_le (show 0≤first by omega)
     have d3:decide ((s.vs.length:Int) - 4 - (n:Int) < (first:Int))=false:=decide_eq_false g4
     go_enter Tryz.func50,Tryz.ntmps50
     go_wp2_with fail
     refine (values_any B p cb lv s w h).mono ?_
     rintro e w1 ⟨gv,rfl,hval,hc1,hgv⟩
     go_wp2_with fail
     go_loop [10,40] (fun _ i=>∃j:Nat,j≤4+n∧i=.int .i64 j∧∀i,i < j→lk s.vs (first+i)=0) (fun _ i=>4+n - (intOf i).toNat)
     case atStart=>exact ⟨0,Nat.zero_le _,rfl,fun i hi=>absurd hi (Nat.not_lt_zero _)⟩
     case round=>
      obtain ⟨j,hj,rfl,hinv⟩:=hrel
      have Hinv:=hid hinv
      clear hinv
      by_cases hlt:j < 4+n
      ·have hcell:=(hval.cell (first+j)).trans (u64s_getD s.vs (first+j) (by omega))
       have d5:decide (j < 4+n)=true:=by simpa using hlt
       obtain ⟨z,hz⟩:∃z,z=lk s.vs (first+j):=⟨_,rfl⟩
       rw [←hz] at hcell
       have Hz:=hid hz
       clear hz
       by_cases hz0:z=0
       ·subst hz0
        go_wp2_with fail
        go_round
        case rel=>exact ⟨j+1,by omega,by go_num,fun i hi=>by
         by_cases hij:i < j
         ·exact Hinv.out i hij
         ·have:i=j:=by omega
          subst this
          exact Hz.out.symm⟩
        case measure=>simp [intOf];omega
       ·have hzb:(z != 0)=true:=by simpa using hz0
        have HQ:=hid (ferr_8 (vs:=s.vs) (first:=first) (n:=n) (by omega) (by omega) j hlt (by rw [←Hz.out];exact hz0))
        go_wp2_with fail
        go_ret2
        exact ⟨hc1,.inl ⟨by rw [HQ.out];decide,by rw [HQ.out];rfl⟩⟩
      ·have hjn:j=4+n:=by omega
       have HQ:=hid (ferr_0 (vs:=s.vs) (first:=first) (n:=n) (by omega) (by omega) (fun i hi=>Hinv.out i (by omega)))
       clear hjn
       go_wp2_with fail
       go_ret2
       exact ⟨hc1.alloc _,.inr ⟨HQ.out,_,hc1.size,rfl,Blk.new w1 _ (fzero p first n)⟩⟩
theorem wpList_app_str {P:Program} (w:World) {ops:Array Oper} {rest:List Oper} {o:Oper} {a:Act} {Q:Exit→Act→World→Prop} (hgd:o.guard=none) (sl x:Operand) (t u:TypeId)
  (ho:o.op=.call { callee:=.builtin .append,args:=#[sl,x],argTypes:=#[t,u] }) (base:Nat) (e:TypeId) (i:TypeInfo) (ht:P.underlying t=some (.slice e)) (hu:P.underlying u=some .string) (hi:P.info? e=some i) (hz:i.zero=some (.int .u8 0))
  (hsize:i.size=1) (hby:i.bytes=1) (v:Value) (n:Nat) (xs:List Value) (hs:a.eval sl=v) (hown:w.ownsRow base e 1 v n xs) (s:ByteArray) (hx:a.eval x=.string s)
  (h63:n+s.size≤1000000000) (hbase:base≤w.heap.size)
  (h:∀v' w',w'.ownsRow base e 1 v' (n+s.size) (xs++Lib.strCells s)→w.grownBy w' v.ownBlock→Fresh w v v'→(v'=.slice none 0 0↔v=.slice none 0 0∧s.size=0)→wpList P ops Q rest (a.put o.dst v') w'):wpList P ops Q (o::rest) a w:=by
 have hf:∀v' w',(Builtin.append_ #[t,u] o.type #[v,.string s]).run P w=.ok v' w'→w'.ownsRow base e 1 v' (n+s.size) (xs++Lib.strCells s)→w.grownBy w' v.ownBlock→Fresh w v v':=by
  intro v' w' hr h1 h2
  rcases hown.2 with ⟨rfl,rfl⟩ | ⟨g,cap,cur,rfl,hbg,hg,hnc,hcm,hcs,htake⟩
  ·have hx0:xs=[]:=by simpa using hown.1
   subst hx0
   obtain ⟨v2,w2,hr2,h3,_,_⟩:=Lib.run_append_own_string (P:=P) w w.heap.size t u o.type e i ht hu hi hz hsize hby (.slice none 0 0) 0 [] (World.ownsRow_nil w _ e 1) s (by unfold maxLen;omega) (by omega) (Nat.le_refl _)
   rw [hr] at hr2
   injection hr2 with e1 e2
   subst e1 e2
   exact .inr fun k hk=>(h3.lt k hk).1
  ·by_cases hroom:n+s.size≤cap
   ·have hr2:=Lib.run_append_room_string (P:=P) w t u o.type e i ht hu hi hsize g n cap cur hg s hroom (by omega)
    rw [hr] at hr2
    injection hr2 with e1 e2
    subst e1
    exact .inl rfl
   ·have hr2:=Lib.run_append_grow_string (P:=P) w t u o.type e i (.int .u8 0) ht hu hi hz ⟨g,0,none⟩ n cap xs (by rw [hsize];simpa using hown.1) (hown.cells (g:=g) rfl) s (by omega) (by omega) (by rw [hby];exact growslice_fits (by omega) (by omega))
    rw [hr] at hr2
    injection hr2 with e1 e2
    subst e1
    exact .inr fun k hk=>by injection hk with hk;exact Nat.le_of_eq hk
 refine wpList_plain hgd fun K hK=>?_
 obtain ⟨v',w',hr,h2,h3,h4⟩:=Lib.run_append_own_string (P:=P) w base t u o.type e i ht hu hi hz hsize hby v n xs hown s (by unfold maxLen;omega) (by omega) hbase
 have hF:=hf v' w' hr h2 h3
 unfold Oper.wp execOp
 simp only [ho,resolve,invoke,builtin,Sem.run_bind,Sem.run_pure,Result.andThen_ok,List.map_toArray,List.map_cons,List.map_nil,hs,hx,hr]
 exact hK _ _ (h v' w' h2 h3 hF h4)
theorem mfc_any (x:Mk) (id':Int) (tb:Nat) (w:World) (h:Blk w tb 24 #[.int .u32 id']):Calls Tryz.prog 103 #[x.agg,.pointer (some ⟨tb,0,none⟩)] w fun e w'=>e=.returned (.bool (x.id == id'))∧Ch (fun _=>False) w w':=by
 have t0:w.cell? ⟨tb,0,none⟩=some (.int .u32 id'):=h.cell 0
 have lt:=h.lt
 clear h
 simp only [Mk.agg]
 go_enter Tryz.func103,Tryz.ntmps103
 go_wp2_with fail
 go_ret
 exact ⟨rfl,(Ch.refl _ w).alloc _⟩
def MfAt (l:List Mk) (id':Int) (r:Int):Prop:=(r = -1∧∀x ∈ l,x.id≠id')∨∃(k:Nat) (x:Mk),r=(k:Int)∧l[k]?=some x∧x.id=id'
theorem mfi_any (a:Option Addr) (n c:Nat) (l:List Mk) (id':Int) (tb:Nat) (w:World) (h:Blk w tb 24 #[.int .u32 id']) (hin:InMk w a n l) (hn:n≤1000000) :
  Calls Tryz.prog 102 #[.slice a n c,.func (.func 103) #[] #[.pointer (some ⟨tb,0,none⟩)]] w fun e w'=>∃r:Int,e=.returned (.int .i64 r)∧MfAt l id' r∧Ch (fun _=>False) w w':=by
 have H:=hid h
 have HIN:=hid hin
 clear h hin
 go_enter Tryz.func102,Tryz.ntmps102
 go_wp2_with fail
 go_loopw [8] (fun i wr=>∃k:Nat,k≤n∧i=.int .i64 k∧Ch (fun _=>False) w wr∧∀j:Nat,j < k→∀x,l[j]?=some x→x.id≠id') (fun i _=>n - (intOf i).toNat)
 case atStart=>exact ⟨0,Nat.zero_le _,rfl,Ch.refl _ _,fun j hj=>absurd hj (Nat.not_lt_zero j)⟩
 case round=>
  obtain ⟨k,hk,rfl,hCh,hinv⟩:=hrel
  have Hinv:=hid hinv
  have HCH:=hid hCh
  clear hinv hCh
  have hln:=HIN.out.1
  by_cases hlt:k < n
  ·obtain ⟨x,hx⟩:∃x,l[k]?=some x:=⟨_,List.getElem?_eq_getElem (by omega)⟩
   obtain ⟨b,off,hab,hbl,hcc⟩:=HIN.out.2 (by omega)
   subst hab
   have c0:wr.cell? ⟨b,off+k * 3,none⟩=some (.int .u32 x.id):=(HCH.out.cell (p:=⟨b,_,none⟩) hbl (fun h=>h)).trans (hcc k 0 x _ hx rfl)
   have c1:wr.cell? ⟨b,off+k * 3+1,none⟩=some (.int .i64 x.at'):=(HCH.out.cell (p:=⟨b,_,none⟩) hbl (fun h=>h)).trans (hcc k 1 x _ hx rfl)
   have c2:wr.cell? ⟨b,off+k * 3+2,none⟩=some (.int .u8 x.g):=(HCH.out.cell (p:=⟨b,_,none⟩) hbl (fun h=>h)).trans (hcc k 2 x _ hx rfl)
   have d1:decide (k < n)=true:=decide_eq_true hlt
   have d1':decide ((k:Int) < (n:Int))=true:=decide_eq_true (by omega)
   have HX:=hid hx
   clear hx hcc hln
   by_cases hx0:x.id=id'
   ·have hxb:(x.id == id')=true:=by simpa using hx0
    have HX0:=hid hx0
    clear hx0
    go_wp2_with fail
    refine (mfc_any x id' tb wr (HCH.out.blk H.out id)).mono ?_
    rintro e w2 ⟨rfl,hc⟩
    rw [hxb]
    have C2:=hid (HCH.out.trans hc (fun _ _ h=>h))
    clear c0 c1 c2 hc
    go_wp2_with fail
    go_ret
    exact ⟨_,rfl,.inr ⟨k,x,rfl,HX.out,HX0.out⟩,C2.out⟩
   ·have hxb:(x.id == id')=false:=by simpa using hx0
    have HX0:=hid hx0
    clear hx0
    go_wp2_with fail
    refine (mfc_any x id' tb wr (HCH.out.blk H.out id)).mono ?_
    rintro e w2 ⟨rfl,hc⟩
    rw [hxb]
    have C2:=hid (HCH.out.trans hc (fun _ _ h=>h))
    clear c0 c1 c2 hc
    go_wp2_with fail
    go_roundw
    case rel=>exact ⟨k+1,by omega,by go_num,C2.out,fun j hj y hy=>by
     by_cases hjk:j < k
     ·exact Hinv.out j hjk y hy
     ·have:j=k:=by omega
      subst this
      rw [HX.out] at hy
      injection hy with hy
      rw [←hy]
      exact HX0.out⟩
    case measure=>simp [intOf];omega
  ·obtain rfl:k=n:=by omega
   have d1:decide (k < k)=false:=decide_eq_false (by omega)
   go_wp2_with fail
   go_ret
   exact ⟨_,rfl,.inl ⟨rfl,fun x hx=>by
    obtain ⟨j,hj⟩:=List.getElem?_of_mem hx
    have:=(List.getElem?_eq_some_iff.1 hj).1
    exact Hinv.out j (by omega) x hj⟩,HCH.out⟩
theorem mfind_any (a:Option Addr) (n c:Nat) (l:List Mk) (id':Int) (w:World) (hin:InMk w a n l) (hn:n≤1000000) :
  Calls Tryz.prog 65 #[.slice a n c,.int .u32 id'] w fun e w'=>((e=.returned (.tuple #[.agg #[.int .u32 0,.int .i64 0,.int .u8 0],.bool false])∧∀x ∈ l,x.id≠id')∨∃(k:Nat) (x:Mk),e=.returned (.tuple #[x.agg,.bool true])∧l[k]?=some x∧x.id=id')∧Ch (fun _=>False) w w':=by
 have HIN:=hid hin
 clear hin
 go_enter Tryz.func65,Tryz.ntmps65
 go_wp2_with fail
 refine calls_world fun W1 hW1=>?_
 have C1:=hid (show Ch (fun _=>False) w W1 from by rw [hW1];exact ((Ch.refl _ w).alloc _).alloc _)
 have T1:=hid (show Blk W1 w.heap.size 24 #[.int .u32 id'] from by rw [hW1];exact (Blk.new w _ _).alloc _)
 obtain ⟨rb,hrb⟩:∃z,z=w.heap.size+1:=⟨_,rfl⟩
 have R1:=hid (show Blk W1 rb 160 #[.int .u32 0,.int .i64 0,.int .u8 0] from by rw [hW1,hrb];have t:=Blk.new (w.alloc (.cells #[.int .u32 id'] 24)) 160 #[.int .u32 0,.int .i64 0,.int .u8 0];simpa using t)
 have lrb:=hid (show w.heap.size≤rb from by omega)
 rw [←hrb]
 clear hW1 hrb
 refine (mfi_any a n c l id' w.heap.size W1 T1.out (HIN.out.keep C1.out (fun _ _ _ _ h=>h)) hn).mono ?_
 rintro e w2 ⟨r,rfl,hr,hc⟩
 have C2:=hid (C1.out.trans hc (fun _ _ h=>h))
 have R2:=hid (hc.blk R1.out id)
 clear hc
 have s0:=R2.out.free 0
 have s1:=R2.out.free 1
 have s2:=R2.out.free 2
 have r0:w2.cell? ⟨rb,0,none⟩=some (.int .u32 0):=R2.out.cell 0
 have r1:w2.cell? ⟨rb,1,none⟩=some (.int .i64 0):=R2.out.cell 1
 have r2:w2.cell? ⟨rb,2,none⟩=some (.int .u8 0):=R2.out.cell 2
 rcases hr with ⟨rfl,hno⟩ | ⟨k,x,rfl,hx,hxi⟩
 ·have HNO:=hid hno
  clear hno
  go_wp2_with fail
  refine at_world fun WZ hWZ=>?_
  have CZ:=hid (show Ch (fun k=>k=rb) w2 WZ from by rw [hWZ];exact ((((Ch.refl (fun k=>k=rb) w2).set (fun _=>rfl) _).set (fun _=>rfl) _).set (fun _=>rfl) _))
  have BZ:=hid (show Blk WZ rb 160 #[.int .u32 0,.int .i64 0,.int .u8 0] from by rw [hWZ];exact (((R2.out.put 0 _).put 1 _).put 2 _))
  clear hWZ r0 r1 r2 s0 s1 s2
  have t0:WZ.cell? ⟨rb,0,none⟩=some (.int .u32 0):=BZ.out.cell 0
  have t1:WZ.cell? ⟨rb,1,none⟩=some (.int .i64 0):=BZ.out.cell 1
  have t2:WZ.cell? ⟨rb,2,none⟩=some (.int .u8 0):=BZ.out.cell 2
  exact bodyPost_ret (v:=.tuple #[.agg #[.int .u32 0,.int .i64 0,.int .u8 0],.bool false]) (by simp [results,Tryz.results65,go_sem,t0,t1,t2]) rfl ⟨.inl ⟨rfl,HNO.out⟩,C2.out.trans CZ.out (fun j hj e=>by have:=lrb.out;omega)⟩
 ·have hkl:=(List.getElem?_eq_some_iff.1 hx).1
  have hln:=HIN.out.1
  obtain ⟨b,off,hab,hbl,hcc⟩:=HIN.out.2 (by omega)
  subst hab
  have c0:w2.cell? ⟨b,off+k * 3,none⟩=some (.int .u32 x.id):=(C2.out.cell (p:=⟨b,_,none⟩) hbl (fun h=>h)).trans (hcc k 0 x _ hx rfl)
  have c1:w2.cell? ⟨b,off+k * 3+1,none⟩=some (.int .i64 x.at'):=(C2.out.cell (p:=⟨b,_,none⟩) hbl (fun h=>h)).trans (hcc k 1 x _ hx rfl)
  have c2:w2.cell? ⟨b,off+k * 3+2,none⟩=some (.int .u8 x.g):=(C2.out.cell (p:=⟨b,_,none⟩) hbl (fun h=>h)).trans (hcc k 2 x _ hx rfl)
  have hkn:k < n:=by omega
  have d1:decide (k < n)=true:=decide_eq_true hkn
  have d1':decide ((k:Int) < (n:Int))=true:=decide_eq_true (by omega)
  have d2:decide ((k:Int) < 0)=false:=decide_eq_false (by omega)
  have HX:=hid hx
  have HXI:=hid hxi
  have nb:b≠rb:=by have:=lrb.out;omega
  clear hx hxi hcc hln hkl
  go_wp2_with fail
  refine at_world fun WZ hWZ=>?_
  have CZ:=hid (show Ch (fun k=>k=rb) w2 WZ from by rw [hWZ];exact ((((Ch.refl (fun k=>k=rb) w2).set (fun _=>rfl) _).set (fun _=>rfl) _).set (fun _=>rfl) _))
  have BZ:=hid (show Blk WZ rb 160 #[.int .u32 x.id,.int .i64 x.at',.int .u8 x.g] from by rw [hWZ];exact (((R2.out.put 0 _).put 1 _).put 2 _))
  clear hWZ r0 r1 r2 s0 s1 s2
  have t0:WZ.cell? ⟨rb,0,none⟩=some (.int .u32 x.id):=BZ.out.cell 0
  have t1:WZ.cell? ⟨rb,1,none⟩=some (.int .i64 x.at'):=BZ.out.cell 1
  have t2:WZ.cell? ⟨rb,2,none⟩=some (.int .u8 x.g):=BZ.out.cell 2
  exact bodyPost_ret (v:=.tuple #[.agg #[.int .u32 x.id,.int .i64 x.at',.int .u8 x.g],.bool true]) (by simp [results,Tryz.results65,go_sem,t0,t1,t2]) rfl ⟨.inr ⟨k,x,rfl,HX.out,HXI.out⟩,C2.out.trans CZ.out (fun j hj e=>by have:=lrb.out;omega)⟩
theorem cntL_app (a b:List T):T.cntL (a++b)=T.cntL a+T.cntL b:=by
 rw [cntL_sum,cntL_sum,cntL_sum,List.map_append,List.sum_append]
theorem group_cnt (ks:List T):(groupT ks).cnt≤T.cntL ks+1:=by
 match ks with
 | []=>simp [groupT,T.cnt]
 | [t]=>simp [groupT,T.cntL]
 | a::b::l=>simp [groupT,T.cnt]
theorem groups_cnt:∀(L:List (List T)),T.cntL (L.map groupT)≤T.cntL L.flatten+L.length
 | []=>Nat.le_refl _
 | a::L=>by
  have h1:=group_cnt a
  have h2:=groups_cnt L
  rw [List.map_cons,List.flatten_cons,cntL_app,List.length_cons]
  simp only [T.cntL]
  omega
theorem rowUp_cnt (l:List T):T.cntL (rowUp l)≤T.cntL l+(rowUp l).length:=by
 have h:=groups_cnt (cutL (sizesN l.length 4) l)
 rw [cutL_flat _ _ (sizes_sum _ _ (by decide))] at h
 unfold rowUp
 rw [List.length_map]
 exact h
theorem topT_cnt8 (l:List T) (h:l.length≤8):T.cntL (topT l)≤T.cntL l+3:=by
 by_cases h1:l.length≤1
 ·rw [topT_le h1];omega
 ·have e1:=rowUp_cnt l
  have l1:=rowUp_len l
  have l2:grpN l.length 4≤2:=by
   have hc:l.length=2∨l.length=3∨l.length=4∨l.length=5∨l.length=6∨l.length=7∨l.length=8:=by omega
   rcases hc with e | e | e | e | e | e | e <;> rw [e] <;> decide
  rw [topT_up (by omega)]
  by_cases h2:(rowUp l).length≤1
  ·rw [topT_le h2];omega
  ·have e2:=rowUp_cnt (rowUp l)
   have l3:=rowUp_len (rowUp l)
   have l4:(rowUp l).length=2:=by omega
   rw [l4] at l3
   have l5:(rowUp (rowUp l)).length=1:=by rw [l3];decide
   rw [topT_up (by omega),topT_le (by omega)]
   omega
theorem leaf_cnt:∀(l:List ByteArray),T.cntL (l.map .leaf)=l.length
 | []=>rfl
 | a::l=>by
  rw [List.map_cons,List.length_cons]
  simp only [T.cntL,T.cnt]
  rw [leaf_cnt l]
  omega
theorem build_cnt11 {s:ByteArray} {t:T} (h:buildT s=[t]) (hs:s.size≤120):t.cnt≤11:=by
 have hl:(baseT s).length≤8:=by
  rw [base_len]
  have:=grp_le (n:=s.size) (m:=16) (by decide)
  omega
 have h1:=topT_cnt8 (baseT s) hl
 have h2:T.cntL (baseT s)=(baseT s).length:=by
  unfold baseT
  rw [leaf_cnt,List.length_map]
 have h3:T.cntL (topT (baseT s))=t.cnt:=by
  have e:topT (baseT s)=[t]:=h
  rw [e]
  simp [T.cntL]
 omega
end Go.Proofs.YtjcdknhejcbpiaaGreat
