/- Lemmas that the proof of the last text leans on; no condition. -/
import Derived.Test.YtjcdknhejcbpiaaGreatAb35
import Derived.Test.YtjcdknhejcbpiaaGreatAb30
import Derived.Test.YtjcdknhejcbpiaaGreatAb20
import Derived.Test.YtjcdknhejcbpiaaGreatAb19
import Derived.Test.YtjcdknhejcbpiaaGreatAb03
import Derived.Test.YtjcdknhejcbpiaaGreatAb38
set_option maxRecDepth 100000
set_option maxHeartbeats 4000000
namespace Go.Proofs.YtjcdknhejcbpiaaGreat
open Go.RowKit
set_option linter.unusedVariables false
set_option linter.unusedSimpArgs false
set_option linter.unusedSectionVars false
theorem Dn.app {f:Ms→Int} {tx:List UInt8} {ns:List An} {ix:Nat} {n r:Int} {base:Ms} (h:Dn f tx ns ix n r base) (ys:List An):Dn f tx (ns++ys) ix n r base:=by
 obtain ⟨u,pre,post,a,b⟩:=h.ex
 exact ⟨⟨u,pre,post,a.app,b⟩⟩
theorem app_get {α:Type} {l:List α} {i:Nat} {a:α} (h:l[i]?=some a) (us:List α):(l++us)[i]?=some a:=by
 rw [List.getElem?_append_left (List.getElem?_eq_some_iff.1 h).1]
 exact h
theorem app_last {α:Type} {l:List α} {i:Nat} {a b:α} (h:(l++[b])[i]?=some a):l[i]?=some a∨(i=l.length∧a=b):=by
 rw [List.getElem?_append] at h
 split at h
 ·exact .inl h
 ·have hl:=(List.getElem?_eq_some_iff.1 h).1
  simp at hl
  have hi:i - l.length=0:=by omega
  rw [hi] at h
  simp at h
  exact .inr ⟨by omega,h.symm⟩
section
variable {B:Nat} {w0 w:World} {R:List Res} {σ σ':RS} {bs:List Bx} {y:Ly} {n m:Nat} {ts ts':List (List UInt8)} {hk:Option Nat} {pg:Pg}
theorem Shows.move {k:Nat} {tx:List UInt8} (h:Shows σ ts k tx) (hsl:σ'.sl=σ.sl) (us:List (List UInt8)):Shows σ' (ts++us) k tx:=by
 obtain ⟨s,i,h1,h2,h3⟩:=h
 exact ⟨s,i,by rw [hsl];exact h1,h2,app_get h3 us⟩
theorem Acq.move {k:Nat} {ph v:Int} (h:Acq σ n m k ph v) (hr:σ'.r=σ.r) (hsl:σ'.sl=σ.sl) (hps:σ'.ps=σ.ps):Acq σ' n m k ph v:=by
 unfold Acq at *
 rw [hr,hsl,hps]
 exact h
theorem PgAt.move (h:PgAt σ bs n m ts pg) (O:σ.Ok y n m) (hg:σ'.g=σ.g) (hr:σ'.r=σ.r) (hsl:σ'.sl=σ.sl) (hps:σ'.ps=σ.ps) (htx:σ'.tx=σ.tx) {ys:List An} (hns:σ'.ns=σ.ns++ys) (hf:σ'.f=σ.f) (hvs:∀i,i < σ.f.n→lk σ'.s.vs (σ.f.slot i)=lk σ.s.vs (σ.f.slot i)) (us:List (List UInt8)):PgAt σ' bs n m (ts++us) pg:=by
 cases pg with
 | fin x=>simp only [PgAt,hr] at *;exact h
 | loc x=>simp only [PgAt,hr,hg] at *;exact h
 | clos=>simp only [PgAt,hr,hg] at *;exact h
 | ep k=>
  obtain ⟨h1,h2,h3,h4,h5⟩:=h
  exact ⟨by rw [hr];exact h1,by rw [hr];exact h2,by rw [hr];exact h3,by rw [hr,hg];exact h4,h5.move hr hsl hps⟩
 | ann k v=>
  obtain ⟨h1,h2,h3,h4,h5,h6⟩:=h
  exact ⟨by rw [hr];exact h1,by rw [hr];exact h2,by rw [hr];exact h3,by rw [hr,hg];exact h4,h5.move hr hsl hps,h6⟩
 | root k=>
  obtain ⟨h1,h2,h3,h4,h5,h6⟩:=h
  exact ⟨by rw [hr];exact h1,by rw [hr];exact h2,by rw [hr];exact h3,by rw [hr,hg];exact h4,h5.move hr hsl hps,by rw [hf,hvs _ (by have:=O.mn;have:=h5.2.2.1;omega)];exact h6⟩
 | rel k=>simp only [PgAt,hr,hg,hsl] at *;exact h
 | seek k pos=>simp only [PgAt,hr,hg,hsl] at *;exact h
 | take k a pos=>simp only [PgAt,hr,hg,hsl,htx] at *;exact h
 | byte k a tx p0 N d ix rest base=>
  obtain ⟨h1,h2,h3,h4,h5,h6,h7,h8,h9,h10,h11,h12,h13,h14,h15,h16⟩:=h
  exact ⟨by rw [hr];exact h1,by rw [hr];exact h2,by rw [hr];exact h3,by rw [hr,hg];exact h4,by rw [hr];exact h5,by rw [hr];exact h6,h7.move hsl us,by rw [hr];exact h8,by rw [hr];exact h9,by rw [hr];exact h10,by rw [hr];exact h11,by rw [hr];exact h12,h13,h14,by rw [htx];exact h15,by rw [hns];exact h16.app ys⟩
 | rune k tx q ix rest base=>
  obtain ⟨h1,h2,h3,h4,h5,h6,h7,h8,h9⟩:=h
  exact ⟨by rw [hr];exact h1,by rw [hr];exact h2,by rw [hr];exact h3,by rw [hr,hg];exact h4,h5.move hsl us,by rw [hr];exact h6,by rw [hr];exact h7,by rw [hr];exact h8,by rw [hns];exact h9.app ys⟩
 | line k tx q ix rest base=>
  obtain ⟨h1,h2,h3,h4,h5,h6,h7,h8,h9⟩:=h
  exact ⟨by rw [hr];exact h1,by rw [hr];exact h2,by rw [hr];exact h3,by rw [hr,hg];exact h4,h5.move hsl us,by rw [hr];exact h6,by rw [hr];exact h7,by rw [hr];exact h8,by rw [hns];exact h9.app ys⟩
def RS.pub (σ:RS) (ys:List An) (rv':Value) (r1:RvS) (lv':Value) (t:Int):RS:={ σ with ns:=σ.ns++ys,cs:=σ.cs.setIfInBounds 23 rv',rv:=rv',rs:=σ.rs++[r1],s:=σ.s.store t 1 (σ.rs.length:Int),lv:=lv' }
theorem slot_ne1 (K:RnOk σ y n m ts hk) {i:Nat} (hi:i < σ.f.n):1≠σ.f.slot i:=by
 have:=K.O.fs i hi
 omega
theorem slot_ne0 (K:RnOk σ y n m ts hk) {i:Nat} (hi:i < σ.f.n):0≠σ.f.slot i:=by
 have:=K.O.fs i hi
 omega
theorem RnOk.pub (K:RnOk σ y n m ts hk) (hl:σ.s.lg.length < 800000) {ys:List An} (P':ArP (σ.ns++ys)) (rv':Value) (r1:RvS) (lv':Value) (t:Int) {tx:List UInt8} (ht:ts.length < 200) (htl:tx.length≤100000) (hr:RevOk (σ.ns++ys) r1.x tx) (hn:r1.x.num=3 * (ts.length:Int)) (hm:r1.ms.length≤4) (hd:r1.ds.length≤4):RnOk (σ.pub ys rv' r1 lv' t) y n m (ts++[tx]) hk:=by
 have h23:23 < σ.cs.size:=(Array.getElem?_eq_some_iff.1 K.O.h23).1
 have hvl:1 < σ.s.vs.length:=by have:=K.O.vs;omega
 refine ⟨?_,P',by simp [RS.pub,K.nt],by simp;omega,fun u hu=>?_,fun i r u hi hu=>?_,⟨ts.length,?_,by simp⟩,fun k s hs=>?_,fun k hk hne=>?_,?_,K.en⟩
 ·exact ((K.O.publish rv' (σ.rs++[r1]) h23 (by simp [Ly.arr])).arena (σ.ns++ys)).bank (σ.s.store t 1 (σ.rs.length:Int)) lv' (store_vlen _ _ 1 _) (by show (σ.s.store t 1 (σ.rs.length:Int)).lg.length < 900000;rw [store_len];omega) (K.O.ed.of (store_vlen _ _ 1 _))
 ·simp at hu
  rcases hu with hu | rfl
  ·exact K.tl u hu
  ·exact htl
 ·have hi:(σ.rs++[r1])[i]?=some r:=hi
  rcases app_last hi with h | ⟨h1,h2⟩
  ·have hil:i < ts.length:=by rw [K.nt];exact (List.getElem?_eq_some_iff.1 h).1
   rw [List.getElem?_append_left hil] at hu
   obtain ⟨a,b⟩:=K.rv i r u h hu
   exact ⟨a.app ys,b⟩
  ·subst h2
   rw [h1,←K.nt,List.getElem?_append_right (Nat.le_refl _),Nat.sub_self] at hu
   simp at hu
   subst hu
   exact ⟨hr,by rw [hn,h1,K.nt],hm,hd⟩
 ·show lk (σ.s.store t 1 (σ.rs.length:Int)).vs 1=_
  rw [show (σ.s.store t 1 (σ.rs.length:Int)).vs=σ.s.vs.set 1 (σ.rs.length:Int) from rfl,lk_set_eq _ hvl,K.nt]
 ·obtain ⟨i,r,h1,h2⟩:=K.sn k s hs
  exact ⟨i,r,app_get h1 _,h2⟩
 ·have e:lk (σ.s.store t 1 (σ.rs.length:Int)).vs (σ.f.slot (m+k))=lk σ.s.vs (σ.f.slot (m+k)):=by
   rw [show (σ.s.store t 1 (σ.rs.length:Int)).vs=σ.s.vs.set 1 (σ.rs.length:Int) from rfl,lk_set_ne _ (slot_ne1 K (by have:=K.O.mn;omega))]
  show (σ.sl[k]?=some none∧σ.ps[m+k]?=some none∧lk (σ.s.store t 1 (σ.rs.length:Int)).vs (σ.f.slot (m+k))=0)∨∃s g q,σ.sl[k]?=some (some s)∧σ.ps[m+k]?=some (some (g,q))∧q.ph=0∧lk (σ.s.store t 1 (σ.rs.length:Int)).vs (σ.f.slot (m+k))≠0
  rw [e]
  exact K.pn k hk hne
 ·show 0≤lk (σ.s.store t 1 (σ.rs.length:Int)).vs σ.f.ep∧lk (σ.s.store t 1 (σ.rs.length:Int)).vs σ.f.ep < 1000000
  rw [show (σ.s.store t 1 (σ.rs.length:Int)).vs=σ.s.vs.set 1 (σ.rs.length:Int) from rfl,lk_set_ne _ (by have:=K.O.f0;omega)]
  exact K.ep
theorem PgAt.pub (h:PgAt σ bs n m ts pg) (K:RnOk σ y n m ts hk) (ys:List An) (rv':Value) (r1:RvS) (lv':Value) (t:Int) (tx:List UInt8):PgAt (σ.pub ys rv' r1 lv' t) bs n m (ts++[tx]) pg:=
 h.move (σ':=σ.pub ys rv' r1 lv' t) (ys:=ys) K.O rfl rfl rfl rfl rfl rfl rfl (fun i hi=>by
  show lk (σ.s.vs.set 1 _) _=_
  rw [lk_set_ne _ (slot_ne1 K hi)]) [tx]
def RS.shut (σ:RS) (lv':Value) (t:Int):RS:={ σ with s:=σ.s.store t 0 1,lv:=lv' }
theorem RnOk.shut (K:RnOk σ y n m ts hk) (hl:σ.s.lg.length < 800000) (lv':Value) (t:Int):RnOk (σ.shut lv' t) y n m ts hk:=by
 have e1:∀j,j≠0→lk (σ.s.store t 0 1).vs j=lk σ.s.vs j:=fun j hj=>by
  rw [show (σ.s.store t 0 1).vs=σ.s.vs.set 0 1 from rfl,lk_set_ne _ (Ne.symm hj)]
 refine K.of ⟨rfl,rfl,rfl,rfl,rfl,rfl,rfl,rfl,rfl,rfl,rfl,rfl,rfl,rfl,rfl,rfl⟩ ?_ (e1 1 (by decide)) (e1 _ (by have:=K.O.f0;omega)) K.sn (fun k hk hne=>?_)
 ·exact K.O.bank (σ.s.store t 0 1) lv' (store_vlen _ _ 0 _) (by rw [store_len];omega) (K.O.ed.of (store_vlen _ _ 0 _))
 ·show (σ.sl[k]?=some none∧σ.ps[m+k]?=some none∧lk (σ.s.store t 0 1).vs (σ.f.slot (m+k))=0)∨∃s g q,σ.sl[k]?=some (some s)∧σ.ps[m+k]?=some (some (g,q))∧q.ph=0∧lk (σ.s.store t 0 1).vs (σ.f.slot (m+k))≠0
  rw [e1 _ (Ne.symm (slot_ne0 K (by have:=K.O.mn;omega)))]
  exact K.pn k hk hne
theorem PgAt.shut (h:PgAt σ bs n m ts pg) (K:RnOk σ y n m ts hk) (lv':Value) (t:Int):PgAt (σ.shut lv' t) bs n m ts pg:=by
 have:=h.move (σ':=σ.shut lv' t) (ys:=[]) K.O rfl rfl rfl rfl rfl (by rw [List.append_nil];rfl) rfl (fun i hi=>by
  show lk (σ.s.vs.set 0 _) _=_
  rw [lk_set_ne _ (slot_ne0 K hi)]) []
 rwa [List.append_nil] at this
end
structure HdV where
 is:Bool
 s:ByteArray
 mv:Value
 ms:List Mk
 h:Int
 cu:Int
def HdV.cells (x:HdV):List Value:=[.bool x.is,.string x.s,x.mv,.int .i64 x.h,.int .i64 x.cu]
def HdV.zero:HdV:=⟨false,⟨#[]⟩,.slice none 0 0,[],0,0⟩
def hdCells (l:List HdV):List Value:=l.flatMap HdV.cells
structure PlS where
 g:Nat
 hb:Nat
 now:HdV
 num:Int
 cl:Bool
 hs:List HdV
 pool:List (Value × List Mk)
def PlS.cells (p:PlS) (sb g n:Nat):Array Value:=#[.pointer (some ⟨sb,0,none⟩),.pointer (some ⟨g,0,none⟩),.slice (some ⟨p.hb,0,none⟩) n n,.bool p.now.is,.string p.now.s,p.now.mv,.int .i64 p.now.h,.int .i64 p.now.cu,.int .i64 p.num,.bool p.cl]
def poolR (B:Nat) (l:List (Value × List Mk)):Res where
 holds w:=∀p ∈ l,w.ownsRow B 160 3 p.1 p.2.length (mkCells p.2)
 foot k:=∃p ∈ l,p.1.ownBlock=some k
 stable h c hn:=fun p hp=>c.own (h p hp) (fun k hk=>hn k ⟨p,hp,hk⟩)
 lt h k hk:=by
  obtain ⟨p,hp,hk⟩:=hk
  exact ((h p hp).lt k hk).2
def PlS.L (B:Nat) (p:PlS) (sb g n:Nat):List Res:=[blkR p.g 51 (p.cells sb g n),blkR p.hb 49 (hdCells p.hs).toArray,poolR B p.pool]
structure PlOk (p:PlS) (σ:RS) (n:Nat) (ts:List (List UInt8)):Prop where
 now:p.now.is=true∧p.now.cu=0
 rt:lk σ.s.vs 1=((ts.length - 1:Nat):Int)
 t0:0 < ts.length
 rv:∃(r:RvS) (tx:List UInt8),σ.rs[ts.length - 1]?=some r∧ts[ts.length - 1]?=some tx∧p.now.s.data.toList=tx∧p.now.ms=r.ms∧p.now.h=r.x.h∧p.num=r.x.num
 pool:(p.now.mv,p.now.ms) ∈ p.pool
 hl:p.hs.length=n
 hp:∀(k:Nat) (x:HdV),p.hs[k]?=some x→(x.mv,x.ms) ∈ p.pool
 cl:p.cl=decide (lk σ.s.vs 0≠0)
section
variable {B:Nat} {w0 w w':World} {R:List Res} {σ σ':RS} {bs:List Bx} {p:PlS} {y:Ly} {n m:Nat} {ts:List (List UInt8)}
theorem p_blk (M:Mem B w0 (σ.L B++(boxR bs::(p.L B σ.r.sb σ.g n++R))) w):Blk w p.g 51 (p.cells σ.r.sb σ.g n):=M.each 10 _ rfl
theorem p_pool (M:Mem B w0 (σ.L B++(boxR bs::(p.L B σ.r.sb σ.g n++R))) w):(poolR B p.pool).holds w:=M.each 12 _ rfl
theorem p_same (M:Mem B w0 (σ'.L B++(boxR bs::(p.L B σ.r.sb σ.g n++R))) w) (S:Same σ σ'):Mem B w0 (σ'.L B++(boxR bs::(p.L B σ'.r.sb σ'.g n++R))) w:=by
 rw [S.sb,S.g]
 exact M
theorem p_put (M:Mem B w0 (σ.L B++(boxR bs::(p.L B σ.r.sb σ.g n++R))) w) (o:Nat) (u:Value) (p':PlS) (e:(p.cells σ.r.sb σ.g n).setIfInBounds o u=p'.cells σ.r.sb σ.g n) (h1:p'.g=p.g) (h2:p'.hb=p.hb) (h3:p'.hs=p.hs) (h4:p'.pool=p.pool):Mem B w0 (σ.L B++(boxR bs::(p'.L B σ.r.sb σ.g n++R))) (w.setCell ⟨p.g,o,none⟩ u):=by
 have t:=M.put (i:=10) (g:=p.g) (t:=51) (cs:=p.cells σ.r.sb σ.g n) rfl o u
 have e2:σ.L B++(boxR bs::(p'.L B σ.r.sb σ.g n++R))=(σ.L B++(boxR bs::(p.L B σ.r.sb σ.g n++R))).set 10 (blkR p.g 51 ((p.cells σ.r.sb σ.g n).setIfInBounds o u)):=by
  rw [e]
  simp only [PlS.L,h1,h2,h3,h4]
  rfl
 rw [e2]
 exact t
theorem p_set (M:Mem B w0 (σ.L B++(boxR bs::(p.L B σ.r.sb σ.g n++R))) w) (p':PlS) (h1:p'.g=p.g) (h2:p'.hb=p.hb) (h3:p'.hs=p.hs) (h4:p'.pool=p.pool) (c:Ch (fun k=>k=p.g) w w') (hb:Blk w' p.g 51 (p'.cells σ.r.sb σ.g n)):Mem B w0 (σ.L B++(boxR bs::(p'.L B σ.r.sb σ.g n++R))) w':=by
 have t:=M.upd (i:=10) (blkR p.g 51 (p'.cells σ.r.sb σ.g n)) rfl c (fun _ _ e=>e) hb (fun _ e=>.inl e)
 have e2:σ.L B++(boxR bs::(p'.L B σ.r.sb σ.g n++R))=(σ.L B++(boxR bs::(p.L B σ.r.sb σ.g n++R))).set 10 (blkR p.g 51 (p'.cells σ.r.sb σ.g n)):=by
  simp only [PlS.L,h1,h2,h3,h4]
  rfl
 rw [e2]
 exact t
theorem p_mark (M:Mem B w0 (σ.L B++(boxR bs::(p.L B σ.r.sb σ.g n++R))) w) {v:Value} {l:List Mk} (c:Ch (fun _=>False) w w') (h:w'.ownsRow w.heap.size 160 3 v l.length (mkCells l)):Mem B w0 (σ.L B++(boxR bs::(PlS.L B { p with pool:=p.pool++[(v,l)] } σ.r.sb σ.g n++R))) w':=by
 have hp:=p_pool M
 exact M.upd (i:=12) (poolR B (p.pool++[(v,l)])) rfl c (fun _ _ e=>e.elim) (fun q hq=>by
  rcases List.mem_append.1 hq with hq | hq
  ·exact c.own (hp q hq) (fun _ _ e=>e)
  ·rw [List.mem_singleton.1 hq]
   exact own_mono h M.bz) (fun k hk=>by
  obtain ⟨q,hq,hk⟩:=hk
  rcases List.mem_append.1 hq with hq | hq
  ·exact .inl ⟨q,hq,hk⟩
  ·rw [List.mem_singleton.1 hq] at hk
   exact .inr ((h.lt k hk).1))
end
section
variable {B:Nat} {w0 w w':World} {R:List Res} {σ:RS} {y:Ly} {n m:Nat} {ts:List (List UInt8)} {hk:Option Nat}
def RopeTo (B:Nat) (w0:World) (R:List Res) (σ:RS) (s:ByteArray) (w:World) (e:Ending) (w':World):Prop:=
 w.heap.size≤w'.heap.size∧∃(ys:List An) (x:Rt),e=.returned (.tuple #[x.v,.int .i64 0])∧Mem B w0 (RS.L B { σ with ns:=σ.ns++ys }++R) w'∧ys.length≤11∧ArP (σ.ns++ys)∧∀num,RevOk (σ.ns++ys) ⟨num,x.a,x.h,x.b,x.r,x.l⟩ s.data.toList
theorem mrope_any (M:Mem B w0 (σ.L B++R) w) (P:ArP σ.ns) (s:ByteArray) (hs:s.size≤120) (hroom:σ.ns.length+11≤σ.A.n) (hAn:σ.A.n≤16384) :
  Calls Tryz.prog 47 #[.pointer (some ⟨σ.A.ab,0,none⟩),.string s] w (RopeTo B w0 R σ s w):=by
 rcases Nat.eq_zero_or_pos s.size with h0 | h0
 ·have hse:s=⟨#[]⟩:=by
   have e:s.data.toList=[]:=List.eq_nil_of_length_eq_zero (by rw [dsize];exact h0)
   obtain ⟨d⟩:=s
   obtain ⟨l⟩:=d
   simp at e
   rw [e]
  subst hse
  refine (rnew_e σ.A σ.ns σ.st hAn w (m_ar M)).mono ?_
  rintro e w' ⟨rfl,hc⟩
  refine ⟨hc.size,[],⟨0,0,0,0,0⟩,rfl,?_,by decide,by rw [List.append_nil];exact P,fun num=>⟨rfl,rfl,rfl,.inl ⟨rfl,rfl⟩⟩⟩
  rw [List.append_nil]
  exact M.keep hc
 ·obtain ⟨t,hb,hg,hbt⟩:=build_good h0 (by omega)
  have hc11:=build_cnt11 hb hs
  refine (rope_new σ.A σ.ns σ.st s t w (m_ar M) P h0 (by omega) hb (by omega) (by omega) hAn).mono ?_
  rintro e w' ⟨ys,rfl,hA,hP,hyl,hy,hch,hyk⟩
  have ht:=build_text hb
  have hm:t.meas=mL s.data.toList:=by rw [meas_text,ht]
  refine ⟨hch.size,ys,⟨hdl (σ.ns.length+(t.cnt - 1)),t.ht,t.meas.b,t.meas.r,t.meas.l⟩,rfl,m_rope M hA hch hyk,by omega,hP,fun num=>⟨?_,?_,?_,.inr ⟨σ.ns.length+(t.cnt - 1),t,rfl,rope_nt hyl hy (post_len t 0),ht,rfl,hg,s,hb⟩⟩⟩
  ·show t.meas.b=_
   rw [hm]
  ·show t.meas.r=_
   rw [hm]
  ·show t.meas.l=_
   rw [hm]
end
theorem own_inMk {w:World} {B n c:Nat} {A:Option Addr} {ms:List Mk} (h:w.ownsRow B 160 3 (.slice A n c) n (mkCells ms)) (hl:ms.length=n):InMk w A n ms∧(A=none→c=0):=by
 refine ⟨⟨hl,fun h0=>?_⟩,fun h0=>?_⟩
 ·obtain ⟨g,cap,hv,_,_,_,hgl⟩:=own_form h h0
  injection hv with hA _ _
  subst hA
  refine ⟨g,0,rfl,hgl,fun i j x v hi hj=>?_⟩
  have:=h.cells (g:=g) rfl (i * 3+j) v (flat_getH Mk.cells 3 (fun _=>rfl) ms i x hi j v hj)
  rwa [addr_add0,←Nat.zero_add (i * 3+j)] at this
 ·subst h0
  rcases h.2 with ⟨h,_⟩ | ⟨g,cap,cur,h,_⟩
  ·injection h
  ·cases h
section
variable {w0 w:World} {R:List Res} {σ:RS} {y:Ly} {n m:Nat} {ts:List (List UInt8)} {hk:Option Nat}
theorem lpublish_any (M:Mem w0.heap.size w0 (σ.L w0.heap.size++R) w) (K:RnOk σ y n m ts hk) (hl:σ.s.lg.length < 700000) (x:EvR) (hx:x.ok w0) (hs:x.s.size≤120) (hm:x.mn≤4) (hroom:σ.ns.length+11≤σ.A.n) (hAn:σ.A.n≤16384) (ht:ts.length < 100) :
  Calls Tryz.prog 39 #[.pointer (some ⟨σ.r.sb,0,none⟩),x.v] w fun e w'=>e=.returned (.bool true)∧∃ys rv' r1 lv',Mem w0.heap.size w0 ((σ.pub ys rv' r1 lv' 2).L w0.heap.size++R) w'∧RnOk (σ.pub ys rv' r1 lv' 2) y n m (ts++[x.s.data.toList]) hk∧ys.length≤11∧r1.ms=x.mks:=by
 have HM:=hid M
 have HK:=hid K
 have HL:=hid hl
 have HX:=hid hx
 have HSZ:=hid hs
 have HMN:=hid hm
 have HRM:=hid hroom
 have HAN:=hid hAn
 have HTL:=hid ht
 clear M K hl hx hs hm hroom hAn ht
 simp only [EvR.v]
 go_enter Tryz.func39,Tryz.ntmps39
 go_wp2_with fail
 refine at_world fun W1 hW1=>?_
 have M1:=hid (show Mem w0.heap.size w0 (σ.L w0.heap.size++(R++[blkR w.heap.size 29 x.cells.toArray])) W1 from by rw [hW1];exact HM.out.snoc _ ((Ch.refl (fun _=>False) w).alloc _) (Blk.new w _ _) (fun k hk=>by rw [show k=w.heap.size from hk];exact Nat.le_refl _))
 have x8:W1.cell? ⟨w.heap.size,8,none⟩=some (.string x.s):=M1.out.lastBlk.cell 8
 have lx:w.heap.size < W1.heap.size:=M1.out.lastBlk.lt
 clear hW1
 obtain ⟨S,hS⟩:∃S:Nat→Prop,∀k,S k↔k < W1.heap.size:=⟨_,fun _=>Iff.rfl⟩
 have hSp1:Mix.Has S w.heap.size:=(hS _).2 lx
 have HSS:=hid hS
 clear hS
 refine Mix.wp_region_XJ S (fun i=>([1,3,1,4,2,1,1,1,3,2,0]:List Nat).getD i 0) (fun a0 a' w'=>∃(tb:Nat) (ys:List An) (rt:Rt),a'=((((((((((a0.put (some 9) (.pointer (some ⟨σ.r.sb,0,none⟩))).put (some 10) (.pointer (some ⟨σ.A.ab,0,none⟩))).put (some 11) (.pointer (some ⟨w.heap.size,8,none⟩))).put (some 12) (.string x.s)).put (some 13) (.tuple #[rt.v,.int .i64 0])).put (some 8) (.tuple #[rt.v,.int .i64 0])).put (some 14) rt.v).put (some 15) (.int .i64 0)).put (some 5) (.pointer (some ⟨tb,0,none⟩))).put (some 6) (.int .i64 0))∧Mem w0.heap.size w0 (RS.L w0.heap.size { σ with ns:=σ.ns++ys }++((R++[blkR w.heap.size 29 x.cells.toArray])++[blkR tb 102 #[.int .u64 rt.a,.int .i64 rt.h,.int .i64 rt.b,.int .i64 rt.r,.int .i64 rt.l]])) w'∧ys.length≤11∧ArP (σ.ns++ys)∧∀num,RevOk (σ.ns++ys) ⟨num,rt.a,rt.h,rt.b,rt.r,rt.l⟩ x.s.data.toList) (by kernel_rfl) ?_ ?_
 ·refine Mix.wpX_prefix (fuel:=8) (by kernel_rfl) [0,2,3] _ _ _ (by kernel_rfl) ?_
  repeat ((first | refine Mix.q1 rfl ?_ | refine Mix.p1 rfl rfl ?_ | refine Mix.s1 rfl rfl ?_);go_big_quiet_step (fail);refine wpQuiet_nil ?_)
  intro m0
  refine Mix.wpX_world fun V0 hV0=>?_
  have MV0:=hid (show Mem w0.heap.size w0 (σ.L w0.heap.size++(R++[blkR w.heap.size 29 x.cells.toArray])) V0 from by rw [hV0];exact M1.out.drewN m0)
  have ZV0:=hid (show W1.heap.size≤V0.heap.size from by rw [hV0];exact Nat.le_refl _)
  clear hV0
  refine Mix.wpX_two 1 8 (by kernel_rfl) ?_ ?_
  ·refine Mix.a1 rfl fun Q1 hQ1=>?_
   obtain ⟨q1,rfl⟩:=hQ1
   go_wp2_with fail
   refine (sarena_any (V0.drewN q1) (m_st (MV0.out.drewN q1)) HK.out.O.stf).mono ?_
   rintro e w' ⟨rfl,rfl⟩
   go_wp2_with fail
   refine ⟨fun k hk=>((Ch.refl (fun _=>False) V0).drewN q1).block k (Nat.lt_of_lt_of_le ((HSS.out k).1 hk) ZV0.out) id,?_⟩
   intro m1
   refine Mix.wpX_world fun V1 hV1=>?_
   have MV1:=hid (show Mem w0.heap.size w0 (σ.L w0.heap.size++(R++[blkR w.heap.size 29 x.cells.toArray])) V1 from by rw [hV1];exact (MV0.out.drewN q1).drewN m1)
   have ZV1:=hid (show W1.heap.size≤V1.heap.size from by rw [hV1];exact ZV0.out)
   clear hV1
   refine Mix.wpX_two 4 8 (by kernel_rfl) ?_ ?_
   ·refine Mix.e1 rfl fun E2 hE2=>?_
    obtain ⟨e2,rfl⟩:=hE2
    go_wp2_with fail
    refine (mrope_any (MV1.out.drewN e2) HK.out.P x.s HSZ.out HRM.out HAN.out).mono ?_
    rintro e E2w ⟨hsz,ys,rt,rfl,hm,hyl,hP,hrev⟩
    have hM2:=hid hm
    have HYL:=hid hyl
    have HPP:=hid hP
    have HREV:=hid hrev
    have hz2:=hid hsz
    simp only [Rt.v]
    clear hm hyl hP hrev hsz
    go_wp2_with fail
    intro m2
    refine Mix.wpX_world fun V2 hV2=>?_
    have MV2:=hid (show Mem w0.heap.size w0 (RS.L w0.heap.size { σ with ns:=σ.ns++ys }++(R++[blkR w.heap.size 29 x.cells.toArray])) V2 from by rw [hV2];exact hM2.out.drewN m2)
    have ZV2:=hid (show W1.heap.size≤V2.heap.size from by rw [hV2];exact Nat.le_trans ZV1.out hz2.out)
    clear hV2
    refine Mix.wpX_prefix (fuel:=0) (by kernel_rfl) [5,6,7,8,9,10] _ _ _ (by kernel_rfl) ?_
    repeat ((first | refine Mix.q1 rfl ?_ | refine Mix.p1 rfl rfl ?_ | refine Mix.s1 rfl rfl ?_);go_big_quiet_step (fail);refine wpQuiet_nil ?_)
    refine Mix.a1 rfl fun Y3 hY3=>?_
    obtain ⟨y3,rfl⟩:=hY3
    go_wp2_with fail
    refine ⟨fun k hk=>Below.heap_alloc _ _ k (Nat.lt_of_lt_of_le ((HSS.out k).1 hk) ZV2.out),?_⟩
    refine Mix.mix_world fun V3 hV3=>?_
    obtain ⟨tb3,htb3⟩:∃z,z=V2.heap.size:=⟨_,rfl⟩
    have MV3:=hid (show Mem w0.heap.size w0 (RS.L w0.heap.size { σ with ns:=σ.ns++ys }++((R++[blkR w.heap.size 29 x.cells.toArray])++[blkR tb3 102 #[.int .u64 0,.int .i64 0,.int .i64 0,.int .i64 0,.int .i64 0]])) V3 from by rw [hV3,htb3];exact (MV2.out.drewN y3).snoc _ ((Ch.refl (fun _=>False) (V2.drewN y3)).alloc _) (Blk.new (V2.drewN y3) _ _) (fun k hk=>by rw [show k=_ from hk];exact Nat.le_refl _))
    have ZV3:=hid (show W1.heap.size≤V3.heap.size from by rw [hV3];exact Nat.le_trans ZV2.out ((Ch.refl (fun _=>False) V2).drewN y3 |>.alloc _).size)
    rw [←htb3]
    clear hV3 htb3
    have rc0:V3.cell? ⟨tb3,0,none⟩=some (_):=MV3.out.lastBlk.cell 0
    have rcf0:=MV3.out.lastBlk.free 0
    have rc1:V3.cell? ⟨tb3,1,none⟩=some (_):=MV3.out.lastBlk.cell 1
    have rcf1:=MV3.out.lastBlk.free 1
    have rc2:V3.cell? ⟨tb3,2,none⟩=some (_):=MV3.out.lastBlk.cell 2
    have rcf2:=MV3.out.lastBlk.free 2
    have rc3:V3.cell? ⟨tb3,3,none⟩=some (_):=MV3.out.lastBlk.cell 3
    have rcf3:=MV3.out.lastBlk.free 3
    have rc4:V3.cell? ⟨tb3,4,none⟩=some (_):=MV3.out.lastBlk.cell 4
    have rcf4:=MV3.out.lastBlk.free 4
    repeat ((first | refine Mix.q1 rfl ?_ | refine Mix.p1 rfl rfl ?_ | refine Mix.s1 rfl rfl ?_);go_big_quiet_step (fail);refine wpQuiet_nil ?_)
    refine Mix.e1 rfl fun O3 hO3=>?_
    obtain ⟨o3,rfl⟩:=hO3
    go_wp2_with fail
    repeat ((first | refine Mix.q1 rfl ?_ | refine Mix.p1 rfl rfl ?_ | refine Mix.s1 rfl rfl ?_);go_big_quiet_step (fail);refine wpQuiet_nil ?_)
    intro m3
    refine Mix.wpX_done (by kernel_rfl) ?_
    intro u3
    have hMEM:=((((((((MV3.out.drewN o3).putLast 0 (.int .u64 rt.a)).putLast 1 (.int .i64 rt.h)).putLast 2 (.int .i64 rt.b)).putLast 3 (.int .i64 rt.r)).putLast 4 (.int .i64 rt.l)).drewN m3).drewN u3)
    rw [show ((((((#[.int .u64 0,.int .i64 0,.int .i64 0,.int .i64 0,.int .i64 0]:Array Value).setIfInBounds 0 (.int .u64 rt.a)).setIfInBounds 1 (.int .i64 rt.h)).setIfInBounds 2 (.int .i64 rt.b)).setIfInBounds 3 (.int .i64 rt.r)).setIfInBounds 4 (.int .i64 rt.l))=(#[.int .u64 rt.a,.int .i64 rt.h,.int .i64 rt.b,.int .i64 rt.r,.int .i64 rt.l]:Array Value) from by kernel_rfl] at hMEM
    exact ⟨tb3,ys,rt,by simp only [Act.put,List.setIfInBounds_toArray,List.set_cons_succ,List.set_cons_zero,Rt.v],hMEM,HYL.out,HPP.out,HREV.out⟩
   ·refine Mix.a1 rfl fun Y3 hY3=>?_
    obtain ⟨y3,rfl⟩:=hY3
    go_wp2_with fail
    refine ⟨fun k hk=>Below.heap_alloc _ _ k (Nat.lt_of_lt_of_le ((HSS.out k).1 hk) ZV1.out),?_⟩
    refine Mix.mix_world fun V3 hV3=>?_
    obtain ⟨tb3,htb3⟩:∃z,z=V1.heap.size:=⟨_,rfl⟩
    have MV3:=hid (show Mem w0.heap.size w0 (σ.L w0.heap.size++((R++[blkR w.heap.size 29 x.cells.toArray])++[blkR tb3 102 #[.int .u64 0,.int .i64 0,.int .i64 0,.int .i64 0,.int .i64 0]])) V3 from by rw [hV3,htb3];exact (MV1.out.drewN y3).snoc _ ((Ch.refl (fun _=>False) (V1.drewN y3)).alloc _) (Blk.new (V1.drewN y3) _ _) (fun k hk=>by rw [show k=_ from hk];exact Nat.le_refl _))
    have ZV3:=hid (show W1.heap.size≤V3.heap.size from by rw [hV3];exact Nat.le_trans ZV1.out ((Ch.refl (fun _=>False) V1).drewN y3 |>.alloc _).size)
    rw [←htb3]
    clear hV3 htb3
    intro m4
    refine Mix.wpX_world fun V4 hV4=>?_
    have MV4:=hid (show Mem w0.heap.size w0 (σ.L w0.heap.size++((R++[blkR w.heap.size 29 x.cells.toArray])++[blkR tb3 102 #[.int .u64 0,.int .i64 0,.int .i64 0,.int .i64 0,.int .i64 0]])) V4 from by rw [hV4];exact MV3.out.drewN m4)
    have ZV4:=hid (show W1.heap.size≤V4.heap.size from by rw [hV4];exact ZV3.out)
    clear hV4
    refine Mix.wpX_prefix (fuel:=0) (by kernel_rfl) [4,5,6,7,9,10] _ _ _ (by kernel_rfl) ?_
    refine Mix.e1 rfl fun E5 hE5=>?_
    obtain ⟨e5,rfl⟩:=hE5
    go_wp2_with fail
    refine (mrope_any (MV4.out.drewN e5) HK.out.P x.s HSZ.out HRM.out HAN.out).mono ?_
    rintro e E5w ⟨hsz,ys,rt,rfl,hm,hyl,hP,hrev⟩
    have hM5:=hid hm
    have HYL:=hid hyl
    have HPP:=hid hP
    have HREV:=hid hrev
    have hz5:=hid hsz
    simp only [Rt.v]
    clear hm hyl hP hrev hsz
    go_wp2_with fail
    refine Mix.mix_world fun V5 hV5=>?_
    have MV5:=hid (show Mem w0.heap.size w0 (RS.L w0.heap.size { σ with ns:=σ.ns++ys }++((R++[blkR w.heap.size 29 x.cells.toArray])++[blkR tb3 102 #[.int .u64 0,.int .i64 0,.int .i64 0,.int .i64 0,.int .i64 0]])) V5 from by rw [hV5];exact hM5.out)
    have ZV5:=hid (show W1.heap.size≤V5.heap.size from by rw [hV5];exact Nat.le_trans ZV4.out hz5.out)
    clear hV5
    have rc0:V5.cell? ⟨tb3,0,none⟩=some (_):=MV5.out.lastBlk.cell 0
    have rcf0:=MV5.out.lastBlk.free 0
    have rc1:V5.cell? ⟨tb3,1,none⟩=some (_):=MV5.out.lastBlk.cell 1
    have rcf1:=MV5.out.lastBlk.free 1
    have rc2:V5.cell? ⟨tb3,2,none⟩=some (_):=MV5.out.lastBlk.cell 2
    have rcf2:=MV5.out.lastBlk.free 2
    have rc3:V5.cell? ⟨tb3,3,none⟩=some (_):=MV5.out.lastBlk.cell 3
    have rcf3:=MV5.out.lastBlk.free 3
    have rc4:V5.cell? ⟨tb3,4,none⟩=some (_):=MV5.out.lastBlk.cell 4
    have rcf4:=MV5.out.lastBlk.free 4
    repeat ((first | refine Mix.q1 rfl ?_ | refine Mix.p1 rfl rfl ?_ | refine Mix.s1 rfl rfl ?_);go_big_quiet_step (fail);refine wpQuiet_nil ?_)
    refine Mix.e1 rfl fun O5 hO5=>?_
    obtain ⟨o5,rfl⟩:=hO5
    go_wp2_with fail
    repeat ((first | refine Mix.q1 rfl ?_ | refine Mix.p1 rfl rfl ?_ | refine Mix.s1 rfl rfl ?_);go_big_quiet_step (fail);refine wpQuiet_nil ?_)
    intro m5
    refine Mix.wpX_done (by kernel_rfl) ?_
    intro u5
    have hMEM:=((((((((MV5.out.drewN o5).putLast 0 (.int .u64 rt.a)).putLast 1 (.int .i64 rt.h)).putLast 2 (.int .i64 rt.b)).putLast 3 (.int .i64 rt.r)).putLast 4 (.int .i64 rt.l)).drewN m5).drewN u5)
    rw [show ((((((#[.int .u64 0,.int .i64 0,.int .i64 0,.int .i64 0,.int .i64 0]:Array Value).setIfInBounds 0 (.int .u64 rt.a)).setIfInBounds 1 (.int .i64 rt.h)).setIfInBounds 2 (.int .i64 rt.b)).setIfInBounds 3 (.int .i64 rt.r)).setIfInBounds 4 (.int .i64 rt.l))=(#[.int .u64 rt.a,.int .i64 rt.h,.int .i64 rt.b,.int .i64 rt.r,.int .i64 rt.l]:Array Value) from by kernel_rfl] at hMEM
    exact ⟨tb3,ys,rt,by simp only [Act.put,List.setIfInBounds_toArray,List.set_cons_succ,List.set_cons_zero,Rt.v],hMEM,HYL.out,HPP.out,HREV.out⟩
  ·refine Mix.a1 rfl fun Y3 hY3=>?_
   obtain ⟨y3,rfl⟩:=hY3
   go_wp2_with fail
   refine ⟨fun k hk=>Below.heap_alloc _ _ k (Nat.lt_of_lt_of_le ((HSS.out k).1 hk) ZV0.out),?_⟩
   refine Mix.mix_world fun V3 hV3=>?_
   obtain ⟨tb3,htb3⟩:∃z,z=V0.heap.size:=⟨_,rfl⟩
   have MV3:=hid (show Mem w0.heap.size w0 (σ.L w0.heap.size++((R++[blkR w.heap.size 29 x.cells.toArray])++[blkR tb3 102 #[.int .u64 0,.int .i64 0,.int .i64 0,.int .i64 0,.int .i64 0]])) V3 from by rw [hV3,htb3];exact (MV0.out.drewN y3).snoc _ ((Ch.refl (fun _=>False) (V0.drewN y3)).alloc _) (Blk.new (V0.drewN y3) _ _) (fun k hk=>by rw [show k=_ from hk];exact Nat.le_refl _))
   have ZV3:=hid (show W1.heap.size≤V3.heap.size from by rw [hV3];exact Nat.le_trans ZV0.out ((Ch.refl (fun _=>False) V0).drewN y3 |>.alloc _).size)
   rw [←htb3]
   clear hV3 htb3
   intro m4
   refine Mix.wpX_world fun V4 hV4=>?_
   have MV4:=hid (show Mem w0.heap.size w0 (σ.L w0.heap.size++((R++[blkR w.heap.size 29 x.cells.toArray])++[blkR tb3 102 #[.int .u64 0,.int .i64 0,.int .i64 0,.int .i64 0,.int .i64 0]])) V4 from by rw [hV4];exact MV3.out.drewN m4)
   have ZV4:=hid (show W1.heap.size≤V4.heap.size from by rw [hV4];exact ZV3.out)
   clear hV4
   refine Mix.wpX_prefix (fuel:=0) (by kernel_rfl) [1,4,5,6,7,9,10] _ _ _ (by kernel_rfl) ?_
   refine Mix.a1 rfl fun Q6 hQ6=>?_
   obtain ⟨q6,rfl⟩:=hQ6
   go_wp2_with fail
   refine (sarena_any (V4.drewN q6) (m_st (MV4.out.drewN q6)) HK.out.O.stf).mono ?_
   rintro e w' ⟨rfl,rfl⟩
   go_wp2_with fail
   refine ⟨fun k hk=>((Ch.refl (fun _=>False) V4).drewN q6).block k (Nat.lt_of_lt_of_le ((HSS.out k).1 hk) ZV4.out) id,?_⟩
   refine Mix.mix_world fun V6 hV6=>?_
   have MV6:=hid (show Mem w0.heap.size w0 (σ.L w0.heap.size++((R++[blkR w.heap.size 29 x.cells.toArray])++[blkR tb3 102 #[.int .u64 0,.int .i64 0,.int .i64 0,.int .i64 0,.int .i64 0]])) V6 from by rw [hV6];exact MV4.out.drewN q6)
   have ZV6:=hid (show W1.heap.size≤V6.heap.size from by rw [hV6];exact ZV4.out)
   clear hV6
   refine Mix.e1 rfl fun E5 hE5=>?_
   obtain ⟨e5,rfl⟩:=hE5
   go_wp2_with fail
   refine (mrope_any (MV6.out.drewN e5) HK.out.P x.s HSZ.out HRM.out HAN.out).mono ?_
   rintro e E5w ⟨hsz,ys,rt,rfl,hm,hyl,hP,hrev⟩
   have hM5:=hid hm
   have HYL:=hid hyl
   have HPP:=hid hP
   have HREV:=hid hrev
   have hz5:=hid hsz
   simp only [Rt.v]
   clear hm hyl hP hrev hsz
   go_wp2_with fail
   refine Mix.mix_world fun V5 hV5=>?_
   have MV5:=hid (show Mem w0.heap.size w0 (RS.L w0.heap.size { σ with ns:=σ.ns++ys }++((R++[blkR w.heap.size 29 x.cells.toArray])++[blkR tb3 102 #[.int .u64 0,.int .i64 0,.int .i64 0,.int .i64 0,.int .i64 0]])) V5 from by rw [hV5];exact hM5.out)
   have ZV5:=hid (show W1.heap.size≤V5.heap.size from by rw [hV5];exact Nat.le_trans ZV6.out hz5.out)
   clear hV5
   have rc0:V5.cell? ⟨tb3,0,none⟩=some (_):=MV5.out.lastBlk.cell 0
   have rcf0:=MV5.out.lastBlk.free 0
   have rc1:V5.cell? ⟨tb3,1,none⟩=some (_):=MV5.out.lastBlk.cell 1
   have rcf1:=MV5.out.lastBlk.free 1
   have rc2:V5.cell? ⟨tb3,2,none⟩=some (_):=MV5.out.lastBlk.cell 2
   have rcf2:=MV5.out.lastBlk.free 2
   have rc3:V5.cell? ⟨tb3,3,none⟩=some (_):=MV5.out.lastBlk.cell 3
   have rcf3:=MV5.out.lastBlk.free 3
   have rc4:V5.cell? ⟨tb3,4,none⟩=some (_):=MV5.out.lastBlk.cell 4
   have rcf4:=MV5.out.lastBlk.free 4
   repeat ((first | refine Mix.q1 rfl ?_ | refine Mix.p1 rfl rfl ?_ | refine Mix.s1 rfl rfl ?_);go_big_quiet_step (fail);refine wpQuiet_nil ?_)
   refine Mix.e1 rfl fun O5 hO5=>?_
   obtain ⟨o5,rfl⟩:=hO5
   go_wp2_with fail
   repeat ((first | refine Mix.q1 rfl ?_ | refine Mix.p1 rfl rfl ?_ | refine Mix.s1 rfl rfl ?_);go_big_quiet_step (fail);refine wpQuiet_nil ?_)
   intro m5
   refine Mix.wpX_done (by kernel_rfl) ?_
   intro u5
   have hMEM:=((((((((MV5.out.drewN o5).putLast 0 (.int .u64 rt.a)).putLast 1 (.int .i64 rt.h)).putLast 2 (.int .i64 rt.b)).putLast 3 (.int .i64 rt.r)).putLast 4 (.int .i64 rt.l)).drewN m5).drewN u5)
   rw [show ((((((#[.int .u64 0,.int .i64 0,.int .i64 0,.int .i64 0,.int .i64 0]:Array Value).setIfInBounds 0 (.int .u64 rt.a)).setIfInBounds 1 (.int .i64 rt.h)).setIfInBounds 2 (.int .i64 rt.b)).setIfInBounds 3 (.int .i64 rt.r)).setIfInBounds 4 (.int .i64 rt.l))=(#[.int .u64 rt.a,.int .i64 rt.h,.int .i64 rt.b,.int .i64 rt.r,.int .i64 rt.l]:Array Value) from by kernel_rfl] at hMEM
   exact ⟨tb3,ys,rt,by simp only [Act.put,List.setIfInBounds_toArray,List.set_cons_succ,List.set_cons_zero,Rt.v],hMEM,HYL.out,HPP.out,HREV.out⟩
 ·clear x8
  rintro a' w8 ⟨tb,ys,rt,rfl,hM,hyl,hP,hrev⟩
  simp only [Act.put,List.setIfInBounds_toArray,List.set_cons_succ,List.set_cons_zero]
  have M8:=hid hM
  have HYL:=hid hyl
  have HPP:=hid hP
  have HREV:=hid hrev
  clear hM hyl hP hrev
  go_wp2_with fail
  have hnl:0 < σ.rs.length:=by
   obtain ⟨i,_,hi⟩:=HK.out.rt
   rw [HK.out.nt] at hi
   omega
  obtain ⟨N,hN⟩:∃N,σ.rs.length=N+1:=⟨σ.rs.length - 1,by omega⟩
  have hN100:N < 100:=by have:=HK.out.nt;have:=HTL.out;omega
  obtain ⟨r0,hr0⟩:∃r0,σ.rs[N]?=some r0:=⟨_,List.getElem?_eq_getElem (by omega)⟩
  obtain ⟨t0,ht0⟩:∃t0,ts[N]?=some t0:=⟨_,List.getElem?_eq_getElem (by rw [HK.out.nt];omega)⟩
  have hr0n:=(HK.out.rv N r0 t0 hr0 ht0).2.1
  have hown:=(m_rv M8.out).b
  obtain ⟨A1,cap,hrv,_⟩:=own_slice hown
  have hrv':σ.rv=.slice A1 (N+1) cap:=by rw [←hN];exact hrv
  have H23:=hid (show σ.cs[23]?=some (.slice A1 (N+1) cap) from by rw [←hrv'];exact HK.out.O.h23)
  have HNN:=hid hN
  have HR0:=hid hr0
  have HR0N:=hid hr0n
  clear hown hrv hrv' hnl hN hr0 hr0n ht0
  have LB:=hid (((m_st M8.out).cell 23).trans H23.out)
  have r0':w8.cell? ⟨tb,0,none⟩=some (.int .u64 rt.a):=M8.out.lastBlk.cell 0
  have r1':w8.cell? ⟨tb,1,none⟩=some (.int .i64 rt.h):=M8.out.lastBlk.cell 1
  have r2':w8.cell? ⟨tb,2,none⟩=some (.int .i64 rt.b):=M8.out.lastBlk.cell 2
  have r3':w8.cell? ⟨tb,3,none⟩=some (.int .i64 rt.r):=M8.out.lastBlk.cell 3
  have r4':w8.cell? ⟨tb,4,none⟩=some (.int .i64 rt.l):=M8.out.lastBlk.cell 4
  have e0:w8.cell? ⟨w.heap.size,0,none⟩=some (.int .u8 x.d):=M8.out.drop1.lastBlk.cell 0
  have e1:w8.cell? ⟨w.heap.size,1,none⟩=some (.int .u8 x.op.k):=M8.out.drop1.lastBlk.cell 1
  have e2:w8.cell? ⟨w.heap.size,2,none⟩=some (.int .i64 x.op.sl):=M8.out.drop1.lastBlk.cell 2
  have e3:w8.cell? ⟨w.heap.size,3,none⟩=some (.int .i64 x.op.at'):=M8.out.drop1.lastBlk.cell 3
  have e4:w8.cell? ⟨w.heap.size,4,none⟩=some (.int .i64 x.op.n):=M8.out.drop1.lastBlk.cell 4
  have e5:w8.cell? ⟨w.heap.size,5,none⟩=some (.int .u32 x.op.id):=M8.out.drop1.lastBlk.cell 5
  have e6:w8.cell? ⟨w.heap.size,6,none⟩=some (.int .u8 x.op.g):=M8.out.drop1.lastBlk.cell 6
  have e7:w8.cell? ⟨w.heap.size,7,none⟩=some (.string x.op.s):=M8.out.drop1.lastBlk.cell 7
  have e8:w8.cell? ⟨w.heap.size,8,none⟩=some (.string x.s):=M8.out.drop1.lastBlk.cell 8
  have e9:w8.cell? ⟨w.heap.size,9,none⟩=some (.slice x.ma x.mn x.mc):=M8.out.drop1.lastBlk.cell 9
  have lt8:=M8.out.lastBlk.lt
  clear hSp1 HSS lx
  obtain ⟨S4,hS4⟩:∃S:Nat→Prop,∀k,S k↔k < w8.heap.size:=⟨_,fun _=>Iff.rfl⟩
  have hSp4:Mix.Has S4 tb:=(hS4 _).2 lt8
  have HS4:=hid hS4
  clear hS4
  refine Mix.wp_region_mix S4 (fun i=>([1,0,0,1,1,4,0,3,0,2,0,0,0,0,0]:List Nat).getD i 0) [0,1,2,3,4,5,6,7,8,9,10,11,12,13,14] (by kernel_rfl) (by kernel_rfl) ?_
  repeat ((first | refine Mix.q1 rfl ?_ | refine Mix.p1 rfl rfl ?_ | refine Mix.s1 rfl rfl ?_);go_big_quiet_step (fail);refine wpQuiet_nil ?_)
  (refine Mix.q1 rfl ?_;go_big_quiet_step ((go_at_call 40;exact latest_q σ.r.sb N cap A1 w8 LB.out (by omega) _));refine wpQuiet_nil ?_)
  repeat ((first | refine Mix.q1 rfl ?_ | refine Mix.p1 rfl rfl ?_ | refine Mix.s1 rfl rfl ?_);go_big_quiet_step (fail);refine wpQuiet_nil ?_)
  refine Mix.a1 rfl fun V1 hV1=>?_
  obtain ⟨k1,rfl⟩:=hV1
  go_wp2_with fail
  refine (lmarks_any x (w8.drewN k1) (HX.out.below (M8.out.drewN k1).bel) HMN.out (by have:=HSZ.out;omega)).mono ?_
  rintro e w9 ⟨mv,rfl,hown,hc⟩
  obtain ⟨Am,cm,rfl,_⟩:=own_slice hown
  have hin:=own_inMk hown (by simp [EvR.mks])
  have HIN:=hid hin.1
  have HZ:=hid hin.2
  have HC:=hid hc
  have M9:=hid ((M8.out.drewN k1).keep hc)
  clear hown hc hin
  go_wp2_with fail
  refine ⟨fun k hk=>HC.out.block k ((HS4.out k).1 hk) id,?_⟩
  clear e0 e1 e2 e3 e4 e5 e6 e7 e8 e9 r0' r1' r2' r3' r4'
  repeat ((first | refine Mix.q1 rfl ?_ | refine Mix.p1 rfl rfl ?_ | refine Mix.s1 rfl rfl ?_);go_big_quiet_step (fail);refine wpQuiet_nil ?_)
  refine Mix.e1 rfl fun V2 hV2=>?_
  obtain ⟨k2,rfl⟩:=hV2
  go_wp2_with fail
  have hww:IntKind.i64.wrap (3 * ((N:Int)+1))=3 * ((N:Int)+1):=IntWalk.i64_in _ (by omega)
  refine (publish_m (M9.out.drewN k2) HK.out.O.h23 (k:=N) HNN.out (by omega) HR0.out ⟨3 * ((N:Int)+1),rt.a,rt.h,rt.b,rt.r,rt.l⟩ (by rw [HR0N.out];show 3 * (N:Int) < 3 * ((N:Int)+1);omega) (ad:=none) (n2:=0) (c2:=0) (ds:=[]) (HIN.out.keep ((Ch.refl _ w9).drewN k2) (fun _ _ _ _ h=>h)) ⟨rfl,fun h=>absurd h (by omega)⟩ HZ.out (fun _=>rfl) (by have:=HMN.out;omega) (by omega)).mono ?_
  rintro e w10 ⟨rfl,rv',mv',dv',hM⟩
  have M10:=hid hM
  clear hM hww
  go_wp2_with fail
  repeat ((first | refine Mix.q1 rfl ?_ | refine Mix.p1 rfl rfl ?_ | refine Mix.s1 rfl rfl ?_);go_big_quiet_step (fail);refine wpQuiet_nil ?_)
  intro k3
  refine at_world fun W11 hW11=>?_
  have M11:=hid (show Mem w0.heap.size w0 (RS.L w0.heap.size { σ with ns:=σ.ns++ys,cs:=σ.cs.setIfInBounds 23 rv',rv:=rv',rs:=σ.rs++[⟨⟨3 * ((N:Int)+1),rt.a,rt.h,rt.b,rt.r,rt.l⟩,mv',x.mks,dv',[]⟩] }++((R++[blkR w.heap.size 29 x.cells.toArray])++[blkR tb 102 #[.int .u64 rt.a,.int .i64 rt.h,.int .i64 rt.b,.int .i64 rt.r,.int .i64 rt.l]])) W11 from by rw [hW11];exact M10.out.drewN k3)
  clear hW11 M10
  have h23s:23 < σ.cs.size:=(Array.getElem?_eq_some_iff.1 HK.out.O.h23).1
  have O11:=HK.out.O.publish rv' (σ.rs++[⟨⟨3 * ((N:Int)+1),rt.a,rt.h,rt.b,rt.r,rt.l⟩,mv',x.mks,dv',[]⟩]) h23s (by simp [Ly.arr])
  have HO:=hid O11
  clear O11 h23s
  have wu:IntKind.u64.wrap (((N+1:Nat):Int))=((N+1:Nat):Int):=by simp [IntKind.wrap,IntKind.signed,IntKind.bits];omega
  go_wp2_with fail
  refine (sbank_any W11 (m_st M11.out) HO.out.stf).mono ?_
  rintro e w' ⟨rfl,rfl⟩
  go_wp2_with fail
  refine (slayout_any W11 (m_st M11.out) HO.out.stf).mono ?_
  rintro e w12 ⟨rfl,hc12⟩
  have M12:=hid (M11.out.keep hc12)
  clear hc12
  simp only [Ly.arr]
  have hfd:∀W:World,(Instr.field 83 (.agg #[.int .i64 y.l0,.int .i64 y.l1,.int .i64 y.l2,.int .i64 y.l3,.int .i64 y.l4,.int .i64 y.l5,.int .i64 y.l6,.int .i64 y.l7,.int .i64 y.l8,.int .i64 y.l9]) 1).run Tryz.prog W=.ok (.int .i64 y.l1) W:=fun W=>by kernel_rfl
  go_wp2_with fail
  rw [HK.out.O.y1]
  have HB12:=m_bk M12.out
  refine (store_ok w0.heap.size σ.p σ.cb σ.lv σ.s 2 1 ((N+1:Nat):Int) w12 HB12 ⟨by decide,by decide,by decide,by have:=HK.out.O.vs;omega⟩ (by have:=HL.out;omega) M12.out.bz (by omega)).mono ?_
  rintro e w13 ⟨rfl,hbs⟩
  obtain ⟨lv',hM13⟩:=m_bank M12.out hbs
  have M13:=hid hM13
  clear hbs hM13 hfd wu HB12
  go_wp2_with fail
  go_ret
  refine ⟨rfl,ys,rv',⟨⟨3 * ((N:Int)+1),rt.a,rt.h,rt.b,rt.r,rt.l⟩,mv',x.mks,dv',[]⟩,lv',?_,?_,HYL.out,rfl⟩
  ·have:=M13.out.drop1.drop1
   rw [←HNN.out] at this
   exact this
  ·exact HK.out.pub (by have:=HL.out;omega) HPP.out rv' _ lv' 2 (by have:=HTL.out;omega) (by rw [dsize];have:=HSZ.out;omega) (HREV.out _) (by rw [HK.out.nt,HNN.out];push_cast;rfl) (by show x.mks.length≤4;simp [EvR.mks];exact HMN.out) (Nat.zero_le _)
end
def PlS.shut (p:PlS):PlS:={ p with cl:=true }
section
variable {B:Nat} {w0 w:World} {R:List Res} {σ:RS} {bs:List Bx} {p:PlS} {y:Ly} {n m:Nat} {ts:List (List UInt8)} {hk:Option Nat}
theorem other7_any (M:Mem B w0 (σ.L B++(boxR bs::(p.L B σ.r.sb σ.g n++R))) w) (K:RnOk σ y n m ts hk) (hl:σ.s.lg.length < 700000) (x:EvR) (hd:x.d.tmod 8=7) :
  Calls Tryz.prog 14 #[.pointer (some ⟨p.g,0,none⟩),x.v] w fun e w'=>e=.returned (.bool true)∧∃lv',Mem B w0 ((σ.shut lv' 2).L B++(boxR bs::(p.shut.L B σ.r.sb σ.g n++R))) w'∧RnOk (σ.shut lv' 2) y n m ts hk:=by
 have HM:=hid M
 have HK:=hid K
 have HL:=hid hl
 have d6:(x.d.tmod 8 == 6)=false:=by rw [beq_eq_false_iff_ne,hd];decide
 have d7:(x.d.tmod 8 == 7)=true:=by rw [beq_iff_eq];exact hd
 have p9:w.cell? ⟨p.g,9,none⟩=some (.bool p.cl):=(p_blk M).cell 9
 have f9:=(p_blk M).free 9
 have lp:=(p_blk M).lt
 have n1:p.g≠w.heap.size:=Nat.ne_of_lt lp
 have n2:w.heap.size≠p.g:=Ne.symm n1
 clear M K hl hd
 simp only [EvR.v]
 go_enter Tryz.func14,Tryz.ntmps14
 go_wp2_with fail
 refine at_world fun W1 hW1=>?_
 have M1:=hid (show Mem B w0 (σ.L B++(boxR bs::(p.shut.L B σ.r.sb σ.g n++R))) W1 from by rw [hW1];exact (p_put HM.out 9 (.bool true) p.shut rfl rfl rfl rfl rfl).alloc _)
 clear hW1 p9 f9 lp n1 n2 HM
 have p0:W1.cell? ⟨p.g,0,none⟩=some (.pointer (some ⟨σ.r.sb,0,none⟩)):=(p_blk M1.out).cell 0
 have lp:=(p_blk M1.out).lt
 obtain ⟨S,hS⟩:∃S:Nat→Prop,∀k,S k↔k=p.g:=⟨_,fun _=>Iff.rfl⟩
 have hSp:Mix.Has S p.g:=(hS _).2 rfl
 have HSS:=hid hS
 clear hS
 refine Mix.wp_region_mix S (fun i=>([0,0,0,0,3,1,1,1,4,2,0,2,0,0]:List Nat).getD i 0) [0,1,2,3,5,6,7,8,4,9,10,11,12,13] (by kernel_rfl) (by kernel_rfl) ?_
 repeat ((first | refine Mix.q1 rfl ?_ | refine Mix.p1 rfl rfl ?_ | refine Mix.s1 rfl rfl ?_);go_big_quiet_step (fail);refine wpQuiet_nil ?_)
 refine Mix.a1 rfl fun V1 hV1=>?_
 obtain ⟨k1,rfl⟩:=hV1
 go_wp2_with fail
 refine (sbank_any _ (m_st (M1.out.drewN k1)) HK.out.O.stf).mono ?_
 rintro e w' ⟨rfl,rfl⟩
 go_wp2_with fail
 refine ⟨fun k hk=>((Ch.refl (fun _=>False) W1).drewN k1).block k (by rw [(HSS.out k).1 hk];exact lp) id,?_⟩
 repeat ((first | refine Mix.q1 rfl ?_ | refine Mix.p1 rfl rfl ?_ | refine Mix.s1 rfl rfl ?_);go_big_quiet_step (fail);refine wpQuiet_nil ?_)
 refine Mix.e1 rfl fun V2 hV2=>?_
 obtain ⟨k2,rfl⟩:=hV2
 go_wp2_with fail
 refine (slayout_any _ (m_st (M1.out.drewN (k1+k2))) HK.out.O.stf).mono ?_
 rintro e w12 ⟨rfl,hc12⟩
 have M12:=hid ((M1.out.drewN (k1+k2)).keep hc12)
 clear hc12 p0
 simp only [Ly.arr]
 have hfd:∀W:World,(Instr.field 83 (.agg #[.int .i64 y.l0,.int .i64 y.l1,.int .i64 y.l2,.int .i64 y.l3,.int .i64 y.l4,.int .i64 y.l5,.int .i64 y.l6,.int .i64 y.l7,.int .i64 y.l8,.int .i64 y.l9]) 0).run Tryz.prog W=.ok (.int .i64 y.l0) W:=fun W=>by kernel_rfl
 go_wp2_with fail
 repeat ((first | refine Mix.q1 rfl ?_ | refine Mix.p1 rfl rfl ?_ | refine Mix.s1 rfl rfl ?_);go_big_quiet_step (fail);refine wpQuiet_nil ?_)
 refine Mix.e1 rfl fun V3 hV3=>?_
 obtain ⟨k3,rfl⟩:=hV3
 go_wp2_with fail
 rw [HK.out.O.y0]
 have M13:=hid (M12.out.drewN k3)
 have HB13:=m_bk M13.out
 refine (store_ok B σ.p σ.cb σ.lv σ.s 2 0 1 _ HB13 ⟨by decide,by decide,by decide,by have:=HK.out.O.vs;omega⟩ (by have:=HL.out;omega) M13.out.bz (by decide)).mono ?_
 rintro e w13 ⟨rfl,hbs⟩
 obtain ⟨lv',hM14⟩:=m_bank M13.out hbs
 have M14:=hid hM14
 clear hbs hM14 hfd HB13
 go_wp2_with fail
 repeat ((first | refine Mix.q1 rfl ?_ | refine Mix.p1 rfl rfl ?_ | refine Mix.s1 rfl rfl ?_);go_big_quiet_step (fail);refine wpQuiet_nil ?_)
 intro k4
 go_wp2_with fail
 go_ret
 exact ⟨rfl,lv',M14.out.drewN k4,HK.out.shut (by have:=HL.out;omega) lv' 2⟩
end
section
variable {B:Nat} {w0 w:World} {R:List Res} {σ σ':RS} {bs':List Bx} {y:Ly} {n m:Nat} {ts:List (List UInt8)}
def AnnEnd (σ:RS) (m:Nat) (c:Cop) (σ':RS) (x:RsV):Prop:=match c with
 | .acq=>AcqEnd σ m σ' x
 | .rel k=>RelEnd σ m k σ' x
 | _=>False
theorem fin_acq (M:Mem B w0 (σ.L B++(boxR bs'::R)) w) (K:RnOk σ y n m ts none) (hb:σ.r.busy=false) (hl:σ.s.lg.length < 700000) :
  Calls Tryz.prog 12 #[.pointer (some ⟨σ.g,0,none⟩),Cop.acq.op.v] w (FinTo B w0 R σ y n m ts (fun _ σ' x=>AnnEnd σ m .acq σ' x)):=by
 refine finish_gen .acq (fun f _ σ1 pg=>AcqK σ m σ1 f pg∧(f < 4→lk σ.s.vs 0=0)) _ M hl (fun R' W M'=>beg_acq M' K hb) (fun σ1 bs1 pg S h1 h2 _ _ hs=>?_) (fun f phs σ1 σ2 hv pg pg' hK _ K1 K2 S1 S2 hn=>?_) (fun R W f phs σ1 bs1 pg M K hl hp he hK=>?_) (fun f phs σ1 pg hK=>?_)
 ·rcases hs with ⟨_,rfl⟩ | ⟨h,_⟩
  ·exact ⟨4,by decide,.a4 h1 h2,fun h=>absurd h (by decide)⟩
  ·exact absurd rfl h
 ·rcases acqK_step hK.1 S1 hK.2 K K1 hn with ⟨x,hx,he⟩ | ⟨he,f',hf,h0,hk⟩
  ·exact .inl ⟨x,hx,he⟩
  ·exact .inr ⟨he,f',by omega,hk,fun _=>h0⟩
 ·obtain ⟨hK,_⟩:=hK
  cases hK with
  | a4 h1 h2=>exact stp_clos M K hl hp
  | a3 k h0 h1 h2=>exact stp_ep M K hl hp
  | a2 k h0 h1 h2=>exact stp_ann M K hl hp
  | a1 k h0 h1 h2=>exact stp_root M K hl hp
 ·obtain ⟨h,_⟩:=hK
  cases h <;> decide
end
end Go.Proofs.YtjcdknhejcbpiaaGreat
