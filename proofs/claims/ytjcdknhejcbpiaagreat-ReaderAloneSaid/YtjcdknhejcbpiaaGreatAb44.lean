/- Lemmas that the proof of the last text leans on; no condition. -/
import Derived.Test.YtjcdknhejcbpiaaGreatAb39
import Derived.Test.YtjcdknhejcbpiaaGreatAb41
import Derived.Test.YtjcdknhejcbpiaaGreatAb30
import Derived.Test.YtjcdknhejcbpiaaGreatAb42
import Derived.Test.YtjcdknhejcbpiaaGreatAb37
import Derived.Test.YtjcdknhejcbpiaaGreatAb43
import Derived.Test.YtjcdknhejcbpiaaGreatAb34
import Derived.Test.YtjcdknhejcbpiaaGreatAb02
set_option maxRecDepth 100000
set_option maxHeartbeats 4000000
namespace Go.Proofs.YtjcdknhejcbpiaaGreat
open Go.RowKit
set_option linter.unusedVariables false
set_option linter.unusedSimpArgs false
set_option linter.unusedSectionVars false
theorem Mem.swap {B:Nat} {w0 w:World} {L1 L2:List Res} (h:Mem B w0 (L1++L2) w):Mem B w0 (L2++L1) w:=h.perm List.perm_append_comm
theorem Mem.flip2c {B:Nat} {w0 w:World} {A R:List Res} {b r s:Res} (h:Mem B w0 (A++(b::((R++[r])++[s]))) w):Mem B w0 (A++(b::((R++[s])++[r]))) w:=by
 refine h.perm (List.Perm.append_left A (List.Perm.cons b ?_))
 rw [List.append_assoc,List.append_assoc]
 exact List.Perm.append_left R (List.Perm.swap s r [])
def Weak (r r':Res):Prop:=(∀w,r'.holds w→r.holds w)∧∀k,r.foot k→r'.foot k
theorem Weak.refl (r:Res):Weak r r:=⟨fun _=>id,fun _=>id⟩
inductive WkL:List Res→List Res→Prop
 | nil:WkL [] []
 | cons {r r':Res} {l l':List Res} (h:Weak r r') (t:WkL l l'):WkL (r::l) (r'::l')
theorem WkL.at {l l':List Res} (h:WkL l l'):∀(i:Nat) (r:Res),l[i]?=some r→∃r',l'[i]?=some r'∧Weak r r':=by
 induction h with
 | nil=>intro i r h;simp at h
 | cons h t ih=>
  intro i r hr
  cases i with
  | zero=>
   rw [List.getElem?_cons_zero] at hr
   injection hr with hr
   subst hr
   exact ⟨_,rfl,h⟩
  | succ i=>
   rw [List.getElem?_cons_succ] at hr
   obtain ⟨r',h1,h2⟩:=ih i r hr
   exact ⟨r',h1,h2⟩
theorem WkL.app {a a' b b':List Res} (h:WkL a a') (g:WkL b b'):WkL (a++b) (a'++b'):=by
 induction h with
 | nil=>exact g
 | cons h t ih=>exact .cons h ih
theorem Mem.join {B:Nat} {w0 w2 w3:World} {L L' L'':List Res} (h:Mem B w0 L w2) (g:Mem w2.heap.size w2 L' w3) (hw:WkL L'' L'):Mem B w0 (L++L'') w3:=by
 have c:Ch (fun _=>False) w2 w3:=⟨g.bel.os,g.bel.tape,g.bel.output,g.bel.size,fun k hk _=>g.bel.block k hk⟩
 have h3:=h.keep c
 have X:∀(i:Nat) (r:Res),(L++L'')[i]?=some r→(L[i]?=some r∧i < L.length)∨(L.length≤i∧∃r',L'[i - L.length]?=some r'∧Weak r r'):=fun i r hr=>by
  by_cases hl:i < L.length
  ·rw [List.getElem?_append_left hl] at hr
   exact .inl ⟨hr,hl⟩
  ·rw [List.getElem?_append_right (by omega)] at hr
   exact .inr ⟨by omega,hw.at _ r hr⟩
 refine ⟨fun i r hr=>?_,fun i j r s hr hs hne k hk hk'=>?_,fun i r hr k hk=>?_,h3.bel,h3.bz⟩
 ·rcases X i r hr with ⟨h1,_⟩ | ⟨_,r',h1,h2⟩
  ·exact h3.each i r h1
  ·exact h2.1 _ (g.each _ r' h1)
 ·rcases X i r hr with ⟨h1,_⟩ | ⟨h0,r',h1,h2⟩
  ·rcases X j s hs with ⟨g1,_⟩ | ⟨g0,s',g1,g2⟩
   ·exact h3.apart i j r s h1 g1 hne k hk hk'
   ·have a:=r.lt (h.each i r h1) k hk
    have b:=g.low _ s' g1 k (g2.2 k hk')
    omega
  ·rcases X j s hs with ⟨g1,_⟩ | ⟨g0,s',g1,g2⟩
   ·have a:=s.lt (h.each j s g1) k hk'
    have b:=g.low _ r' h1 k (h2.2 k hk)
    omega
   ·exact g.apart _ _ r' s' h1 g1 (by omega) k (h2.2 k hk) (g2.2 k hk')
 ·rcases X i r hr with ⟨h1,_⟩ | ⟨_,r',h1,h2⟩
  ·exact h3.low i r h1 k hk
  ·have:=g.low _ r' h1 k (h2.2 k hk)
   have:=h.bz
   omega
theorem weak_row {B B':Nat} (hB:B≤B') (e size n:Nat) (v:Value) (xs:List Value):Weak (rowR B e size n v xs) (rowR B' e size n v xs):=⟨fun _ h=>own_mono h hB,fun _=>id⟩
theorem rs_weak {B B':Nat} (hB:B≤B') (σ:RS):WkL (σ.L B) (σ.L B'):=by
 unfold RS.L
 refine .cons (.refl _) (.cons ⟨fun w h=>⟨h.b,fun k s hk=>⟨(h.s k s hk).b,own_mono (h.s k s hk).m hB,own_mono (h.s k s hk).d hB⟩,h.ne⟩,fun _=>id⟩ (.cons (.refl _) (.cons ⟨fun w h=>⟨h.hp,h.hc,own_mono h.hl hB,h.hv,h.hn,Nat.le_trans hB h.bp,Nat.le_trans hB h.bc⟩,fun _=>id⟩ (.cons (.refl _) (.cons (.refl _) (.cons ⟨fun w h=>⟨own_mono h.b hB,fun r hr=>⟨own_mono (h.s r hr).1 hB,own_mono (h.s r hr).2 hB⟩⟩,fun _=>id⟩ (.cons (.refl _) (.cons (weak_row hB _ _ _ _ _) .nil))))))))
theorem pl_weak {B B':Nat} (hB:B≤B') (p:PlS) (sb g n:Nat):WkL (p.L B sb g n) (p.L B' sb g n):=by
 unfold PlS.L
 exact .cons (.refl _) (.cons (.refl _) (.cons ⟨fun w h q hq=>own_mono (h q hq) hB,fun _=>id⟩ .nil))
theorem two_runs {B:Nat} {w0 w2 w3:World} {L:List Res} {σ:RS} {bs:List Bx} {p:PlS} {n:Nat} (h:Mem B w0 L w2) (g:Mem w2.heap.size w2 (σ.L w2.heap.size++(boxR bs::(p.L w2.heap.size σ.r.sb σ.g n++[]))) w3):Mem B w0 (L++(σ.L B++(boxR bs::(p.L B σ.r.sb σ.g n++[])))) w3:=
 h.join g ((rs_weak h.bz σ).app (.cons (.refl _) ((pl_weak h.bz p σ.r.sb σ.g n).app .nil)))
section
variable {B:Nat} {w0 w:World} {R:List Res} {σ σ1 τ τ1:RS} {bs':List Bx} {y:Ly} {n m:Nat} {ts:List (List UInt8)}
theorem beg_mark0 {k:Nat} {i:Int} (M:Mem B w0 (σ.L B++(boxR bs'::R)) w) (K:RnOk σ y n m ts none) (hb:σ.r.busy=false) (hk:k < n) (hi:0 < i) (hm:∀(k:Nat) (s:Snp),σ.sl[k]?=some (some s)→s.ms=[]) :
  Calls Tryz.prog 13 #[.pointer (some ⟨σ.g,0,none⟩),(Cop.mark k i).op.v] w (BegTo B w0 R σ y n m ts (.mark k i)):=by
 rcases slot_case K hk with h | ⟨s,ix,tx,h,h1,h2,h3,h4,h5,h6,h7⟩
 ·exact begin_free M K hb (.mark k i) (fun e=>by cases e) hk rfl (by simp [Cop.op]) h (fm10 σ.g σ.lb n _ k i K.O.sl (by omega) (by omega) (by omega))
 ·have hms:=hm k s h
  refine begin_err M K hb (.mark k i) 7 (by decide) (.inr ⟨(fun e=>by cases e),.inr ⟨s,ix,tx,h,h1,h2,.inl ⟨(fun z hz=>by rw [hms] at hz;cases hz),rfl⟩⟩⟩) fun W M1=>?_
  have hsn:=(m_sl M1).s k s h
  obtain ⟨am,c1,hv,_⟩:=own_slice hsn.m
  have hb:=hsn.b
  unfold Snp.cells at hb
  rw [hv,hms] at hb
  refine (check_10 σ.g σ.lb n k s.g (σ.beg (Cop.mark k i).op).r _ s.x am 0 c1 [] s.dv i s.ix s.cu W (m_rd M1) K.O.sl (m_sl M1).b hk (sptr_at h) hb ⟨rfl,fun h=>absurd h (by decide)⟩ (by decide) (fm10 σ.g σ.lb n _ k i K.O.sl (by omega) (by omega) (by omega))).mono ?_
  rintro e w' ⟨⟨h,_⟩ | ⟨_,j,z,hj,_⟩,c⟩
  ·exact ⟨h,c⟩
  ·simp at hj
theorem beg_nm {c:Cop} (M:Mem B w0 (σ.L B++(boxR bs'::R)) w) (K:RnOk σ y n m ts none) (hb:σ.r.busy=false) (hc:c≠.acq) (hs:c.small n) (hm:∀(k:Nat) (s:Snp),σ.sl[k]?=some (some s)→s.ms=[]) :
  Calls Tryz.prog 13 #[.pointer (some ⟨σ.g,0,none⟩),c.op.v] w (BegTo B w0 R σ y n m ts c):=by
 cases c with
 | acq=>exact absurd rfl hc
 | len k=>exact beg_len M K hb hs
 | read k a b=>exact beg_read M K hb hs.1
 | rune k b=>exact beg_rune M K hb hs.1
 | line k b=>exact beg_line M K hb hs.1
 | mark k i=>exact beg_mark0 M K hb hs.1 hs.2.1 hm
 | seek k a=>exact beg_seek M K hb hs.1
 | next k b=>exact beg_next M K hb hs.1
 | rel k=>exact beg_rel M K hb hs
structure One (σ:RS) (tx:List UInt8) (sn:Snp):Prop where
 sl:σ.sl=[some sn]
 ix:sn.ix=0
 cu:sn.cu=0
 ms:sn.ms=[]
 tr:tx≠[]→∃jx t,sn.x.at'=hdl jx∧Nt σ.ns jx t∧buildT ⟨tx.toArray⟩=[t]
theorem barr_ext {s:ByteArray} {l:List UInt8} (h:s.data.toList=l):s=⟨l.toArray⟩:=by
 cases s with
 | mk d=>rw [←h]
theorem acq_one {p:PlS} {y:Ly} {s:ByteArray} {x:RsV} (P:PlainP σ p y 1 s) (h:AcqEnd σ 1 σ1 x) (S:Same σ σ1) (K:RnOk σ1 y 1 1 [s.data.toList] none):x.er=0∧∃sn,One σ1 s.data.toList sn:=by
 rcases h with ⟨_,_,_,⟨h,_⟩ | ⟨_,h,_⟩⟩ | ⟨_,k,sn,i,r,h1,h2,h3,h4,h5,h6,h7,h8,h9,_⟩
 ·exact absurd (P.vs 0) h
 ·rw [P.sl] at h
  exact absurd h (by decide)
 ·refine ⟨by rw [h8];rfl,sn,?_⟩
  rw [P.vs 1] at h2
  obtain rfl:i=0:=by omega
  rw [P.sl] at h1 h9
  have h1':free1 ((List.replicate 1 (none:Option Snp)).map sptr) 0=0:=by decide
  rw [h1'] at h1
  obtain rfl:k=0:=by omega
  have hsl:σ1.sl=[some sn]:=h9
  obtain ⟨r',tx',e1,e2,_,e4,_⟩:=P.P.rv
  have e1:σ.rs[0]?=some r':=e1
  rw [h3] at e1
  injection e1 with e1
  subst e1
  refine ⟨hsl,h6,h7,by rw [h5,←e4,P.nm],fun hne=>?_⟩
  obtain ⟨j,r2,g1,g2,g3,g4,_⟩:=K.sn 0 sn (by rw [hsl];rfl)
  rw [h6] at g4
  obtain rfl:j=0:=by omega
  have g5:=(K.rv 0 r2 s.data.toList g1 rfl).1
  rw [←g2] at g5
  obtain ⟨jx,t,t1,t2,t3,_,_,sb,t4⟩:=rev_tree g5 (List.length_pos_iff.2 hne)
  refine ⟨jx,t,t1,t2,?_⟩
  rw [build_text t4] at t3
  rw [←barr_ext t3]
  exact t4
theorem al_start {tx:List UInt8} {a b:Snp} (A:One σ tx a) (C:One τ tx b) {c:Cop} (hc:c≠.acq) (hs:c.small 1) {pg pg':Pg} (h:StartP σ [tx] c pg) (g:StartP τ [tx] c pg'):Lk σ.ns τ.ns σ.sl τ.sl pg pg':=by
 have h0:c.slot=0:=by
  cases c with
  | acq=>rfl
  | len k=>exact Nat.lt_one_iff.1 hs
  | read k a b=>exact Nat.lt_one_iff.1 hs.1
  | rune k b=>exact Nat.lt_one_iff.1 hs.1
  | line k b=>exact Nat.lt_one_iff.1 hs.1
  | mark k i=>exact Nat.lt_one_iff.1 hs.1
  | seek k a=>exact Nat.lt_one_iff.1 hs.1
  | next k b=>exact Nat.lt_one_iff.1 hs.1
  | rel k=>exact Nat.lt_one_iff.1 hs
 have U:∀{σ:RS} {a:Snp} {pg:Pg},One σ tx a→StartP σ [tx] c pg→RunP a tx pg c:=fun {σ a pg} A h=>by
  rcases h with ⟨h,_⟩ | ⟨_,⟨h,_⟩ | ⟨s,i,tx',h1,h2,h3,h4⟩⟩
  ·exact absurd h hc
  ·rw [A.sl,h0] at h
   cases h
  ·rw [A.sl,h0] at h1
   injection h1 with h1
   injection h1 with h1
   subst h1
   rw [A.ix] at h2
   obtain rfl:i=0:=by omega
   injection h3 with h3
   subst h3
   exact h4
 refine run_lk c h0 (U A h) (U C g) A.ms C.ms (by rw [A.cu,C.cu]) (by rw [A.sl];rfl) (by rw [C.sl];rfl) fun hne=>?_
 obtain ⟨i,t,a1,a2,a3⟩:=A.tr hne
 obtain ⟨j,t',b1,b2,b3⟩:=C.tr hne
 rw [a3] at b3
 injection b3 with b3
 subst b3
 exact ⟨a,b,i,j,t,by rw [A.sl];rfl,by rw [C.sl];rfl,a1,b1,a2,b2⟩
end
structure AlI (w0:World) (E:List Res) (np:List An) (sp:List (Option Snp)) (ps:Nat→Pg) (y:Ly) (qg tg c b j:Nat) (W:World) (τ:RS) (bt:List Bx) (q:PlS) (ts:List (List UInt8)) (pg:Pg):Prop where
 M:Mem w0.heap.size w0 (τ.L w0.heap.size++(boxR bt::(q.L w0.heap.size τ.r.sb τ.g 1++E))) W
 K:RnOk τ y 1 1 ts none
 G:PgAt τ bt 1 1 ts pg
 L:∃sq,Lk np τ.ns sp sq (ps j) pg∧(pg.ended=false→sq=τ.sl)
 hg:q.g=qg
 ht:τ.g=tg
 an:τ.A.n=200
 nl:τ.ns.length≤11+11 * c
 tl:ts.length=1+c
 lg:τ.s.lg.length≤b
theorem Lk.kind {np nq:List An} {sp sq:List (Option Snp)} {a b:Pg} (h:Lk np nq sp sq a b):b.hk=none∧(b.reads=true∨(∃k,b=.rel k)∨b.ended=true):=by
 cases h with
 | fin x=>exact ⟨rfl,.inr (.inr rfl)⟩
 | rel k=>exact ⟨rfl,.inr (.inl ⟨k,rfl⟩)⟩
 | loc x=>exact ⟨rfl,.inl rfl⟩
 | seek k pos=>exact ⟨rfl,.inl rfl⟩
 | take k a pos=>exact ⟨rfl,.inl rfl⟩
 | byte u h g r=>exact ⟨rfl,.inl rfl⟩
 | rune u h g=>exact ⟨rfl,.inl rfl⟩
 | line u h g=>exact ⟨rfl,.inl rfl⟩
section
variable {w0 W W':World} {E:List Res} {np:List An} {sp:List (Option Snp)} {ps:Nat→Pg} {y:Ly} {qg tg c b j:Nat} {τ τ':RS} {bt bt':List Bx} {q:PlS} {ts:List (List UInt8)} {pg pg':Pg}
theorem AlI.keep (h:AlI w0 E np sp ps y qg tg c b j W τ bt q ts pg) (k:Ch (fun _=>False) W W'):AlI w0 E np sp ps y qg tg c b j W' τ bt q ts pg:={ h with M:=h.M.keep k }
theorem AlI.more {b':Nat} (h:AlI w0 E np sp ps y qg tg c b j W τ bt q ts pg) (hb:b≤b'):AlI w0 E np sp ps y qg tg c b' j W τ bt q ts pg:={ h with lg:=Nat.le_trans h.lg hb }
theorem AlI.ev6 (h:AlI w0 E np sp ps y qg tg c b j W τ bt q ts pg) (hb:b < 700000) {ys:List An} {rv':Value} {r1:RvS} {lv' mv:Value} {x:EvR} (M:Mem w0.heap.size w0 ((τ.pub ys rv' r1 lv' 2).L w0.heap.size++(boxR bt::((q.pub x mv r1).L w0.heap.size τ.r.sb τ.g 1++E))) W') (K:RnOk (τ.pub ys rv' r1 lv' 2) y 1 1 (ts++[x.s.data.toList]) none) (hy:ys.length≤11) :
  AlI w0 E np sp ps y qg tg (c+1) (b+1) j W' (τ.pub ys rv' r1 lv' 2) bt (q.pub x mv r1) (ts++[x.s.data.toList]) pg where
 M:=M
 K:=K
 G:=h.G.pub h.K ys rv' r1 lv' 2 _
 L:=by
  obtain ⟨sq,h1,h2⟩:=h.L
  exact ⟨sq,h1.app ys,h2⟩
 hg:=h.hg
 ht:=h.ht
 an:=h.an
 nl:=by have:=h.nl;show (τ.ns++ys).length≤_;rw [List.length_append];omega
 tl:=by have:=h.tl;rw [List.length_append,List.length_singleton];omega
 lg:=by have:=h.lg;show (τ.s.store 2 1 (τ.rs.length:Int)).lg.length≤_;rw [store_len];omega
theorem AlI.ev7 (h:AlI w0 E np sp ps y qg tg c b j W τ bt q ts pg) {lv':Value} (M:Mem w0.heap.size w0 ((τ.shut lv' 2).L w0.heap.size++(boxR bt::(q.shut.L w0.heap.size τ.r.sb τ.g 1++E))) W') (K:RnOk (τ.shut lv' 2) y 1 1 ts none) :
  AlI w0 E np sp ps y qg tg c (b+1) j W' (τ.shut lv' 2) bt q.shut ts pg where
 M:=M
 K:=K
 G:=h.G.shut h.K lv' 2
 L:=h.L
 hg:=h.hg
 ht:=h.ht
 an:=h.an
 nl:=h.nl
 tl:=h.tl
 lg:=by have:=h.lg;show (τ.s.store 2 0 1).lg.length≤_;rw [store_len];omega
theorem AlI.step (h:AlI w0 E np sp ps y qg tg c b j W τ bt q ts pg) (he:(ps j).ended=false) {σ σ':RS} {hv hv':Int} {m:Nat} (hn:Nxt σ σ' m hv (ps (j+1)) (ps j)) (e1:σ.ns=np) (e2:σ.sl=sp)
  (M:Mem w0.heap.size w0 (τ'.L w0.heap.size++(boxR bt'::(q.L w0.heap.size τ.r.sb τ.g 1++E))) W') (S:Same τ τ') (K:RnOk τ' y 1 1 ts pg'.hk) (G:PgAt τ' bt' 1 1 ts pg') (N:Nxt τ τ' 1 hv' pg' pg) :
  AlI w0 E np sp ps y qg tg c (b+1) (j+1) W' τ' bt' q ts pg'∧(ps (j+1)).ended=pg'.ended:=by
 obtain ⟨sq,h1,h2⟩:=h.L
 have hpe:pg.ended=false:=by rw [←h1.ph.2];exact he
 obtain rfl:=h2 hpe
 have hl:=h1.step hn N e1 rfl e2 rfl
 have hsl:pg'.ended=false→τ'.sl=τ.sl:=fun hf=>by
  rcases h1.kind.2 with hr | ⟨k,hk⟩ | hx
  ·obtain ⟨_,_,h | ⟨_,_,h,_⟩⟩:=nxt_out hr N
   ·rw [h.1] at hf;cases hf
   ·exact h
  ·subst hk
   obtain ⟨_,_,_,rfl⟩:=N
   cases hf
  ·rw [hx] at hpe;cases hpe
 refine ⟨⟨p_same M S,by rw [←hl.kind.1];exact K,G,⟨τ.sl,by rw [S.ns];exact hl,fun hf=>(hsl hf).symm⟩,h.hg,S.g.trans h.ht,by rw [S.A];exact h.an,by rw [S.ns];exact h.nl,h.tl,?_⟩,hl.ph.2⟩
 have:=nxt_len N
 have:=h.lg
 omega
theorem AlI.fin {x:RsV} (h:AlI w0 E np sp ps y qg tg c b j W τ bt q ts pg) (he:ps j=.fin x):τ.r.rs=x:=by
 obtain ⟨sq,h1,_⟩:=h.L
 rw [he] at h1
 have G:=h.G
 cases h1
 exact G.2.2
end
theorem small_slot {c:Cop} (h:c.small 1) (hc:c≠.acq):c.slot < 1:=by
 cases c with
 | acq=>exact absurd rfl hc
 | len k=>exact h
 | read k a b=>exact h.1
 | rune k b=>exact h.1
 | line k b=>exact h.1
 | mark k i=>exact h.1
 | seek k a=>exact h.1
 | next k b=>exact h.1
 | rel k=>exact h
theorem one_ms {σ:RS} {tx:List UInt8} {sn:Snp} (h:One σ tx sn):∀(k:Nat) (s:Snp),σ.sl[k]?=some (some s)→s.ms=[]:=by
 intro k s hs
 rw [h.sl] at hs
 cases k with
 | zero=>
  injection hs with hs
  injection hs with hs
  rw [←hs]
  exact h.ms
 | succ k=>simp at hs
theorem cnt6_take {l:List EvR} {k:Nat} {x:EvR} (h:l[k]?=some x):cnt6 (l.take (k+1))=cnt6 (l.take k)+(if x.d.tmod 8=6 then 1 else 0):=by
 have hkl:=List.getElem?_eq_some_iff.1 h
 rw [List.take_succ_eq_append_getElem hkl.1,hkl.2]
 unfold cnt6
 rw [List.filter_append,List.length_append]
 by_cases h6:x.d.tmod 8=6 <;> simp [h6]
theorem cnt6_le (l:List EvR) (k:Nat):cnt6 (l.take k)≤cnt6 l:=by
 unfold cnt6
 exact List.Sublist.length_le ((List.take_sublist k l).filter _)
theorem eqItem_same (k f t:Int) (w:World):Calls Tryz.prog 43 #[.agg #[.int .u8 k,.int .i64 f,.int .i64 t,.slice none 0 0],.agg #[.int .u8 k,.int .i64 f,.int .i64 t,.slice none 0 0]] w fun e w'=>e=.returned (.bool true)∧Ch (fun _=>False) w w':=by
 have b1:(k == k)=true:=beq_self_eq_true _
 have b2:(f == f)=true:=beq_self_eq_true _
 have b3:(t == t)=true:=beq_self_eq_true _
 go_enter Tryz.func43,Tryz.ntmps43
 go_wp2_with fail
 refine calls_world fun W hW=>?_
 have C:=hid (show Ch (fun _=>False) w W from by rw [hW];exact ((Ch.refl _ w).alloc _).alloc _)
 clear hW
 refine (eqPieces_any none none 0 0 0 [] W ⟨rfl,fun h=>absurd h (by decide)⟩ ⟨rfl,fun h=>absurd h (by decide)⟩ (by decide)).mono ?_
 rintro e w' ⟨rfl,k,rfl⟩
 go_wp2_with fail
 go_ret
 exact ⟨rfl,C.out.drewN k⟩
theorem eqResult_same (x:RsV) (w:World):Calls Tryz.prog 16 #[x.v,x.v] w fun e w'=>e=.returned (.bool true)∧Ch (fun _=>False) w w':=by
 have b1:(x.er == x.er)=true:=beq_self_eq_true _
 have b2:(x.rev == x.rev)=true:=beq_self_eq_true _
 have b3:(x.sl == x.sl)=true:=beq_self_eq_true _
 have b4:(x.at' == x.at')=true:=beq_self_eq_true _
 have b5:(x.g == x.g)=true:=beq_self_eq_true _
 have b6:(x.s.toList == x.s.toList)=true:=beq_self_eq_true _
 have b7:(x.b == x.b)=true:=beq_self_eq_true _
 have b8:(x.r == x.r)=true:=beq_self_eq_true _
 have b9:(x.l == x.l)=true:=beq_self_eq_true _
 simp only [RsV.v]
 go_enter Tryz.func16,Tryz.ntmps16
 go_wp2_with fail
 refine calls_world fun W hW=>?_
 have C:=hid (show Ch (fun _=>False) w W from by rw [hW];exact ((Ch.refl _ w).alloc _).alloc _)
 clear hW
 refine (eqItem_same x.ik x.fr x.to W).mono ?_
 rintro e w' ⟨rfl,c⟩
 go_wp2_with fail
 go_ret
 exact ⟨rfl,C.out.trans c (fun _ _ e=>e)⟩
end Go.Proofs.YtjcdknhejcbpiaaGreat
