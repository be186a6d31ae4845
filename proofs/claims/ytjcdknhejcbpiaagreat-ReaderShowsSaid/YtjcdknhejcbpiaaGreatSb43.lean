/- Lemmas; no condition. -/
import Derived.Test.YtjcdknhejcbpiaaGreatSb41
import Derived.Test.YtjcdknhejcbpiaaGreatSb42
set_option maxRecDepth 100000
set_option maxHeartbeats 4000000
namespace Go.Proofs.YtjcdknhejcbpiaaGreat
open Go.RowKit
set_option linter.unusedVariables false
set_option linter.unusedSimpArgs false
set_option linter.unusedSectionVars false
def HzOk (p:PlS):Prop:=∀(k:Nat) (x:HdV),p.hs[k]?=some x->x.ms.length<=4/\(x.is=true->x.s.size<=120/\0<=x.cu/\x.cu<=(x.s.size:Int))
section
variable {B:Nat} {w0 w:World} {R:List Res} {σ:RS} {bs:List Bx} {p:PlS} {y:Ly} {n m:Nat} {ts:List (List UInt8)} {hk:Option Nat} {c:Cop} {r:RsV} {sh:Bool}
theorem hz_of (I:ShI σ p n ts) (K:RnOk σ y n m ts hk) (tz:∀tx ∈ ts,tx.length<=120):HzOk p:=by
 intro k x hx
 have hkn:k < n:=by rw [<-I.H.len];exact (List.getElem?_eq_some_iff.1 hx).1
 rcases I.H.cs k hkn with ⟨_,h2⟩ | ⟨s,i,tx,x',h1,h2,h3,h4,h5,_⟩
 ·rw [hx] at h2
  injection h2 with h2;subst h2
  exact ⟨Nat.zero_le _,fun h=>by cases h⟩
 ·rw [hx] at h4
  injection h4 with h4;subst h4
  obtain ⟨i',q,e1,e2,e3,e4,e5,e6⟩:=K.sn k s h1
  obtain rfl:i=i':=by omega
  obtain ⟨g1,_,g3,_⟩:=K.rv i q tx e1 h3
  have hb:s.x.b=(tx.length:Int):=by rw [e2,g1.1];rfl
  have hsz:x.s.size=tx.length:=by rw [<-dsize,h5.s]
  refine ⟨by rw [h5.ms,e3];exact g3,fun _=>⟨by rw [hsz];exact tz tx (List.mem_of_getElem? h3),by rw [h5.cu];exact e5,by rw [h5.cu,hsz,<-hb];exact e6⟩⟩
theorem want_mem (M:Mem B w0 (σ.L B++(boxR bs::(p.L B σ.r.sb σ.g n++R))) w) (hl:p.hs.length=n) (hn:n<=4) (hp:∀(k:Nat) (x:HdV),p.hs[k]?=some x->(x.mv,x.ms) ∈ p.pool) (hz:HzOk p) (hs:c.small n) (hw:WantR p n c p.cl r) :
  Calls Tryz.prog 33 #[.pointer (some ⟨p.g,0,none⟩),c.op.v] w fun e w'=>e=.returned r.v/\Ch (fun _=>False) w w':=by
 rcases hw with ⟨rfl,h⟩ | ⟨h1,h2,x,h3,h4⟩
 ·exact want_acq (p_blk M) (p_hs M) hl hn h
 ·have own:=p_pool M _ (hp _ x h3)
  obtain ⟨A,cap,hv,_⟩:=own_slice own
  obtain ⟨z1,z2⟩:=hz _ x h3
  simp only at hv
  have own':w.ownsRow B 160 3 (.slice A x.ms.length cap) x.ms.length (mkCells x.ms):=by rw [<-hv];exact own
  exact want_held (p_blk M) (p_hs M) hl hn h1 hs h3 z2 hv (own_inMk own' rfl).1 z1 h4
theorem done_mem (M:Mem B w0 (σ.L B++(boxR bs::(p.L B σ.r.sb σ.g n++R))) w) (hl:p.hs.length=n) (hn:n<=4) (hp:(p.now.mv,p.now.ms) ∈ p.pool) (hs:c.small n) (hw:WantR p n c sh r) :
  Calls Tryz.prog 34 #[.pointer (some ⟨p.g,0,none⟩),c.op.v,r.v] w fun e w'=>e=.returned (.tuple #[])/\Mem B w0 (σ.L B++(boxR bs::((p.done c r).L B σ.r.sb σ.g n++R))) w':=by
 have own:=p_pool M _ hp
 obtain ⟨A,cap,hv,_⟩:=own_slice own
 have hne:p.g≠p.hb:=fun e=>M.apart 10 11 (blkR p.g 51 (p.cells σ.r.sb σ.g n)) (blkR p.hb 49 (hdCells p.hs).toArray) rfl rfl (by decide) p.g rfl e
 refine (done_any (p_blk M) (p_hs M) hne hl hn hs hv (fun he ha=>?_)).mono ?_
 ·rcases hw with ⟨_,⟨_,h⟩ | ⟨_,k,x,h1,_,_,h2⟩ | ⟨_,_,h⟩⟩ | ⟨h,_⟩
  ·rw [h] at he;exact absurd he (by decide)
  ·exact ⟨k,by rw [h2],by rw [<-hl];exact (List.getElem?_eq_some_iff.1 h1).1⟩
  ·rw [h] at he;exact absurd he (by decide)
  ·exact absurd ha h
 ·rintro e w' ⟨rfl,hb,hc⟩
  refine ⟨rfl,?_⟩
  exact M.upd (i:=11) (blkR p.hb 49 (hdCells (hdDone p.now p.hs c r)).toArray) rfl hc (fun _ _ e=>e) hb (fun _ e=>.inl e)
end
section
variable {B:Nat} {w0 w:World} {R:List Res} {σ:RS} {bs':List Bx} {y:Ly} {n m:Nat} {ts:List (List UInt8)}
theorem beg_mark {k:Nat} {i:Int} (M:Mem B w0 (σ.L B++(boxR bs'::R)) w) (K:RnOk σ y n m ts none) (hb:σ.r.busy=false) (hk:k < n) (hi:0 < i) :
  Calls Tryz.prog 13 #[.pointer (some ⟨σ.g,0,none⟩),(Cop.mark k i).op.v] w (BegTo B w0 R σ y n m ts (.mark k i)):=by
 rcases slot_case K hk with h | ⟨s,ix,tx,h,h1,h2,h3,h4,h5,h6,h7⟩
 ·exact begin_free M K hb (.mark k i) (fun e=>by cases e) hk rfl (by simp [Cop.op]) h (fm10 σ.g σ.lb n _ k i K.O.sl (by omega) (by omega) (by omega))
 ·have SN:∀W,Mem B w0 (RS.L B (σ.beg (Cop.mark k i).op)++(boxR bs'::R)) W->∃am c1,s.mv=.slice am s.ms.length c1/\InMk W am s.ms.length s.ms/\Blk W s.g 144 #[.int .i64 s.x.num,.int .u64 s.x.at',.int .i64 s.x.h,.int .i64 s.x.b,.int .i64 s.x.r,.int .i64 s.x.l,.slice am s.ms.length c1,s.dv,.int .i64 s.ix,.int .i64 s.cu]:=fun W M1=>by
   have hsn:=(m_sl M1).s k s h
   obtain ⟨am,c1,hv,_⟩:=own_slice hsn.m
   have hb:=hsn.b
   unfold Snp.cells at hb
   rw [hv] at hb
   exact ⟨am,c1,hv,(own_inMk (hv ▸ hsn.m) rfl).1,hb⟩
  by_cases hex:∃(k:Nat) (x:Mk),s.ms[k]?=some x/\x.id=i
  {
 obtain ⟨mk0,hmk0⟩:∃z,z=s.ms:=⟨_,rfl⟩
 have T:∀W,Mem B w0 (RS.L B (σ.beg (Cop.mark k i).op)++(boxR bs'::R)) W->Calls Tryz.prog 38 #[.pointer (some ⟨σ.g,0,none⟩)] W fun e w'=>∃mk,(mk ∈ s.ms/\mk.id=i)/\∃rb xb,RdSet σ.g { (σ.beg (Cop.mark k i).op).r with ph:=1,dv:=locV rb xb } W (.tuple #[]) e w'/\Blk w' rb 45 #[.pointer (some ⟨σ.g,0,none⟩)]/\Blk w' xb 41 (RsV.arr { RsV.zero with at':=mk.at',g:=mk.g })/\W.heap.size<=rb/\rb < xb:=fun W M1=>by
  obtain ⟨am,c1,_,hin,hsb⟩:=SN W M1
  exact start_10 σ.g σ.lb n k s.g (σ.beg (Cop.mark k i).op).r _ s.x s.dv s.ix s.cu am _ c1 s.ms i W (m_rd M1) K.O.sl (m_sl M1).b rfl hk (sptr_at h) hsb hin (by omega) hex (by omega)
 refine begin_of M K hb (.mark k i) fun W M1 K1=>?_
 refine (T W M1).mono ?_
 rintro e w' ⟨mk,⟨hm1,hm2⟩,rb,xb,hset,b1,b2,h1',h2'⟩
 have M2:=m_setbox M1 hset rfl rfl [⟨rb,45,#[.pointer (some ⟨σ.g,0,none⟩)]⟩,⟨xb,41,RsV.arr { RsV.zero with at':=mk.at',g:=mk.g }⟩] (fun b hb=>by
  simp at hb
  rcases hb with rfl | rfl
  ·exact b1
  ·exact b2) (fun b hb=>by
  simp at hb
  rcases hb with rfl | rfl
  ·exact h1'
  ·exact Nat.le_trans h1' (Nat.le_of_lt h2'))
 obtain ⟨rfl,_,_⟩:=hset
 exact ⟨rfl,_,_,M2,⟨rfl,rfl,rfl,rfl,rfl,rfl,rfl,rfl,rfl,rfl,rfl,rfl,rfl,rfl,rfl,rfl⟩,rfl,rfl,rfl,rfl,K1.same ⟨rfl,rfl,rfl,rfl,rfl,rfl,rfl,rfl,rfl,rfl,rfl,rfl,rfl,rfl,rfl,rfl⟩ (K1.O.rd _ σ.tx rfl rfl) rfl rfl rfl,.loc { RsV.zero with at':=mk.at',g:=mk.g },⟨rfl,rfl,rfl,rb,xb,rfl,rfl⟩,rfl,rfl,.inr ⟨(fun e=>by cases e),.inr ⟨s,ix,tx,h,h1,h2,.inr ⟨mk,hm1,hm2,rfl⟩⟩⟩⟩
 }
  ·refine begin_err M K hb (.mark k i) 7 (by decide) (.inr ⟨(fun e=>by cases e),.inr ⟨s,ix,tx,h,h1,h2,.inl ⟨(fun z hz he=>by
    obtain ⟨j,hj⟩:=List.getElem?_of_mem hz
    exact hex ⟨j,z,hj,he⟩),rfl⟩⟩⟩) fun W M1=>?_
   obtain ⟨am,c1,_,hin,hsb⟩:=SN W M1
   refine (check_10 σ.g σ.lb n k s.g (σ.beg (Cop.mark k i).op).r _ s.x am _ c1 s.ms s.dv i s.ix s.cu W (m_rd M1) K.O.sl (m_sl M1).b hk (sptr_at h) hsb hin (by omega) (fm10 σ.g σ.lb n _ k i K.O.sl (by omega) (by omega) (by omega))).mono ?_
   rintro e w' ⟨⟨h,_⟩ | ⟨_,hx⟩,c⟩
   ·exact ⟨h,c⟩
   ·exact absurd hx hex
theorem beg_any {c:Cop} (M:Mem B w0 (σ.L B++(boxR bs'::R)) w) (K:RnOk σ y n m ts none) (hb:σ.r.busy=false) (hs:c.small n) :
  Calls Tryz.prog 13 #[.pointer (some ⟨σ.g,0,none⟩),c.op.v] w (BegTo B w0 R σ y n m ts c):=by
 cases c with
 | acq=>exact beg_acq M K hb
 | len k=>exact beg_len M K hb hs
 | read k a b=>exact beg_read M K hb hs.1
 | rune k b=>exact beg_rune M K hb hs.1
 | line k b=>exact beg_line M K hb hs.1
 | mark k i=>exact beg_mark M K hb hs.1 hs.2.1
 | seek k a=>exact beg_seek M K hb hs.1
 | next k b=>exact beg_next M K hb hs.1
 | rel k=>exact beg_rel M K hb hs
end
def opA (c:Cop):Array Value:=#[.int .u8 c.op.k,.int .i64 c.op.sl,.int .i64 c.op.at',.int .i64 c.op.n,.int .u32 c.op.id,.int .u8 c.op.g,.string c.op.s]
theorem rev_h {ns:List An} {x:Rv} {tx:List UInt8} (h:RevOk ns x tx) (h2:tx.length<=120):∃k:Nat,x.h=(k:Int)/\k<=2:=by
 rcases h.2.2.2 with ⟨_,h⟩ | ⟨ix,t,e1,e2,e3,e4,hg,sb,hb⟩
 ·exact ⟨0,h,by decide⟩
 ·have hst:sb.data.toList=tx:=by
   rw [<-e3,build_text hb]
  have hsz:sb.size=tx.length:=by rw [<-dsize,hst]
  refine ⟨t.ht,e4,?_⟩
  rcases Nat.eq_zero_or_pos sb.size with h0 | h0
  {
 have:tx=[]:=List.length_eq_zero_iff.1 (by omega)
 have hne:=lvs_pos hg
 have ht:t.text=[]:=by rw [e3,this]
 exfalso
 rcases hg with ⟨s,rfl,hs1,_⟩ | ⟨k,_,hf⟩
 ·have:s.data.toList.length=0:=by rw [show s.data.toList=[] from ht];rfl
  rw [dsize] at this
  omega
 ·have hl:=fit_lvs hf
  rw [lvs_text] at ht
  cases e:t.lvs with
  | nil=>exact hl e
  | cons a l=>
   rw [e,flatS_cons] at ht
   have ha:=hne a (by rw [e];simp)
   have:a.data.toList.length=0:=by rw [(List.append_eq_nil_iff.1 ht).1];rfl
   rw [dsize] at this
   omega
 }
  ·exact build_ht2 hb h0 (by omega)
def HtOk (p:PlS) (c:Cop) (hgt:Nat):Prop:=hgt<=2/\(c≠.acq->∃x,p.hs[c.slot]?=some x/\x.h=(hgt:Int))
inductive Ph (σ:RS) (p:PlS) (bs:List Bx) (n:Nat) (y:Ly) (ts:List (List UInt8)) (oa:Array Value):Bool->Nat->Bool->Prop
 | idle (st:Nat) (sh:Bool) (x:RsV) (h1:RnOk σ y n n ts none) (h2:PgAt σ bs n n ts (.fin x)):Ph σ p bs n y ts oa false st sh
 | busy (cc:Cop) (pg:Pg) (f hgt st:Nat) (sh:Bool) (h1:oa=opA cc) (h2:cc.small n) (h3:RnOk σ y n n ts pg.hk) (h4:PgAt σ bs n n ts pg) (h5:pg.ended=false) (h6:pg≠.clos) (h7:Bz σ p n ts cc sh f pg) (h8:HtOk p cc hgt) (h9:st+f<=bdN hgt cc):Ph σ p bs n y ts oa true st sh
structure ShS (w0:World) (pb ob n c k:Nat) (oa:Array Value) (W:World) (σ:RS) (bs:List Bx) (p:PlS) (ts:List (List UInt8)):Prop where
 M:Mem w0.heap.size w0 (σ.L w0.heap.size++(boxR bs::(p.L w0.heap.size σ.r.sb σ.g n++[blkR ob 26 oa]))) W
 I:ShI σ p n ts
 hg:p.g=pb
 an:σ.A.n=200
 nl:σ.ns.length<=11+11 * c
 tl:ts.length=1+c
 lg:σ.s.lg.length<=k
 tz:∀tx ∈ ts,tx.length<=120
 oz:oa.size=7
section
variable {w0 W W':World} {pb ob n c k f st hgt m:Nat} {oa:Array Value} {σ σ':RS} {bs:List Bx} {p:PlS} {y:Ly} {ts:List (List UInt8)} {b sh:Bool} {cc:Cop} {pg pg':Pg} {hv:Int} {hk:Option Nat}
theorem ShS.next (h:ShS w0 pb ob n c k oa W σ bs p ts) (ch:Ch (fun _=>False) W W'):ShS w0 pb ob n c (k+1) oa W' σ bs p ts:=
 { h with M:=h.M.keep ch,lg:=by have:=h.lg;omega }
theorem Ph.pub (h:Ph σ p bs n y ts oa b st sh):∃hk,RnOk σ y n n ts hk/\∀(ys:List An) (rv':Value) (r1:RvS) (lv':Value) (x:EvR) (mv:Value),RnOk (σ.pub ys rv' r1 lv' 2) y n n (ts++[x.s.data.toList]) hk->Ph (σ.pub ys rv' r1 lv' 2) (p.pub x mv r1) bs n y (ts++[x.s.data.toList]) oa b st sh:=by
 cases h with
 | idle _ _ z h1 h2=>exact ⟨_,h1,fun ys rv' r1 lv' x mv K=>.idle st sh z K (h2.pub h1 ys rv' r1 lv' 2 _)⟩
 | busy cc pg f hgt _ _ h1 h2 h3 h4 h5 h6 h7 h8 h9=>exact ⟨_,h3,fun ys rv' r1 lv' x mv K=>.busy cc pg f hgt st sh h1 h2 K (h4.pub h3 ys rv' r1 lv' 2 _) h5 h6 (h7.pub h6 ys rv' r1 lv' x mv _) h8 h9⟩
theorem Ph.shut (h:Ph σ p bs n y ts oa b st sh):∃hk,RnOk σ y n n ts hk/\∀(lv':Value),RnOk (σ.shut lv' 2) y n n ts hk->Ph (σ.shut lv' 2) p.shut bs n y ts oa b st sh:=by
 cases h with
 | idle _ _ z h1 h2=>exact ⟨_,h1,fun lv' K=>.idle st sh z K (h2.shut h1 lv' 2)⟩
 | busy cc pg f hgt _ _ h1 h2 h3 h4 h5 h6 h7 h8 h9=>exact ⟨_,h3,fun lv' K=>.busy cc pg f hgt st sh h1 h2 K (h4.shut h3 lv' 2) h5 h6 (h7.shut h6 lv') h8 h9⟩
theorem ht_of (I:ShI σ p n ts) (K:RnOk σ y n n ts hk) (tz:∀tx ∈ ts,tx.length<=120) (cc:Cop) (hs:cc.small n):∃hgt,HtOk p cc hgt/\∀s,cc≠.acq->σ.sl[cc.slot]?=some (some s)->s.x.h=(hgt:Int):=by
 by_cases e:cc=.acq
 ·exact ⟨0,⟨by decide,fun h=>absurd e h⟩,fun s h=>absurd e h⟩
 ·have hsl:cc.slot < n:=by
   cases cc with
   | acq=>exact absurd rfl e
   | len k=>exact hs
   | read k a b=>exact hs.1
   | rune k b=>exact hs.1
   | line k b=>exact hs.1
   | mark k b=>exact hs.1
   | seek k a=>exact hs.1
   | next k b=>exact hs.1
   | rel k=>exact hs
  rcases I.H.cs _ hsl with ⟨h1,h2⟩ | ⟨s,i,tx,x,h1,h2,h3,h4,h5,_⟩
  ·refine ⟨0,⟨by decide,fun _=>⟨_,h2,rfl⟩⟩,fun s _ h=>?_⟩
   rw [h1] at h;cases h
  ·obtain ⟨i',q,e1,e2,e3,e4,e5,e6⟩:=K.sn _ s h1
   obtain rfl:i=i':=by omega
   obtain ⟨g1,_⟩:=K.rv i q tx e1 h3
   obtain ⟨hgt,g2,g3⟩:=rev_h g1 (tz tx (List.mem_of_getElem? h3))
   refine ⟨hgt,⟨g3,fun _=>⟨x,h4,by rw [h5.h,e2];exact g2⟩⟩,fun s' _ h=>?_⟩
   rw [h1] at h
   injection h with h;injection h with h
   rw [<-h,e2]
   exact g2
theorem now_h (I:ShI σ p n ts) (K:RnOk σ y n n ts hk) (tz:∀tx ∈ ts,tx.length<=120):∃h:Nat,p.now.h=(h:Int)/\h<=2:=by
 obtain ⟨r,tx,h1,h2,h3,h4,h5,h6⟩:=I.P.rv
 obtain ⟨g1,_⟩:=K.rv _ r tx h1 h2
 rw [h5]
 exact rev_h g1 (tz tx (List.mem_of_getElem? h2))
theorem Bz.clos (h:Bz σ p n ts cc sh f .clos):f=4/\cc=.acq:=by
 cases h with
 | a4 h1 h2=>exact ⟨rfl,h1⟩
 | rd t f pg x h1 h2 h3 h4=>cases h4
theorem Bz.le4 (h:Bz σ p n ts cc sh f pg) (hc:cc=.acq):f<=4:=by
 cases h with
 | rd t f pg x h1 h2 h3 h4=>exact absurd hc h1
 | _=>decide
end
theorem rev_root {N:Nat} {s:ByteArray} {x:Rt} {ns:List An} (h:RopeRes N s x 0 ns):RevOk ns ⟨0,x.a,x.h,x.b,x.r,x.l⟩ s.data.toList:=by
 rcases h with ⟨h0,rfl,_,rfl⟩ | ⟨h0,t,hb,hg,hbt,⟨_,rfl,_,hl,hy⟩ | ⟨_,_,h,_⟩⟩
 ·have e:s.data.toList=[]:=List.eq_nil_of_length_eq_zero (by rw [dsize];exact h0)
  rw [e]
  exact ⟨rfl,rfl,rfl,.inl ⟨rfl,rfl⟩⟩
 ·have ht:=build_text hb
  have hm:t.meas=mL s.data.toList:=by rw [meas_text,ht]
  refine ⟨?_,?_,?_,.inr ⟨t.cnt - 1,t,rfl,?_,ht,rfl,hg,s,hb⟩⟩
  ·show t.meas.b=_
   rw [hm]
  ·show t.meas.r=_
   rw [hm]
  ·show t.meas.l=_
   rw [hm]
  ·have:=rope_nt (ns:=[]) hl (fun j y hj=>hy j y hj) (post_len t 0)
   simpa using this
 ·cases h
theorem Mem.recastB {B B':Nat} {w0 w0' w:World} {L:List Res} (h:Mem B w0 L w) (hB:B'<=B) (hb:Below B' w0' w0) (L':List Res) (f:Nat->Nat) (hf:∀(i:Nat) (r':Res),L'[i]?=some r'->∃r,L[f i]?=some r/\(r.holds w->r'.holds w)/\∀k,r'.foot k->r.foot k)
  (hi:∀i j,i < L'.length->j < L'.length->f i=f j->i=j):Mem B' w0' L' w:=by
 have hb2:Below B' w0' w:=hb.trans ⟨h.bel.os,h.bel.tape,h.bel.output,h.bel.size,fun k hk=>h.bel.block k (by omega)⟩
 refine ⟨fun i r' hr=>?_,fun i j r' s' hr hs hne k hk hk'=>?_,fun i r' hr k hk=>?_,hb2,Nat.le_trans hB h.bz⟩
 ·obtain ⟨r,h1,h2,_⟩:=hf i r' hr
  exact h2 (h.each _ r h1)
 ·obtain ⟨r,h1,_,h3⟩:=hf i r' hr
  obtain ⟨s,g1,_,g3⟩:=hf j s' hs
  refine h.apart (f i) (f j) r s h1 g1 (fun e=>hne (hi i j (List.getElem?_eq_some_iff.1 hr).1 (List.getElem?_eq_some_iff.1 hs).1 e)) k (h3 k hk) (g3 k hk')
 ·obtain ⟨r,h1,_,h3⟩:=hf i r' hr
  exact Nat.le_trans hB (h.low _ r h1 k (h3 k hk))
def stoNew (N q cl n cN:Nat) (ge ba fe:Int) (s:ByteArray) (p ab qb eb rvb:Nat) (fv:Value):Array Value:=(stoCells [.int .i64 (N:Int),.int .u64 ge,.int .i64 (cl:Int),.int .i64 (n:Int),.int .i64 (q:Int),.int .i64 ba,.int .i64 fe,.string s,.int .i64 0,.int .i64 1,.int .i64 2,.int .i64 3,.int .i64 4,.int .i64 5,.int .i64 (5+(q:Int)),.int .i64 (5+(q:Int)+(cl:Int) * n),.int .i64 (5+(q:Int)+(cl:Int) * n+cl),.int .i64 (cN:Int)] (.pointer (some ⟨p,0,none⟩)) (.pointer (some ⟨ab,0,none⟩)) (.pointer (some ⟨qb,0,none⟩)) (.pointer (some ⟨eb,0,none⟩)) fv (.slice (some ⟨rvb,0,none⟩) 1 1) (List.replicate 8 OpV.zero) (List.replicate 8 (RsV.zero,.slice none 0 0))).toArray
def RS.new (g lb n:Nat) (cl:Int) (sb p cb:Nat) (cs:Array Value) (cN eb rN q pb rvb:Nat) (x:Rt) (A:ArA) (ns:List An):RS:=
 { g:=g,r:=Rd.new sb lb n cl,lb:=lb,sl:=List.replicate n none,cs:=cs,p:=p,cb:=cb,lv:=.slice none 0 0,s:=⟨List.replicate cN 0,[]⟩,eb:=eb,f:=⟨2,5+(q:Int),rN⟩,sc:=.pointer none,pb:=pb,ps:=List.replicate rN none,rv:=.slice (some ⟨rvb,0,none⟩) 1 1,rs:=[⟨⟨0,x.a,x.h,x.b,x.r,x.l⟩,.slice none 0 0,[],.slice none 0 0,[]⟩],A:=A,ns:=ns,st:=0,tx:=[] }
theorem rep_none {α:Type} {n k:Nat} {s:α} (h:(List.replicate n (none:Option α))[k]?=some (some s)):False:=by
 rw [List.getElem?_replicate] at h
 split at h
 ·injection h with h
  cases h
 ·cases h
theorem rep_map {α β:Type} (n:Nat) (f:Option α->Option β) (h:f none=none):(List.replicate n (none:Option α)).map f=List.replicate n none:=by
 rw [List.map_replicate,h]
theorem run_new {w0 w w1:World} {N q cl:Nat} {ge re ba fe:Int} {s:ByteArray} {e:Ending} (hS:SnwOut N q cl ge re ba fe s w e w1) (hroom:∀x ns,¬RopeRes N s x 6 ns) (hbel:Below w0.heap.size w0 w) {n c m:Nat} (hre:re=(n:Int)) (hn:n<=8) (hc:c < cl) (hcl:cl<=8) (hq:1<=q) (hq2:q<=64) (hfe:1<=fe) (hm:c * n=m) (hs:s.size<=65536) (hB:w0.heap.size<=w.heap.size) :
  ∃(sb p cb eb pb rvb rN cN:Nat) (x:Rt) (A:ArA) (ns:List An) (cs:Array Value) (y:Ly),e=.returned (.tuple #[.pointer (some ⟨sb,0,none⟩),.int .i64 0])/\Blk w1 sb 125 cs/\(∀(j:Nat) (v:Value),(Cf.arr ⟨N,ge,cl,re,q,ba,fe,s⟩)[j]?=some v->cs[j]?=some v)/\RopeRes N s x 0 ns/\A.n=N/\cl * n=rN/\y=⟨0,1,2,3,4,5,5+q,5+q+cl * re,5+q+cl * re+cl,cN⟩/\Below w0.heap.size w0 w1/\w0.heap.size<=w1.heap.size/\w0.heap.size<=sb/\
   ∀(w':World) (g lb:Nat),Blk w' g 111 (Rd.cells (Rd.new sb lb n c))->Blk w' lb 140 (pinsA (List.replicate n none))->Ch (fun _=>False) w1 w'->w1.heap.size<=lb->lb < g->
    Mem w0.heap.size w0 ((RS.new g lb n c sb p cb cs cN eb rN q pb rvb x A ns).L w0.heap.size++[boxR []]) w'/\RnOk (RS.new g lb n c sb p cb cs cN eb rN q pb rvb x A ns) y n m [s.data.toList] none/\PgAt (RS.new g lb n c sb p cb cs cN eb rN q pb rvb x A ns) [] n m [s.data.toList] (.fin RsV.zero):=by
 rcases hS with ⟨x,ns,hr,_⟩ | ⟨x,ns,sb,p,cb,A,qb,eb,pb,rvb,rN,cN,fv,fds,hr,P,he,hAn,hfl,hrN,hcN,_,hM⟩
 ·exact absurd hr (hroom x ns)
 subst hre
 have hbl:Below w0.heap.size w0 w1:=hbel.trans ⟨hM.bel.os,hM.bel.tape,hM.bel.output,hM.bel.size,fun k hk=>hM.bel.block k (by omega)⟩
 have hsz:w0.heap.size<=w1.heap.size:=Nat.le_trans hB hM.bel.size
 have hnn:(c+1) * n<=cl * n:=Nat.mul_le_mul_right _ hc
 have hrN':cl * n=rN:=by
  have:((cl * n:Nat):Int)=rN:=by push_cast;exact hrN
  omega
 have hmn:m+n<=rN:=by rw [<-hm,<-hrN'];rw [Nat.add_mul,Nat.one_mul] at hnn;exact hnn
 have hcl8:cl * n<=8 * 8:=Nat.mul_le_mul hcl hn
 have hBk:=hM.each 1 _ rfl
 have hvn:cN<=4096:=by have:=hBk.hn;rwa [List.length_replicate] at this
 have hclfe:(0:Int)<=cl * (4+fe):=Int.mul_nonneg (by omega) (by omega)
 refine ⟨sb,p,cb,eb,pb,rvb,rN,cN,x,A,ns,stoNew N q cl n cN ge ba fe s p A.ab qb eb rvb fv,⟨0,1,2,3,4,5,5+q,5+q+cl * n,5+q+cl * n+cl,cN⟩,he,hM.each 0 _ rfl,?_,hr,hAn,hrN',rfl,hbl,hsz,Nat.le_trans hB (hM.low 0 _ rfl sb rfl),fun w' g lb bg bl ch hl1 hl2=>⟨?_,?_,?_⟩⟩
 ·intro j v hj
  have hj8:j < 8:=by
   have:=(Array.getElem?_eq_some_iff.1 hj).1
   simpa [Cf.arr] using this
  have:j=0\/j=1\/j=2\/j=3\/j=4\/j=5\/j=6\/j=7:=by omega
  rcases this with rfl | rfl | rfl | rfl | rfl | rfl | rfl | rfl <;> exact hj
 ·have h7:=mem_drop hM
  have h9:=h7.addTwo (w':=w') ch (blkR lb 140 (pinsA (List.replicate n none))) (blkR g 111 (Rd.cells (Rd.new sb lb n c))) bl bg (fun k hk=>by rw [show k=lb from hk];exact hl1) (fun k hk=>by rw [show k=g from hk];omega) (fun k hk e=>by
   have e1:k=lb:=hk
   have e2:k=g:=e
   omega)
  have h11:=h9.addTwo (w':=w') (Ch.refl _ _) (rowR w0.heap.size 5 1 0 (.slice none 0 0) []) (boxR []) (World.ownsRow_nil _ _ _ _) (fun b hb=>by cases hb) (fun k hk=>by cases hk) (fun k hk=>by obtain ⟨b,hb,_⟩:=hk;cases hb) (fun k hk=>by cases hk)
  refine Mem.recastB h11 hB hbel _ (fun i=>[9,8,0,1,5,6,3,2,10,11].getD i 0) (fun i r' hi=>?_) (fun i j hi hj e=>?_)
  {
 match i,hi with
 | 0,hi=>injection hi with hi;subst hi;exact ⟨_,rfl,fun h=>h,fun _ h=>h⟩
 | 1,hi=>
  injection hi with hi
  subst hi
  exact ⟨_,rfl,fun h=>⟨by rw [show (RS.new g lb n c sb p cb (stoNew N q cl n cN ge ba fe s p A.ab qb eb rvb fv) cN eb rN q pb rvb x A ns).sl=List.replicate n none from rfl,rep_map n sptr rfl];exact h,fun k s hs=>(rep_none hs).elim,fun j k s t hs=>(rep_none hs).elim⟩,fun k hk=>by
   rcases hk with hk | ⟨j,s,hs,_⟩
   ·exact hk
   ·exact (rep_none hs).elim⟩
 | 2,hi=>injection hi with hi;subst hi;exact ⟨_,rfl,fun h=>h,fun _ h=>h⟩
 | 3,hi=>
  injection hi with hi
  subst hi
  exact ⟨_,rfl,fun h=>⟨h.hp,h.hc,own_mono h.hl hB,h.hv,h.hn,Nat.le_trans hB h.bp,Nat.le_trans hB h.bc⟩,fun _ h=>h⟩
 | 4,hi=>injection hi with hi;subst hi;exact ⟨_,rfl,fun h=>h,fun _ h=>h⟩
 | 5,hi=>
  injection hi with hi
  subst hi
  exact ⟨_,rfl,fun h=>⟨by rw [show (RS.new g lb n c sb p cb (stoNew N q cl n cN ge ba fe s p A.ab qb eb rvb fv) cN eb rN q pb rvb x A ns).ps=List.replicate rN none from rfl,rep_map rN (Option.map Prod.fst) rfl,<-pins_none];exact h,fun k s hs=>(rep_none hs).elim,fun j k s t hs=>(rep_none hs).elim⟩,fun k hk=>by
   rcases hk with hk | ⟨j,s,hs,_⟩
   ·exact hk
   ·exact (rep_none hs).elim⟩
 | 6,hi=>
  injection hi with hi
  subst hi
  exact ⟨_,rfl,fun h=>⟨own_mono h hB,fun r hr=>by
   rw [List.mem_singleton.1 hr]
   exact ⟨World.ownsRow_nil _ _ _ _,World.ownsRow_nil _ _ _ _⟩⟩,fun k hk=>by
   rcases hk with hk | ⟨r,hr,hk⟩
   ·exact hk
   ·rw [List.mem_singleton.1 hr] at hk
    rcases hk with hk | hk <;> cases hk⟩
 | 7,hi=>injection hi with hi;subst hi;exact ⟨_,rfl,fun h=>h,fun _ h=>h⟩
 | 8,hi=>injection hi with hi;subst hi;exact ⟨_,rfl,fun h=>h,fun _ h=>h⟩
 | 9,hi=>injection hi with hi;subst hi;exact ⟨_,rfl,fun h=>h,fun _ h=>h⟩
 | i+10,hi=>simp [RS.L] at hi
 }
  ·have h1:i < 10:=hi
   have h2:j < 10:=hj
   have key:∀a < 10,∀b < 10,[9,8,0,1,5,6,3,2,10,11].getD a 0=[9,8,0,1,5,6,3,2,10,11].getD b 0->a=b:=by decide
   exact key i h1 j h2 e
 ·have hslot:∀i,(Ed.mk 2 (5+(q:Int)) rN).slot i=5+q+i:=fun i=>by show (5+(q:Int)+(i:Int)).toNat=5+q+i;omega
  have hcN':5+q+rN < cN:=by omega
  have hstf:StF (stoNew N q cl n cN ge ba fe s p A.ab qb eb rvb fv) p A.ab eb ⟨0,1,2,3,4,5,5+q,5+q+cl * n,5+q+cl * n+cl,cN⟩:=⟨rfl,rfl,rfl,fun j v hj=>by
   have hj10:j < 10:=by
    have:=(Array.getElem?_eq_some_iff.1 hj).1
    simpa [Ly.arr] using this
   have:j=0\/j=1\/j=2\/j=3\/j=4\/j=5\/j=6\/j=7\/j=8\/j=9:=by omega
   rcases this with rfl | rfl | rfl | rfl | rfl | rfl | rfl | rfl | rfl | rfl <;> exact hj⟩
  have hO:(RS.new g lb n c sb p cb (stoNew N q cl n cN ge ba fe s p A.ab qb eb rvb fv) cN eb rN q pb rvb x A ns).Ok ⟨0,1,2,3,4,5,5+q,5+q+cl * n,5+q+cl * n+cl,cN⟩ n m:={
   sl:=rfl
   nl:=List.length_replicate
   n8:=hn
   cl:=⟨by show (0:Int)<=(c:Int);omega,by show (c:Int) < 16;omega⟩
   hm:=by show (c:Int) * (n:Int)=(m:Int);rw [<-hm];push_cast;rfl
   mn:=hmn
   pl:=List.length_replicate
   stf:=hstf
   h23:=rfl
   ed:=⟨by show 2 < (List.replicate cN (0:Int)).length;rw [List.length_replicate];omega,by show rN<=64;omega,fun i hi=>by
    have hi:i < rN:=hi
    show 0<=5+(q:Int)+i/\5+(q:Int)+i < ((List.replicate cN (0:Int)).length:Nat)
    rw [List.length_replicate]
    omega⟩
   y0:=rfl
   y1:=rfl
   vs:=by show 3<=(List.replicate cN (0:Int)).length/\(List.replicate cN (0:Int)).length<=4096;rw [List.length_replicate];omega
   lg:=by show 0 < 900000;decide
   f0:=⟨by show (2:Nat)≠0;decide,by show (2:Nat)≠1;decide⟩
   fs:=fun i hi=>by show 2 < (Ed.mk 2 (5+(q:Int)) rN).slot i;rw [hslot];omega }
  refine ⟨hO,P,rfl,by simp,fun tx htx=>?_,fun i r tx hi ht=>?_,⟨0,lk_rep _ _,by simp⟩,fun k s hs=>(rep_none hs).elim,fun k hk _=>.inl ⟨?_,?_,lk_rep _ _⟩,by show 0<=lk (List.replicate cN (0:Int)) 2/\lk (List.replicate cN (0:Int)) 2 < 1000000;rw [lk_rep];decide,fun i hi=>by show (Ed.mk 2 (5+(q:Int)) rN).slot i≠2;rw [hslot];omega⟩
  ·rw [List.mem_singleton.1 htx,dsize]
   omega
  ·match i,hi,ht with
   | 0,hi,ht=>
    injection hi with hi
    injection ht with ht
    subst hi ht
    exact ⟨rev_root hr,rfl,Nat.zero_le _,Nat.zero_le _⟩
   | i+1,hi,ht=>simp at ht
  ·exact List.getElem?_replicate_of_lt hk
  ·exact List.getElem?_replicate_of_lt (by omega)
 ·exact ⟨rfl,rfl,rfl⟩
theorem ck200 {s:ByteArray} {n:Nat} (hs:s.size<=60000) (hv:vdB (bs s)=true) (hn:n<=8):ckE ⟨200,1,2,(n:Int),1,1,1,s⟩=0:=by
 unfold ckE
 rw [if_neg (fun h'=>h' (by unfold Cf.nums;simp only;omega)),if_neg (by show ¬65536 < s.size;omega),if_neg (by show ¬vdB (bs s)=false;rw [hv];decide)]
theorem room200 {s:ByteArray} (hs:s.size<=120):∀x ns,¬RopeRes 200 s x 6 ns:=by
 rintro x ns (⟨_,_,h,_⟩ | ⟨_,t,hb,_,_,⟨_,_,h,_⟩ | ⟨hc,_⟩⟩)
 ·cases h
 ·cases h
 ·have:=build_cnt11 hb hs
  omega
theorem ns11 {s:ByteArray} {x:Rt} {ns:List An} (h:RopeRes 200 s x 0 ns) (hs:s.size<=120):ns.length<=11:=by
 rcases h with ⟨_,_,_,rfl⟩ | ⟨_,t,hb,_,_,⟨_,_,_,hl,_⟩ | ⟨_,_,h,_⟩⟩
 ·exact Nat.zero_le _
 ·rw [hl]
  exact build_cnt11 hb hs
 ·cases h
theorem madeX_list (z:Array Value) (n:Nat):madeX z n=((List.range n).map fun i=>z[i % z.size]!).toArray:=by
 unfold madeX madeCells
 apply Array.ext'
 simp
theorem made_hd (n:Nat) (hn:n<=4):madeX #[.bool false,.string ⟨#[]⟩,.slice none 0 0,.int .i64 0,.int .i64 0] (n * 5)=(hdCells (List.replicate n HdV.zero)).toArray:=by
 rw [madeX_list]
 have:n=0\/n=1\/n=2\/n=3\/n=4:=by omega
 rcases this with rfl | rfl | rfl | rfl | rfl <;> rfl
structure PlainP (σ:RS) (p:PlS) (y:Ly) (n:Nat) (s:ByteArray):Prop where
 K:RnOk σ y n n [s.data.toList] none
 G:PgAt σ [] n n [s.data.toList] (.fin RsV.zero)
 P:PlOk p σ n [s.data.toList]
 lg:σ.s.lg=[]
 an:σ.A.n=200
 nl:σ.ns.length<=11
 y0:y.l0=0/\y.l1=1/\y.l2=2/\y.l6=6
 f:σ.f=⟨2,6,2 * n⟩
 cl:σ.r.cl=1
 hs:p.hs=List.replicate n HdV.zero
 nm:p.now.ms=[]
 sl:σ.sl=List.replicate n none
 vs:∀i,lk σ.s.vs i=0
 st:σ.st=0
def PlainTo (w0:World) (n:Nat) (s:ByteArray) (e:Ending) (w':World):Prop:=
 ∃σ p y,e=.returned (.pointer (some ⟨p.g,0,none⟩))/\Mem w0.heap.size w0 (σ.L w0.heap.size++(boxR []::(p.L w0.heap.size σ.r.sb σ.g n++[]))) w'/\PlainP σ p y n s
theorem plain_any (w0:World) (s:ByteArray) (n:Nat) (hs:s.size<=120) (hv:vdB (bs s)=true) (hn:n<=4) (w:World) (hbel:Below w0.heap.size w0 w) (hB:w0.heap.size<=w.heap.size) :
  Calls Tryz.prog 11 #[.string s,.int .i64 (n:Int)] w (PlainTo w0 n s):=by
 have HCK:=hid (ck200 (s:=s) (n:=n) (by omega) hv (by omega))
 have HS:=hid hs
 have HBEL:=hid hbel
 have HBB:=hid hB
 have HN4:=hid hn
 have hmk:∀W:World,(Instr.makeSlice 46 (.int .i64 (n:Int)) (.int .i64 (n:Int))).run Tryz.prog W=.ok (.slice (some ⟨W.heap.size,0,none⟩) n n) (W.alloc (.cells (madeX (Value.cells (.agg #[.bool false,.string ⟨#[]⟩,.slice none 0 0,.int .i64 0,.int .i64 0])) (n * 5)) 49)):=fun W=>run_make_x (P:=Tryz.prog) 46 49 (.agg #[.bool false,.string ⟨#[]⟩,.slice none 0 0,.int .i64 0,.int .i64 0]) 5 64 Tryz.underlying46 (by kernel_rfl) (by decide) n (by omega) W
 clear hv hs hbel hB hn
 go_enter Tryz.func11,Tryz.ntmps11
 go_wp2_with fail
 refine (lconfig_any s n w).mono ?_
 rintro e w1 ⟨rfl,hc1⟩
 have HC1:=hid hc1
 clear hc1
 go_wp2_with fail
 refine (snew 200 1 2 1 (n:Int) 1 1 s HCK.out w1).mono ?_
 intro e w2 hsn
 have hb1:Below w0.heap.size w0 w1:=HBEL.out.trans (HC1.out.belowB HBB.out (fun _ _ h=>h.elim))
 obtain ⟨sb,p,cb,eb,pb,rvb,rN,cN,x,A,ns,cs,y,rfl,hblk,hcfg,hres,hAn,hrN,hy,hb2,hz2,hsb,hcont⟩:=run_new (c:=1) (m:=n) (n:=n) hsn (room200 HS.out) hb1 rfl (by have:=HN4.out;omega) (by decide) (by decide) (by decide) (by decide) (by decide) (by omega) (by have:=HS.out;omega) (Nat.le_trans HBB.out HC1.out.size)
 have HCONT:=hid hcont
 have HY:=hid hy
 have HAN:=hid hAn
 have HRN:=hid hrN
 have HRES:=hid hres
 have HBLK:=hid hblk
 have HCFG:=hid hcfg
 clear hsn hb1 hcont hy hAn hrN hres hblk hcfg hb2 hz2 hsb
 go_wp2_with fail
 refine (rnew_any sb n cs ⟨200,1,2,(n:Int),1,1,1,s⟩ 1 w2 HBLK.out HCFG.out ⟨by decide,by show (1:Int) < 2;decide⟩ rfl (by have:=HN4.out;omega)).mono ?_
 rintro e w3 ⟨g,lb,rfl,hg,hlb,hc3,hl1,hl2⟩
 obtain ⟨hM,hK,hG⟩:=HCONT.out w3 g lb hg hlb hc3 hl1 hl2
 obtain ⟨σ,hσ⟩:∃σ,σ=RS.new g lb n ((1:Nat):Int) sb p cb cs cN eb rN 1 pb rvb x A ns:=⟨_,rfl⟩
 rw [<-hσ] at hM hK hG
 have M3:=hid hM
 have KK:=hid hK
 have GG:=hid hG
 have f1:σ.r.sb=sb:=by rw [hσ];rfl
 have f2:σ.g=g:=by rw [hσ];rfl
 have F3:=hid (show σ.rs=[⟨⟨0,x.a,x.h,x.b,x.r,x.l⟩,.slice none 0 0,[],.slice none 0 0,[]⟩] from by rw [hσ];rfl)
 have F4:=hid (show σ.s.lg=[]/\σ.A.n=200/\σ.ns.length<=11/\σ.f=⟨2,6,2 * n⟩/\σ.r.cl=1/\σ.sl=List.replicate n none/\σ.st=0/\∀i,lk σ.s.vs i=0 from by
  refine ⟨by rw [hσ];rfl,by rw [hσ];exact HAN.out,by rw [hσ];exact ns11 HRES.out HS.out,by rw [hσ,HRN.out];rfl,by rw [hσ];rfl,by rw [hσ];rfl,by rw [hσ];rfl,fun i=>?_⟩
  rw [hσ]
  exact lk_rep _ _)
 subst f1
 subst f2
 clear hM hK hG hσ hg hlb hc3 hl1 hl2 HCONT
 go_wp2_with fail
 have hrs0:σ.rs[0]?=some ⟨⟨0,x.a,x.h,x.b,x.r,x.l⟩,.slice none 0 0,[],.slice none 0 0,[]⟩:=by rw [F3.out];rfl
 have hrev:=revision_m M3.out KK.out.O.h23 (ix:=0) hrs0 (by rw [F3.out];simp) (by simp) (by simp)
 have HREV:=hid hrev
 clear hrs0 hrev
 refine HREV.out.mono ?_
 rintro e w4 ⟨mv,dv,rfl,hmo,hdo,hc4⟩
 obtain ⟨Am,cm,rfl,_⟩:=own_slice hmo
 obtain ⟨Ad,cd,rfl,_⟩:=own_slice hdo
 have M4:=hid (M3.out.keep hc4)
 clear hmo hdo hc4
 simp only [rvA]
 go_wp2_with fail
 refine at_world fun W5 hW5=>?_
 have M5:=hid (show Mem w0.heap.size w0 (σ.L w0.heap.size++[boxR []]) W5 from by rw [hW5];exact M4.out.alloc _)
 obtain ⟨tb,htb⟩:∃z,z=w4.heap.size:=⟨_,rfl⟩
 have T5:=hid (show Blk W5 tb 104 #[.int .i64 0,.int .u64 x.a,.int .i64 x.h,.int .i64 x.b,.int .i64 x.r,.int .i64 x.l,.slice Am 0 cm,.slice Ad 0 cd] from by rw [hW5,htb];exact Blk.new w4 _ _)
 rw [<-htb]
 clear hW5 htb
 have v2:W5.cell? ⟨tb,2,none⟩=some (.int .i64 x.h):=T5.out.cell 2
 have lt5:=T5.out.lt
 obtain ⟨S,hS⟩:∃S:Nat->Prop,∀k,S k↔k=tb:=⟨_,fun _=>Iff.rfl⟩
 have hSp:Mix.Has S tb:=(hS _).2 rfl
 have HSS:=hid hS
 clear hS
 refine Mix.rg S [1,1,0,3,1,1,1,4,1,0,3,0] [0,1,2,4,5,6,7,8,3,9,10,11] ?_
 repeat ((first | refine Mix.zq ?_ | refine Mix.zp ?_ | refine Mix.zs ?_);go_big_quiet_step (fail);refine wpQuiet_nil ?_)
 refine Mix.za fun V1 hV1=>?_
 obtain ⟨k1,rfl⟩:=hV1
 have hn0:decide ((n:Int) < 0)=false:=decide_eq_false (by omega)
 go_wp2_with fail
 refine ⟨fun k hk=>Below.heap_alloc _ _ k (by rw [(HSS.out k).1 hk];exact lt5),?_⟩
 refine Mix.mix_world fun V2 hV2=>?_
 obtain ⟨hb,hhb⟩:∃z,z=W5.heap.size:=⟨_,rfl⟩
 have C2:=hid (show Ch (fun _=>False) W5 V2 from by rw [hV2];exact ((Ch.refl _ W5).drewN k1).alloc _)
 have H2:=hid (show Blk V2 hb 49 (hdCells (List.replicate n HdV.zero)).toArray from by rw [hV2,hhb,<-made_hd n HN4.out];exact Blk.new (W5.drewN k1) _ _)
 have hhb5:W5.heap.size<=hb:=Nat.le_of_eq hhb.symm
 have hhb2:hb < V2.heap.size:=H2.out.lt
 have e5:(W5.drewN k1).heap.size=W5.heap.size:=rfl
 try rw [e5]
 rw [<-hhb]
 clear hV2 hhb hmk hn0 e5 v2
 repeat ((first | refine Mix.zq ?_ | refine Mix.zp ?_ | refine Mix.zs ?_);go_big_quiet_step (fail);refine wpQuiet_nil ?_)
 refine Mix.za fun V3 hV3=>?_
 obtain ⟨k3,rfl⟩:=hV3
 go_wp2_with fail
 refine ⟨fun k hk=>Below.heap_alloc _ _ k (by rw [(HSS.out k).1 hk];exact Nat.lt_of_lt_of_le lt5 C2.out.size),?_⟩
 repeat ((first | refine Mix.zq ?_ | refine Mix.zp ?_ | refine Mix.zs ?_);go_big_quiet_step (fail);refine wpQuiet_nil ?_)
 intro k4
 refine at_world fun W6 hW6=>?_
 obtain ⟨pg,hpg⟩:∃z,z=V2.heap.size:=⟨_,rfl⟩
 have C6:=hid (show Ch (fun _=>False) W5 W6 from by rw [hW6];exact ((C2.out.drewN k3).alloc _).drewN k4)
 have P6:=hid (show Blk W6 pg 51 #[.pointer (some ⟨σ.r.sb,0,none⟩),.pointer (some ⟨σ.g,0,none⟩),.slice (some ⟨hb,0,none⟩) n n,.bool true,.string s,.slice none 0 0,.int .i64 x.h,.int .i64 0,.int .i64 0,.bool false] from by rw [hW6,hpg];exact Blk.new (V2.drewN k3) _ _)
 have H6:=hid (show Blk W6 hb 49 (hdCells (List.replicate n HdV.zero)).toArray from by rw [hW6];exact ((H2.out.drewN k3).alloc _).drewN k4)
 have hpg2:V2.heap.size<=pg:=Nat.le_of_eq hpg.symm
 have e6:(V2.drewN k3).heap.size=V2.heap.size:=rfl
 try rw [e6]
 rw [<-hpg]
 clear hW6 hpg e6
 go_wp2_with fail
 go_ret
 obtain ⟨g1,g2,g3,g4,g5,g6,g8,g7⟩:=F4.out
 refine ⟨σ,⟨pg,hb,⟨true,s,.slice none 0 0,[],x.h,0⟩,0,false,List.replicate n HdV.zero,[(.slice none 0 0,[])]⟩,y,rfl,?_,⟨KK.out,GG.out,⟨⟨rfl,rfl⟩,g7 1,by simp,⟨_,_,by rw [F3.out];rfl,rfl,rfl,rfl,rfl,rfl⟩,by simp,List.length_replicate,fun k z hz=>?_,?_⟩,g1,g2,g3,by rw [HY.out];exact ⟨rfl,rfl,rfl,rfl⟩,g4,g5,rfl,rfl,g6,g7,g8⟩⟩
 ·have:=M5.out.addThree (w':=W6) C6.out (blkR pg 51 #[.pointer (some ⟨σ.r.sb,0,none⟩),.pointer (some ⟨σ.g,0,none⟩),.slice (some ⟨hb,0,none⟩) n n,.bool true,.string s,.slice none 0 0,.int .i64 x.h,.int .i64 0,.int .i64 0,.bool false]) (blkR hb 49 (hdCells (List.replicate n HdV.zero)).toArray) (poolR w0.heap.size [(.slice none 0 0,[])]) P6.out H6.out (fun q hq=>by rw [List.mem_singleton.1 hq];exact World.ownsRow_nil _ _ _ _) (fun k hk=>by rw [show k=pg from hk];omega) (fun k hk=>by rw [show k=hb from hk];exact hhb5) (fun k hk=>by obtain ⟨q,hq,hk⟩:=hk;rw [List.mem_singleton.1 hq] at hk;cases hk) (fun k hk e=>by
   have e1:k=pg:=hk
   have e2:k=hb:=e
   omega) (fun k _ hk=>by obtain ⟨q,hq,hk⟩:=hk;rw [List.mem_singleton.1 hq] at hk;cases hk) (fun k _ hk=>by obtain ⟨q,hq,hk⟩:=hk;rw [List.mem_singleton.1 hq] at hk;cases hk)
  rw [List.append_assoc] at this
  exact this
 ·have hz:(List.replicate n HdV.zero)[k]?=some z:=hz
  rw [List.getElem?_replicate] at hz
  split at hz
  ·injection hz with hz
   rw [<-hz]
   exact List.mem_singleton.2 rfl
  ·cases hz
 ·rw [g7 0]
  rfl
theorem leaves_le {b:Nat} (h:b < 150):leavesN b<=20:=by
 unfold leavesN
 split
 ·omega
 ·split <;> omega
theorem run_max1 {P:Program} (tys:Array TypeId) (t:TypeId) (n:Nat) (w:World):(Builtin.max_ tys t #[.int .i64 1,.int .i64 (n:Int)]).run P w=.ok (.int .i64 ((max 1 n:Nat):Int)) w:=by
 simp only [Builtin.max_,List.foldlM_cons,List.foldlM_nil,Builtin.max2]
 simp
 split <;> omega
theorem bound_leaves (k sl pos:Int) (hk:k=7\/k=12) (h b:Nat) (hh:h<=20) (hb:b < 150) (w:World):Calls Tryz.prog 32 #[OpV.v ⟨k,sl,pos,(b:Int),0,0,⟨#[]⟩⟩,.int .i64 (h:Int)] w fun e w'=>e=.returned (.int .i64 (max 1 ((h+1) * leavesN b):Nat))/\Ch (fun _=>False) w w':=by
 have hl:=leaves_le hb
 obtain ⟨ln,hln⟩:∃z,z=leavesN b:=⟨_,rfl⟩
 have HL:=hid hln
 rw [<-hln] at hl |-
 clear hln
 obtain ⟨m,hm⟩:∃z,z=(h+1) * ln:=⟨_,rfl⟩
 have hm2:((h:Int)+1) * (ln:Int)=(m:Int):=by rw [hm];push_cast;rfl
 have hm3:m<=420:=by
  rw [hm]
  exact Nat.le_trans (Nat.mul_le_mul (show h+1<=21 by omega) hl) (by decide)
 rw [<-hm]
 have hmax:=fun W=>run_max1 (P:=Tryz.prog) #[3,3] 3 m W
 have HM:=hid hm
 clear hm
 rcases hk with rfl | rfl
 all_goals
  simp only [OpV.v]
  go_enter Tryz.func32,Tryz.ntmps32
  go_wp2_with fail
  refine calls_world fun W hW=>?_
  have C:=hid (show Ch (fun _=>False) w W from by rw [hW];exact (Ch.refl _ w).alloc _)
  clear hW
  refine (lleaves_any b (by omega) W).mono ?_
  rintro e w' ⟨rfl,rfl⟩
  rw [<-HL.out]
  go_wp2_with fail
  go_ret
  exact ⟨rfl,C.out⟩
theorem bound_any {c:Cop} {n:Nat} (hs:c.small n) (h:Nat) (hh:h<=20) (w:World):Calls Tryz.prog 32 #[c.op.v,.int .i64 (h:Int)] w fun e w'=>e=.returned (.int .i64 (bdN h c:Nat))/\Ch (fun _=>False) w w':=by
 cases c with
 | read k a b=>exact bound_leaves 7 k a (.inl rfl) h b hh hs.2.2 w
 | next k b=>exact bound_leaves 12 k 0 (.inr rfl) h b hh hs.2 w
 | _=>
  simp only [OpV.v,Cop.op,acqOp]
  go_enter Tryz.func32,Tryz.ntmps32
  go_wp2_with fail
  go_ret
  exact ⟨rfl,(Ch.refl _ w).alloc _⟩
theorem eqItem_same (k f t:Int) (w:World):Calls Tryz.prog 43 #[.agg #[.int .u8 k,.int .i64 f,.int .i64 t,.slice none 0 0],.agg #[.int .u8 k,.int .i64 f,.int .i64 t,.slice none 0 0]] w fun e w'=>e=.returned (.bool true)/\Ch (fun _=>False) w w':=by
 have b1:(k == k)=true:=beq_self_eq_true _
 have b2:(f == f)=true:=beq_self_eq_true _
 have b3:(t == t)=true:=beq_self_eq_true _
 go_enter Tryz.func43,Tryz.ntmps43
 go_wp2_with fail
 refine calls_world fun W hW=>?_
 have C:=hid (show Ch (fun _=>False) w W from by rw [hW];exact ((Ch.refl _ w).alloc _).alloc _)
 clear hW
 refine (eqPieces_any none none 0 0 0 [] W ⟨rfl,fun h=>absurd h (by decide)⟩ ⟨rfl,fun h=>absurd h (by decide)⟩ (by decide)).mono ?_
 rintro e w' ⟨rfl,k,rfl⟩
 go_wp2_with fail
 go_ret
 exact ⟨rfl,C.out.drewN k⟩
theorem eqResult_same (x:RsV) (w:World):Calls Tryz.prog 16 #[x.v,x.v] w fun e w'=>e=.returned (.bool true)/\Ch (fun _=>False) w w':=by
 have b1:(x.er == x.er)=true:=beq_self_eq_true _
 have b2:(x.rev == x.rev)=true:=beq_self_eq_true _
 have b3:(x.sl == x.sl)=true:=beq_self_eq_true _
 have b4:(x.at' == x.at')=true:=beq_self_eq_true _
 have b5:(x.g == x.g)=true:=beq_self_eq_true _
 have b6:(x.s.toList == x.s.toList)=true:=beq_self_eq_true _
 have b7:(x.b == x.b)=true:=beq_self_eq_true _
 have b8:(x.r == x.r)=true:=beq_self_eq_true _
 have b9:(x.l == x.l)=true:=beq_self_eq_true _
 simp only [RsV.v]
 go_enter Tryz.func16,Tryz.ntmps16
 go_wp2_with fail
 refine calls_world fun W hW=>?_
 have C:=hid (show Ch (fun _=>False) w W from by rw [hW];exact ((Ch.refl _ w).alloc _).alloc _)
 clear hW
 refine (eqItem_same x.ik x.fr x.to W).mono ?_
 rintro e w' ⟨rfl,c⟩
 go_wp2_with fail
 go_ret
 exact ⟨rfl,C.out.trans c (fun _ _ e=>e)⟩
end Go.Proofs.YtjcdknhejcbpiaaGreat
