/- Lemmas; no condition. -/
import Derived.Test.YtjcdknhejcbpiaaGreatSb35
set_option maxHeartbeats 1000000
namespace Go.Proofs.YtjcdknhejcbpiaaGreat
open Go.RowKit
set_option linter.unusedVariables false
set_option linter.unusedSimpArgs false
set_option linter.unusedSectionVars false
theorem lk_set_ne {l:List Int} {i j:Nat} (v:Int) (h:i≠j):lk (l.set i v) j=lk l j:=by
 unfold lk
 rw [List.getD_eq_getElem?_getD,List.getD_eq_getElem?_getD,List.getElem?_set,if_neg h]
theorem lk_set_eq {l:List Int} {i:Nat} (v:Int) (h:i < l.length):lk (l.set i v) i=v:=by
 unfold lk
 rw [List.getD_eq_getElem?_getD,List.getElem?_set,if_pos rfl,if_pos h]
 rfl
section
variable {B:Nat} {w0 w:World} {R:List Res} {σ σ':RS} {bs:List Bx} {y:Ly} {n m:Nat} {ts:List (List UInt8)} {hk hk':Option Nat}
theorem RnOk.of (K:RnOk σ y n m ts hk) (S:Same σ σ') (O':σ'.Ok y n m) (h1:lk σ'.s.vs 1=lk σ.s.vs 1) (h2:lk σ'.s.vs σ.f.ep=lk σ.s.vs σ.f.ep)
  (sn':∀(k:Nat) (s:Snp),σ'.sl[k]?=some (some s)->∃(i:Nat) (r:RvS),σ.rs[i]?=some r/\s.x=r.x/\s.ms=r.ms/\s.ix=(i:Int)/\0<=s.cu/\s.cu<=s.x.b)
  (pn':∀k,k < n->hk'≠some k->(σ'.sl[k]?=some none/\σ'.ps[m+k]?=some none/\lk σ'.s.vs (σ.f.slot (m+k))=0)\/(∃s g q,σ'.sl[k]?=some (some s)/\σ'.ps[m+k]?=some (some (g,q))/\q.ph=0/\lk σ'.s.vs (σ.f.slot (m+k))≠0)):RnOk σ' y n m ts hk' where
 O:=O'
 P:=by rw [S.ns];exact K.P
 nt:=by rw [S.rs];exact K.nt
 t8:=K.t8
 tl:=K.tl
 rv:=by rw [S.rs,S.ns];exact K.rv
 rt:=by rw [h1];exact K.rt
 sn:=by rw [S.rs];exact sn'
 pn:=by rw [S.f];exact pn'
 ep:=by rw [S.f,h2];exact K.ep
 en:=by rw [S.f];exact K.en
theorem RnOk.same (K:RnOk σ y n m ts hk) (S:Same σ σ') (O':σ'.Ok y n m) (h1:σ'.s.vs=σ.s.vs) (h2:σ'.sl=σ.sl) (h3:σ'.ps=σ.ps):RnOk σ' y n m ts hk:=
 K.of S O' (by rw [h1]) (by rw [h1]) (by rw [h2];exact K.sn) (by rw [h1,h2,h3];exact K.pn)
theorem RnOk.free (K:RnOk σ y n m ts none):∀k,k < n->(σ.sl[k]?=some none↔σ.ps[m+k]?=some none):=fun k hk=>by
 rcases K.pn k hk (fun e=>by cases e) with ⟨h1,h2,_⟩ | ⟨s,g,q,h1,h2,_⟩
 ·exact ⟨fun _=>h2,fun _=>h1⟩
 ·exact ⟨fun e=>by rw [h1] at e;(injection e with e;cases e),fun e=>by rw [h2] at e;(injection e with e;cases e)⟩
theorem slot_ne {f:Ed} {s:BS} (h:EdOk s f) {i j:Nat} (hi:i < f.n) (hj:j < f.n) (hne:i≠j):f.slot i≠f.slot j:=by
 have a:=h.s i hi
 have b:=h.s j hj
 unfold Ed.slot
 omega
theorem slot_ltR {f:Ed} {s:BS} (h:EdOk s f) {i:Nat} (hi:i < f.n):f.slot i < s.vs.length:=by
 have a:=h.s i hi
 unfold Ed.slot
 omega
def StP (σ:RS) (bs:List Bx) (y:Ly) (n m:Nat) (ts:List (List UInt8)) (pg:Pg) (hv:Int) (σ':RS):Prop:=Same σ σ'/\∃pg',RnOk σ' y n m ts pg'.hk/\PgAt σ' bs n m ts pg'/\Nxt σ σ' m hv pg' pg/\σ'.r.done=pg'.ended
theorem stp_of {pg:Pg} (M:Mem B w0 (σ.L B++(boxR bs::R)) w) (O:σ.Ok y n m) (hb:σ.r.busy=true) (F:FuncId) (hdv:σ.r.dv=.func (.func F) #[.pointer (some ⟨σ.g,0,none⟩)] #[]) (hin:∀W:World,(callFunc F #[.pointer (some ⟨σ.g,0,none⟩)]).run Tryz.prog W=.ok (.enter F #[.pointer (some ⟨σ.g,0,none⟩)]) W)
  (hdo:∀R W,Mem B w0 (σ.L B++R) W->Calls Tryz.prog F #[.pointer (some ⟨σ.g,0,none⟩)] W fun e w'=>∃hv σ',e=.returned (.int .u64 hv)/\Mem B w0 (σ'.L B++R) w'/\StP σ bs y n m ts pg hv σ') :
  Calls Tryz.prog 15 #[.pointer (some ⟨σ.g,0,none⟩)] w (StepTo B w0 R σ bs y n m ts pg):=by
 refine (step_m M O hb F hdv hin (StP σ bs y n m ts pg) (fun hv σ' ⟨S,pg',K',_⟩=>⟨S.g,S.sb,S.cl,S.cs,S.p,by rw [S.A],S.eb,by have:=K'.O.lg;omega⟩) hdo).mono ?_
 rintro e w' ⟨hv,σ',rfl,hM,S,pg',K',hp,hn,hd⟩
 exact ⟨hv,σ',pg',by rw [hd],hM,S,K',hp,hn⟩
theorem stpb_of {pg:Pg} (M:Mem B w0 (σ.L B++(boxR bs::R)) w) (O:σ.Ok y n m) (hb:σ.r.busy=true) (F:FuncId) (cs:Array Value) (hdv:σ.r.dv=.func (.func F) #[] cs) (hin:∀W:World,(callFunc F cs).run Tryz.prog W=.ok (.enter F cs) W)
  (hdo:∀R W,Mem B w0 (σ.L B++R) W->Ch (fun _=>False) w W->Calls Tryz.prog F cs W fun e w'=>∃hv σ',e=.returned (.int .u64 hv)/\Mem B w0 (σ'.L B++R) w'/\StP σ bs y n m ts pg hv σ') :
  Calls Tryz.prog 15 #[.pointer (some ⟨σ.g,0,none⟩)] w (StepTo B w0 R σ bs y n m ts pg):=by
 refine (step_b M O hb F cs hdv hin (StP σ bs y n m ts pg) (fun hv σ' ⟨S,pg',K',_⟩=>⟨S.g,S.sb,S.cl,S.cs,S.p,by rw [S.A],S.eb,by have:=K'.O.lg;omega⟩) hdo).mono ?_
 rintro e w' ⟨hv,σ',rfl,hM,S,pg',K',hp,hn,hd⟩
 exact ⟨hv,σ',pg',by rw [hd],hM,S,K',hp,hn⟩
theorem load_len (s:BS) (t c:Int):(s.load t c).lg.length=s.lg.length+1:=by simp [BS.load,BS.log]
theorem store_len (s:BS) (t c v:Int):(s.store t c v).lg.length=s.lg.length+1:=by simp [BS.store,BS.setlog]
theorem store_vs (s:BS) (t:Int) (c:Nat) (v:Int):(s.store t (c:Int) v).vs=s.vs.set c v:=rfl
theorem store_vlen (s:BS) (t:Int) (c:Nat) (v:Int):(s.store t (c:Int) v).vs.length=s.vs.length:=by rw [store_vs,List.length_set]
theorem m_box (M:Mem B w0 (σ.L B++(boxR bs::R)) w):∀b ∈ bs,Blk w b.g b.t b.cs:=M.each 9 _ rfl
theorem stp_loc {x:RsV} (M:Mem B w0 (σ.L B++(boxR bs::R)) w) (K:RnOk σ y n m ts none) (hp:PgAt σ bs n m ts (.loc x)) :
  Calls Tryz.prog 15 #[.pointer (some ⟨σ.g,0,none⟩)] w (StepTo B w0 R σ bs y n m ts (.loc x)):=by
 obtain ⟨hb,hd,hph,rb,xb,hdv,rfl⟩:=hp
 have b1:Blk w rb 45 #[.pointer (some ⟨σ.g,0,none⟩)]:=m_box M ⟨rb,_,_⟩ (.head _)
 have b2:Blk w xb 41 x.arr:=m_box M ⟨xb,_,_⟩ (.tail _ (.head _))
 refine stpb_of M K.O hb _ _ hdv (fun W=>by kernel_rfl) fun R' W M' c=>?_
 refine (rloc_run σ.g rb xb σ.r x W (m_rd M') (c.blk b1 id) (c.blk b2 id)).mono ?_
 intro e w' h
 have M2:=m_fin M' h rfl
 obtain ⟨rfl,_,_⟩:=h
 exact ⟨0,_,rfl,M2,⟨rfl,rfl,rfl,rfl,rfl,rfl,rfl,rfl,rfl,rfl,rfl,rfl,rfl,rfl,rfl,rfl⟩,.fin x,K.same ⟨rfl,rfl,rfl,rfl,rfl,rfl,rfl,rfl,rfl,rfl,rfl,rfl,rfl,rfl,rfl,rfl⟩ (K.O.rd (σ.r.fin x) [] rfl rfl) rfl rfl rfl,⟨rfl,rfl,rfl⟩,⟨rfl,rfl,rfl,rfl⟩,rfl⟩
theorem stp_clos (M:Mem B w0 (σ.L B++(boxR bs::R)) w) (K:RnOk σ y n m ts none) (hl:σ.s.lg.length < 800000) (hp:PgAt σ bs n m ts .clos) :
  Calls Tryz.prog 15 #[.pointer (some ⟨σ.g,0,none⟩)] w (StepTo B w0 R σ bs y n m ts .clos):=by
 obtain ⟨hb,hd,hph,hdv,hop⟩:=hp
 refine stp_of M K.O hb _ hdv (fun W=>by kernel_rfl) fun R' W M'=>?_
 refine (closed_m M' K.O K.free).mono ?_
 rintro e w' ⟨rfl,lv',h⟩
 have hll:(σ.s.load σ.r.cl 0).lg.length < 900000:=by rw [load_len];omega
 have O1:=K.O.bank (σ.s.load σ.r.cl 0) lv' rfl hll (K.O.ed.of rfl)
 rcases h with ⟨h0,M2⟩ | ⟨h0,h1,M2⟩ | ⟨h0,k,pg,h1,M2⟩
 ·exact ⟨0,_,rfl,M2,⟨rfl,rfl,rfl,rfl,rfl,rfl,rfl,rfl,rfl,rfl,rfl,rfl,rfl,rfl,rfl,rfl⟩,.fin { RsV.zero with er:=13 },K.same ⟨rfl,rfl,rfl,rfl,rfl,rfl,rfl,rfl,rfl,rfl,rfl,rfl,rfl,rfl,rfl,rfl⟩ (O1.rd _ [] rfl rfl) rfl rfl rfl,⟨rfl,rfl,rfl⟩,⟨rfl,rfl,rfl,.inl ⟨h0,rfl⟩⟩,rfl⟩
 ·exact ⟨0,_,rfl,M2,⟨rfl,rfl,rfl,rfl,rfl,rfl,rfl,rfl,rfl,rfl,rfl,rfl,rfl,rfl,rfl,rfl⟩,.fin { RsV.zero with er:=15 },K.same ⟨rfl,rfl,rfl,rfl,rfl,rfl,rfl,rfl,rfl,rfl,rfl,rfl,rfl,rfl,rfl,rfl⟩ (O1.rd _ [] rfl rfl) rfl rfl rfl,⟨rfl,rfl,rfl⟩,⟨rfl,rfl,rfl,.inr (.inl ⟨h0,h1,rfl⟩)⟩,rfl⟩
 ·have hsk:σ.sl[k]?=some none:=by
   rcases free1_spec (σ.sl.map sptr) 0 with h | ⟨i,h,hi⟩
   ·omega
   ·have:i=k:=by omega
    subst this
    exact sptr_none hi
  have hkn:k < n:=by rw [<-K.O.nl];exact (List.getElem?_eq_some_iff.1 hsk).1
  have hpl:m+k < σ.ps.length:=by rw [K.O.pl];have:=K.O.mn;omega
  have S:Same σ { σ with s:=σ.s.load σ.r.cl 0,lv:=lv',ps:=σ.ps.set (m+k) (some (pg,⟨σ.r.cl,m+k,0,9⟩)),r:={ σ.r with slot:=(k:Int),pin:=.pointer (some ⟨pg,0,none⟩),ph:=9,dv:=loadF σ.g } }:=⟨rfl,rfl,rfl,rfl,rfl,rfl,rfl,rfl,rfl,rfl,rfl,rfl,rfl,rfl,rfl,rfl⟩
  refine ⟨0,_,rfl,M2,S,.ep k,K.of S ((O1.pin (m+k) (some (pg,⟨σ.r.cl,m+k,0,9⟩))).rd _ σ.tx rfl rfl) rfl rfl K.sn (fun j hj hne=>?_),⟨hb,hd,rfl,rfl,hop,rfl,hkn,hsk,pg,_,rfl,List.getElem?_set_self hpl,rfl,rfl,rfl,fun h=>by cases h⟩,⟨rfl,rfl,rfl,.inr (.inr ⟨h0,k,h1,rfl⟩)⟩,hd⟩
  have hjk:j≠k:=fun e=>hne (by rw [e];rfl)
  have e1:(σ.ps.set (m+k) (some (pg,(⟨σ.r.cl,m+k,0,9⟩:Pn))))[m+j]?=σ.ps[m+j]?:=by rw [List.getElem?_set,if_neg (by omega)]
  show (σ.sl[j]?=some none/\(σ.ps.set (m+k) (some (pg,(⟨σ.r.cl,m+k,0,9⟩:Pn))))[m+j]?=some none/\_)\/∃s g q,σ.sl[j]?=some (some s)/\(σ.ps.set (m+k) (some (pg,(⟨σ.r.cl,m+k,0,9⟩:Pn))))[m+j]?=some (some (g,q))/\_
  rw [e1]
  exact K.pn j hj (fun e=>by cases e)
theorem stp_ep {k:Nat} (M:Mem B w0 (σ.L B++(boxR bs::R)) w) (K:RnOk σ y n m ts (some k)) (hl:σ.s.lg.length < 800000) (hp:PgAt σ bs n m ts (.ep k)) :
  Calls Tryz.prog 15 #[.pointer (some ⟨σ.g,0,none⟩)] w (StepTo B w0 R σ bs y n m ts (.ep k)):=by
 obtain ⟨hb,hd,hph,hdv,hop,hsl,hkn,hsk,g,q,hpin,hpk,hqt,hqs,hqp,_⟩:=hp
 refine stp_of M K.O hb _ hdv (fun W=>by kernel_rfl) fun R' W M'=>?_
 refine (load9_m M' K.O hpin hpk hqt hqp).mono ?_
 rintro e w' ⟨rfl,lv',M2⟩
 have hll:(σ.s.load σ.r.cl σ.f.ep).lg.length < 900000:=by rw [load_len];omega
 have O1:=K.O.bank (σ.s.load σ.r.cl σ.f.ep) lv' rfl hll (K.O.ed.of rfl)
 have hpl:m+k < σ.ps.length:=(List.getElem?_eq_some_iff.1 hpk).1
 have S:Same σ { σ with s:=σ.s.load σ.r.cl σ.f.ep,lv:=lv',ps:=σ.ps.set (m+k) (some (g,{ q with seen:=lk σ.s.vs σ.f.ep,ph:=10 })),r:={ σ.r with ph:=10,dv:=loadF σ.g } }:=⟨rfl,rfl,rfl,rfl,rfl,rfl,rfl,rfl,rfl,rfl,rfl,rfl,rfl,rfl,rfl,rfl⟩
 refine ⟨0,_,rfl,M2,S,.ann k (lk σ.s.vs σ.f.ep),K.of S ((O1.pin (m+k) (some (g,{ q with seen:=lk σ.s.vs σ.f.ep,ph:=10 }))).rd _ σ.tx rfl rfl) rfl rfl K.sn (fun j hj hne=>?_),⟨hb,hd,rfl,rfl,⟨hop,hsl,hkn,hsk,g,_,hpin,List.getElem?_set_self hpl,hqt,hqs,rfl,fun _=>rfl⟩,K.ep⟩,⟨rfl,rfl,rfl,rfl⟩,hd⟩
 have hjk:j≠k:=fun e=>hne (by rw [e];rfl)
 have e1:(σ.ps.set (m+k) (some (g,({ q with seen:=lk σ.s.vs σ.f.ep,ph:=10 }:Pn))))[m+j]?=σ.ps[m+j]?:=by rw [List.getElem?_set,if_neg (by omega)]
 show (σ.sl[j]?=some none/\(σ.ps.set (m+k) (some (g,({ q with seen:=lk σ.s.vs σ.f.ep,ph:=10 }:Pn))))[m+j]?=some none/\_)\/∃s g' q',σ.sl[j]?=some (some s)/\(σ.ps.set (m+k) (some (g,({ q with seen:=lk σ.s.vs σ.f.ep,ph:=10 }:Pn))))[m+j]?=some (some (g',q'))/\_
 rw [e1]
 exact K.pn j hj (fun e=>hjk (by injection e with e;exact e.symm))
theorem stp_ann {k:Nat} {v:Int} (M:Mem B w0 (σ.L B++(boxR bs::R)) w) (K:RnOk σ y n m ts (some k)) (hl:σ.s.lg.length < 800000) (hp:PgAt σ bs n m ts (.ann k v)) :
  Calls Tryz.prog 15 #[.pointer (some ⟨σ.g,0,none⟩)] w (StepTo B w0 R σ bs y n m ts (.ann k v)):=by
 obtain ⟨hb,hd,hph,hdv,⟨hop,hsl,hkn,hsk,g,q,hpin,hpk,hqt,hqs,hqp,hqe⟩,hv0,hv1⟩:=hp
 obtain ⟨qt,qs,qe,qp⟩:=q
 simp only at hqt hqs hqp
 have hqv:v=qe:=(hqe rfl).symm
 clear hqe
 subst hqt
 subst hqs
 subst hqp
 subst hqv
 refine stp_of M K.O hb _ hdv (fun W=>by kernel_rfl) fun R' W M'=>?_
 have hmk:m+k < σ.f.n:=by have:=K.O.mn;omega
 refine (load10_m M' K.O hpin hpk rfl rfl hmk).mono ?_
 rintro e w' ⟨rfl,lv',M2⟩
 have hw:w64 (v+1)=v+1:=by unfold w64;omega
 simp only [hw] at M2
 have hll:(σ.s.store σ.r.cl (σ.f.slot (m+k):Nat) (v+1)).lg.length < 900000:=by rw [store_len];omega
 have O1:=K.O.bank (σ.s.store σ.r.cl (σ.f.slot (m+k):Nat) (v+1)) lv' (store_vlen _ _ _ _) hll (K.O.ed.of (store_vlen _ _ _ _))
 have hpl:m+k < σ.ps.length:=(List.getElem?_eq_some_iff.1 hpk).1
 have hfs:=K.O.fs (m+k) hmk
 have S:Same σ { σ with s:=σ.s.store σ.r.cl (σ.f.slot (m+k):Nat) (v+1),lv:=lv',ps:=σ.ps.set (m+k) (some (g,⟨σ.r.cl,m+k,v,0⟩)),r:={ σ.r with ph:=11,dv:=rootF σ.g } }:=⟨rfl,rfl,rfl,rfl,rfl,rfl,rfl,rfl,rfl,rfl,rfl,rfl,rfl,rfl,rfl,rfl⟩
 refine ⟨0,_,rfl,M2,S,.root k,K.of S ((O1.pin (m+k) (some (g,⟨σ.r.cl,m+k,v,0⟩))).rd _ σ.tx rfl rfl) ?_ ?_ K.sn (fun j hj hne=>?_),⟨hb,hd,rfl,rfl,⟨hop,hsl,hkn,hsk,g,_,hpin,List.getElem?_set_self hpl,rfl,rfl,rfl,fun h=>by cases h⟩,?_⟩,⟨rfl,rfl,rfl,rfl⟩,hd⟩
 ·show lk (σ.s.store σ.r.cl (σ.f.slot (m+k):Nat) (v+1)).vs 1=_
  rw [store_vs,lk_set_ne _ (by omega)]
 ·show lk (σ.s.store σ.r.cl (σ.f.slot (m+k):Nat) (v+1)).vs σ.f.ep=_
  rw [store_vs,lk_set_ne _ (K.en _ hmk)]
 ·have hjk:j≠k:=fun e=>hne (by rw [e];rfl)
  have e1:(σ.ps.set (m+k) (some (g,(⟨σ.r.cl,m+k,v,0⟩:Pn))))[m+j]?=σ.ps[m+j]?:=by rw [List.getElem?_set,if_neg (by omega)]
  have e2:lk (σ.s.store σ.r.cl (σ.f.slot (m+k):Nat) (v+1)).vs (σ.f.slot (m+j))=lk σ.s.vs (σ.f.slot (m+j)):=by
   rw [store_vs,lk_set_ne _ (slot_ne K.O.ed hmk (by have:=K.O.mn;omega) (by omega))]
  show (σ.sl[j]?=some none/\(σ.ps.set (m+k) (some (g,(⟨σ.r.cl,m+k,v,0⟩:Pn))))[m+j]?=some none/\lk (σ.s.store σ.r.cl (σ.f.slot (m+k):Nat) (v+1)).vs (σ.f.slot (m+j))=0)\/∃s g' q',σ.sl[j]?=some (some s)/\(σ.ps.set (m+k) (some (g,(⟨σ.r.cl,m+k,v,0⟩:Pn))))[m+j]?=some (some (g',q'))/\q'.ph=0/\lk (σ.s.store σ.r.cl (σ.f.slot (m+k):Nat) (v+1)).vs (σ.f.slot (m+j))≠0
  rw [e1,e2]
  exact K.pn j hj (fun e=>hjk (by injection e with e;exact e.symm))
 ·show lk (σ.s.store σ.r.cl (σ.f.slot (m+k):Nat) (v+1)).vs (σ.f.slot (m+k))≠0
  rw [store_vs,lk_set_eq _ (slot_ltR K.O.ed hmk)]
  omega
theorem stp_root {k:Nat} (M:Mem B w0 (σ.L B++(boxR bs::R)) w) (K:RnOk σ y n m ts (some k)) (hl:σ.s.lg.length < 800000) (hp:PgAt σ bs n m ts (.root k)) :
  Calls Tryz.prog 15 #[.pointer (some ⟨σ.g,0,none⟩)] w (StepTo B w0 R σ bs y n m ts (.root k)):=by
 obtain ⟨hb,hd,hph,hdv,⟨hop,hsl,hkn,hsk,g,q,hpin,hpk,hqt,hqs,hqp,_⟩,hnz⟩:=hp
 refine stp_of M K.O hb _ hdv (fun W=>by kernel_rfl) fun R' W M'=>?_
 obtain ⟨i,hi,hit⟩:=K.rt
 have hir:i < σ.rs.length:=by rw [<-K.nt];exact hit
 obtain ⟨r,hr⟩:∃r,σ.rs[i]?=some r:=⟨_,List.getElem?_eq_getElem hir⟩
 obtain ⟨tx,htx⟩:∃tx,ts[i]?=some tx:=⟨_,List.getElem?_eq_getElem hit⟩
 obtain ⟨hro,hrn,hr1,hr2⟩:=K.rv i r tx hr htx
 refine (root_m M' K.O hsl hkn hsk hi hr (by rw [<-K.nt];have:=K.t8;omega) (by omega) (by omega)).mono ?_
 rintro e w' ⟨rfl,lv',s,h1,h2,h3,h4,h5,M2⟩
 have hll:(σ.s.load σ.r.cl 1).lg.length < 900000:=by rw [load_len];omega
 have O1:=K.O.bank (σ.s.load σ.r.cl 1) lv' rfl hll (K.O.ed.of rfl)
 have hkl:k < σ.sl.length:=(List.getElem?_eq_some_iff.1 hsk).1
 have S:Same σ { σ with s:=σ.s.load σ.r.cl 1,lv:=lv',sl:=σ.sl.set k (some s),r:=σ.r.fin { RsV.zero with sl:=(k:Int),rev:=r.x.num },tx:=[] }:=⟨rfl,rfl,rfl,rfl,rfl,rfl,rfl,rfl,rfl,rfl,rfl,rfl,rfl,rfl,rfl,rfl⟩
 refine ⟨0,_,rfl,M2,S,.fin { RsV.zero with sl:=(k:Int),rev:=r.x.num },K.of S ((O1.slot k (some s)).rd _ [] rfl rfl) rfl rfl (fun j t hj=>?_) (fun j hj hne=>?_),⟨rfl,rfl,rfl⟩,⟨rfl,rfl,i,r,s,hi,hr,h1,h2,h4,h5,rfl,rfl⟩,rfl⟩
 ·rcases sset hj with ⟨_,e⟩ | ⟨_,hj⟩
  ·injection e with e
   subst e
   exact ⟨i,r,hr,h1,h2,h4,by rw [h5];exact Int.le_refl _,by rw [h5,h1,hro.1];exact Int.natCast_nonneg _⟩
  ·exact K.sn j t hj
 ·by_cases hjk:j=k
  ·subst hjk
   exact .inr ⟨s,g,q,List.getElem?_set_self hkl,hpk,hqp,hnz⟩
  ·have e1:(σ.sl.set k (some s))[j]?=σ.sl[j]?:=by rw [List.getElem?_set,if_neg (fun e=>hjk e.symm)]
   show ((σ.sl.set k (some s))[j]?=some none/\_/\_)\/∃s' g' q',(σ.sl.set k (some s))[j]?=some (some s')/\_/\_/\_
   rw [e1]
   exact K.pn j hj (fun e=>hjk (by injection e with e;exact e.symm))
theorem stp_rel {k:Nat} (M:Mem B w0 (σ.L B++(boxR bs::R)) w) (K:RnOk σ y n m ts none) (hl:σ.s.lg.length < 800000) (hp:PgAt σ bs n m ts (.rel k)) :
  Calls Tryz.prog 15 #[.pointer (some ⟨σ.g,0,none⟩)] w (StepTo B w0 R σ bs y n m ts (.rel k)):=by
 obtain ⟨hb,hd,hph,hdv,hop,hkn,s,hsk⟩:=hp
 refine stp_of M K.O hb _ hdv (fun W=>by kernel_rfl) fun R' W M'=>?_
 have hmk:m+k < σ.f.n:=by have:=K.O.mn;omega
 rcases K.pn k hkn (fun e=>by cases e) with ⟨h1,_,_⟩ | ⟨s',g,q,_,hpk,hqp,_⟩
 ·rw [hsk] at h1
  injection h1 with h1
  cases h1
 refine (release_m M' K.O hop hkn hsk hpk hqp).mono ?_
 rintro e w' ⟨rfl,lv',M2⟩
 have hll:(σ.s.store σ.r.cl (σ.f.slot (m+k):Nat) 0).lg.length < 900000:=by rw [store_len];omega
 have O1:=K.O.bank (σ.s.store σ.r.cl (σ.f.slot (m+k):Nat) 0) lv' (store_vlen _ _ _ _) hll (K.O.ed.of (store_vlen _ _ _ _))
 have hpl:m+k < σ.ps.length:=(List.getElem?_eq_some_iff.1 hpk).1
 have hkl:k < σ.sl.length:=(List.getElem?_eq_some_iff.1 hsk).1
 have hfs:=K.O.fs (m+k) hmk
 have S:Same σ { σ with s:=σ.s.store σ.r.cl (σ.f.slot (m+k):Nat) 0,lv:=lv',ps:=σ.ps.set (m+k) none,sl:=σ.sl.set k none,r:=σ.r.fin RsV.zero,tx:=[] }:=⟨rfl,rfl,rfl,rfl,rfl,rfl,rfl,rfl,rfl,rfl,rfl,rfl,rfl,rfl,rfl,rfl⟩
 refine ⟨0,_,rfl,M2,S,.fin RsV.zero,K.of S (((O1.pin (m+k) none).slot k none).rd _ [] rfl rfl) ?_ ?_ (fun j t hj=>?_) (fun j hj hne=>?_),⟨rfl,rfl,rfl⟩,⟨rfl,rfl,rfl,rfl⟩,rfl⟩
 ·show lk (σ.s.store σ.r.cl (σ.f.slot (m+k):Nat) 0).vs 1=_
  rw [store_vs,lk_set_ne _ (by omega)]
 ·show lk (σ.s.store σ.r.cl (σ.f.slot (m+k):Nat) 0).vs σ.f.ep=_
  rw [store_vs,lk_set_ne _ (K.en _ hmk)]
 ·rcases sset hj with ⟨_,e⟩ | ⟨_,hj⟩
  ·cases e
  ·exact K.sn j t hj
 ·by_cases hjk:j=k
  ·subst hjk
   refine .inl ⟨List.getElem?_set_self hkl,List.getElem?_set_self hpl,?_⟩
   show lk (σ.s.store σ.r.cl (σ.f.slot (m+j):Nat) 0).vs (σ.f.slot (m+j))=0
   rw [store_vs,lk_set_eq _ (slot_ltR K.O.ed hmk)]
  ·have e1:(σ.sl.set k none)[j]?=σ.sl[j]?:=by rw [List.getElem?_set,if_neg (fun e=>hjk e.symm)]
   have e2:(σ.ps.set (m+k) none)[m+j]?=σ.ps[m+j]?:=by rw [List.getElem?_set,if_neg (by omega)]
   have e3:lk (σ.s.store σ.r.cl (σ.f.slot (m+k):Nat) 0).vs (σ.f.slot (m+j))=lk σ.s.vs (σ.f.slot (m+j)):=by
    rw [store_vs,lk_set_ne _ (slot_ne K.O.ed hmk (by have:=K.O.mn;omega) (by omega))]
   show ((σ.sl.set k none)[j]?=some none/\(σ.ps.set (m+k) none)[m+j]?=some none/\lk (σ.s.store σ.r.cl (σ.f.slot (m+k):Nat) 0).vs (σ.f.slot (m+j))=0)\/∃s' g' q',(σ.sl.set k none)[j]?=some (some s')/\(σ.ps.set (m+k) none)[m+j]?=some (some (g',q'))/\q'.ph=0/\lk (σ.s.store σ.r.cl (σ.f.slot (m+k):Nat) 0).vs (σ.f.slot (m+j))≠0
   rw [e1,e2,e3]
   exact K.pn j hj (fun e=>by cases e)
end
end Go.Proofs.YtjcdknhejcbpiaaGreat
