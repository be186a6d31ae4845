/- Lemmas; no condition. -/
import Derived.Test.YtjcdknhejcbpiaaGreatSb36
set_option maxHeartbeats 2000000
namespace Go.Proofs.YtjcdknhejcbpiaaGreat
open Go.RowKit
set_option linter.unusedVariables false
set_option linter.unusedSimpArgs false
set_option linter.unusedSectionVars false
def errP (e:Int):Pg:=.loc { RsV.zero with er:=e }
def RunP (s:Snp) (tx:List UInt8) (pg:Pg):Cop->Prop
 | .acq=>False
 | .len k=>pg=.loc { RsV.zero with b:=(mL tx).b,r:=(mL tx).r,l:=(mL tx).l }
 | .read k a b=>(tx.length < a+b/\pg=errP 3)\/(a+b<=tx.length/\b=0/\pg=.take k false a)\/(a+b<=tx.length/\0 < b/\∃jx,s.x.at'=hdl jx/\pg=.byte k false tx a b 0 jx a ⟨0,0,0⟩)
 | .rune k b=>(cntP begB (u8s tx) < b/\pg=errP 3)\/(b=cntP begB (u8s tx)/\pg=.loc { RsV.zero with at':=(tx.length:Int) })\/(b < cntP begB (u8s tx)/\∃jx,s.x.at'=hdl jx/\pg=.rune k tx b jx b ⟨0,0,0⟩)
 | .line k b=>(cntP isLF (u8s tx) < b/\pg=errP 3)\/(b=0/\pg=.loc RsV.zero)\/(b<=cntP isLF (u8s tx)/\0 < b/\∃jx,s.x.at'=hdl jx/\pg=.line k tx (b - 1) jx b ⟨0,0,0⟩)
 | .mark k i=>((∀x ∈ s.ms,x.id≠i)/\pg=errP 7)\/∃x ∈ s.ms,x.id=i/\pg=.loc { RsV.zero with at':=x.at',g:=x.g }
 | .seek k a=>(tx.length < a/\pg=errP 3)\/(a<=tx.length/\pg=.seek k a)
 | .next k b=>∃c:Nat,s.cu=(c:Int)/\((min b (tx.length - c)=0/\pg=.take k true c)\/(0 < min b (tx.length - c)/\∃jx,s.x.at'=hdl jx/\pg=.byte k true tx c (min b (tx.length - c)) 0 jx c ⟨0,0,0⟩))
 | .rel k=>pg=.rel k
def StartP (σ:RS) (ts:List (List UInt8)) (c:Cop) (pg:Pg):Prop:=
 (c=.acq/\pg=.clos)\/(c≠.acq/\((σ.sl[c.slot]?=some none/\pg=errP 16)\/∃s i tx,σ.sl[c.slot]?=some (some s)/\s.ix=((i:Nat):Int)/\ts[i]?=some tx/\RunP s tx pg c))
def BegP (σ:RS) (y:Ly) (n m:Nat) (ts:List (List UInt8)) (c:Cop) (σ':RS) (bs':List Bx):Prop:=
 Same σ σ'/\σ'.s=σ.s/\σ'.sl=σ.sl/\σ'.ps=σ.ps/\σ'.r.op=c.op/\RnOk σ' y n m ts none/\∃pg,PgAt σ' bs' n m ts pg/\pg.hk=none/\pg.ended=false/\StartP σ ts c pg
def BegTo (B:Nat) (w0:World) (R:List Res) (σ:RS) (y:Ly) (n m:Nat) (ts:List (List UInt8)) (c:Cop) (e:Ending) (w':World):Prop:=
 e=.returned (.int .i64 0)/\∃σ' bs',Mem B w0 (σ'.L B++(boxR bs'::R)) w'/\BegP σ y n m ts c σ' bs'
def RS.beg (σ:RS) (op:OpV):RS:={ σ with r:={ σ.r with op:=op,busy:=true,done:=false } }
section
variable {B:Nat} {w0 w:World} {R:List Res} {σ σ':RS} {bs':List Bx} {y:Ly} {n m:Nat} {ts:List (List UInt8)}
theorem m_rdz (M:Mem B w0 (σ.L B++R) w) {w':World} {r':Rd} {v:Value} {e:Ending} (h:RdSet σ.g r' w v e w') (hs:r'.sb=σ.r.sb) (ht:r'.tx=.slice none 0 0):Mem B w0 (RS.L B { σ with r:=r',tx:=[] }++R) w':=by
 have t:=M.upd (i:=0) (blkR σ.g 111 r'.cells) rfl h.2.2 (fun _ _ e=>e) h.2.1 (fun _ e=>.inl e)
 have u:=t.upd (i:=8) (rowR B 5 1 0 (.slice none 0 0) []) rfl (Ch.refl (fun _=>False) w') (fun _ _ e=>e.elim) (World.ownsRow_nil _ _ _ _) (fun k e=>by cases e)
 have e:RS.L B { σ with r:=r',tx:=[] }++R=((σ.L B++R).set 0 (blkR σ.g 111 r'.cells)).set 8 (rowR B 5 1 0 (.slice none 0 0) []):=by
  simp only [RS.L,hs,ht];rfl
 rw [e]
 exact u
theorem m_setbox (M:Mem B w0 (σ.L B++(boxR bs'::R)) w) {w':World} {r':Rd} {v:Value} {e:Ending} (h:RdSet σ.g r' w v e w') (hs:r'.sb=σ.r.sb) (ht:r'.tx=σ.r.tx) (bs2:List Bx) (hb:∀b ∈ bs2,Blk w' b.g b.t b.cs) (hn:∀b ∈ bs2,w.heap.size<=b.g):Mem B w0 (RS.L B { σ with r:=r' }++(boxR bs2::R)) w':=by
 have t:=M.upd2 (i:=9) (j:=0) (boxR bs2) (blkR σ.g 111 r'.cells) rfl rfl (by decide) h.2.2 (fun _ _ e=>.inr e) hb h.2.1 (fun k hk=>by
  obtain ⟨b,hb',rfl⟩:=hk
  exact .inr (hn b hb')) (fun _ e=>e)
 have e:RS.L B { σ with r:=r' }++(boxR bs2::R)=((σ.L B++(boxR bs'::R)).set 9 (boxR bs2)).set 0 (blkR σ.g 111 r'.cells):=by
  simp only [RS.L,hs,ht];rfl
 rw [e]
 exact t
theorem begin_of (M:Mem B w0 (σ.L B++(boxR bs'::R)) w) (K:RnOk σ y n m ts none) (hb:σ.r.busy=false) (c:Cop)
  (hst:∀W,Mem B w0 (RS.L B (σ.beg c.op)++(boxR bs'::R)) W->RnOk (σ.beg c.op) y n m ts none->Calls Tryz.prog 38 #[.pointer (some ⟨σ.g,0,none⟩)] W fun e w'=>e=.returned (.tuple #[])/\∃σ' bs',Mem B w0 (σ'.L B++(boxR bs'::R)) w'/\BegP σ y n m ts c σ' bs') :
  Calls Tryz.prog 13 #[.pointer (some ⟨σ.g,0,none⟩),c.op.v] w (BegTo B w0 R σ y n m ts c):=by
 refine (rbegin_any σ.g σ.r c.op w (m_rd M) hb (by cases c <;> simp [Cop.op,acqOp]) (by cases c <;> simp [Cop.op,acqOp]) (fun W w'=>∃σ' bs',Mem B w0 (σ'.L B++(boxR bs'::R)) w'/\BegP σ y n m ts c σ' bs') fun W hW cW=>?_).mono ?_
 ·have M1:Mem B w0 (RS.L B (σ.beg c.op)++(boxR bs'::R)) W:=m_set M (v:=.tuple #[]) (e:=.returned (.tuple #[])) ⟨rfl,hW,cW⟩ rfl rfl
  exact hst W M1 (K.same ⟨rfl,rfl,rfl,rfl,rfl,rfl,rfl,rfl,rfl,rfl,rfl,rfl,rfl,rfl,rfl,rfl⟩ (K.O.rd _ σ.tx rfl rfl) rfl rfl rfl)
 ·rintro e w' ⟨rfl,W,_,h⟩
  exact ⟨rfl,h⟩
theorem begin_err (M:Mem B w0 (σ.L B++(boxR bs'::R)) w) (K:RnOk σ y n m ts none) (hb:σ.r.busy=false) (c:Cop) (er:Int) (he:er≠0) (hs:StartP σ ts c (errP er))
  (hck:∀W,Mem B w0 (RS.L B (σ.beg c.op)++(boxR bs'::R)) W->Calls Tryz.prog 61 #[.pointer (some ⟨σ.g,0,none⟩),c.op.v] W fun e w'=>e=.returned (.int .i64 er)/\Ch (fun _=>False) W w') :
  Calls Tryz.prog 13 #[.pointer (some ⟨σ.g,0,none⟩),c.op.v] w (BegTo B w0 R σ y n m ts c):=by
 refine begin_of M K hb c fun W M1 K1=>?_
 refine (start_bad σ.g (σ.beg c.op).r er W (m_rd M1) he fun W' cW=>hck W' (M1.keep cW)).mono ?_
 rintro e w' ⟨rb,xb,hset,b1,b2,h1,h2⟩
 have M2:=m_setbox M1 hset rfl rfl [⟨rb,45,#[.pointer (some ⟨σ.g,0,none⟩)]⟩,⟨xb,41,RsV.arr { RsV.zero with er:=er }⟩] (fun b hb=>by
  simp at hb
  rcases hb with rfl | rfl
  ·exact b1
  ·exact b2) (fun b hb=>by
  simp at hb
  rcases hb with rfl | rfl
  ·exact h1
  ·exact Nat.le_trans h1 (Nat.le_of_lt h2))
 obtain ⟨rfl,_,_⟩:=hset
 exact ⟨rfl,_,_,M2,⟨rfl,rfl,rfl,rfl,rfl,rfl,rfl,rfl,rfl,rfl,rfl,rfl,rfl,rfl,rfl,rfl⟩,rfl,rfl,rfl,rfl,K1.same ⟨rfl,rfl,rfl,rfl,rfl,rfl,rfl,rfl,rfl,rfl,rfl,rfl,rfl,rfl,rfl,rfl⟩ (K1.O.rd _ σ.tx rfl rfl) rfl rfl rfl,errP er,⟨rfl,rfl,rfl,rb,xb,rfl,rfl⟩,rfl,rfl,hs⟩
theorem begin_loc (M:Mem B w0 (σ.L B++(boxR bs'::R)) w) (K:RnOk σ y n m ts none) (hb:σ.r.busy=false) (c:Cop) (x:RsV) (hs:StartP σ ts c (.loc x))
  (hck:∀W,Mem B w0 (RS.L B (σ.beg c.op)++(boxR bs'::R)) W->Calls Tryz.prog 38 #[.pointer (some ⟨σ.g,0,none⟩)] W fun e w'=>∃rb xb,RdSet σ.g { (σ.beg c.op).r with ph:=1,dv:=locV rb xb } W (.tuple #[]) e w'/\Blk w' rb 45 #[.pointer (some ⟨σ.g,0,none⟩)]/\Blk w' xb 41 (RsV.arr x)/\W.heap.size<=rb/\rb < xb) :
  Calls Tryz.prog 13 #[.pointer (some ⟨σ.g,0,none⟩),c.op.v] w (BegTo B w0 R σ y n m ts c):=by
 refine begin_of M K hb c fun W M1 K1=>?_
 refine (hck W M1).mono ?_
 rintro e w' ⟨rb,xb,hset,b1,b2,h1,h2⟩
 have M2:=m_setbox M1 hset rfl rfl [⟨rb,45,#[.pointer (some ⟨σ.g,0,none⟩)]⟩,⟨xb,41,RsV.arr x⟩] (fun b hb=>by
  simp at hb
  rcases hb with rfl | rfl
  ·exact b1
  ·exact b2) (fun b hb=>by
  simp at hb
  rcases hb with rfl | rfl
  ·exact h1
  ·exact Nat.le_trans h1 (Nat.le_of_lt h2))
 obtain ⟨rfl,_,_⟩:=hset
 exact ⟨rfl,_,_,M2,⟨rfl,rfl,rfl,rfl,rfl,rfl,rfl,rfl,rfl,rfl,rfl,rfl,rfl,rfl,rfl,rfl⟩,rfl,rfl,rfl,rfl,K1.same ⟨rfl,rfl,rfl,rfl,rfl,rfl,rfl,rfl,rfl,rfl,rfl,rfl,rfl,rfl,rfl,rfl⟩ (K1.O.rd _ σ.tx rfl rfl) rfl rfl rfl,.loc x,⟨rfl,rfl,rfl,rb,xb,rfl,rfl⟩,rfl,rfl,hs⟩
theorem slot_case (K:RnOk σ y n m ts none) {k:Nat} (hk:k < n):σ.sl[k]?=some none\/∃s i tx,σ.sl[k]?=some (some s)/\s.ix=((i:Nat):Int)/\ts[i]?=some tx/\RevOk σ.ns s.x tx/\0<=s.cu/\s.cu<=s.x.b/\tx.length<=100000/\s.ms.length<=4:=by
 rcases K.pn k hk (fun e=>by cases e) with ⟨h,_⟩ | ⟨s,_,_,h,_⟩
 ·exact .inl h
 ·obtain ⟨i,r,hr,e1,e2,e3,e4,e5⟩:=K.sn k s h
  have hil:i < ts.length:=by rw [K.nt];exact (List.getElem?_eq_some_iff.1 hr).1
  obtain ⟨tx,htx⟩:∃tx,ts[i]?=some tx:=⟨_,List.getElem?_eq_getElem hil⟩
  obtain ⟨h1,_,h3,_⟩:=K.rv i r tx hr htx
  exact .inr ⟨s,i,tx,h,e3,htx,by rw [e1];exact h1,e4,e5,K.tl tx (List.mem_of_getElem? htx),by rw [e2];exact h3⟩
theorem sptr_at {l:List (Option Snp)} {k:Nat} {o:Option Snp} (h:l[k]?=some o):(l.map sptr)[k]?=some (o.map Snp.g):=by
 rw [List.getElem?_map,h]
 rfl
theorem begin_free (M:Mem B w0 (σ.L B++(boxR bs'::R)) w) (K:RnOk σ y n m ts none) (hb:σ.r.busy=false) (c:Cop) (hc:c≠.acq) (hk:c.slot < n) (hsl:c.op.sl=(c.slot:Int)) (h5:c.op.k≠5) (hs:σ.sl[c.slot]?=some none)
  (hF:Formed σ.g (σ.beg c.op).r c.op):Calls Tryz.prog 13 #[.pointer (some ⟨σ.g,0,none⟩),c.op.v] w (BegTo B w0 R σ y n m ts c):=by
 refine begin_err M K hb c 16 (by decide) (.inr ⟨hc,.inl ⟨hs,rfl⟩⟩) fun W M1=>?_
 exact check_free σ.g σ.lb n c.slot (σ.beg c.op).r c.op _ W (m_rd M1) K.O.sl (m_sl M1).b hsl hk (sptr_at hs) hF h5
theorem beg_acq (M:Mem B w0 (σ.L B++(boxR bs'::R)) w) (K:RnOk σ y n m ts none) (hb:σ.r.busy=false) :
  Calls Tryz.prog 13 #[.pointer (some ⟨σ.g,0,none⟩),Cop.acq.op.v] w (BegTo B w0 R σ y n m ts .acq):=by
 refine begin_of M K hb .acq fun W M1 K1=>?_
 refine (start_acq σ.g (σ.beg acqOp).r W (m_rd M1) rfl).mono ?_
 intro e w' hset
 have M2:=m_set M1 hset rfl rfl
 obtain ⟨rfl,_,_⟩:=hset
 exact ⟨rfl,_,_,M2,⟨rfl,rfl,rfl,rfl,rfl,rfl,rfl,rfl,rfl,rfl,rfl,rfl,rfl,rfl,rfl,rfl⟩,rfl,rfl,rfl,rfl,K1.same ⟨rfl,rfl,rfl,rfl,rfl,rfl,rfl,rfl,rfl,rfl,rfl,rfl,rfl,rfl,rfl,rfl⟩ (K1.O.rd _ σ.tx rfl rfl) rfl rfl rfl,.clos,⟨rfl,rfl,rfl,rfl,rfl⟩,rfl,rfl,.inl ⟨rfl,rfl⟩⟩
theorem beg_rel {k:Nat} (M:Mem B w0 (σ.L B++(boxR bs'::R)) w) (K:RnOk σ y n m ts none) (hb:σ.r.busy=false) (hk:k < n) :
  Calls Tryz.prog 13 #[.pointer (some ⟨σ.g,0,none⟩),(Cop.rel k).op.v] w (BegTo B w0 R σ y n m ts (.rel k)):=by
 rcases slot_case K hk with h | ⟨s,i,tx,h,h1,h2,h3,h4,h5,h6,h7⟩
 ·exact begin_free M K hb (.rel k) (fun e=>by cases e) hk rfl (by simp [Cop.op]) h (fm13 σ.g σ.lb n _ k K.O.sl (by omega) (by omega))
 ·refine begin_of M K hb (.rel k) fun W M1 K1=>?_
  refine (start_rel σ.g σ.lb n k s.g (σ.beg (Cop.rel k).op).r _ s.x s.mv s.dv s.ix s.cu W (m_rd M1) K.O.sl (m_sl M1).b rfl hk (sptr_at h) ((m_sl M1).s k s h).b).mono ?_
  intro e w' hset
  have M2:=m_set M1 hset rfl rfl
  obtain ⟨rfl,_,_⟩:=hset
  exact ⟨rfl,_,_,M2,⟨rfl,rfl,rfl,rfl,rfl,rfl,rfl,rfl,rfl,rfl,rfl,rfl,rfl,rfl,rfl,rfl⟩,rfl,rfl,rfl,rfl,K1.same ⟨rfl,rfl,rfl,rfl,rfl,rfl,rfl,rfl,rfl,rfl,rfl,rfl,rfl,rfl,rfl,rfl⟩ (K1.O.rd _ σ.tx rfl rfl) rfl rfl rfl,.rel k,⟨rfl,rfl,rfl,rfl,rfl,hk,s,h⟩,rfl,rfl,.inr ⟨nofun,.inr ⟨s,i,tx,h,h1,h2,rfl⟩⟩⟩
end
theorem Dn.at_ {f:Ms->Int} {tx:List UInt8} {ns:List An} {ix:Nat} {n r:Int} {base:Ms} (h:Dn f tx ns ix n r base):∃z,ns[ix]?=some z:=by
 obtain ⟨u,pre,post,hn,_⟩:=h.ex
 cases hn with
 | leaf hi e=>exact ⟨_,hi⟩
 | node hi e hl hm hk=>exact ⟨_,hi⟩
section
variable {B:Nat} {w0 w:World} {R:List Res} {σ σ':RS} {bs':List Bx} {y:Ly} {n m:Nat} {ts:List (List UInt8)} {hk hk':Option Nat}
theorem RnOk.cur (K:RnOk σ y n m ts none) (S:Same σ σ') (O':σ'.Ok y n m) (h1:σ'.s=σ.s) (h3:σ'.ps=σ.ps) {k:Nat} {s:Snp} {c:Int} (hs:σ.sl[k]?=some (some s)) (h2:σ'.sl=σ.sl.set k (some { s with cu:=c })) (hc0:0<=c) (hc1:c<=s.x.b):RnOk σ' y n m ts none:=by
 refine K.of S O' (by rw [h1]) (by rw [h1]) (fun j t hj=>?_) (fun j hj hne=>?_)
 ·rw [h2] at hj
  rcases sset hj with ⟨_,e⟩ | ⟨_,hj⟩
  ·injection e with e
   subst e
   obtain ⟨i,r,a,b,c',d,_⟩:=K.sn k s hs
   exact ⟨i,r,a,b,c',d,hc0,hc1⟩
  ·exact K.sn j t hj
 ·rw [h1,h2,h3]
  by_cases hjk:j=k
  ·subst hjk
   rcases K.pn j hj (fun e=>by cases e) with ⟨a,_,_⟩ | ⟨s',g,q,_,b,c',d⟩
   ·rw [hs] at a
    injection a with a
    cases a
   ·exact .inr ⟨_,g,q,List.getElem?_set_self (List.getElem?_eq_some_iff.1 hs).1,b,c',d⟩
  ·rw [List.getElem?_set,if_neg (fun e=>hjk e.symm)]
   exact K.pn j hj (fun e=>by cases e)
theorem stp_seek {k:Nat} {pos:Int} (M:Mem B w0 (σ.L B++(boxR bs'::R)) w) (K:RnOk σ y n m ts none) (hp:PgAt σ bs' n m ts (.seek k pos)) :
  Calls Tryz.prog 15 #[.pointer (some ⟨σ.g,0,none⟩)] w (StepTo B w0 R σ bs' y n m ts (.seek k pos)):=by
 obtain ⟨hb,hd,hph,ob,zb,rb,s,op,hdv,hs,hop,hp0,hp1,rfl⟩:=hp
 have b1:Blk w ob 26 op.arr:=m_box M ⟨ob,_,_⟩ (.head _)
 have b2:Blk w zb 140 #[.pointer (some ⟨s.g,0,none⟩)]:=m_box M ⟨zb,_,_⟩ (.tail _ (.head _))
 have b3:Blk w rb 45 #[.pointer (some ⟨σ.g,0,none⟩)]:=m_box M ⟨rb,_,_⟩ (.tail _ (.tail _ (.head _)))
 refine stpb_of M K.O hb _ _ hdv (fun W=>by kernel_rfl) fun R' W M' c=>?_
 refine (seek_m M' hs (c.blk b1 id) (c.blk b2 id) (c.blk b3 id)).mono ?_
 rintro e w' ⟨rfl,M2⟩
 rw [hop] at M2
 have S:Same σ { σ with sl:=σ.sl.set k (some { s with cu:=pos }),r:=σ.r.fin { RsV.zero with at':=pos },tx:=[] }:=⟨rfl,rfl,rfl,rfl,rfl,rfl,rfl,rfl,rfl,rfl,rfl,rfl,rfl,rfl,rfl,rfl⟩
 exact ⟨0,_,rfl,M2,S,.fin { RsV.zero with at':=pos },K.cur S ((K.O.slot k (some { s with cu:=pos })).rd _ [] rfl rfl) rfl rfl hs rfl hp0 hp1,⟨rfl,rfl,rfl⟩,⟨rfl,rfl,⟨s,hs,rfl⟩,rfl⟩,rfl⟩
theorem stp_take {k:Nat} {a:Bool} {pos:Int} (M:Mem B w0 (σ.L B++(boxR bs'::R)) w) (K:RnOk σ y n m ts none) (hp:PgAt σ bs' n m ts (.take k a pos)) :
  Calls Tryz.prog 15 #[.pointer (some ⟨σ.g,0,none⟩)] w (StepTo B w0 R σ bs' y n m ts (.take k a pos)):=by
 obtain ⟨hb,hd,hph,hdv,hop,hsl,htx,hnx,s,hs,hp0,hp1⟩:=hp
 cases a with
 | false=>
  refine stp_of M K.O hb _ hdv (fun W=>by kernel_rfl) fun R' W M'=>?_
  refine (taken_read M' hop).mono ?_
  rintro e w' ⟨rfl,M2⟩
  rw [htx] at M2
  have S:Same σ { σ with r:=σ.r.fin RsV.zero,tx:=[] }:=⟨rfl,rfl,rfl,rfl,rfl,rfl,rfl,rfl,rfl,rfl,rfl,rfl,rfl,rfl,rfl,rfl⟩
  exact ⟨0,_,rfl,M2,S,.fin RsV.zero,K.same S (K.O.rd _ [] rfl rfl) rfl rfl rfl,⟨rfl,rfl,rfl⟩,⟨rfl,rfl,rfl,rfl⟩,rfl⟩
 | true=>
  refine stp_of M K.O hb _ hdv (fun W=>by kernel_rfl) fun R' W M'=>?_
  refine (taken_next M' K.O hop hsl hs).mono ?_
  rintro e w' ⟨rfl,M2⟩
  rw [htx,hnx] at M2
  have S:Same σ { σ with sl:=σ.sl.set k (some { s with cu:=pos }),r:=σ.r.fin { RsV.zero with at':=pos },tx:=[] }:=⟨rfl,rfl,rfl,rfl,rfl,rfl,rfl,rfl,rfl,rfl,rfl,rfl,rfl,rfl,rfl,rfl⟩
  exact ⟨0,_,rfl,M2,S,.fin { RsV.zero with at':=pos },K.cur S ((K.O.slot k (some { s with cu:=pos })).rd _ [] rfl rfl) rfl rfl hs rfl hp0 hp1,⟨rfl,rfl,rfl⟩,⟨rfl,rfl,⟨s,hs,rfl⟩,rfl⟩,rfl⟩
theorem stp_rune {k:Nat} {tx:List UInt8} {q ix:Nat} {rest:Int} {base:Ms} (M:Mem B w0 (σ.L B++(boxR bs'::R)) w) (K:RnOk σ y n m ts none) (hp:PgAt σ bs' n m ts (.rune k tx q ix rest base)) :
  Calls Tryz.prog 15 #[.pointer (some ⟨σ.g,0,none⟩)] w (StepTo B w0 R σ bs' y n m ts (.rune k tx q ix rest base)):=by
 obtain ⟨hb,hd,hph,hdv,hsh,hat,hre,hba,D⟩:=hp
 have htl:tx.length<=1000000:=by
  obtain ⟨_,i,_,_,ht⟩:=hsh
  have:=K.tl tx (List.mem_of_getElem? ht)
  omega
 obtain ⟨z,hz⟩:=D.at_
 refine stp_of M K.O hb _ hdv (fun W=>by kernel_rfl) fun R' W M'=>?_
 refine (visitRune_m M' K.O K.P htl (by rw [hre,hba];exact D) hat hz).mono ?_
 rintro e w' ⟨rfl,⟨h0,ci,k',r,hk,hc,M2⟩ | ⟨h0,M2⟩⟩
 ·rw [hre,Int.sub_zero] at hc
  rw [hba,Int.add_zero] at M2
  have S:Same σ { σ with r:={ σ.r with at':=hdl k'.at',rest:=r,base:=bsK base z.x.ks ci } }:=⟨rfl,rfl,rfl,rfl,rfl,rfl,rfl,rfl,rfl,rfl,rfl,rfl,rfl,rfl,rfl,rfl⟩
  exact ⟨hdl ix,_,rfl,M2,S,.rune k tx q k'.at' r (bsK base z.x.ks ci),K.same S (K.O.rd _ σ.tx rfl rfl) rfl rfl rfl,⟨hb,hd,hph,hdv,hsh,rfl,rfl,rfl,by rw [bsK_eq];exact D.down (fun _ _=>rfl) hz h0 hk hc⟩,⟨rfl,rfl,rfl,z,hz,.inl ⟨h0,ci,k',r,hk,hc,rfl⟩⟩,hd⟩
 ·obtain ⟨pre,post,e1,e2,e3,e4,e5⟩:=D.leaf K.P hz h0
  have hv:σ.r.base.b+((nthP begB (bs z.x.s) (σ.r.rest - 0).toNat:Nat):Int)=((nthP begB (u8s tx) q:Nat):Int):=by
   rw [hre,hba,Int.sub_zero]
   have hb':base.b=(pre.length:Int):=by rw [<-e2];rfl
   have hr':base.r=(cntP begB (u8s pre):Int):=by rw [<-e2];rfl
   have hlt:rest.toNat < cntP begB (u8s z.x.s.data.toList):=by
    rw [mOf_list,mL_r] at e5
    omega
   have:=nth_leaf (p:=begB) (n:=q) (r:=rest.toNat) e1 (by rw [hr'] at e3;omega) hlt
   rw [this,hb']
   show _=((pre.length+nthP begB (bs z.x.s) rest.toNat:Nat):Int)
   push_cast
   rfl
  rw [hv] at M2
  have S:Same σ { σ with r:=σ.r.fin { RsV.zero with at':=((nthP begB (u8s tx) q:Nat):Int) },tx:=[] }:=⟨rfl,rfl,rfl,rfl,rfl,rfl,rfl,rfl,rfl,rfl,rfl,rfl,rfl,rfl,rfl,rfl⟩
  exact ⟨hdl ix,_,rfl,M2,S,.fin { RsV.zero with at':=((nthP begB (u8s tx) q:Nat):Int) },K.same S (K.O.rd _ [] rfl rfl) rfl rfl rfl,⟨rfl,rfl,rfl⟩,⟨rfl,rfl,rfl,z,hz,.inr ⟨h0,rfl⟩⟩,rfl⟩
theorem stp_line {k:Nat} {tx:List UInt8} {q ix:Nat} {rest:Int} {base:Ms} (M:Mem B w0 (σ.L B++(boxR bs'::R)) w) (K:RnOk σ y n m ts none) (hp:PgAt σ bs' n m ts (.line k tx q ix rest base)) :
  Calls Tryz.prog 15 #[.pointer (some ⟨σ.g,0,none⟩)] w (StepTo B w0 R σ bs' y n m ts (.line k tx q ix rest base)):=by
 obtain ⟨hb,hd,hph,hdv,hsh,hat,hre,hba,D⟩:=hp
 have htl:tx.length<=1000000:=by
  obtain ⟨_,i,_,_,ht⟩:=hsh
  have:=K.tl tx (List.mem_of_getElem? ht)
  omega
 obtain ⟨z,hz⟩:=D.at_
 refine stp_of M K.O hb _ hdv (fun W=>by kernel_rfl) fun R' W M'=>?_
 refine (visitLine_m M' K.O K.P htl (by rw [hre,hba];exact D) hat hz).mono ?_
 rintro e w' ⟨rfl,⟨h0,ci,k',r,hk,hc,M2⟩ | ⟨h0,M2⟩⟩
 ·rw [hre] at hc
  rw [hba] at M2
  have S:Same σ { σ with r:={ σ.r with at':=hdl k'.at',rest:=r+1,base:=bsK base z.x.ks ci } }:=⟨rfl,rfl,rfl,rfl,rfl,rfl,rfl,rfl,rfl,rfl,rfl,rfl,rfl,rfl,rfl,rfl⟩
  exact ⟨hdl ix,_,rfl,M2,S,.line k tx q k'.at' (r+1) (bsK base z.x.ks ci),K.same S (K.O.rd _ σ.tx rfl rfl) rfl rfl rfl,⟨hb,hd,hph,hdv,hsh,rfl,rfl,rfl,by rw [bsK_eq,show r+1 - 1=r by omega];exact D.down (fun _ _=>rfl) hz h0 hk hc⟩,⟨rfl,rfl,rfl,z,hz,.inl ⟨h0,ci,k',r,hk,hc,rfl⟩⟩,hd⟩
 ·obtain ⟨pre,post,e1,e2,e3,e4,e5⟩:=D.leaf K.P hz h0
  have hv:σ.r.base.b+(((nthP (fun b=>b == 10) (bs z.x.s) (σ.r.rest - 1).toNat:Nat):Int)+1)=((nthP isLF (u8s tx) q:Nat):Int)+1:=by
   rw [hre,hba]
   have hb':base.b=(pre.length:Int):=by rw [<-e2];rfl
   have hr':base.l=(cntP isLF (u8s pre):Int):=by rw [<-e2];rfl
   have hlt:(rest - 1).toNat < cntP isLF (u8s z.x.s.data.toList):=by
    rw [mOf_list,mL_l] at e5
    omega
   have:=nth_leaf (p:=isLF) (n:=q) (r:=(rest - 1).toNat) e1 (by rw [hr'] at e3;omega) hlt
   rw [this,hb']
   show _=((pre.length+nthP isLF (bs z.x.s) (rest - 1).toNat:Nat):Int)+1
   have e9:nthP (fun b=>b == 10) (bs z.x.s) (rest - 1).toNat=nthP isLF (bs z.x.s) (rest - 1).toNat:=rfl
   rw [e9]
   push_cast
   omega
  rw [hv] at M2
  have S:Same σ { σ with r:=σ.r.fin { RsV.zero with at':=((nthP isLF (u8s tx) q:Nat):Int)+1 },tx:=[] }:=⟨rfl,rfl,rfl,rfl,rfl,rfl,rfl,rfl,rfl,rfl,rfl,rfl,rfl,rfl,rfl,rfl⟩
  exact ⟨hdl ix,_,rfl,M2,S,.fin { RsV.zero with at':=((nthP isLF (u8s tx) q:Nat):Int)+1 },K.same S (K.O.rd _ [] rfl rfl) rfl rfl rfl,⟨rfl,rfl,rfl⟩,⟨rfl,rfl,rfl,z,hz,.inr ⟨h0,rfl⟩⟩,rfl⟩
theorem stp_byte {k:Nat} {a:Bool} {tx:List UInt8} {p0 N d ix:Nat} {rest:Int} {base:Ms} (M:Mem B w0 (σ.L B++(boxR bs'::R)) w) (K:RnOk σ y n m ts none) (hp:PgAt σ bs' n m ts (.byte k a tx p0 N d ix rest base)) :
  Calls Tryz.prog 15 #[.pointer (some ⟨σ.g,0,none⟩)] w (StepTo B w0 R σ bs' y n m ts (.byte k a tx p0 N d ix rest base)):=by
 obtain ⟨hb,hd,hph,hdv,hop,hsl,hsh,hat,hre,hba,hnx,hnd,hdN,hpN,htx,D⟩:=hp
 obtain ⟨s,i,hs,hsi,hti⟩:=id hsh
 have htl:tx.length<=100000:=K.tl tx (List.mem_of_getElem? hti)
 obtain ⟨z,hz⟩:=D.at_
 have hop':σ.r.op.k=7\/σ.r.op.k=12:=by
  cases a
  ·exact .inl hop
  ·exact .inr hop
 have htxl:σ.tx.length<=1000000:=by
  rw [htx,List.length_take]
  omega
 refine stp_of M K.O hb _ hdv (fun W=>by kernel_rfl) fun R' W M'=>?_
 refine (visitByte_m M' K.O K.P (tx:=tx) (by omega) (by rw [hre,hba];exact D) hat hz hsl hs hop' htxl (by rw [hnx];omega) (by rw [hnd];omega)).mono ?_
 rintro e w' ⟨rfl,⟨h0,ci,k',q,hk,hc,M2⟩ | ⟨h0,c,rn,hrn,hcm,hL⟩⟩
 ·rw [hre] at hc
  rw [hba] at M2
  have S:Same σ { σ with r:={ σ.r with at':=hdl k'.at',rest:=q,base:=bsK base z.x.ks ci } }:=⟨rfl,rfl,rfl,rfl,rfl,rfl,rfl,rfl,rfl,rfl,rfl,rfl,rfl,rfl,rfl,rfl⟩
  exact ⟨hdl ix,_,rfl,M2,S,.byte k a tx p0 N d k'.at' q (bsK base z.x.ks ci),K.same S (K.O.rd _ σ.tx rfl rfl) rfl rfl rfl,⟨hb,hd,hph,hdv,hop,hsl,hsh,rfl,rfl,rfl,hnx,hnd,hdN,hpN,htx,by rw [bsK_eq];exact D.down (fun _ _=>rfl) hz h0 hk hc⟩,⟨rfl,rfl,z,hz,.inl ⟨h0,rfl,ci,k',q,hk,hc,rfl⟩⟩,hd⟩
 ·obtain ⟨pre,post,e1,e2,e3,e4,e5⟩:=D.leaf K.P hz h0
  rw [hre] at hrn
  subst hrn
  have hb':base.b=(pre.length:Int):=by rw [<-e2];rfl
  have e3':p0+d=pre.length+rn:=by
   have:((p0+d:Nat):Int)=base.b+(rn:Int):=e3
   rw [hb'] at this
   omega
  have e5':rn < z.x.s.size:=by
   rw [mOf_list,mL_b,dsize] at e5
   omega
  have hcm':c=min (N - d) (z.x.s.size - rn):=by rw [hcm,hnd];rfl
  have htk:=take_leaf (o:=p0+d) (k:=c) e1 e3' (by omega)
  have htx2:σ.tx++(z.x.s.extract rn (rn+c)).data.toList=(tx.drop p0).take (d+c):=by
   rw [htx,<-htk,List.take_add,List.drop_drop]
  rw [htx2] at hL
  obtain ⟨ri,rr,hri,hsx,hsm,hsx2,hcu0,hcu1⟩:=K.sn k s hs
  have hii:ri=i:=by rw [hsi] at hsx2;omega
  subst hii
  obtain ⟨⟨hxb,_,_,hrev⟩,_⟩:=K.rv ri rr tx hri hti
  have hxb':s.x.b=(tx.length:Int):=by rw [hsx,hxb];rfl
  have HREV:=hid hrev
  clear hrev
  rcases hL with ⟨hlt,tv,M2⟩ | ⟨heq,h7,M2⟩ | ⟨heq,h12,M2⟩
  {
 rw [hnd] at hlt
 rw [hnx,hnd] at M2
 rcases HREV.out with ⟨h,_⟩ | ⟨jx,t,ht1,ht2,ht3,_⟩
 ·rw [h] at hpN
  simp at hpN
  omega
 have M3:Mem B w0 (RS.L B { σ with r:={ σ.r with tx:=tv,next:=((p0+(d+c):Nat):Int),need:=((N - (d+c):Nat):Int),ph:=12,dv:=visF σ.g,at':=s.x.at',rest:=((p0+(d+c):Nat):Int),base:=⟨0,0,0⟩ },tx:=(tx.drop p0).take (d+c) }++R') w':=by
  rw [show ((p0+(d+c):Nat):Int)=((p0+d:Nat):Int)+(c:Int) by push_cast;omega,show ((N - (d+c):Nat):Int)=((N - d:Nat):Int) - (c:Int) by omega]
  exact M2
 have S:Same σ { σ with r:={ σ.r with tx:=tv,next:=((p0+(d+c):Nat):Int),need:=((N - (d+c):Nat):Int),ph:=12,dv:=visF σ.g,at':=s.x.at',rest:=((p0+(d+c):Nat):Int),base:=⟨0,0,0⟩ },tx:=(tx.drop p0).take (d+c) }:=⟨rfl,rfl,rfl,rfl,rfl,rfl,rfl,rfl,rfl,rfl,rfl,rfl,rfl,rfl,rfl,rfl⟩
 have D':Dn (fun m=>m.b) tx σ.ns jx ((p0+(d+c):Nat):Int) ((p0+(d+c):Nat):Int) ⟨0,0,0⟩:=by
  have:=Dn.start (f:=fun m=>m.b) rfl ht2 (n:=((p0+(d+c):Nat):Int)) (by omega) (by rw [ht3];show _ < (tx.length:Int);omega)
  rw [ht3] at this
  exact this
 exact ⟨hdl ix,_,rfl,M3,S,.byte k a tx p0 N (d+c) jx ((p0+(d+c):Nat):Int) ⟨0,0,0⟩,K.same S (K.O.rd _ _ rfl rfl) rfl rfl rfl,⟨hb,hd,rfl,rfl,hop,hsl,hsh,by show s.x.at'=_;rw [hsx];exact ht1,rfl,rfl,rfl,rfl,by omega,hpN,rfl,D'⟩,⟨rfl,rfl,z,hz,.inr ⟨h0,c,rn,rfl,hcm',.inl ⟨by omega,rfl,jx,rfl,s,hs,by rw [hsx];exact ht1⟩⟩⟩,hd⟩
 }
  ·rw [hnd] at heq
   have hdc:d+c=N:=by omega
   cases a with
   | true=>rw [h7] at hop;cases hop
   | false=>
    rw [hdc] at M2
    have S:Same σ { σ with r:=Rd.fin { σ.r with next:=σ.r.next+c,need:=σ.r.need - c } { RsV.zero with s:=⟨((tx.drop p0).take N).toArray⟩ },tx:=[] }:=⟨rfl,rfl,rfl,rfl,rfl,rfl,rfl,rfl,rfl,rfl,rfl,rfl,rfl,rfl,rfl,rfl⟩
    exact ⟨hdl ix,_,rfl,M2,S,.fin { RsV.zero with s:=⟨((tx.drop p0).take N).toArray⟩ },K.same S (K.O.rd _ _ rfl rfl) rfl rfl rfl,⟨rfl,rfl,rfl⟩,⟨rfl,rfl,z,hz,.inr ⟨h0,c,rn,rfl,hcm',.inr ⟨hdc,rfl,rfl⟩⟩⟩,rfl⟩
  ·rw [hnd] at heq
   have hdc:d+c=N:=by omega
   cases a with
   | false=>rw [h12] at hop;cases hop
   | true=>
    rw [hdc] at M2
    have hnxc:σ.r.next+(c:Int)=((p0+N:Nat):Int):=by rw [hnx];omega
    rw [hnxc] at M2
    have S:Same σ { σ with sl:=σ.sl.set k (some { s with cu:=((p0+N:Nat):Int) }),r:=Rd.fin { σ.r with next:=((p0+N:Nat):Int),need:=σ.r.need - c } { RsV.zero with at':=((p0+N:Nat):Int),s:=⟨((tx.drop p0).take N).toArray⟩ },tx:=[] }:=⟨rfl,rfl,rfl,rfl,rfl,rfl,rfl,rfl,rfl,rfl,rfl,rfl,rfl,rfl,rfl,rfl⟩
    exact ⟨hdl ix,_,rfl,M2,S,.fin { RsV.zero with at':=((p0+N:Nat):Int),s:=⟨((tx.drop p0).take N).toArray⟩ },K.cur S ((K.O.slot k (some { s with cu:=((p0+N:Nat):Int) })).rd _ _ rfl rfl) rfl rfl hs rfl (by omega) (by rw [hxb'];omega),⟨rfl,rfl,rfl⟩,⟨rfl,rfl,z,hz,.inr ⟨h0,c,rn,rfl,hcm',.inr ⟨hdc,⟨s,hs,rfl⟩,rfl⟩⟩⟩,rfl⟩
theorem step_all {pg:Pg} (M:Mem B w0 (σ.L B++(boxR bs'::R)) w) (K:RnOk σ y n m ts pg.hk) (hl:σ.s.lg.length < 800000) (hp:PgAt σ bs' n m ts pg) (he:pg.ended=false) :
  Calls Tryz.prog 15 #[.pointer (some ⟨σ.g,0,none⟩)] w (StepTo B w0 R σ bs' y n m ts pg):=by
 cases pg with
 | fin x=>cases he
 | loc x=>exact stp_loc M K hp
 | clos=>exact stp_clos M K hl hp
 | ep k=>exact stp_ep M K hl hp
 | ann k v=>exact stp_ann M K hl hp
 | root k=>exact stp_root M K hl hp
 | rel k=>exact stp_rel M K hl hp
 | seek k pos=>exact stp_seek M K hp
 | take k a pos=>exact stp_take M K hp
 | byte k a tx p0 N d ix rest base=>exact stp_byte M K hp
 | rune k tx q ix rest base=>exact stp_rune M K hp
 | line k tx q ix rest base=>exact stp_line M K hp
end
theorem nxt_len {σ σ':RS} {m:Nat} {hv:Int} {pg pg':Pg} (h:Nxt σ σ' m hv pg' pg):σ'.s.lg.length<=σ.s.lg.length+1:=by
 cases pg with
 | fin x=>exact h.elim
 | loc x=>obtain ⟨_,h,_⟩:=h;rw [h];omega
 | clos=>obtain ⟨_,h,_⟩:=h;rw [h,load_len];omega
 | ep k=>obtain ⟨_,h,_⟩:=h;rw [h,load_len];omega
 | ann k v=>obtain ⟨_,h,_⟩:=h;rw [h,store_len];omega
 | root k=>obtain ⟨_,h,_⟩:=h;rw [h,load_len];omega
 | rel k=>obtain ⟨_,h,_⟩:=h;rw [h,store_len];omega
 | seek k pos=>obtain ⟨_,h,_⟩:=h;rw [h];omega
 | take k a pos=>obtain ⟨_,h,_⟩:=h;rw [h];omega
 | byte k a tx p0 N d ix rest base=>obtain ⟨_,h,_⟩:=h;rw [h];omega
 | rune k tx q ix rest base=>obtain ⟨_,h,_⟩:=h;rw [h];omega
 | line k tx q ix rest base=>obtain ⟨_,h,_⟩:=h;rw [h];omega
section
variable {σ0 σ σ':RS} {y:Ly} {n m:Nat} {ts:List (List UInt8)} {pg pg':Pg} {f:Nat} {hv:Int}
end
section
variable {B:Nat} {w0 w:World} {R:List Res} {σ σ':RS} {bs':List Bx} {y:Ly} {n m:Nat} {ts:List (List UInt8)}
def rzC:Array Value:=#[.int .i64 0,.int .i64 0,.int .i64 0,.int .i64 0,.int .u8 0,.string ⟨#[]⟩,.int .i64 0,.int .i64 0,.int .i64 0,.int .u8 0,.int .i64 0,.int .i64 0,.slice none 0 0]
end
section
variable {B:Nat} {w0 w:World} {R:List Res} {σ σ':RS} {bs':List Bx} {y:Ly} {n m:Nat} {ts:List (List UInt8)}
end
theorem Dn.app {f:Ms->Int} {tx:List UInt8} {ns:List An} {ix:Nat} {n r:Int} {base:Ms} (h:Dn f tx ns ix n r base) (ys:List An):Dn f tx (ns++ys) ix n r base:=by
 obtain ⟨u,pre,post,a,b⟩:=h.ex
 exact ⟨⟨u,pre,post,a.app,b⟩⟩
theorem app_get {α:Type} {l:List α} {i:Nat} {a:α} (h:l[i]?=some a) (us:List α):(l++us)[i]?=some a:=by
 rw [List.getElem?_append_left (List.getElem?_eq_some_iff.1 h).1]
 exact h
theorem app_last {α:Type} {l:List α} {i:Nat} {a b:α} (h:(l++[b])[i]?=some a):l[i]?=some a\/(i=l.length/\a=b):=by
 rw [List.getElem?_append] at h
 split at h
 ·exact .inl h
 ·have hl:=(List.getElem?_eq_some_iff.1 h).1
  simp at hl
  have hi:i - l.length=0:=by omega
  rw [hi] at h
  simp at h
  exact .inr ⟨by omega,h.symm⟩
section
variable {B:Nat} {w0 w:World} {R:List Res} {σ σ':RS} {bs:List Bx} {y:Ly} {n m:Nat} {ts ts':List (List UInt8)} {hk:Option Nat} {pg:Pg}
theorem Shows.move {k:Nat} {tx:List UInt8} (h:Shows σ ts k tx) (hsl:σ'.sl=σ.sl) (us:List (List UInt8)):Shows σ' (ts++us) k tx:=by
 obtain ⟨s,i,h1,h2,h3⟩:=h
 exact ⟨s,i,by rw [hsl];exact h1,h2,app_get h3 us⟩
theorem Acq.move {k:Nat} {ph v:Int} (h:Acq σ n m k ph v) (hr:σ'.r=σ.r) (hsl:σ'.sl=σ.sl) (hps:σ'.ps=σ.ps):Acq σ' n m k ph v:=by
 unfold Acq at *
 rw [hr,hsl,hps]
 exact h
theorem PgAt.move (h:PgAt σ bs n m ts pg) (O:σ.Ok y n m) (hg:σ'.g=σ.g) (hr:σ'.r=σ.r) (hsl:σ'.sl=σ.sl) (hps:σ'.ps=σ.ps) (htx:σ'.tx=σ.tx) {ys:List An} (hns:σ'.ns=σ.ns++ys) (hf:σ'.f=σ.f) (hvs:∀i,i < σ.f.n->lk σ'.s.vs (σ.f.slot i)=lk σ.s.vs (σ.f.slot i)) (us:List (List UInt8)):PgAt σ' bs n m (ts++us) pg:=by
 cases pg with
 | fin x=>simp only [PgAt,hr] at *;exact h
 | loc x=>simp only [PgAt,hr,hg] at *;exact h
 | clos=>simp only [PgAt,hr,hg] at *;exact h
 | ep k=>
  obtain ⟨h1,h2,h3,h4,h5⟩:=h
  exact ⟨by rw [hr];exact h1,by rw [hr];exact h2,by rw [hr];exact h3,by rw [hr,hg];exact h4,h5.move hr hsl hps⟩
 | ann k v=>
  obtain ⟨h1,h2,h3,h4,h5,h6⟩:=h
  exact ⟨by rw [hr];exact h1,by rw [hr];exact h2,by rw [hr];exact h3,by rw [hr,hg];exact h4,h5.move hr hsl hps,h6⟩
 | root k=>
  obtain ⟨h1,h2,h3,h4,h5,h6⟩:=h
  exact ⟨by rw [hr];exact h1,by rw [hr];exact h2,by rw [hr];exact h3,by rw [hr,hg];exact h4,h5.move hr hsl hps,by rw [hf,hvs _ (by have:=O.mn;have:=h5.2.2.1;omega)];exact h6⟩
 | rel k=>simp only [PgAt,hr,hg,hsl] at *;exact h
 | seek k pos=>simp only [PgAt,hr,hg,hsl] at *;exact h
 | take k a pos=>simp only [PgAt,hr,hg,hsl,htx] at *;exact h
 | byte k a tx p0 N d ix rest base=>
  obtain ⟨h1,h2,h3,h4,h5,h6,h7,h8,h9,h10,h11,h12,h13,h14,h15,h16⟩:=h
  exact ⟨by rw [hr];exact h1,by rw [hr];exact h2,by rw [hr];exact h3,by rw [hr,hg];exact h4,by rw [hr];exact h5,by rw [hr];exact h6,h7.move hsl us,by rw [hr];exact h8,by rw [hr];exact h9,by rw [hr];exact h10,by rw [hr];exact h11,by rw [hr];exact h12,h13,h14,by rw [htx];exact h15,by rw [hns];exact h16.app ys⟩
 | rune k tx q ix rest base=>
  obtain ⟨h1,h2,h3,h4,h5,h6,h7,h8,h9⟩:=h
  exact ⟨by rw [hr];exact h1,by rw [hr];exact h2,by rw [hr];exact h3,by rw [hr,hg];exact h4,h5.move hsl us,by rw [hr];exact h6,by rw [hr];exact h7,by rw [hr];exact h8,by rw [hns];exact h9.app ys⟩
 | line k tx q ix rest base=>
  obtain ⟨h1,h2,h3,h4,h5,h6,h7,h8,h9⟩:=h
  exact ⟨by rw [hr];exact h1,by rw [hr];exact h2,by rw [hr];exact h3,by rw [hr,hg];exact h4,h5.move hsl us,by rw [hr];exact h6,by rw [hr];exact h7,by rw [hr];exact h8,by rw [hns];exact h9.app ys⟩
def RS.pub (σ:RS) (ys:List An) (rv':Value) (r1:RvS) (lv':Value) (t:Int):RS:={ σ with ns:=σ.ns++ys,cs:=σ.cs.setIfInBounds 23 rv',rv:=rv',rs:=σ.rs++[r1],s:=σ.s.store t 1 (σ.rs.length:Int),lv:=lv' }
theorem slot_ne1 (K:RnOk σ y n m ts hk) {i:Nat} (hi:i < σ.f.n):1≠σ.f.slot i:=by
 have:=K.O.fs i hi
 omega
theorem slot_ne0 (K:RnOk σ y n m ts hk) {i:Nat} (hi:i < σ.f.n):0≠σ.f.slot i:=by
 have:=K.O.fs i hi
 omega
theorem RnOk.pub (K:RnOk σ y n m ts hk) (hl:σ.s.lg.length < 800000) {ys:List An} (P':ArP (σ.ns++ys)) (rv':Value) (r1:RvS) (lv':Value) (t:Int) {tx:List UInt8} (ht:ts.length < 200) (htl:tx.length<=100000) (hr:RevOk (σ.ns++ys) r1.x tx) (hn:r1.x.num=3 * (ts.length:Int)) (hm:r1.ms.length<=4) (hd:r1.ds.length<=4):RnOk (σ.pub ys rv' r1 lv' t) y n m (ts++[tx]) hk:=by
 have h23:23 < σ.cs.size:=(Array.getElem?_eq_some_iff.1 K.O.h23).1
 have hvl:1 < σ.s.vs.length:=by have:=K.O.vs;omega
 refine ⟨?_,P',by simp [RS.pub,K.nt],by simp;omega,fun u hu=>?_,fun i r u hi hu=>?_,⟨ts.length,?_,by simp⟩,fun k s hs=>?_,fun k hk hne=>?_,?_,K.en⟩
 ·exact ((K.O.publish rv' (σ.rs++[r1]) h23 (by simp [Ly.arr])).arena (σ.ns++ys)).bank (σ.s.store t 1 (σ.rs.length:Int)) lv' (store_vlen _ _ 1 _) (by show (σ.s.store t 1 (σ.rs.length:Int)).lg.length < 900000;rw [store_len];omega) (K.O.ed.of (store_vlen _ _ 1 _))
 ·simp at hu
  rcases hu with hu | rfl
  ·exact K.tl u hu
  ·exact htl
 ·have hi:(σ.rs++[r1])[i]?=some r:=hi
  rcases app_last hi with h | ⟨h1,h2⟩
  ·have hil:i < ts.length:=by rw [K.nt];exact (List.getElem?_eq_some_iff.1 h).1
   rw [List.getElem?_append_left hil] at hu
   obtain ⟨a,b⟩:=K.rv i r u h hu
   exact ⟨a.app ys,b⟩
  ·subst h2
   rw [h1,<-K.nt,List.getElem?_append_right (Nat.le_refl _),Nat.sub_self] at hu
   simp at hu
   subst hu
   exact ⟨hr,by rw [hn,h1,K.nt],hm,hd⟩
 ·show lk (σ.s.store t 1 (σ.rs.length:Int)).vs 1=_
  rw [show (σ.s.store t 1 (σ.rs.length:Int)).vs=σ.s.vs.set 1 (σ.rs.length:Int) from rfl,lk_set_eq _ hvl,K.nt]
 ·obtain ⟨i,r,h1,h2⟩:=K.sn k s hs
  exact ⟨i,r,app_get h1 _,h2⟩
 ·have e:lk (σ.s.store t 1 (σ.rs.length:Int)).vs (σ.f.slot (m+k))=lk σ.s.vs (σ.f.slot (m+k)):=by
   rw [show (σ.s.store t 1 (σ.rs.length:Int)).vs=σ.s.vs.set 1 (σ.rs.length:Int) from rfl,lk_set_ne _ (slot_ne1 K (by have:=K.O.mn;omega))]
  show (σ.sl[k]?=some none/\σ.ps[m+k]?=some none/\lk (σ.s.store t 1 (σ.rs.length:Int)).vs (σ.f.slot (m+k))=0)\/∃s g q,σ.sl[k]?=some (some s)/\σ.ps[m+k]?=some (some (g,q))/\q.ph=0/\lk (σ.s.store t 1 (σ.rs.length:Int)).vs (σ.f.slot (m+k))≠0
  rw [e]
  exact K.pn k hk hne
 ·show 0<=lk (σ.s.store t 1 (σ.rs.length:Int)).vs σ.f.ep/\lk (σ.s.store t 1 (σ.rs.length:Int)).vs σ.f.ep < 1000000
  rw [show (σ.s.store t 1 (σ.rs.length:Int)).vs=σ.s.vs.set 1 (σ.rs.length:Int) from rfl,lk_set_ne _ (by have:=K.O.f0;omega)]
  exact K.ep
theorem PgAt.pub (h:PgAt σ bs n m ts pg) (K:RnOk σ y n m ts hk) (ys:List An) (rv':Value) (r1:RvS) (lv':Value) (t:Int) (tx:List UInt8):PgAt (σ.pub ys rv' r1 lv' t) bs n m (ts++[tx]) pg:=
 h.move (σ':=σ.pub ys rv' r1 lv' t) (ys:=ys) K.O rfl rfl rfl rfl rfl rfl rfl (fun i hi=>by
  show lk (σ.s.vs.set 1 _) _=_
  rw [lk_set_ne _ (slot_ne1 K hi)]) [tx]
def RS.shut (σ:RS) (lv':Value) (t:Int):RS:={ σ with s:=σ.s.store t 0 1,lv:=lv' }
theorem RnOk.shut (K:RnOk σ y n m ts hk) (hl:σ.s.lg.length < 800000) (lv':Value) (t:Int):RnOk (σ.shut lv' t) y n m ts hk:=by
 have e1:∀j,j≠0->lk (σ.s.store t 0 1).vs j=lk σ.s.vs j:=fun j hj=>by
  rw [show (σ.s.store t 0 1).vs=σ.s.vs.set 0 1 from rfl,lk_set_ne _ (Ne.symm hj)]
 refine K.of ⟨rfl,rfl,rfl,rfl,rfl,rfl,rfl,rfl,rfl,rfl,rfl,rfl,rfl,rfl,rfl,rfl⟩ ?_ (e1 1 (by decide)) (e1 _ (by have:=K.O.f0;omega)) K.sn (fun k hk hne=>?_)
 ·exact K.O.bank (σ.s.store t 0 1) lv' (store_vlen _ _ 0 _) (by rw [store_len];omega) (K.O.ed.of (store_vlen _ _ 0 _))
 ·show (σ.sl[k]?=some none/\σ.ps[m+k]?=some none/\lk (σ.s.store t 0 1).vs (σ.f.slot (m+k))=0)\/∃s g q,σ.sl[k]?=some (some s)/\σ.ps[m+k]?=some (some (g,q))/\q.ph=0/\lk (σ.s.store t 0 1).vs (σ.f.slot (m+k))≠0
  rw [e1 _ (Ne.symm (slot_ne0 K (by have:=K.O.mn;omega)))]
  exact K.pn k hk hne
theorem PgAt.shut (h:PgAt σ bs n m ts pg) (K:RnOk σ y n m ts hk) (lv':Value) (t:Int):PgAt (σ.shut lv' t) bs n m ts pg:=by
 have:=h.move (σ':=σ.shut lv' t) (ys:=[]) K.O rfl rfl rfl rfl rfl (by rw [List.append_nil];rfl) rfl (fun i hi=>by
  show lk (σ.s.vs.set 0 _) _=_
  rw [lk_set_ne _ (slot_ne0 K hi)]) []
 rwa [List.append_nil] at this
end
structure HdV where
 is:Bool
 s:ByteArray
 mv:Value
 ms:List Mk
 h:Int
 cu:Int
def HdV.cells (x:HdV):List Value:=[.bool x.is,.string x.s,x.mv,.int .i64 x.h,.int .i64 x.cu]
def HdV.zero:HdV:=⟨false,⟨#[]⟩,.slice none 0 0,[],0,0⟩
def hdCells (l:List HdV):List Value:=l.flatMap HdV.cells
theorem hdC_len (x:HdV):x.cells.length=5:=rfl
structure PlS where
 g:Nat
 hb:Nat
 now:HdV
 num:Int
 cl:Bool
 hs:List HdV
 pool:List (Value × List Mk)
def PlS.cells (p:PlS) (sb g n:Nat):Array Value:=#[.pointer (some ⟨sb,0,none⟩),.pointer (some ⟨g,0,none⟩),.slice (some ⟨p.hb,0,none⟩) n n,.bool p.now.is,.string p.now.s,p.now.mv,.int .i64 p.now.h,.int .i64 p.now.cu,.int .i64 p.num,.bool p.cl]
def poolR (B:Nat) (l:List (Value × List Mk)):Res where
 holds w:=∀p ∈ l,w.ownsRow B 160 3 p.1 p.2.length (mkCells p.2)
 foot k:=∃p ∈ l,p.1.ownBlock=some k
 stable h c hn:=fun p hp=>c.own (h p hp) (fun k hk=>hn k ⟨p,hp,hk⟩)
 lt h k hk:=by
  obtain ⟨p,hp,hk⟩:=hk
  exact ((h p hp).lt k hk).2
def PlS.L (B:Nat) (p:PlS) (sb g n:Nat):List Res:=[blkR p.g 51 (p.cells sb g n),blkR p.hb 49 (hdCells p.hs).toArray,poolR B p.pool]
structure PlOk (p:PlS) (σ:RS) (n:Nat) (ts:List (List UInt8)):Prop where
 now:p.now.is=true/\p.now.cu=0
 rt:lk σ.s.vs 1=((ts.length - 1:Nat):Int)
 t0:0 < ts.length
 rv:∃(r:RvS) (tx:List UInt8),σ.rs[ts.length - 1]?=some r/\ts[ts.length - 1]?=some tx/\p.now.s.data.toList=tx/\p.now.ms=r.ms/\p.now.h=r.x.h/\p.num=r.x.num
 pool:(p.now.mv,p.now.ms) ∈ p.pool
 hl:p.hs.length=n
 hp:∀(k:Nat) (x:HdV),p.hs[k]?=some x->(x.mv,x.ms) ∈ p.pool
 cl:p.cl=decide (lk σ.s.vs 0≠0)
section
variable {B:Nat} {w0 w w':World} {R:List Res} {σ σ':RS} {bs:List Bx} {p:PlS} {y:Ly} {n m:Nat} {ts:List (List UInt8)}
theorem p_blk (M:Mem B w0 (σ.L B++(boxR bs::(p.L B σ.r.sb σ.g n++R))) w):Blk w p.g 51 (p.cells σ.r.sb σ.g n):=M.each 10 _ rfl
theorem p_hs (M:Mem B w0 (σ.L B++(boxR bs::(p.L B σ.r.sb σ.g n++R))) w):Blk w p.hb 49 (hdCells p.hs).toArray:=M.each 11 _ rfl
theorem p_pool (M:Mem B w0 (σ.L B++(boxR bs::(p.L B σ.r.sb σ.g n++R))) w):(poolR B p.pool).holds w:=M.each 12 _ rfl
theorem p_same (M:Mem B w0 (σ'.L B++(boxR bs::(p.L B σ.r.sb σ.g n++R))) w) (S:Same σ σ'):Mem B w0 (σ'.L B++(boxR bs::(p.L B σ'.r.sb σ'.g n++R))) w:=by
 rw [S.sb,S.g]
 exact M
theorem p_put (M:Mem B w0 (σ.L B++(boxR bs::(p.L B σ.r.sb σ.g n++R))) w) (o:Nat) (u:Value) (p':PlS) (e:(p.cells σ.r.sb σ.g n).setIfInBounds o u=p'.cells σ.r.sb σ.g n) (h1:p'.g=p.g) (h2:p'.hb=p.hb) (h3:p'.hs=p.hs) (h4:p'.pool=p.pool):Mem B w0 (σ.L B++(boxR bs::(p'.L B σ.r.sb σ.g n++R))) (w.setCell ⟨p.g,o,none⟩ u):=by
 have t:=M.put (i:=10) (g:=p.g) (t:=51) (cs:=p.cells σ.r.sb σ.g n) rfl o u
 have e2:σ.L B++(boxR bs::(p'.L B σ.r.sb σ.g n++R))=(σ.L B++(boxR bs::(p.L B σ.r.sb σ.g n++R))).set 10 (blkR p.g 51 ((p.cells σ.r.sb σ.g n).setIfInBounds o u)):=by
  rw [e]
  simp only [PlS.L,h1,h2,h3,h4]
  rfl
 rw [e2]
 exact t
theorem p_set (M:Mem B w0 (σ.L B++(boxR bs::(p.L B σ.r.sb σ.g n++R))) w) (p':PlS) (h1:p'.g=p.g) (h2:p'.hb=p.hb) (h3:p'.hs=p.hs) (h4:p'.pool=p.pool) (c:Ch (fun k=>k=p.g) w w') (hb:Blk w' p.g 51 (p'.cells σ.r.sb σ.g n)):Mem B w0 (σ.L B++(boxR bs::(p'.L B σ.r.sb σ.g n++R))) w':=by
 have t:=M.upd (i:=10) (blkR p.g 51 (p'.cells σ.r.sb σ.g n)) rfl c (fun _ _ e=>e) hb (fun _ e=>.inl e)
 have e2:σ.L B++(boxR bs::(p'.L B σ.r.sb σ.g n++R))=(σ.L B++(boxR bs::(p.L B σ.r.sb σ.g n++R))).set 10 (blkR p.g 51 (p'.cells σ.r.sb σ.g n)):=by
  simp only [PlS.L,h1,h2,h3,h4]
  rfl
 rw [e2]
 exact t
theorem p_mark (M:Mem B w0 (σ.L B++(boxR bs::(p.L B σ.r.sb σ.g n++R))) w) {v:Value} {l:List Mk} (c:Ch (fun _=>False) w w') (h:w'.ownsRow w.heap.size 160 3 v l.length (mkCells l)):Mem B w0 (σ.L B++(boxR bs::(PlS.L B { p with pool:=p.pool++[(v,l)] } σ.r.sb σ.g n++R))) w':=by
 have hp:=p_pool M
 exact M.upd (i:=12) (poolR B (p.pool++[(v,l)])) rfl c (fun _ _ e=>e.elim) (fun q hq=>by
  rcases List.mem_append.1 hq with hq | hq
  ·exact c.own (hp q hq) (fun _ _ e=>e)
  ·rw [List.mem_singleton.1 hq]
   exact own_mono h M.bz) (fun k hk=>by
  obtain ⟨q,hq,hk⟩:=hk
  rcases List.mem_append.1 hq with hq | hq
  ·exact .inl ⟨q,hq,hk⟩
  ·rw [List.mem_singleton.1 hq] at hk
   exact .inr ((h.lt k hk).1))
theorem PlOk.same (h:PlOk p σ n ts) (S:Same σ σ') (h0:lk σ'.s.vs 0=lk σ.s.vs 0) (h1:lk σ'.s.vs 1=lk σ.s.vs 1):PlOk p σ' n ts:=
 ⟨h.now,by rw [h1];exact h.rt,h.t0,by rw [S.rs];exact h.rv,h.pool,h.hl,h.hp,by rw [h0];exact h.cl⟩
end
end Go.Proofs.YtjcdknhejcbpiaaGreat
