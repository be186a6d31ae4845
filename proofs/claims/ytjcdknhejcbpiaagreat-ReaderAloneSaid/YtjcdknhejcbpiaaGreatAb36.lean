/- Lemmas that the proof of the last text leans on; no condition. -/
import Derived.Test.YtjcdknhejcbpiaaGreatAb35
namespace Go.Proofs.YtjcdknhejcbpiaaGreat
open Go.RowKit
set_option linter.unusedVariables false
set_option linter.unusedSimpArgs false
set_option linter.unusedSectionVars false
def errP (e:Int):Pg:=.loc { RsV.zero with er:=e }
def RunP (s:Snp) (tx:List UInt8) (pg:Pg):Cop→Prop
 | .acq=>False
 | .len k=>pg=.loc { RsV.zero with b:=(mL tx).b,r:=(mL tx).r,l:=(mL tx).l }
 | .read k a b=>(tx.length < a+b∧pg=errP 3)∨(a+b≤tx.length∧b=0∧pg=.take k false a)∨(a+b≤tx.length∧0 < b∧∃jx,s.x.at'=hdl jx∧pg=.byte k false tx a b 0 jx a ⟨0,0,0⟩)
 | .rune k b=>(cntP begB (u8s tx) < b∧pg=errP 3)∨(b=cntP begB (u8s tx)∧pg=.loc { RsV.zero with at':=(tx.length:Int) })∨(b < cntP begB (u8s tx)∧∃jx,s.x.at'=hdl jx∧pg=.rune k tx b jx b ⟨0,0,0⟩)
 | .line k b=>(cntP isLF (u8s tx) < b∧pg=errP 3)∨(b=0∧pg=.loc RsV.zero)∨(b≤cntP isLF (u8s tx)∧0 < b∧∃jx,s.x.at'=hdl jx∧pg=.line k tx (b - 1) jx b ⟨0,0,0⟩)
 | .mark k i=>((∀x ∈ s.ms,x.id≠i)∧pg=errP 7)∨∃x ∈ s.ms,x.id=i∧pg=.loc { RsV.zero with at':=x.at',g:=x.g }
 | .seek k a=>(tx.length < a∧pg=errP 3)∨(a≤tx.length∧pg=.seek k a)
 | .next k b=>∃c:Nat,s.cu=(c:Int)∧((min b (tx.length - c)=0∧pg=.take k true c)∨(0 < min b (tx.length - c)∧∃jx,s.x.at'=hdl jx∧pg=.byte k true tx c (min b (tx.length - c)) 0 jx c ⟨0,0,0⟩))
 | .rel k=>pg=.rel k
def StartP (σ:RS) (ts:List (List UInt8)) (c:Cop) (pg:Pg):Prop:=
 (c=.acq∧pg=.clos)∨(c≠.acq∧((σ.sl[c.slot]?=some none∧pg=errP 16)∨∃s i tx,σ.sl[c.slot]?=some (some s)∧s.ix=((i:Nat):Int)∧ts[i]?=some tx∧RunP s tx pg c))
def BegP (σ:RS) (y:Ly) (n m:Nat) (ts:List (List UInt8)) (c:Cop) (σ':RS) (bs':List Bx):Prop:=
 Same σ σ'∧σ'.s=σ.s∧σ'.sl=σ.sl∧σ'.ps=σ.ps∧σ'.r.op=c.op∧RnOk σ' y n m ts none∧∃pg,PgAt σ' bs' n m ts pg∧pg.hk=none∧pg.ended=false∧StartP σ ts c pg
def BegTo (B:Nat) (w0:World) (R:List Res) (σ:RS) (y:Ly) (n m:Nat) (ts:List (List UInt8)) (c:Cop) (e:Ending) (w':World):Prop:=
 e=.returned (.int .i64 0)∧∃σ' bs',Mem B w0 (σ'.L B++(boxR bs'::R)) w'∧BegP σ y n m ts c σ' bs'
def RS.beg (σ:RS) (op:OpV):RS:={ σ with r:={ σ.r with op:=op,busy:=true,done:=false } }
section
variable {B:Nat} {w0 w:World} {R:List Res} {σ σ':RS} {bs':List Bx} {y:Ly} {n m:Nat} {ts:List (List UInt8)}
theorem m_rdz (M:Mem B w0 (σ.L B++R) w) {w':World} {r':Rd} {v:Value} {e:Ending} (h:RdSet σ.g r' w v e w') (hs:r'.sb=σ.r.sb) (ht:r'.tx=.slice none 0 0):Mem B w0 (RS.L B { σ with r:=r',tx:=[] }++R) w':=by
 have t:=M.upd (i:=0) (blkR σ.g 111 r'.cells) rfl h.2.2 (fun _ _ e=>e) h.2.1 (fun _ e=>.inl e)
 have u:=t.upd (i:=8) (rowR B 5 1 0 (.slice none 0 0) []) rfl (Ch.refl (fun _=>False) w') (fun _ _ e=>e.elim) (World.ownsRow_nil _ _ _ _) (fun k e=>by cases e)
 have e:RS.L B { σ with r:=r',tx:=[] }++R=((σ.L B++R).set 0 (blkR σ.g 111 r'.cells)).set 8 (rowR B 5 1 0 (.slice none 0 0) []):=by
  simp only [RS.L,hs,ht];rfl
 rw [e]
 exact u
theorem m_setbox (M:Mem B w0 (σ.L B++(boxR bs'::R)) w) {w':World} {r':Rd} {v:Value} {e:Ending} (h:RdSet σ.g r' w v e w') (hs:r'.sb=σ.r.sb) (ht:r'.tx=σ.r.tx) (bs2:List Bx) (hb:∀b ∈ bs2,Blk w' b.g b.t b.cs) (hn:∀b ∈ bs2,w.heap.size≤b.g):Mem B w0 (RS.L B { σ with r:=r' }++(boxR bs2::R)) w':=by
 have t:=M.upd2 (i:=9) (j:=0) (boxR bs2) (blkR σ.g 111 r'.cells) rfl rfl (by decide) h.2.2 (fun _ _ e=>.inr e) hb h.2.1 (fun k hk=>by
  obtain ⟨b,hb',rfl⟩:=hk
  exact .inr (hn b hb')) (fun _ e=>e)
 have e:RS.L B { σ with r:=r' }++(boxR bs2::R)=((σ.L B++(boxR bs'::R)).set 9 (boxR bs2)).set 0 (blkR σ.g 111 r'.cells):=by
  simp only [RS.L,hs,ht];rfl
 rw [e]
 exact t
theorem begin_of (M:Mem B w0 (σ.L B++(boxR bs'::R)) w) (K:RnOk σ y n m ts none) (hb:σ.r.busy=false) (c:Cop)
  (hst:∀W,Mem B w0 (RS.L B (σ.beg c.op)++(boxR bs'::R)) W→RnOk (σ.beg c.op) y n m ts none→Calls Tryz.prog 38 #[.pointer (some ⟨σ.g,0,none⟩)] W fun e w'=>e=.returned (.tuple #[])∧∃σ' bs',Mem B w0 (σ'.L B++(boxR bs'::R)) w'∧BegP σ y n m ts c σ' bs') :
  Calls Tryz.prog 13 #[.pointer (some ⟨σ.g,0,none⟩),c.op.v] w (BegTo B w0 R σ y n m ts c):=by
 refine (rbegin_any σ.g σ.r c.op w (m_rd M) hb (by cases c <;> simp [Cop.op,acqOp]) (by cases c <;> simp [Cop.op,acqOp]) (fun W w'=>∃σ' bs',Mem B w0 (σ'.L B++(boxR bs'::R)) w'∧BegP σ y n m ts c σ' bs') fun W hW cW=>?_).mono ?_
 ·have M1:Mem B w0 (RS.L B (σ.beg c.op)++(boxR bs'::R)) W:=m_set M (v:=.tuple #[]) (e:=.returned (.tuple #[])) ⟨rfl,hW,cW⟩ rfl rfl
  exact hst W M1 (K.same ⟨rfl,rfl,rfl,rfl,rfl,rfl,rfl,rfl,rfl,rfl,rfl,rfl,rfl,rfl,rfl,rfl⟩ (K.O.rd _ σ.tx rfl rfl) rfl rfl rfl)
 ·rintro e w' ⟨rfl,W,_,h⟩
  exact ⟨rfl,h⟩
theorem begin_err (M:Mem B w0 (σ.L B++(boxR bs'::R)) w) (K:RnOk σ y n m ts none) (hb:σ.r.busy=false) (c:Cop) (er:Int) (he:er≠0) (hs:StartP σ ts c (errP er))
  (hck:∀W,Mem B w0 (RS.L B (σ.beg c.op)++(boxR bs'::R)) W→Calls Tryz.prog 61 #[.pointer (some ⟨σ.g,0,none⟩),c.op.v] W fun e w'=>e=.returned (.int .i64 er)∧Ch (fun _=>False) W w') :
  Calls Tryz.prog 13 #[.pointer (some ⟨σ.g,0,none⟩),c.op.v] w (BegTo B w0 R σ y n m ts c):=by
 refine begin_of M K hb c fun W M1 K1=>?_
 refine (start_bad σ.g (σ.beg c.op).r er W (m_rd M1) he fun W' cW=>hck W' (M1.keep cW)).mono ?_
 rintro e w' ⟨rb,xb,hset,b1,b2,h1,h2⟩
 have M2:=m_setbox M1 hset rfl rfl [⟨rb,45,#[.pointer (some ⟨σ.g,0,none⟩)]⟩,⟨xb,41,RsV.arr { RsV.zero with er:=er }⟩] (fun b hb=>by
  simp at hb
  rcases hb with rfl | rfl
  ·exact b1
  ·exact b2) (fun b hb=>by
  simp at hb
  rcases hb with rfl | rfl
  ·exact h1
  ·exact Nat.le_trans h1 (Nat.le_of_lt h2))
 obtain ⟨rfl,_,_⟩:=hset
 exact ⟨rfl,_,_,M2,⟨rfl,rfl,rfl,rfl,rfl,rfl,rfl,rfl,rfl,rfl,rfl,rfl,rfl,rfl,rfl,rfl⟩,rfl,rfl,rfl,rfl,K1.same ⟨rfl,rfl,rfl,rfl,rfl,rfl,rfl,rfl,rfl,rfl,rfl,rfl,rfl,rfl,rfl,rfl⟩ (K1.O.rd _ σ.tx rfl rfl) rfl rfl rfl,errP er,⟨rfl,rfl,rfl,rb,xb,rfl,rfl⟩,rfl,rfl,hs⟩
theorem begin_loc (M:Mem B w0 (σ.L B++(boxR bs'::R)) w) (K:RnOk σ y n m ts none) (hb:σ.r.busy=false) (c:Cop) (x:RsV) (hs:StartP σ ts c (.loc x))
  (hck:∀W,Mem B w0 (RS.L B (σ.beg c.op)++(boxR bs'::R)) W→Calls Tryz.prog 38 #[.pointer (some ⟨σ.g,0,none⟩)] W fun e w'=>∃rb xb,RdSet σ.g { (σ.beg c.op).r with ph:=1,dv:=locV rb xb } W (.tuple #[]) e w'∧Blk w' rb 45 #[.pointer (some ⟨σ.g,0,none⟩)]∧Blk w' xb 41 (RsV.arr x)∧W.heap.size≤rb∧rb < xb) :
  Calls Tryz.prog 13 #[.pointer (some ⟨σ.g,0,none⟩),c.op.v] w (BegTo B w0 R σ y n m ts c):=by
 refine begin_of M K hb c fun W M1 K1=>?_
 refine (hck W M1).mono ?_
 rintro e w' ⟨rb,xb,hset,b1,b2,h1,h2⟩
 have M2:=m_setbox M1 hset rfl rfl [⟨rb,45,#[.pointer (some ⟨σ.g,0,none⟩)]⟩,⟨xb,41,RsV.arr x⟩] (fun b hb=>by
  simp at hb
  rcases hb with rfl | rfl
  ·exact b1
  ·exact b2) (fun b hb=>by
  simp at hb
  rcases hb with rfl | rfl
  ·exact h1
  ·exact Nat.le_trans h1 (Nat.le_of_lt h2))
 obtain ⟨rfl,_,_⟩:=hset
 exact ⟨rfl,_,_,M2,⟨rfl,rfl,rfl,rfl,rfl,rfl,rfl,rfl,rfl,rfl,rfl,rfl,rfl,rfl,rfl,rfl⟩,rfl,rfl,rfl,rfl,K1.same ⟨rfl,rfl,rfl,rfl,rfl,rfl,rfl,rfl,rfl,rfl,rfl,rfl,rfl,rfl,rfl,rfl⟩ (K1.O.rd _ σ.tx rfl rfl) rfl rfl rfl,.loc x,⟨rfl,rfl,rfl,rb,xb,rfl,rfl⟩,rfl,rfl,hs⟩
theorem slot_case (K:RnOk σ y n m ts none) {k:Nat} (hk:k < n):σ.sl[k]?=some none∨∃s i tx,σ.sl[k]?=some (some s)∧s.ix=((i:Nat):Int)∧ts[i]?=some tx∧RevOk σ.ns s.x tx∧0≤s.cu∧s.cu≤s.x.b∧tx.length≤100000∧s.ms.length≤4:=by
 rcases K.pn k hk (fun e=>by cases e) with ⟨h,_⟩ | ⟨s,_,_,h,_⟩
 ·exact .inl h
 ·obtain ⟨i,r,hr,e1,e2,e3,e4,e5⟩:=K.sn k s h
  have hil:i < ts.length:=by rw [K.nt];exact (List.getElem?_eq_some_iff.1 hr).1
  obtain ⟨tx,htx⟩:∃tx,ts[i]?=some tx:=⟨_,List.getElem?_eq_getElem hil⟩
  obtain ⟨h1,_,h3,_⟩:=K.rv i r tx hr htx
  exact .inr ⟨s,i,tx,h,e3,htx,by rw [e1];exact h1,e4,e5,K.tl tx (List.mem_of_getElem? htx),by rw [e2];exact h3⟩
theorem sptr_at {l:List (Option Snp)} {k:Nat} {o:Option Snp} (h:l[k]?=some o):(l.map sptr)[k]?=some (o.map Snp.g):=by
 rw [List.getElem?_map,h]
 rfl
theorem begin_free (M:Mem B w0 (σ.L B++(boxR bs'::R)) w) (K:RnOk σ y n m ts none) (hb:σ.r.busy=false) (c:Cop) (hc:c≠.acq) (hk:c.slot < n) (hsl:c.op.sl=(c.slot:Int)) (h5:c.op.k≠5) (hs:σ.sl[c.slot]?=some none)
  (hF:Formed σ.g (σ.beg c.op).r c.op):Calls Tryz.prog 13 #[.pointer (some ⟨σ.g,0,none⟩),c.op.v] w (BegTo B w0 R σ y n m ts c):=by
 refine begin_err M K hb c 16 (by decide) (.inr ⟨hc,.inl ⟨hs,rfl⟩⟩) fun W M1=>?_
 exact check_free σ.g σ.lb n c.slot (σ.beg c.op).r c.op _ W (m_rd M1) K.O.sl (m_sl M1).b hsl hk (sptr_at hs) hF h5
theorem beg_acq (M:Mem B w0 (σ.L B++(boxR bs'::R)) w) (K:RnOk σ y n m ts none) (hb:σ.r.busy=false) :
  Calls Tryz.prog 13 #[.pointer (some ⟨σ.g,0,none⟩),Cop.acq.op.v] w (BegTo B w0 R σ y n m ts .acq):=by
 refine begin_of M K hb .acq fun W M1 K1=>?_
 refine (start_acq σ.g (σ.beg acqOp).r W (m_rd M1) rfl).mono ?_
 intro e w' hset
 have M2:=m_set M1 hset rfl rfl
 obtain ⟨rfl,_,_⟩:=hset
 exact ⟨rfl,_,_,M2,⟨rfl,rfl,rfl,rfl,rfl,rfl,rfl,rfl,rfl,rfl,rfl,rfl,rfl,rfl,rfl,rfl⟩,rfl,rfl,rfl,rfl,K1.same ⟨rfl,rfl,rfl,rfl,rfl,rfl,rfl,rfl,rfl,rfl,rfl,rfl,rfl,rfl,rfl,rfl⟩ (K1.O.rd _ σ.tx rfl rfl) rfl rfl rfl,.clos,⟨rfl,rfl,rfl,rfl,rfl⟩,rfl,rfl,.inl ⟨rfl,rfl⟩⟩
theorem beg_rel {k:Nat} (M:Mem B w0 (σ.L B++(boxR bs'::R)) w) (K:RnOk σ y n m ts none) (hb:σ.r.busy=false) (hk:k < n) :
  Calls Tryz.prog 13 #[.pointer (some ⟨σ.g,0,none⟩),(Cop.rel k).op.v] w (BegTo B w0 R σ y n m ts (.rel k)):=by
 rcases slot_case K hk with h | ⟨s,i,tx,h,h1,h2,h3,h4,h5,h6,h7⟩
 ·exact begin_free M K hb (.rel k) (fun e=>by cases e) hk rfl (by simp [Cop.op]) h (fm13 σ.g σ.lb n _ k K.O.sl (by omega) (by omega))
 ·refine begin_of M K hb (.rel k) fun W M1 K1=>?_
  refine (start_rel σ.g σ.lb n k s.g (σ.beg (Cop.rel k).op).r _ s.x s.mv s.dv s.ix s.cu W (m_rd M1) K.O.sl (m_sl M1).b rfl hk (sptr_at h) ((m_sl M1).s k s h).b).mono ?_
  intro e w' hset
  have M2:=m_set M1 hset rfl rfl
  obtain ⟨rfl,_,_⟩:=hset
  exact ⟨rfl,_,_,M2,⟨rfl,rfl,rfl,rfl,rfl,rfl,rfl,rfl,rfl,rfl,rfl,rfl,rfl,rfl,rfl,rfl⟩,rfl,rfl,rfl,rfl,K1.same ⟨rfl,rfl,rfl,rfl,rfl,rfl,rfl,rfl,rfl,rfl,rfl,rfl,rfl,rfl,rfl,rfl⟩ (K1.O.rd _ σ.tx rfl rfl) rfl rfl rfl,.rel k,⟨rfl,rfl,rfl,rfl,rfl,hk,s,h⟩,rfl,rfl,.inr ⟨nofun,.inr ⟨s,i,tx,h,h1,h2,rfl⟩⟩⟩
end
end Go.Proofs.YtjcdknhejcbpiaaGreat
