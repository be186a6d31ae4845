/- Lemmas; no condition. -/
import Derived.Test.YtjcdknhejcbpiaaGreatSb37
import Derived.Deep.CutRange
set_option maxRecDepth 100000
set_option maxHeartbeats 1000000
namespace Go.Proofs.YtjcdknhejcbpiaaGreat
open Go.RowKit
set_option linter.unusedVariables false
set_option linter.unusedSimpArgs false
set_option linter.unusedSectionVars false
theorem rev_tree {ns:List An} {x:Rv} {tx:List UInt8} (h:RevOk ns x tx) (h0:0 < tx.length):∃jx t,x.at'=hdl jx/\Nt ns jx t/\t.text=tx/\x.h=(t.ht:Int)/\t.good/\∃s:ByteArray,buildT s=[t]:=by
 obtain ⟨_,_,_,⟨h,_⟩ | h⟩:=h
 ·rw [h] at h0
  cases h0
 ·exact h
theorem read_z (g:Nat) (r:Rd) (x:Rv) (pos num:Int) (h:num=0):Rd.read g r x pos num={ r with tx:=.slice none 0 0,next:=pos,need:=num,ph:=1,dv:=takenF g }:=if_pos h
theorem read_n (g:Nat) (r:Rd) (x:Rv) (pos num:Int) (h:num≠0):Rd.read g r x pos num={ r with tx:=.slice none 0 0,next:=pos,need:=num,ph:=12,dv:=visF g,at':=x.at',rest:=pos,base:=⟨0,0,0⟩ }:=if_neg h
section
variable {B:Nat} {w0 w:World} {R:List Res} {σ σ':RS} {bs':List Bx} {y:Ly} {n m:Nat} {ts:List (List UInt8)}
theorem beg_len {k:Nat} (M:Mem B w0 (σ.L B++(boxR bs'::R)) w) (K:RnOk σ y n m ts none) (hb:σ.r.busy=false) (hk:k < n) :
  Calls Tryz.prog 13 #[.pointer (some ⟨σ.g,0,none⟩),(Cop.len k).op.v] w (BegTo B w0 R σ y n m ts (.len k)):=by
 rcases slot_case K hk with h | ⟨s,i,tx,h,h1,h2,h3,h4,h5,h6,h7⟩
 ·exact begin_free M K hb (.len k) (fun e=>by cases e) hk rfl (by simp [Cop.op]) h (fm6 σ.g σ.lb n _ k K.O.sl (by omega) (by omega))
 ·obtain ⟨e1,e2,e3,_⟩:=h3
  refine begin_loc M K hb (.len k) _ (.inr ⟨nofun,.inr ⟨s,i,tx,h,h1,h2,rfl⟩⟩) fun W M1=>?_
  have:=start_6 σ.g σ.lb n k s.g (σ.beg (Cop.len k).op).r _ s.x s.mv s.dv s.ix s.cu W (m_rd M1) K.O.sl (m_sl M1).b rfl hk (sptr_at h) ((m_sl M1).s k s h).b
  rw [e1,e2,e3] at this
  exact this
theorem begin_set (M:Mem B w0 (σ.L B++(boxR bs'::R)) w) (K:RnOk σ y n m ts none) (hb:σ.r.busy=false) (c:Cop) (r':Rd) (pg:Pg) (hr1:r'.sb=σ.r.sb) (hr2:r'.sl=σ.r.sl) (hr3:r'.cl=σ.r.cl) (hr4:r'.op=c.op) (tx':List UInt8) (ht:(r'.tx=.slice none 0 0/\tx'=[])\/(r'.tx=σ.r.tx/\tx'=σ.tx)) (hp:PgAt { σ with r:=r',tx:=tx' } bs' n m ts pg) (hk:pg.hk=none) (he:pg.ended=false) (hs:StartP σ ts c pg)
  (hck:∀W,Mem B w0 (RS.L B (σ.beg c.op)++(boxR bs'::R)) W->Calls Tryz.prog 38 #[.pointer (some ⟨σ.g,0,none⟩)] W (RdSet σ.g r' W (.tuple #[]))) :
  Calls Tryz.prog 13 #[.pointer (some ⟨σ.g,0,none⟩),c.op.v] w (BegTo B w0 R σ y n m ts c):=by
 refine begin_of M K hb c fun W M1 K1=>?_
 refine (hck W M1).mono ?_
 intro e w' hset
 have M2:Mem B w0 (RS.L B { σ with r:=r',tx:=tx' }++(boxR bs'::R)) w':=by
  rcases ht with ⟨h1,h2⟩ | ⟨h1,h2⟩
  ·rw [h2]
   exact m_rdz M1 hset hr1 h1
  ·rw [h2]
   exact m_set M1 hset hr1 h1
 obtain ⟨rfl,_,_⟩:=hset
 have S:Same σ { σ with r:=r',tx:=tx' }:=⟨rfl,hr1,hr3,rfl,rfl,rfl,rfl,rfl,rfl,rfl,rfl,rfl,rfl,rfl,rfl,rfl⟩
 exact ⟨rfl,_,_,M2,S,rfl,rfl,rfl,hr4,K.same S (K.O.rd r' tx' hr2 hr3) rfl rfl rfl,pg,hp,hk,he,hs⟩
theorem beg_read {k a b:Nat} (M:Mem B w0 (σ.L B++(boxR bs'::R)) w) (K:RnOk σ y n m ts none) (hb:σ.r.busy=false) (hk:k < n) :
  Calls Tryz.prog 13 #[.pointer (some ⟨σ.g,0,none⟩),(Cop.read k a b).op.v] w (BegTo B w0 R σ y n m ts (.read k a b)):=by
 rcases slot_case K hk with h | ⟨s,i,tx,h,h1,h2,h3,h4,h5,h6,h7⟩
 ·exact begin_free M K hb (.read k a b) (fun e=>by cases e) hk rfl (by simp [Cop.op]) h (fm7 σ.g σ.lb n _ k a b K.O.sl (by omega) (by omega) (by omega) (by omega))
 ·have hxb:s.x.b=(tx.length:Int):=h3.1
  by_cases hab:a+b<=tx.length
  {
 have hst:∀W,Mem B w0 (RS.L B (σ.beg (Cop.read k a b).op)++(boxR bs'::R)) W->Calls Tryz.prog 38 #[.pointer (some ⟨σ.g,0,none⟩)] W (RdSet σ.g (Rd.read σ.g (σ.beg (Cop.read k a b).op).r s.x a b) W (.tuple #[])):=fun W M1=>
  start_7 σ.g σ.lb n k s.g (σ.beg (Cop.read k a b).op).r _ s.x s.mv s.dv s.ix s.cu a b W (m_rd M1) K.O.sl (m_sl M1).b rfl hk (sptr_at h) ((m_sl M1).s k s h).b (by omega) (by omega) (by omega) (by omega)
 by_cases hb0:b=0
 ·subst hb0
  refine begin_set M K hb (.read k a 0) { (σ.beg (Cop.read k a 0).op).r with tx:=.slice none 0 0,next:=(a:Int),need:=((0:Nat):Int),ph:=1,dv:=takenF σ.g } (.take k false a) rfl rfl rfl rfl [] (.inl ⟨rfl,rfl⟩) ⟨rfl,rfl,rfl,rfl,rfl,rfl,rfl,rfl,s,h,by omega,by omega⟩ rfl rfl (.inr ⟨nofun,.inr ⟨s,i,tx,h,h1,h2,.inr (.inl ⟨hab,rfl,rfl⟩)⟩⟩) fun W M1=>?_
  have:=hst W M1
  rw [read_z _ _ _ _ ((0:Nat):Int) rfl] at this
  exact this
 ·obtain ⟨jx,t,t1,t2,t3,_⟩:=rev_tree h3 (by omega)
  have D:Dn (fun m=>m.b) tx σ.ns jx ((a+0:Nat):Int) (a:Int) ⟨0,0,0⟩:=by
   have:=Dn.start (f:=fun m=>m.b) rfl t2 (n:=((a+0:Nat):Int)) (by omega) (by rw [t3];show _ < (tx.length:Int);omega)
   rw [t3] at this
   exact this
  refine begin_set M K hb (.read k a b) { (σ.beg (Cop.read k a b).op).r with tx:=.slice none 0 0,next:=(a:Int),need:=(b:Int),ph:=12,dv:=visF σ.g,at':=s.x.at',rest:=(a:Int),base:=⟨0,0,0⟩ } (.byte k false tx a b 0 jx a ⟨0,0,0⟩) rfl rfl rfl rfl [] (.inl ⟨rfl,rfl⟩) ⟨rfl,rfl,rfl,rfl,rfl,rfl,⟨s,i,h,h1,h2⟩,t1,rfl,rfl,rfl,rfl,by omega,hab,rfl,D⟩ rfl rfl (.inr ⟨nofun,.inr ⟨s,i,tx,h,h1,h2,.inr (.inr ⟨hab,by omega,jx,t1,rfl⟩)⟩⟩) fun W M1=>?_
  have:=hst W M1
  rw [read_n _ _ _ _ _ (by omega:¬((b:Int)=0))] at this
  exact this
 }
  ·refine begin_err M K hb (.read k a b) 3 (by decide) (.inr ⟨nofun,.inr ⟨s,i,tx,h,h1,h2,.inl ⟨by omega,rfl⟩⟩⟩) fun W M1=>?_
   have:=check_7 σ.g σ.lb n k s.g (σ.beg (Cop.read k a b).op).r _ s.x s.mv s.dv s.ix s.cu W (m_rd M1) K.O.sl (m_sl M1).b hk (sptr_at h) ((m_sl M1).s k s h).b a b (by omega) (by omega) (fm7 σ.g σ.lb n _ k a b K.O.sl (by omega) (by omega) (by omega) (by omega))
   rw [if_pos (by omega)] at this
   exact this
theorem beg_next {k b:Nat} (M:Mem B w0 (σ.L B++(boxR bs'::R)) w) (K:RnOk σ y n m ts none) (hb:σ.r.busy=false) (hk:k < n) :
  Calls Tryz.prog 13 #[.pointer (some ⟨σ.g,0,none⟩),(Cop.next k b).op.v] w (BegTo B w0 R σ y n m ts (.next k b)):=by
 rcases slot_case K hk with h | ⟨s,i,tx,h,h1,h2,h3,h4,h5,h6,h7⟩
 ·exact begin_free M K hb (.next k b) (fun e=>by cases e) hk rfl (by simp [Cop.op]) h (fm12 σ.g σ.lb n _ k b K.O.sl (by omega) (by omega) (by omega))
 ·have hxb:s.x.b=(tx.length:Int):=h3.1
  obtain ⟨c,hc⟩:∃c:Nat,s.cu=(c:Int):=⟨s.cu.toNat,by omega⟩
  have hmin:min (b:Int) (s.x.b - s.cu)=((min b (tx.length - c):Nat):Int):=by rw [hxb,hc];omega
  have hst:∀W,Mem B w0 (RS.L B (σ.beg (Cop.next k b).op)++(boxR bs'::R)) W->Calls Tryz.prog 38 #[.pointer (some ⟨σ.g,0,none⟩)] W (RdSet σ.g (Rd.read σ.g (σ.beg (Cop.next k b).op).r s.x c ((min b (tx.length - c):Nat):Int)) W (.tuple #[])):=fun W M1=>by
   have:=start_12 σ.g σ.lb n k s.g (σ.beg (Cop.next k b).op).r _ s.x s.mv s.dv s.ix s.cu b W (m_rd M1) K.O.sl (m_sl M1).b rfl hk (sptr_at h) ((m_sl M1).s k s h).b (by omega) (by omega) ⟨h4,h5⟩
   rw [hmin,hc] at this
   exact this
  by_cases hb0:min b (tx.length - c)=0
  ·rw [hb0] at hst
   refine begin_set M K hb (.next k b) { (σ.beg (Cop.next k b).op).r with tx:=.slice none 0 0,next:=(c:Int),need:=((0:Nat):Int),ph:=1,dv:=takenF σ.g } (.take k true c) rfl rfl rfl rfl [] (.inl ⟨rfl,rfl⟩) ⟨rfl,rfl,rfl,rfl,rfl,rfl,rfl,rfl,s,h,by omega,by omega⟩ rfl rfl (.inr ⟨nofun,.inr ⟨s,i,tx,h,h1,h2,c,hc,.inl ⟨hb0,rfl⟩⟩⟩) fun W M1=>?_
   have:=hst W M1
   rw [read_z _ _ _ _ ((0:Nat):Int) rfl] at this
   exact this
  ·obtain ⟨jx,t,t1,t2,t3,_⟩:=rev_tree h3 (by omega)
   have D:Dn (fun m=>m.b) tx σ.ns jx ((c+0:Nat):Int) (c:Int) ⟨0,0,0⟩:=by
    have:=Dn.start (f:=fun m=>m.b) rfl t2 (n:=((c+0:Nat):Int)) (by omega) (by rw [t3];show _ < (tx.length:Int);omega)
    rw [t3] at this
    exact this
   refine begin_set M K hb (.next k b) { (σ.beg (Cop.next k b).op).r with tx:=.slice none 0 0,next:=(c:Int),need:=((min b (tx.length - c):Nat):Int),ph:=12,dv:=visF σ.g,at':=s.x.at',rest:=(c:Int),base:=⟨0,0,0⟩ } (.byte k true tx c (min b (tx.length - c)) 0 jx c ⟨0,0,0⟩) rfl rfl rfl rfl [] (.inl ⟨rfl,rfl⟩) ⟨rfl,rfl,rfl,rfl,rfl,rfl,⟨s,i,h,h1,h2⟩,t1,rfl,rfl,rfl,rfl,by omega,by omega,rfl,D⟩ rfl rfl (.inr ⟨nofun,.inr ⟨s,i,tx,h,h1,h2,c,hc,.inr ⟨by omega,jx,t1,rfl⟩⟩⟩) fun W M1=>?_
   have:=hst W M1
   rw [read_n _ _ _ _ _ (by omega:¬(((min b (tx.length - c):Nat):Int)=0))] at this
   exact this
theorem beg_rune {k b:Nat} (M:Mem B w0 (σ.L B++(boxR bs'::R)) w) (K:RnOk σ y n m ts none) (hb:σ.r.busy=false) (hk:k < n) :
  Calls Tryz.prog 13 #[.pointer (some ⟨σ.g,0,none⟩),(Cop.rune k b).op.v] w (BegTo B w0 R σ y n m ts (.rune k b)):=by
 rcases slot_case K hk with h | ⟨s,i,tx,h,h1,h2,h3,h4,h5,h6,h7⟩
 ·exact begin_free M K hb (.rune k b) (fun e=>by cases e) hk rfl (by simp [Cop.op]) h (fm8 σ.g σ.lb n _ k b K.O.sl (by omega) (by omega) (by omega))
 ·have hxb:s.x.b=(tx.length:Int):=h3.1
  have hxr:s.x.r=(cntP begB (u8s tx):Int):=h3.2.1
  rcases Nat.lt_trichotomy b (cntP begB (u8s tx)) with hlt | heq | hgt
  ·have htx:0 < tx.length:=by
    rcases Nat.eq_zero_or_pos tx.length with e | e
    ·rw [List.eq_nil_of_length_eq_zero e] at hlt
     exact absurd hlt (Nat.not_lt_zero _)
    ·exact e
   obtain ⟨jx,t,t1,t2,t3,_⟩:=rev_tree h3 htx
   have D:Dn (fun m=>m.r) tx σ.ns jx (b:Int) (b:Int) ⟨0,0,0⟩:=by
    have:=Dn.start (f:=fun m=>m.r) rfl t2 (n:=(b:Int)) (by omega) (by rw [t3];show _ < (cntP begB (u8s tx):Int);omega)
    rw [t3] at this
    exact this
   refine begin_set M K hb (.rune k b) { (σ.beg (Cop.rune k b).op).r with ph:=12,dv:=visRF σ.g,at':=s.x.at',rest:=b,base:=⟨0,0,0⟩ } (.rune k tx b jx b ⟨0,0,0⟩) rfl rfl rfl rfl σ.tx (.inr ⟨rfl,rfl⟩) ⟨rfl,rfl,rfl,rfl,⟨s,i,h,h1,h2⟩,t1,rfl,rfl,D⟩ rfl rfl (.inr ⟨nofun,.inr ⟨s,i,tx,h,h1,h2,.inr (.inr ⟨hlt,jx,t1,rfl⟩)⟩⟩) fun W M1=>?_
   exact start_8 σ.g σ.lb n k s.g (σ.beg (Cop.rune k b).op).r _ s.x s.mv s.dv s.ix s.cu b W (m_rd M1) K.O.sl (m_sl M1).b rfl hk (sptr_at h) ((m_sl M1).s k s h).b (by omega) (by omega) (by omega)
  ·refine begin_loc M K hb (.rune k b) _ (.inr ⟨nofun,.inr ⟨s,i,tx,h,h1,h2,.inr (.inl ⟨heq,rfl⟩)⟩⟩) fun W M1=>?_
   have:=start_8e σ.g σ.lb n k s.g (σ.beg (Cop.rune k b).op).r _ s.x s.mv s.dv s.ix s.cu W (m_rd M1) K.O.sl (m_sl M1).b (by rw [hxr,<-heq];rfl) hk (sptr_at h) ((m_sl M1).s k s h).b (by omega)
   rw [hxb] at this
   exact this
  ·refine begin_err M K hb (.rune k b) 3 (by decide) (.inr ⟨nofun,.inr ⟨s,i,tx,h,h1,h2,.inl ⟨hgt,rfl⟩⟩⟩) fun W M1=>?_
   have:=check_8 σ.g σ.lb n k s.g (σ.beg (Cop.rune k b).op).r _ s.x s.mv s.dv s.ix s.cu W (m_rd M1) K.O.sl (m_sl M1).b hk (sptr_at h) ((m_sl M1).s k s h).b b (fm8 σ.g σ.lb n _ k b K.O.sl (by omega) (by omega) (by omega))
   rw [if_pos (by omega)] at this
   exact this
theorem beg_line {k b:Nat} (M:Mem B w0 (σ.L B++(boxR bs'::R)) w) (K:RnOk σ y n m ts none) (hb:σ.r.busy=false) (hk:k < n) :
  Calls Tryz.prog 13 #[.pointer (some ⟨σ.g,0,none⟩),(Cop.line k b).op.v] w (BegTo B w0 R σ y n m ts (.line k b)):=by
 rcases slot_case K hk with h | ⟨s,i,tx,h,h1,h2,h3,h4,h5,h6,h7⟩
 ·exact begin_free M K hb (.line k b) (fun e=>by cases e) hk rfl (by simp [Cop.op]) h (fm9 σ.g σ.lb n _ k b K.O.sl (by omega) (by omega) (by omega))
 ·have hxb:s.x.b=(tx.length:Int):=h3.1
  have hxl:s.x.l=(cntP isLF (u8s tx):Int):=h3.2.2.1
  rcases Nat.eq_zero_or_pos b with hb0 | hb0
  ·subst hb0
   refine begin_loc M K hb (.line k 0) _ (.inr ⟨nofun,.inr ⟨s,i,tx,h,h1,h2,.inr (.inl ⟨rfl,rfl⟩)⟩⟩) fun W M1=>?_
   exact start_9z σ.g σ.lb n k s.g (σ.beg (Cop.line k 0).op).r _ s.x s.mv s.dv s.ix s.cu W (m_rd M1) K.O.sl (m_sl M1).b rfl hk (sptr_at h) ((m_sl M1).s k s h).b (by omega)
  {
 by_cases hle:b<=cntP isLF (u8s tx)
 ·have htx:0 < tx.length:=by
   rcases Nat.eq_zero_or_pos tx.length with e | e
   ·rw [List.eq_nil_of_length_eq_zero e] at hle
    have:cntP isLF (u8s [])=0:=rfl
    omega
   ·exact e
  obtain ⟨jx,t,t1,t2,t3,_⟩:=rev_tree h3 htx
  have D:Dn (fun m=>m.l) tx σ.ns jx ((b - 1:Nat):Int) ((b:Int) - 1) ⟨0,0,0⟩:=by
   have:=Dn.start (f:=fun m=>m.l) rfl t2 (n:=((b - 1:Nat):Int)) (by omega) (by rw [t3];show _ < (cntP isLF (u8s tx):Int);omega)
   rw [t3] at this
   rw [show (b:Int) - 1=((b - 1:Nat):Int) by omega]
   exact this
  refine begin_set M K hb (.line k b) { (σ.beg (Cop.line k b).op).r with ph:=12,dv:=visLF σ.g,at':=s.x.at',rest:=b,base:=⟨0,0,0⟩ } (.line k tx (b - 1) jx b ⟨0,0,0⟩) rfl rfl rfl rfl σ.tx (.inr ⟨rfl,rfl⟩) ⟨rfl,rfl,rfl,rfl,⟨s,i,h,h1,h2⟩,t1,rfl,rfl,D⟩ rfl rfl (.inr ⟨nofun,.inr ⟨s,i,tx,h,h1,h2,.inr (.inr ⟨hle,hb0,jx,t1,rfl⟩)⟩⟩) fun W M1=>?_
  exact start_9 σ.g σ.lb n k s.g (σ.beg (Cop.line k b).op).r _ s.x s.mv s.dv s.ix s.cu b W (m_rd M1) K.O.sl (m_sl M1).b rfl hk (sptr_at h) ((m_sl M1).s k s h).b (by omega) (by omega) (by omega)
 ·refine begin_err M K hb (.line k b) 3 (by decide) (.inr ⟨nofun,.inr ⟨s,i,tx,h,h1,h2,.inl ⟨by omega,rfl⟩⟩⟩) fun W M1=>?_
  have:=check_9 σ.g σ.lb n k s.g (σ.beg (Cop.line k b).op).r _ s.x s.mv s.dv s.ix s.cu W (m_rd M1) K.O.sl (m_sl M1).b hk (sptr_at h) ((m_sl M1).s k s h).b b (fm9 σ.g σ.lb n _ k b K.O.sl (by omega) (by omega) (by omega))
  rw [if_pos (by omega)] at this
  exact this
 }
theorem beg_seek {k a:Nat} (M:Mem B w0 (σ.L B++(boxR bs'::R)) w) (K:RnOk σ y n m ts none) (hb:σ.r.busy=false) (hk:k < n) :
  Calls Tryz.prog 13 #[.pointer (some ⟨σ.g,0,none⟩),(Cop.seek k a).op.v] w (BegTo B w0 R σ y n m ts (.seek k a)):=by
 rcases slot_case K hk with h | ⟨s,i,tx,h,h1,h2,h3,h4,h5,h6,h7⟩
 ·exact begin_free M K hb (.seek k a) (fun e=>by cases e) hk rfl (by simp [Cop.op]) h (fm11 σ.g σ.lb n _ k a K.O.sl (by omega) (by omega) (by omega))
 ·have hxb:s.x.b=(tx.length:Int):=h3.1
  by_cases ha:a<=tx.length
  {
 refine begin_of M K hb (.seek k a) fun W M1 K1=>?_
 refine (start_11 σ.g σ.lb n k s.g (σ.beg (Cop.seek k a).op).r _ s.x s.mv s.dv s.ix s.cu a W (m_rd M1) K.O.sl (m_sl M1).b rfl hk (sptr_at h) ((m_sl M1).s k s h).b (by omega) (by omega)).mono ?_
 rintro e w' ⟨ob,zb,rb,hset,b1,b2,b3,h8,h9,h10,h11,h12⟩
 have M2:=m_setbox M1 hset rfl rfl [⟨ob,26,OpV.arr (Cop.seek k a).op⟩,⟨zb,140,#[.pointer (some ⟨s.g,0,none⟩)]⟩,⟨rb,45,#[.pointer (some ⟨σ.g,0,none⟩)]⟩] (fun b hb=>by
  simp at hb
  rcases hb with rfl | rfl | rfl
  ·exact b1
  ·exact b2
  ·exact b3) (fun b hb=>by
  simp at hb
  rcases hb with rfl | rfl | rfl
  ·exact Nat.le_trans h8 (Nat.le_of_lt h9)
  ·exact h12
  ·exact h8)
 obtain ⟨rfl,_,_⟩:=hset
 exact ⟨rfl,_,_,M2,⟨rfl,rfl,rfl,rfl,rfl,rfl,rfl,rfl,rfl,rfl,rfl,rfl,rfl,rfl,rfl,rfl⟩,rfl,rfl,rfl,rfl,K1.same ⟨rfl,rfl,rfl,rfl,rfl,rfl,rfl,rfl,rfl,rfl,rfl,rfl,rfl,rfl,rfl,rfl⟩ (K1.O.rd _ σ.tx rfl rfl) rfl rfl rfl,.seek k a,⟨rfl,rfl,rfl,ob,zb,rb,s,(Cop.seek k a).op,rfl,h,rfl,by omega,by omega,rfl⟩,rfl,rfl,.inr ⟨nofun,.inr ⟨s,i,tx,h,h1,h2,.inr ⟨ha,rfl⟩⟩⟩⟩
 }
  ·refine begin_err M K hb (.seek k a) 3 (by decide) (.inr ⟨nofun,.inr ⟨s,i,tx,h,h1,h2,.inl ⟨by omega,rfl⟩⟩⟩) fun W M1=>?_
   have:=check_11 σ.g σ.lb n k s.g (σ.beg (Cop.seek k a).op).r _ s.x s.mv s.dv s.ix s.cu W (m_rd M1) K.O.sl (m_sl M1).b hk (sptr_at h) ((m_sl M1).s k s h).b a (fm11 σ.g σ.lb n _ k a K.O.sl (by omega) (by omega) (by omega))
   rw [if_pos (by omega)] at this
   exact this
end
mutual
def T.lvs:T->List ByteArray
 | .leaf s=>[s]
 | .node _ ks=>T.lvsL ks
def T.lvsL:List T->List ByteArray
 | []=>[]
 | t::ts=>t.lvs++T.lvsL ts
end
def flatS (l:List ByteArray):List UInt8:=(l.map fun s=>s.data.toList).flatten
theorem flatS_app (a b:List ByteArray):flatS (a++b)=flatS a++flatS b:=by simp [flatS]
theorem flatS_cons (s:ByteArray) (l:List ByteArray):flatS (s::l)=s.data.toList++flatS l:=by simp [flatS]
theorem flatS_one (s:ByteArray):flatS [s]=s.data.toList:=by simp [flatS]
theorem flatS_nil:flatS []=[]:=rfl
theorem lvsL_app (a b:List T):T.lvsL (a++b)=T.lvsL a++T.lvsL b:=by
 induction a with
 | nil=>rfl
 | cons t l ih=>simp [T.lvsL,ih]
theorem lvs_text (t:T):t.text=flatS t.lvs:=by
 induction t using T.ind with
 | hl s=>rw [T.lvs,flatS_one];rfl
 | hn h ks ih=>
  have hl:∀(l:List T),(∀t ∈ l,t.text=flatS t.lvs)->T.textL l=flatS (T.lvsL l):=by
   intro l
   induction l with
   | nil=>intro _;rfl
   | cons t ts ih'=>
    intro h
    rw [T.textL,T.lvsL,flatS_app,h t (by simp),ih' (fun t ht=>h t (by simp [ht]))]
  exact hl ks ih
theorem lvsL_text (l:List T):T.textL l=flatS (T.lvsL l):=by
 induction l with
 | nil=>rfl
 | cons t ts ih=>rw [T.textL,T.lvsL,flatS_app,lvs_text,ih]
theorem lvs_fit:∀(h:Nat) (t:T),T.fit h t->∀s ∈ t.lvs,8<=s.size
 | 0,.leaf s,hf,x,hx=>by
  simp [T.lvs] at hx
  rw [hx]
  exact hf.1
 | 0,.node k ks,hf,_,_=>hf.elim
 | h+1,.leaf s,hf,_,_=>hf.elim
 | h+1,.node k ks,hf,x,hx=>by
  have hl:∀(l:List T),(∀t ∈ l,T.fit h t)->∀x ∈ T.lvsL l,8<=x.size:=by
   intro l
   induction l with
   | nil=>intro _ x hx;simp [T.lvsL] at hx
   | cons t ts ih=>
    intro hf x hx
    simp [T.lvsL] at hx
    rcases hx with hx | hx
    ·exact lvs_fit h t (hf t (by simp)) x hx
    ·exact ih (fun t ht=>hf t (by simp [ht])) x hx
  exact hl ks hf.2.2.2 x hx
theorem lvs_pos {t:T} (h:t.good):∀s ∈ t.lvs,0 < s.size:=by
 rcases h with ⟨s,rfl,h1,_⟩ | ⟨k,_,h⟩
 ·intro x hx
  simp [T.lvs] at hx
  rw [hx]
  exact h1
 ·intro x hx
  have:=lvs_fit k t h x hx
  omega
theorem bnd:∀(A A':List ByteArray) (C C':List ByteArray) (s':ByteArray),A++C=A'++s'::C'->(∀s ∈ A++C,0 < s.size)->(flatS A').length<=(flatS A).length->(flatS A).length < (flatS A').length+s'.size->A=A'
 | [],[],_,_,_,_,_,_,_=>rfl
 | [],a::A',C,C',s',h,hp,h1,_=>by
  rw [List.nil_append] at h hp
  have:=hp a (by rw [h];simp)
  rw [flatS_cons,List.length_append,dsize,flatS_nil,List.length_nil] at h1
  omega
 | a::A,[],C,C',s',h,hp,_,h2=>by
  rw [List.cons_append,List.nil_append] at h
  injection h with h _
  rw [flatS_cons,List.length_append,dsize,flatS_nil,List.length_nil,h] at h2
  omega
 | a::A,a'::A',C,C',s',h,hp,h1,h2=>by
  rw [List.cons_append,List.cons_append] at h
  injection h with h h'
  subst h
  rw [flatS_cons,List.length_append,flatS_cons,List.length_append] at h1 h2
  rw [bnd A A' C C' s' h' (fun s hs=>hp s (by rw [List.cons_append];exact List.mem_cons_of_mem _ hs)) (by omega) (by omega)]
theorem nt_kidL {ns:List An} {ix:Nat} {u:T} (h:Nt ns ix u) {y:An} (hy:ns[ix]?=some y) (h0:y.x.h≠0) {i:Nat} {k:Kd} (hk:y.x.ks[i]?=some k) :
  ∃t A C,Nt ns k.at' t/\u.lvs=A++t.lvs++C/\mL (flatS A)=msum ((y.x.ks.map Kd.m).take i)/\k.m=mL t.text:=by
 cases h with
 | leaf hi e=>
  rw [hy] at hi;injection hi with hi;subst hi
  rw [e] at h0
  exact absurd rfl h0
 | node hi e hl hm hkk=>
  rename_i hh ks y' kd
  rw [hy] at hi;injection hi with hi;subst hi
  rw [e] at hk |-
  simp only at hk |-
  have hlt:i < ks.length:=by rw [<-hl];exact (List.getElem?_eq_some_iff.1 hk).1
  obtain ⟨t,ht⟩:∃t,ks[i]?=some t:=⟨ks[i],List.getElem?_eq_getElem hlt⟩
  refine ⟨t,T.lvsL (ks.take i),T.lvsL (ks.drop (i+1)),hkk i k t hk ht,?_,?_,by rw [hm i k t hk ht,meas_text]⟩
  ·have e2:ks=ks.take i++(t::ks.drop (i+1)):=by
    have hx:ks[i]=t:=(List.getElem?_eq_some_iff.1 ht).2
    rw [<-hx,<-List.drop_eq_getElem_cons hlt,List.take_append_drop]
   show T.lvsL ks=_
   conv=>lhs;rw [e2]
   rw [lvsL_app,T.lvsL,List.append_assoc]
  {
 have hms:(kd.map Kd.m).take i=(ks.take i).map T.meas:=by
  apply List.ext_getElem?
  intro j
  rw [List.getElem?_take,List.getElem?_map,List.getElem?_map,List.getElem?_take]
  by_cases hj:j < i
  ·rw [if_pos hj,if_pos hj]
   have hjl:j < kd.length:=by rw [hl];omega
   have hjk:j < ks.length:=by omega
   rw [List.getElem?_eq_getElem hjl,List.getElem?_eq_getElem hjk]
   simp only [Option.map_some]
   rw [hm j _ _ (List.getElem?_eq_getElem hjl) (List.getElem?_eq_getElem hjk)]
  ·rw [if_neg hj,if_neg hj];rfl
 rw [hms,<-lvsL_text]
 have hl2:∀(l:List T),msum (l.map T.meas)=mL (T.textL l):=by
  intro l
  induction l with
  | nil=>rfl
  | cons t ts ih=>simp only [List.map_cons,T.textL];rw [msum_cons,mL_app,ih,meas_text]
 rw [hl2]
 }
structure Wy (t:T) (ns:List An) (p:Nat) (ix:Nat) (rest:Int) (u:T):Prop where
 nt:Nt ns ix u
 ex:∃A C,t.lvs=A++u.lvs++C/\((flatS A).length:Int)+rest=(p:Int)/\0<=rest/\rest < (u.text.length:Int)
theorem Wy.start {t:T} {ns:List An} {p ix:Nat} (h:Nt ns ix t) (hp:p < t.text.length):Wy t ns p ix (p:Int) t:=⟨h,[],[],by simp,by simp [flatS],by omega,by omega⟩
theorem Wy.app {t:T} {ns:List An} {p ix:Nat} {rest:Int} {u:T} (h:Wy t ns p ix rest u) (ys:List An):Wy t (ns++ys) p ix rest u:=⟨h.nt.app,h.ex⟩
theorem Wy.down {t:T} {ns:List An} {p ix:Nat} {rest:Int} {u:T} (h:Wy t ns p ix rest u) (P:ArP ns) {y:An} (hy:ns[ix]?=some y) (h0:y.x.h≠0) {i:Nat} {k:Kd} {q:Int} (hk:y.x.ks[i]?=some k) (hc:Chosen (fun m=>m.b) (y.x.ks.map Kd.m) rest i q) :
  ∃u',Wy t ns p k.at' q u'/\u'.ht+1=u.ht:=by
 obtain ⟨u',A',C',hn,e1,e2,e3⟩:=nt_kidL h.nt hy h0 hk
 obtain ⟨A,C,f1,f2,f3,f4⟩:=h.ex
 obtain ⟨⟨mm,hmm,hlt⟩,hq0,heq⟩:=hc
 have hmm':mm=k.m:=by
  rw [List.getElem?_map,hk] at hmm
  simp at hmm
  exact hmm.symm
 refine ⟨u',⟨hn,A++A',C'++C,by rw [f1,e1];simp,?_,hq0,?_⟩,?_⟩
 ·rw [flatS_app,List.length_append]
  have:((flatS A').length:Int)=(msum ((y.x.ks.map Kd.m).take i)).b:=by rw [<-e2];rfl
  push_cast
  omega
 ·rw [hmm',e3] at hlt
  exact hlt
 ·obtain ⟨_,z,hz,hzh,_⟩:=P.kids ix y hy k (List.mem_of_getElem? hk)
  have a:=nt_ht hn hz
  have b:=nt_ht h.nt hy
  omega
def remB (N d:Nat):Nat:=if d=0 then (N+6) / 8 else (N - d+7) / 8 - 1
inductive RdK (t:T) (σ:RS):Nat->Pg->Prop
 | loc (x:RsV):RdK t σ 1 (.loc x)
 | rel (k:Nat):RdK t σ 1 (.rel k)
 | seek (k:Nat) (pos:Int):RdK t σ 1 (.seek k pos)
 | take (k:Nat) (a:Bool) (pos:Int):RdK t σ 1 (.take k a pos)
 | rune {k:Nat} {tx:List UInt8} {q ix:Nat} {rest:Int} {base:Ms} (u:T) (h:Nt σ.ns ix u):RdK t σ (u.ht+1) (.rune k tx q ix rest base)
 | line {k:Nat} {tx:List UInt8} {q ix:Nat} {rest:Int} {base:Ms} (u:T) (h:Nt σ.ns ix u):RdK t σ (u.ht+1) (.line k tx q ix rest base)
 | byte {k:Nat} {a:Bool} {tx:List UInt8} {p0 N d ix:Nat} {rest:Int} {base:Ms} (u:T) (h:Wy t σ.ns (p0+d) ix rest u) (hb:d=0\/∃A C,t.lvs=A++C/\(flatS A).length=p0+d) (hs:∃s jx,σ.sl[k]?=some (some s)/\s.x.at'=hdl jx/\Nt σ.ns jx t) (hd:d < N) (hl:p0+N<=t.text.length):RdK t σ (u.ht+1+(t.ht+1) * remB N d) (.byte k a tx p0 N d ix rest base)
theorem RdK.pos {t:T} {σ:RS} {f:Nat} {pg:Pg} (h:RdK t σ f pg):0 < f:=by
 cases h <;> omega
theorem RdK.move {t:T} {σ σ':RS} {f:Nat} {pg:Pg} (h:RdK t σ f pg) {ys:List An} (h1:σ'.ns=σ.ns++ys) (h2:σ'.sl=σ.sl):RdK t σ' f pg:=by
 cases h with
 | loc x=>exact .loc x
 | rel k=>exact .rel k
 | seek k pos=>exact .seek k pos
 | take k a pos=>exact .take k a pos
 | rune u h=>exact .rune u (by rw [h1];exact h.app)
 | line u h=>exact .line u (by rw [h1];exact h.app)
 | byte u h hb hs hd hl=>
  obtain ⟨s,jx,a,b,c⟩:=hs
  exact .byte u (by rw [h1];exact h.app ys) hb ⟨s,jx,by rw [h2];exact a,b,by rw [h1];exact c.app⟩ hd hl
theorem rdK_step {t:T} {σ σ':RS} {m f:Nat} {hv:Int} {pg pg':Pg} (h:RdK t σ f pg) (S:Same σ σ') (P:ArP σ.ns) (hg:t.good) (hn:Nxt σ σ' m hv pg' pg):pg'.ended=true\/(pg'.ended=false/\∃f',f'+1<=f/\RdK t σ' f' pg'):=by
 cases h with
 | loc x=>obtain ⟨_,_,_,rfl⟩:=hn;exact .inl rfl
 | rel k=>obtain ⟨_,_,_,rfl⟩:=hn;exact .inl rfl
 | seek k pos=>obtain ⟨_,_,_,rfl⟩:=hn;exact .inl rfl
 | take k a pos=>obtain ⟨_,_,_,rfl⟩:=hn;exact .inl rfl
 | rune u h=>
  obtain ⟨_,_,_,z,hz,⟨h0,ci,k',r,hk,hc,rfl⟩ | ⟨_,rfl⟩⟩:=hn
  ·obtain ⟨u',A',C',hn,_⟩:=nt_kidL h hz h0 hk
   obtain ⟨_,z',hz',hzh,_⟩:=P.kids _ z hz k' (List.mem_of_getElem? hk)
   have a:=nt_ht hn hz'
   have b:=nt_ht h hz
   exact .inr ⟨rfl,u'.ht+1,by omega,.rune u' (by rw [S.ns];exact hn)⟩
  ·exact .inl rfl
 | line u h=>
  obtain ⟨_,_,_,z,hz,⟨h0,ci,k',r,hk,hc,rfl⟩ | ⟨_,rfl⟩⟩:=hn
  ·obtain ⟨u',A',C',hn,_⟩:=nt_kidL h hz h0 hk
   obtain ⟨_,z',hz',hzh,_⟩:=P.kids _ z hz k' (List.mem_of_getElem? hk)
   have a:=nt_ht hn hz'
   have b:=nt_ht h hz
   exact .inr ⟨rfl,u'.ht+1,by omega,.line u' (by rw [S.ns];exact hn)⟩
  ·exact .inl rfl
 | byte u h hb hs hd hl=>
  rename_i k a tx p0 N d ix rest base
  obtain ⟨s0,j0,g1,g2,g3⟩:=hs
  obtain ⟨_,_,z,hz,⟨h0,hsl,ci,k',q,hk,hc,rfl⟩ | ⟨h0,c,rn,hrn,hcm,⟨hlt,hsl,jx,rfl,s,hs,hsj⟩ | ⟨_,_,rfl⟩⟩⟩:=hn
  ·obtain ⟨u',hw,hht⟩:=h.down P hz h0 hk hc
   exact .inr ⟨rfl,u'.ht+1+(t.ht+1) * remB N d,by omega,.byte u' (by rw [S.ns];exact hw) hb ⟨s0,j0,by rw [hsl];exact g1,g2,by rw [S.ns];exact g3⟩ hd hl⟩
  {
 have hu:u=.leaf z.x.s:=nt_leaf h.nt hz h0 P
 obtain ⟨A,C,e1,e2,e3,e4⟩:=h.ex
 rw [hu] at e1 e4
 have e4':rn < z.x.s.size:=by
  have:rest < ((T.leaf z.x.s).text.length:Int):=e4
  rw [text_len] at this
  have e9:(T.leaf z.x.s).bytes=z.x.s.size:=rfl
  rw [e9] at this
  omega
 have hcc:c=z.x.s.size - rn:=by omega
 have e1':t.lvs=(A++[z.x.s])++C:=e1
 have hpos:=lvs_pos hg
 have hjj:jx=j0:=by
  rw [hs] at g1
  injection g1 with g1
  injection g1 with g1
  subst g1
  rw [hsj] at g2
  exact hdl_inj g2
 subst hjj
 have hbound:(flatS (A++[z.x.s])).length=p0+(d+c):=by
  rw [flatS_app,List.length_append,flatS_one,dsize]
  omega
 refine .inr ⟨rfl,t.ht+1+(t.ht+1) * remB N (d+c),?_,.byte t (by rw [S.ns];exact Wy.start g3 (by omega)) (.inr ⟨A++[z.x.s],C,e1',hbound⟩) ⟨s,jx,by rw [hsl];exact hs,hsj,by rw [S.ns];exact g3⟩ hlt hl⟩
 have hrem:remB N (d+c)+1<=remB N d:=by
  rcases Nat.eq_zero_or_pos d with hd0 | hd0
  ·subst hd0
   unfold remB
   rw [if_neg (by omega),if_pos rfl]
   omega
  {
 have hrest:rn=0:=by
  rcases hb with hb | ⟨A2,C2,b1,b2⟩
  ·omega
  ·have b3:A2++C2=A++z.x.s::C:=by rw [<-b1,e1'];simp
   have:=bnd A2 A C2 C z.x.s b3 (fun s hs=>hpos s (by rw [b1];exact hs)) (by omega) (by omega)
   rw [this] at b2
   omega
 have h8:8<=z.x.s.size:=by
  rcases hg with ⟨s',rfl,_,_⟩ | ⟨k9,_,hfit⟩
  ·exfalso
   have e5:[s']=A++z.x.s::C:=by have e6:=e1';rw [List.append_assoc] at e6;exact e6
   cases A with
   | nil=>simp [flatS] at e2;omega
   | cons a A=>
    rw [List.cons_append] at e5
    injection e5 with _ e5
    cases A <;> cases e5
  ·exact lvs_fit k9 t hfit z.x.s (by rw [e1'];simp)
 unfold remB
 rw [if_neg (by omega),if_neg (by omega)]
 omega
 }
 have hmul:(t.ht+1) * (remB N (d+c)+1)<=(t.ht+1) * remB N d:=Nat.mul_le_mul_left _ hrem
 rw [Nat.mul_add,Nat.mul_one] at hmul
 omega
 }
  ·exact .inl rfl
def Pg.out:Pg->RsV
 | .fin x=>x
 | .loc x=>x
 | .seek _ pos=>{ RsV.zero with at':=pos }
 | .take _ a pos=>{ RsV.zero with at':=if a then pos else 0 }
 | .byte _ a tx p0 N _ _ _ _=>{ RsV.zero with s:=⟨((tx.drop p0).take N).toArray⟩,at':=if a then ((p0+N:Nat):Int) else 0 }
 | .rune _ tx q _ _ _=>{ RsV.zero with at':=((nthP begB (u8s tx) q:Nat):Int) }
 | .line _ tx q _ _ _=>{ RsV.zero with at':=((nthP isLF (u8s tx) q:Nat):Int)+1 }
 | _=>RsV.zero
def setCur (l:List (Option Snp)) (k:Nat) (c:Int):List (Option Snp):=match l[k]? with
 | some (some s)=>l.set k (some { s with cu:=c })
 | _=>l
theorem setCur_at {l:List (Option Snp)} {k:Nat} {s:Snp} (c:Int) (h:l[k]?=some (some s)):setCur l k c=l.set k (some { s with cu:=c }):=by
 unfold setCur
 rw [h]
def Pg.eff (l:List (Option Snp)):Pg->List (Option Snp)
 | .seek k pos=>setCur l k pos
 | .take k a pos=>if a then setCur l k pos else l
 | .byte k a _ p0 N _ _ _ _=>if a then setCur l k ((p0+N:Nat):Int) else l
 | .rel k=>l.set k none
 | _=>l
def Pg.reads:Pg->Bool
 | .loc _=>true
 | .seek _ _=>true
 | .take _ _ _=>true
 | .byte _ _ _ _ _ _ _ _ _=>true
 | .rune _ _ _ _ _ _=>true
 | .line _ _ _ _ _ _=>true
 | _=>false
theorem nxt_out {σ σ':RS} {m:Nat} {hv:Int} {pg pg':Pg} (hr:pg.reads=true) (hn:Nxt σ σ' m hv pg' pg):pg'.out=pg.out/\σ'.s=σ.s/\((pg'.ended=true/\σ'.sl=pg.eff σ.sl)\/(pg'.ended=false/\pg'.reads=true/\σ'.sl=σ.sl/\∀l,pg'.eff l=pg.eff l)):=by
 cases pg with
 | fin x=>cases hr
 | clos=>cases hr
 | ep k=>cases hr
 | ann k v=>cases hr
 | root k=>cases hr
 | rel k=>cases hr
 | loc x=>obtain ⟨_,h1,h2,rfl⟩:=hn;exact ⟨rfl,h1,.inl ⟨rfl,h2⟩⟩
 | seek k pos=>obtain ⟨_,h1,⟨s,hs,h2⟩,rfl⟩:=hn;exact ⟨rfl,h1,.inl ⟨rfl,by rw [Pg.eff,setCur_at pos hs];exact h2⟩⟩
 | take k a pos=>
  obtain ⟨_,h1,h2,rfl⟩:=hn
  cases a with
  | false=>exact ⟨rfl,h1,.inl ⟨rfl,h2⟩⟩
  | true=>
   obtain ⟨s,hs,h2⟩:=h2
   exact ⟨rfl,h1,.inl ⟨rfl,by simp only [Pg.eff,if_true];rw [setCur_at pos hs];exact h2⟩⟩
 | byte k a tx p0 N d ix rest base=>
  obtain ⟨_,h1,z,hz,⟨h0,hsl,ci,k',q,hk,hc,rfl⟩ | ⟨h0,c,rn,hrn,hcm,⟨hlt,hsl,jx,rfl,s,hs,hsj⟩ | ⟨_,h2,rfl⟩⟩⟩:=hn
  ·exact ⟨rfl,h1,.inr ⟨rfl,rfl,hsl,fun _=>rfl⟩⟩
  ·exact ⟨rfl,h1,.inr ⟨rfl,rfl,hsl,fun _=>rfl⟩⟩
  ·cases a with
   | false=>exact ⟨rfl,h1,.inl ⟨rfl,h2⟩⟩
   | true=>
    obtain ⟨s,hs,h2⟩:=h2
    exact ⟨rfl,h1,.inl ⟨rfl,by simp only [Pg.eff,if_true];rw [setCur_at _ hs];exact h2⟩⟩
 | rune k tx q ix rest base=>
  obtain ⟨_,h1,h2,z,hz,⟨h0,ci,k',r,hk,hc,rfl⟩ | ⟨_,rfl⟩⟩:=hn
  ·exact ⟨rfl,h1,.inr ⟨rfl,rfl,h2,fun _=>rfl⟩⟩
  ·exact ⟨rfl,h1,.inl ⟨rfl,h2⟩⟩
 | line k tx q ix rest base=>
  obtain ⟨_,h1,h2,z,hz,⟨h0,ci,k',r,hk,hc,rfl⟩ | ⟨_,rfl⟩⟩:=hn
  ·exact ⟨rfl,h1,.inr ⟨rfl,rfl,h2,fun _=>rfl⟩⟩
  ·exact ⟨rfl,h1,.inl ⟨rfl,h2⟩⟩
theorem build_ht {s:ByteArray} {t:T} (h:buildT s=[t]) (h0:0 < s.size):4 ^ t.ht < 4 * grpN s.size 16:=by
 have hl:=base_len s
 have hg:0 < grpN s.size 16:=grp_pos h0 (by decide)
 by_cases h1:(baseT s).length<=1
 ·rw [buildT,topT_le h1] at h
  have ht:t ∈ baseT s:=by rw [h];simp
  simp only [baseT,List.mem_map] at ht
  obtain ⟨x,_,rfl⟩:=ht
  show 4 ^ 0 < _
  omega
 ·obtain ⟨k,t',e,hf,_,hk⟩:=topT_fit (baseT s) 0 (base_fit (by omega)) (by omega)
  rw [buildT] at h
  rw [h] at e
  injection e with e _
  subst e
  rw [T.fit_ht hf,Nat.zero_add,<-hl]
  exact hk
theorem build_ht2 {s:ByteArray} {t:T} (h:buildT s=[t]) (h0:0 < s.size) (h3:s.size<=120):t.ht<=2:=by
 have a:=build_ht h h0
 have b:=(grp_le (n:=s.size) (m:=16) (by decide)).2
 rcases Nat.lt_or_ge 2 t.ht with hlt | hge
 ·have:4 ^ 3<=4 ^ t.ht:=Nat.pow_le_pow_right (by decide) hlt
  omega
 ·exact hge
theorem fit_lvs:∀{h:Nat} {t:T},T.fit h t->t.lvs≠[]
 | 0,.leaf s,_=>by simp [T.lvs]
 | 0,.node k ks,hf=>hf.elim
 | h+1,.leaf s,hf=>hf.elim
 | h+1,.node k ks,hf=>by
  intro e
  cases ks with
  | nil=>have:=hf.2.1;simp at this
  | cons a l=>
   rw [T.lvs,T.lvsL] at e
   exact fit_lvs (hf.2.2.2 a (by simp)) (List.append_eq_nil_iff.1 e).1
theorem leaf_good:(T.leaf ⟨#[0]⟩).good:=.inl ⟨⟨#[0]⟩,rfl,by decide,by decide⟩
section
variable {B:Nat} {w0 w:World} {R:List Res} {σ:RS} {bs':List Bx} {y:Ly} {n m:Nat} {ts:List (List UInt8)}
end
def wantH (x:HdV):Cop->RsV
 | .acq=>RsV.zero
 | .len _=>{ RsV.zero with b:=(x.s.size:Int),r:=(cntP begB (bs x.s):Int),l:=(cntP isLF (bs x.s):Int) }
 | .read _ a b=>if x.s.size < a+b then { RsV.zero with er:=3 } else { RsV.zero with s:=x.s.extract a (a+b) }
 | .rune _ b=>if cntP begB (bs x.s) < b then { RsV.zero with er:=3 } else { RsV.zero with at':=(nthP begB (bs x.s) b:Int) }
 | .line _ b=>if cntP isLF (bs x.s) < b then { RsV.zero with er:=3 } else if b=0 then RsV.zero else { RsV.zero with at':=(nthP isLF (bs x.s) (b - 1):Int)+1 }
 | .mark _ i=>match x.ms.find? (fun m=>m.id == i) with
  | some m=>{ RsV.zero with at':=m.at',g:=m.g }
  | none=>{ RsV.zero with er:=7 }
 | .seek _ a=>if x.s.size < a then { RsV.zero with er:=3 } else { RsV.zero with at':=(a:Int) }
 | .next _ b=>{ RsV.zero with s:=x.s.extract x.cu.toNat (x.cu.toNat+min b (x.s.size - x.cu.toNat)),at':=((x.cu.toNat+min b (x.s.size - x.cu.toNat):Nat):Int) }
 | .rel _=>RsV.zero
structure HdOf (z:Snp) (tx:List UInt8) (x:HdV):Prop where
 is:x.is=true
 s:x.s.data.toList=tx
 ms:x.ms=z.ms
 h:x.h=z.x.h
 cu:x.cu=z.cu
def Uniq (l:List Mk):Prop:=∀a ∈ l,∀b ∈ l,a.id=b.id->a=b
theorem ba_list {a b:ByteArray} (h:a.data.toList=b.data.toList):a=b:=by
 cases a
 cases b
 simp at h
 rw [h]
theorem ba_mk {a:ByteArray} {l:List UInt8} (h:a.data.toList=l):(⟨l.toArray⟩:ByteArray)=a:=ba_list (by rw [h])
theorem find_uniq {l:List Mk} (hu:Uniq l) {x:Mk} (hx:x ∈ l):l.find? (fun m=>m.id == x.id)=some x:=by
 cases h:l.find? (fun m=>m.id == x.id) with
 | none=>
  have:=List.find?_eq_none.1 h x hx
  simp at this
 | some y=>
  have h1:=List.find?_some h
  have h2:=List.mem_of_find?_eq_some h
  have:y.id=x.id:=by simpa using h1
  rw [hu y h2 x hx this]
theorem bs_u8s (s:ByteArray):bs s=u8s s.data.toList:=by
 unfold bs u8s
 rfl
theorem run_want {s:Snp} {tx:List UInt8} {x:HdV} {pg:Pg} {c:Cop} (H:HdOf s tx x) (hu:Uniq s.ms) (h:RunP s tx pg c):pg.out=wantH x c:=by
 have hz:x.s.size=tx.length:=by rw [<-dsize,H.s]
 have hb:bs x.s=u8s tx:=by rw [bs_u8s,H.s]
 cases c with
 | acq=>exact h.elim
 | len k=>
  rw [show pg=_ from h]
  simp only [wantH,hz,hb]
  rfl
 | read k a b=>
  simp only [wantH,hz]
  rcases h with ⟨h1,rfl⟩ | ⟨h1,h2,rfl⟩ | ⟨h1,h2,jx,hj,rfl⟩
  ·rw [if_pos h1]
   rfl
  ·rw [if_neg (by omega)]
   subst h2
   have e:x.s.extract a (a+0)=⟨#[]⟩:=ba_list (by rw [bext_list];simp)
   rw [e]
   rfl
  ·rw [if_neg (by omega)]
   have e:x.s.extract a (a+b)=⟨((tx.drop a).take b).toArray⟩:=(ba_mk (by rw [bext_list,H.s,Nat.add_sub_cancel_left])).symm
   rw [e]
   rfl
 | rune k b=>
  simp only [wantH,hb]
  rcases h with ⟨h1,rfl⟩ | ⟨h1,rfl⟩ | ⟨h1,jx,hj,rfl⟩
  ·rw [if_pos h1]
   rfl
  ·rw [if_neg (by omega),nthP_all _ _ _ (by omega),u8s_len]
   rfl
  ·rw [if_neg (by omega)]
   rfl
 | line k b=>
  simp only [wantH,hb]
  rcases h with ⟨h1,rfl⟩ | ⟨h1,rfl⟩ | ⟨h0,h1,jx,hj,rfl⟩
  ·rw [if_pos h1]
   rfl
  ·rw [if_neg (by omega),if_pos h1]
   rfl
  ·rw [if_neg (by omega),if_neg (by omega)]
   rfl
 | mark k i=>
  simp only [wantH,H.ms]
  rcases h with ⟨h1,rfl⟩ | ⟨m,hm,he,rfl⟩
  ·have:s.ms.find? (fun m=>m.id == i)=none:=List.find?_eq_none.2 fun m hm=>by simpa using h1 m hm
   rw [this]
   rfl
  ·rw [<-he,find_uniq hu hm]
   rfl
 | seek k a=>
  simp only [wantH,hz]
  rcases h with ⟨h1,rfl⟩ | ⟨h1,rfl⟩
  ·rw [if_pos h1]
   rfl
  ·rw [if_neg (by omega)]
   rfl
 | next k b=>
  obtain ⟨cu,e,h⟩:=h
  have hc:x.cu.toNat=cu:=by rw [H.cu,e];rfl
  simp only [wantH,hc,hz]
  rcases h with ⟨h1,rfl⟩ | ⟨h1,jx,hj,rfl⟩
  ·rw [h1]
   have e:x.s.extract cu (cu+0)=⟨#[]⟩:=ba_list (by rw [bext_list];simp)
   rw [e]
   rfl
  ·have e:x.s.extract cu (cu+min b (tx.length - cu))=⟨((tx.drop cu).take (min b (tx.length - cu))).toArray⟩:=(ba_mk (by rw [bext_list,H.s,Nat.add_sub_cancel_left])).symm
   rw [e]
   rfl
 | rel k=>
  rw [show pg=_ from h]
  rfl
def bdN (h:Nat):Cop->Nat
 | .acq=>4
 | .rune _ _=>h+1
 | .line _ _=>h+1
 | .read _ _ b=>max 1 ((h+1) * leavesN b)
 | .next _ b=>max 1 ((h+1) * leavesN b)
 | _=>1
theorem bd_pos (h:Nat) (c:Cop):0 < bdN h c:=by
 cases c with
 | acq=>exact Nat.succ_pos _
 | rune k b=>exact Nat.succ_pos _
 | line k b=>exact Nat.succ_pos _
 | read k a b=>exact Nat.lt_of_lt_of_le (by decide) (Nat.le_max_left _ _)
 | next k b=>exact Nat.lt_of_lt_of_le (by decide) (Nat.le_max_left _ _)
 | len k=>exact Nat.succ_pos _
 | mark k i=>exact Nat.succ_pos _
 | seek k a=>exact Nat.succ_pos _
 | rel k=>exact Nat.succ_pos _
theorem rem_leaves {N b:Nat} (h0:0 < N) (h:N<=b):1+remB N 0<=leavesN b:=by
 unfold remB leavesN
 rw [if_pos rfl,if_neg (by omega)]
 split
 ·omega
 ·omega
theorem start_bd {σ:RS} {y:Ly} {n m:Nat} {ts:List (List UInt8)} {c:Cop} {pg:Pg} {hgt:Nat} (K:RnOk σ y n m ts none) (hc:c≠.acq) (hk:c.slot < n) (hh:∀s,σ.sl[c.slot]?=some (some s)->s.x.h=(hgt:Int)) (h:StartP σ ts c pg) :
  ∃t f,t.good/\RdK t σ f pg/\f<=bdN hgt c:=by
 have hb:=bd_pos hgt c
 rcases h with ⟨h,_⟩ | ⟨_,⟨_,rfl⟩ | ⟨s,i,tx,hs,hi,ht,hp⟩⟩
 ·exact absurd h hc
 ·exact ⟨_,1,leaf_good,.loc _,hb⟩
 ·rcases slot_case K hk with h0 | ⟨s',i',tx',hs',hi',ht',hrv,_,_,_,_⟩
  ·rw [hs] at h0;cases h0
  {
 rw [hs] at hs'
 injection hs' with hs';injection hs' with hs';subst hs'
 obtain rfl:i=i':=by rw [hi] at hi';omega
 rw [ht] at ht'
 injection ht' with ht';subst ht'
 have L:∀x,∃t f,t.good/\RdK t σ f (.loc x)/\f<=bdN hgt c:=fun x=>⟨_,1,leaf_good,.loc _,hb⟩
 have hht:=hh s hs
 have TR:0 < tx.length->∃jx t,s.x.at'=hdl jx/\Nt σ.ns jx t/\t.text=tx/\t.good/\t.ht=hgt:=fun h0=>by
  obtain ⟨jx,t,e1,e2,e3,e4,e5,_⟩:=rev_tree hrv h0
  exact ⟨jx,t,e1,e2,e3,e5,by omega⟩
 have BY:∀(k:Nat) (a:Bool) (p0 N jx b:Nat),c.slot=k->s.x.at'=hdl jx->0 < N->N<=b->p0+N<=tx.length->max 1 ((hgt+1) * leavesN b)=bdN hgt c->∃t f,t.good/\RdK t σ f (.byte k a tx p0 N 0 jx p0 ⟨0,0,0⟩)/\f<=bdN hgt c:=by
  intro k a p0 N jx b hk hj hN hNb hl hbd
  obtain ⟨ix,t,e1,e2,e3,hg,e4⟩:=TR (by omega)
  obtain rfl:jx=ix:=hdl_inj (by rw [<-hj,e1])
  have hl':p0+N<=t.text.length:=by rw [e3];exact hl
  refine ⟨t,t.ht+1+(t.ht+1) * remB N 0,hg,.byte t (Wy.start e2 (by omega)) (.inl rfl) ⟨s,jx,by rw [<-hk];exact hs,e1,e2⟩ hN hl',?_⟩
  have h1:=rem_leaves hN hNb
  have h2:(hgt+1) * (1+remB N 0)<=(hgt+1) * leavesN b:=Nat.mul_le_mul_left _ h1
  have h3:=Nat.le_max_right 1 ((hgt+1) * leavesN b)
  rw [e4,<-hbd]
  rw [Nat.mul_add,Nat.mul_one] at h2
  omega
 cases c with
 | acq=>exact absurd rfl hc
 | rel k=>rw [show pg=_ from hp];exact ⟨_,1,leaf_good,.rel k,hb⟩
 | len k=>rw [show pg=_ from hp];exact L _
 | read k a b=>
  rcases hp with ⟨_,rfl⟩ | ⟨_,_,rfl⟩ | ⟨h1,h2,jx,hj,rfl⟩
  ·exact L _
  ·exact ⟨_,1,leaf_good,.take _ _ _,hb⟩
  ·exact BY k false a b jx b rfl hj h2 (Nat.le_refl _) h1 rfl
 | rune k b=>
  rcases hp with ⟨_,rfl⟩ | ⟨_,rfl⟩ | ⟨h1,jx,hj,rfl⟩
  ·exact L _
  ·exact L _
  ·obtain ⟨ix,t,e1,e2,e3,hg,e4⟩:=TR (List.length_pos_iff.2 (fun e=>by rw [e] at h1;cases h1))
   obtain rfl:jx=ix:=hdl_inj (by rw [<-hj,e1])
   exact ⟨t,t.ht+1,hg,.rune t e2,by rw [e4];exact Nat.le_refl _⟩
 | line k b=>
  rcases hp with ⟨_,rfl⟩ | ⟨_,rfl⟩ | ⟨h1,h2,jx,hj,rfl⟩
  ·exact L _
  ·exact L _
  ·obtain ⟨ix,t,e1,e2,e3,hg,e4⟩:=TR (List.length_pos_iff.2 (fun e=>by rw [e] at h1;exact absurd h1 (by show ¬b<=0;omega)))
   obtain rfl:jx=ix:=hdl_inj (by rw [<-hj,e1])
   exact ⟨t,t.ht+1,hg,.line t e2,by rw [e4];exact Nat.le_refl _⟩
 | mark k i=>
  rcases hp with ⟨_,rfl⟩ | ⟨_,_,_,rfl⟩
  ·exact L _
  ·exact L _
 | seek k a=>
  rcases hp with ⟨_,rfl⟩ | ⟨_,rfl⟩
  ·exact L _
  ·exact ⟨_,1,leaf_good,.seek _ _,hb⟩
 | next k b=>
  obtain ⟨c0,_,⟨_,rfl⟩ | ⟨h1,jx,hj,rfl⟩⟩:=hp
  ·exact ⟨_,1,leaf_good,.take _ _ _,hb⟩
  ·exact BY k true c0 _ jx b rfl hj h1 (Nat.min_le_left _ _) (by omega) rfl
 }
theorem hd_cell {hs:List HdV} {hb k:Nat} {x:HdV} {w:World} (H:Blk w hb 49 (hdCells hs).toArray) (h:hs[k]?=some x) (j:Nat) (v:Value) (hv:x.cells[j]?=some v):w.cell? ⟨hb,k * 5+j,none⟩=some v:=
 (H.cell (k * 5+j)).trans (by rw [List.getElem?_toArray];exact flatP hdC_len hs k j x v h hv)
def AcqW (p:PlS) (n:Nat) (r:RsV):Prop:=
 (p.cl=true/\r={ RsV.zero with er:=13 })\/
 (p.cl=false/\∃(k:Nat) (x:HdV),p.hs[k]?=some x/\x.is=false/\(∀(j:Nat) (y:HdV),j < k->p.hs[j]?=some y->y.is=true)/\r={ RsV.zero with sl:=(k:Int),rev:=p.num })\/
 (p.cl=false/\(∀y ∈ p.hs,y.is=true)/\r={ RsV.zero with er:=15 })
section
variable {p:PlS} {sb g n:Nat} {w:World}
theorem want_acq (PB:Blk w p.g 51 (p.cells sb g n)) (HB:Blk w p.hb 49 (hdCells p.hs).toArray) (hl:p.hs.length=n) (hn:n<=4) {r:RsV} (hr:AcqW p n r) :
  Calls Tryz.prog 33 #[.pointer (some ⟨p.g,0,none⟩),Cop.acq.op.v] w fun e w'=>e=.returned r.v/\Ch (fun _=>False) w w':=by
 have HR:=hid hr
 have HP:=hid PB
 have HH:=hid HB
 have HL:=hid hl
 clear hr PB HB hl
 have q9:w.cell? ⟨p.g,9,none⟩=some (.bool p.cl):=HP.out.cell 9
 obtain ⟨-,-,q2,-,-,-,-,-,q8⟩:=HP.out.c9
 have lp:=HP.out.lt
 have lh:=HH.out.lt
 simp only [OpV.v]
 rw [show Cop.acq.op=acqOp from rfl]
 unfold acqOp
 cases hcl:p.cl with
 | true=>
  have hrr:r={ RsV.zero with er:=13 }:=by
   rcases HR.out with ⟨_,h⟩ | ⟨h,_⟩ | ⟨h,_⟩
   ·exact h
   ·rw [hcl] at h;cases h
   ·rw [hcl] at h;cases h
  rw [hcl] at q9
  subst hrr
  clear hcl
  go_enter Tryz.func33,Tryz.ntmps33
  go_wp2_with fail
  refine bodyPost_ret (v:=RsV.v { RsV.zero with er:=13 }) (by simp [results,Tryz.results33,go_sem,RsV.v,RsV.zero]) rfl ⟨rfl,?_⟩
  repeat (refine Ch.alloc ?_ _)
  exact Ch.refl _ w
 | false=>
  rw [hcl] at q9
  have HR2:=hid (show (∃(k:Nat) (x:HdV),p.hs[k]?=some x/\x.is=false/\(∀(j:Nat) (y:HdV),j < k->p.hs[j]?=some y->y.is=true)/\r={ RsV.zero with sl:=(k:Int),rev:=p.num })\/((∀y ∈ p.hs,y.is=true)/\r={ RsV.zero with er:=15 }) from by
   rcases HR.out with ⟨h,_⟩ | ⟨_,h⟩ | ⟨_,h⟩
   ·rw [hcl] at h;cases h
   ·exact .inl h
   ·exact .inr h)
  clear hcl
  go_enter Tryz.func33,Tryz.ntmps33
  go_wp2_with fail
  go_loopw [5] (fun i W=>∃k:Nat,k<=n/\i=.int .i64 (k:Int)/\(∀(j:Nat) (y:HdV),j < k->p.hs[j]?=some y->y.is=true)/\W=(w.alloc (.cells #[.int .u8 5,.int .i64 0,.int .i64 0,.int .i64 0,.int .u32 0,.int .u8 0,.string ⟨#[]⟩] 26)).alloc (.cells rzC 41)) (fun i _=>n - (intOf i).toNat)
  case atStart=>exact ⟨0,Nat.zero_le _,rfl,(fun j y h=>absurd h (Nat.not_lt_zero _)),rfl⟩
  case round=>
   (
 obtain ⟨k,hk,rfl,hall,rfl⟩:=hrel
 have HALL:=hid hall
 clear hall
 by_cases hlt:k < n
 ·have d1:decide (k < n)=true:=decide_eq_true hlt
  have d1':decide ((k:Int) < (n:Int))=true:=decide_eq_true (by omega)
  obtain ⟨x,hx⟩:∃x,p.hs[k]?=some x:=⟨_,List.getElem?_eq_getElem (by rw [HL.out];exact hlt)⟩
  have i0:w.cell? ⟨p.hb,k * 5,none⟩=some (.bool x.is):=hd_cell HH.out hx 0 _ rfl
  have HX:=hid hx
  clear hx
  unfold rzC
  cases hxi:x.is with
  | true=>
   rw [hxi] at i0
   have HXI:=hid hxi
   clear hxi
   go_wp2_with fail
   go_roundw
   case rel=>exact ⟨k+1,hlt,by go_num,(fun j y hj hy=>by
    rcases Nat.lt_succ_iff_lt_or_eq.1 hj with h | h
    ·exact HALL.out j y h hy
    ·subst h
     rw [HX.out] at hy
     injection hy with hy
     rw [<-hy]
     exact HXI.out),by first | rfl | trivial⟩
   case measure=>simp [intOf];omega
  | false=>
   rw [hxi] at i0
   have hrr:r={ RsV.zero with sl:=(k:Int),rev:=p.num }:=by
    rcases HR2.out with ⟨k',x',h1,h2,h3,h4⟩ | ⟨h,_⟩
    ·rcases Nat.lt_trichotomy k k' with h | h | h
     ·rw [h3 k x h HX.out] at hxi;cases hxi
     ·rw [h];exact h4
     ·rw [HALL.out k' x' h h1] at h2;cases h2
    ·rw [h x (List.mem_of_getElem? HX.out)] at hxi;cases hxi
   subst hrr
   clear hxi HR2 HR
   go_wp2_with fail
   refine bodyPost_ret (v:=RsV.v { RsV.zero with sl:=(k:Int),rev:=p.num }) (by simp [results,Tryz.results33,go_sem,RsV.v,RsV.zero]) rfl ⟨rfl,?_⟩
   repeat (refine Ch.alloc ?_ _)
   exact Ch.refl _ w
 ·obtain rfl:k=n:=by omega
  obtain ⟨d1,d1'⟩:=dc_ltF (a:=k) (b:=k) (by omega)
  have hrr:r={ RsV.zero with er:=15 }:=by
   rcases HR2.out with ⟨k',x',h1,h2,h3,h4⟩ | ⟨_,h⟩
   ·have hk':k' < k:=by rw [<-HL.out];exact (List.getElem?_eq_some_iff.1 h1).1
    rw [HALL.out k' x' hk' h1] at h2;cases h2
   ·exact h
  subst hrr
  clear HR2 HR
  unfold rzC
  go_wp2_with fail
  refine bodyPost_ret (v:=RsV.v { RsV.zero with er:=15 }) (by simp [results,Tryz.results33,go_sem,RsV.v,RsV.zero]) rfl ⟨rfl,?_⟩
  repeat (refine Ch.alloc ?_ _)
  exact Ch.refl _ w
 )
end
end Go.Proofs.YtjcdknhejcbpiaaGreat
