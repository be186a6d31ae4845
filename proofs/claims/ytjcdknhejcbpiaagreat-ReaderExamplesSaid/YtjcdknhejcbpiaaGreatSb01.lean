/- Lemmas; no condition. -/
import Derived.Deep.QuietTactic
import Derived.BigQuiet
import Derived.Laws.AppendOwn
namespace Go.Proofs.YtjcdknhejcbpiaaGreat.Mix
open Go
set_option linter.unusedSimpArgs false
section
variable {P:Program} {ops:Array Oper} {md:Region.Mode}
def cls (w:World):World->Prop:=fun x=>∃n,x=w.drewN n
def bot:Exit->Act->World->Prop:=fun _ _ _=>False
def noQ (K:Act->World->Prop):Exit->Act->World->Prop
 | .normal,a,w=>K a w
 | _,_,_=>False
def Keep (S:Nat->Prop) (w x:World):Prop:=∀k,S k->x.heap[k]?=w.heap[k]?
theorem Keep.trans {S:Nat->Prop} {w x y:World} (h:Keep S w x) (k:Keep S x y):Keep S w y:=fun i hi=>(k i hi).trans (h i hi)
theorem Keep.cell {S:Nat->Prop} {w x:World} (h:Keep S w x) {p:Addr} (hp:S p.block):x.cell? p=w.cell? p:=World.cell?_of_block (w:=w) (h p.block hp)
def Has (S:Nat->Prop) (k:Nat):Prop:=S k
structure Far (S:Nat->Prop) (w:World) where
 world:World
 keep:Keep S w world
instance (S:Nat->Prop) (w:World):Nonempty (Far S w):=⟨⟨w,fun _ _=>rfl⟩⟩
theorem far_cell {S:Nat->Prop} {w:World} (x:Far S w) (p:Addr) (h:Has S p.block):x.world.cell? p=w.cell? p:=x.keep.cell h
attribute [go_sem] far_cell
def Steady (P:Program) (ops:Array Oper) (S:Nat->Prop) (w:World) (o:Oper) (v:Value) (a:Act):Prop:=
 ∀x,Keep S w x->YieldsIn P ops (cls x) o v a
def Yk (P:Program) (ops:Array Oper) (S:Nat->Prop) (k:Nat) (o:Oper) (v:Value) (a:Act) (w:World):Prop:=
 (k=0/\YieldsIn P ops (cls w) o v a)\/(k=1/\Yields P ops o v a)\/(k=4/\Steady P ops S w o v a)
def opX (P:Program) (ops:Array Oper) (S:Nat->Prop) (kd:Nat->Nat) (i:Nat) (K:Act->World->Prop) (a:Act) (w:World):Prop:=
 (kd i=2/\(∃o,ops[i]?=some o)/\∀n,wpOp P ops bot i K a (w.drewN n))\/
 (kd i=3/\(∃o,ops[i]?=some o)/\∀n,wpOp P ops bot i (fun a' w'=>Keep S (w.drewN n) w'/\K a' w') a (w.drewN n))\/
 (∃o v,ops[i]?=some o/\Yk P ops S (kd i) o v a w/\K (a.put o.dst v) w)
theorem wpOp_bot {Q:Exit->Act->World->Prop} {i:Nat} {K:Act->World->Prop} {a:Act} {w:World} (h:wpOp P ops bot i K a w):wpOp P ops Q i K a w:=by
 unfold wpOp at *
 split
 ·rename_i ho;simp only [ho] at h;exact h
 ·rename_i o ho
  simp only [ho] at h
  split
  {
 rename_i hw
 simp only [hw,if_true] at h
 rcases h with h | ⟨_,_,_,h⟩
 case inr=>exact absurd h id
 refine .inl ?_
 unfold Oper.wp at *
 generalize (execOp a.eval o).run P w=r at *
 cases r with
 | ok n w'=>
  cases n <;> simp only [Oper.upon] at h |-
  case enter f args=>
   refine Calls.mono h fun e w'' he=>?_
   cases e with
   | returned u=>exact he
   | panicked c=>exact absurd he id
   | outgrown=>obtain ⟨_,_,he⟩:=he;exact absurd he id
  all_goals exact h
 | halt x w'=>
  cases x <;> simp only [Oper.upon] at h |-
  case panic u=>exact absurd h id
 }
  ·rename_i hw;simp only [hw] at h;exact h
theorem wpOp_form {i:Nat} {oi:Oper} (hi:ops[i]?=some oi) {K:Act->World->Prop} {a:Act} {w:World} (h:wpOp P ops bot i K a w) :
  wpOp P ops bot i (fun a' w'=>K a' w'/\∃r ds,a'=({ a with defers:=ds }:Act).put oi.dst r) a w:=by
 unfold wpOp at *
 simp only [hi] at *
 split
 ·rename_i hw
  simp only [hw,if_true] at h
  rcases h with h | ⟨_,_,_,h⟩
  case inr=>exact absurd h id
  refine .inl ?_
  unfold Oper.wp at *
  generalize (execOp a.eval oi).run P w=r at *
  cases r with
  | ok n w'=>
   cases n <;> simp only [Oper.upon] at h |-
   case value u=>exact ⟨h,u,a.defers,rfl⟩
   case skip=>exact ⟨h,_,a.defers,rfl⟩
   case defer d=>exact ⟨h,_,_,rfl⟩
   case enter f args=>
    refine Calls.mono h fun e w'' he=>?_
    cases e with
    | returned u=>exact ⟨he,u,a.defers,rfl⟩
    | panicked c=>exact he
    | outgrown=>exact he
   case row row args=>exact Rows.mono h fun u w'' he=>⟨he,u,a.defers,rfl⟩
  | halt x w'=>
   cases x <;> simp only [Oper.upon] at h |-
   case panic u=>exact h
 ·rename_i hw;simp only [hw] at h;exact ⟨h,_,a.defers,rfl⟩
theorem wpOp_some {i:Nat} {K:Act->World->Prop} {a:Act} {w:World} (h:wpOp P ops bot i K a w):∃a' w',K a' w':=by
 unfold wpOp at *
 split at h
 ·exact ⟨_,_,h⟩
 ·split at h
  {
 rcases h with h | ⟨_,_,_,h⟩
 case inr=>exact absurd h id
 unfold Oper.wp at h
 generalize (execOp _ _).run P w=r at *
 cases r with
 | ok n w'=>
  cases n <;> simp only [Oper.upon] at h
  case value u=>exact ⟨_,_,h⟩
  case skip=>exact ⟨_,_,h⟩
  case defer d=>exact ⟨_,_,h⟩
  case enter f args=>
   obtain ⟨e,w'',fr,he,_⟩:=h []
   cases e with
   | returned u=>exact ⟨_,_,he⟩
   | panicked c=>exact absurd he id
   | outgrown=>obtain ⟨_,_,he⟩:=he;exact absurd he id
  case row row args=>
   obtain ⟨v,w'',he,_⟩:=h default []
   exact ⟨_,_,he⟩
 | halt x w'=>
  cases x <;> simp only [Oper.upon] at h
  case panic u=>exact absurd h id
 }
  ·exact ⟨_,_,h⟩
theorem wpOp_shift {i:Nat} {oi:Oper} {dj:Option Tmp} {u:Value} (hi:ops[i]?=some oi) (hsi:∀cs b,oi.op≠.select cs b)
  (h1:∀d,dj=some d->d ∉ oi.looksAt ops) (h2:∀d,dj=some d->oi.dst≠some d) {K:Act->World->Prop} {a:Act} {w:World}
  (h:wpOp P ops bot i (fun a' w'=>K (a'.put dj u) w') a w):wpOp P ops bot i K (a.put dj u) w:=by
 unfold wpOp at *
 simp only [hi] at *
 rw [wanted_put oi a dj u h1]
 split
 ·rename_i hw
  simp only [hw,if_true] at h
  rcases h with h | ⟨_,_,_,h⟩
  case inr=>exact absurd h id
  refine .inl ?_
  unfold Oper.wp at *
  rw [execOp_put oi hsi a dj u h1]
  generalize (execOp a.eval oi).run P w=r at *
  cases r with
  | ok n w'=>
   cases n <;> simp only [Oper.upon] at h |-
   case value v=>rw [Act.put_comm a u v h2];exact h
   case skip=>rw [Act.put_comm a u undef h2];exact h
   case defer d=>rw [Act.put_defers,Act.put_comm _ u undef h2];exact h
   case enter f args=>
    refine Calls.mono h fun e w'' he=>?_
    cases e with
    | returned v=>
     show K ((a.put dj u).put oi.dst v) w''
     rw [Act.put_comm a u v h2]
     exact he
    | panicked c=>exact he
    | outgrown=>exact he
   case row row args=>exact Rows.mono h fun v w'' he=>by rw [Act.put_comm a u v h2];exact he
  | halt x w'=>
   cases x <;> simp only [Oper.upon] at h |-
   case panic v=>exact h
 ·rename_i hw;simp only [hw] at h;rw [Act.put_comm a u undef h2];exact h
theorem wpOp_unshift {i:Nat} {oi:Oper} {dj:Option Tmp} {u:Value} (hi:ops[i]?=some oi) (hsi:∀cs b,oi.op≠.select cs b)
  (h1:∀d,dj=some d->d ∉ oi.looksAt ops) (h2:∀d,dj=some d->oi.dst≠some d) {K:Act->World->Prop} {a:Act} {w:World}
  (h:wpOp P ops bot i K (a.put dj u) w):wpOp P ops bot i (fun a' w'=>K (a'.put dj u) w') a w:=by
 unfold wpOp at *
 simp only [hi] at *
 rw [wanted_put oi a dj u h1] at h
 split
 ·rename_i hw
  simp only [hw,if_true] at h
  rcases h with h | ⟨_,_,_,h⟩
  case inr=>exact absurd h id
  refine .inl ?_
  unfold Oper.wp at *
  rw [execOp_put oi hsi a dj u h1] at h
  generalize (execOp a.eval oi).run P w=r at *
  cases r with
  | ok n w'=>
   cases n <;> simp only [Oper.upon] at h |-
   case value v=>rw [<-Act.put_comm a u v h2];exact h
   case skip=>rw [<-Act.put_comm a u undef h2];exact h
   case defer d=>rw [Act.put_defers,Act.put_comm _ u undef h2] at h;exact h
   case enter f args=>
    refine Calls.mono h fun e w'' he=>?_
    cases e with
    | returned v=>
     show K ((a.put oi.dst v).put dj u) w''
     rw [<-Act.put_comm a u v h2]
     exact he
    | panicked c=>exact he
    | outgrown=>exact he
   case row row args=>exact Rows.mono h fun v w'' he=>by rw [<-Act.put_comm a u v h2];exact he
  | halt x w'=>
   cases x <;> simp only [Oper.upon] at h |-
   case panic v=>exact h
 ·rename_i hw;simp only [hw] at h;rw [<-Act.put_comm a u undef h2];exact h
theorem yields_det {o:Oper} {u v:Value} {a:Act} (h:Yields P ops o u a) (k:Yields P ops o v a):u=v:=by
 rcases h with ⟨hw,h⟩ | ⟨hw,rfl⟩ <;> rcases k with ⟨kw,k⟩ | ⟨kw,rfl⟩
 ·have h0:=(h default).symm.trans (k default)
  injection h0 with h1;injection h1
 ·rw [hw] at kw;cases kw
 ·rw [hw] at kw;cases kw
 ·rfl
theorem steady_same {S:Nat->Prop} {w:World} {o:Oper} {v:Value} {a a':Act} (hy:Steady P ops S w o v a) (he:execOp a'.eval o=execOp a.eval o)
  (hw:Region.wanted o (yielded ops a'.tmps)=Region.wanted o (yielded ops a.tmps)):Steady P ops S w o v a':=by
 exact fun x hx=>(hy x hx).of_same he hw
theorem steady_on {S:Nat->Prop} {w w':World} {o:Oper} {v:Value} {a:Act} (hy:Steady P ops S w o v a) (hw:Keep S w w'):Steady P ops S w' o v a:=by
 exact fun x hx=>hy x (hw.trans hx)
theorem yk_form {S:Nat->Prop} {k:Nat} {w:World} {o:Oper} (hs:∀cs b,o.op≠.select cs b) {v:Value} {a:Act} {ds:List Deferred} {d:Option Tmp} {r:Value} (h:∀x,d=some x->x ∉ o.looksAt ops) :
  Yk P ops S k o v (({ a with defers:=ds }:Act).put d r) w↔Yk P ops S k o v a w:=by
 have e1:=execOp_put (ops:=ops) o hs ({ a with defers:=ds }:Act) d r h
 have e2:=wanted_put (ops:=ops) o ({ a with defers:=ds }:Act) d r h
 constructor
 ·rintro (⟨hk,k⟩ | ⟨hk,k⟩ | ⟨hk,k⟩)
  ·exact .inl ⟨hk,k.of_same (e1.symm ▸ rfl) (by rw [e2])⟩
  ·exact .inr (.inl ⟨hk,k.of_same (e1.symm ▸ rfl) (by rw [e2])⟩)
  ·exact .inr (.inr ⟨hk,steady_same k (e1.symm ▸ rfl) (by rw [e2])⟩)
 ·rintro (⟨hk,k⟩ | ⟨hk,k⟩ | ⟨hk,k⟩)
  ·exact .inl ⟨hk,k.of_same (e1.trans rfl) (e2.trans rfl)⟩
  ·exact .inr (.inl ⟨hk,k.of_same (e1.trans rfl) (e2.trans rfl)⟩)
  ·exact .inr (.inr ⟨hk,steady_same k (e1.trans rfl) (e2.trans rfl)⟩)
theorem yk_one {S:Nat->Prop} {o:Oper} {v:Value} {a:Act} {w:World} (h:Yk P ops S 1 o v a w):Yields P ops o v a:=by
 rcases h with ⟨h,_⟩ | ⟨_,h⟩ | ⟨h,_⟩
 ·cases h
 ·exact h
 ·cases h
theorem yk_any {S:Nat->Prop} {o:Oper} {v:Value} {a:Act} {w:World} (h:Yields P ops o v a):Yk P ops S 1 o v a w:=.inr (.inl ⟨rfl,h⟩)
theorem opX_mono {S:Nat->Prop} {kd:Nat->Nat} {i:Nat} {K K':Act->World->Prop} {a:Act} {w:World} (h:∀a w,K a w->K' a w) (hh:opX P ops S kd i K a w):opX P ops S kd i K' a w:=by
 rcases hh with ⟨k,o,hh⟩ | ⟨k,o,hh⟩ | ⟨o,v,h0,h1,h2⟩
 ·exact .inl ⟨k,o,fun n=>wpOp_mono h (hh n)⟩
 ·exact .inr (.inl ⟨k,o,fun n=>wpOp_mono (fun a' w' h'=>⟨h'.1,h _ _ h'.2⟩) (hh n)⟩)
 ·exact .inr (.inr ⟨o,v,h0,h1,h _ _ h2⟩)
def kinds (x y:Nat):Bool:=x == 1 || y == 1 || ((x == 0 || x == 4) && (y == 0 || y == 4)) || (x == 4 && y == 3)
theorem kinds_cases {x y:Nat} (h:kinds x y=true):x=1\/y=1\/((x=0\/x=4)/\(y=0\/y=4))\/(x=4/\y=3):=by
 simp [kinds] at h
 rcases h with ((h | h) | h) | h
 ·exact .inl h
 ·exact .inr (.inl h)
 ·exact .inr (.inr (.inl h))
 ·exact .inr (.inr (.inr h))
theorem opX_comm {S:Nat->Prop} {kd:Nat->Nat} {i j:Nat} {oi oj:Oper} (hi:ops[i]?=some oi) (hj:ops[j]?=some oj) (hap:oi.apart ops oj=true)
  (hsi:∀cs b,oi.op≠.select cs b) (hsj:∀cs b,oj.op≠.select cs b) (hkk:kinds (kd i) (kd j)=true)
  {K:Act->World->Prop} {a:Act} {w:World} (h:opX P ops S kd i (opX P ops S kd j K) a w):opX P ops S kd j (opX P ops S kd i K) a w:=by
 obtain ⟨p1,p2,p3⟩:=Oper.apart_spec hap
 have p4:∀d,oj.dst=some d->oi.dst≠some d:=fun d h1 h2=>p2 d h2 h1
 have hk:=kinds_cases hkk
 have eff:kd j=1->∀(R:Nat->World->Prop),(∀n,wpOp P ops bot i (fun a' w'=>R n w'/\opX P ops S kd j K a' w') a (w.drewN n))->
   ∃u,Yields P ops oj u a/\∀n,wpOp P ops bot i (fun a' w'=>R n w'/\K a' w') (a.put oj.dst u) (w.drewN n):=by
  intro kj R h
  have look:∀{a' w'},opX P ops S kd j K a' w'->(∃r ds,a'=({ a with defers:=ds }:Act).put oi.dst r)->∃u,Yields P ops oj u a/\K (a'.put oj.dst u) w':=by
   rintro a' w' hh ⟨r,ds,rfl⟩
   rcases hh with ⟨k',_⟩ | ⟨k',_⟩ | ⟨o,u,g0,g1,g2⟩
   ·rw [kj] at k';cases k'
   ·rw [kj] at k';cases k'
   ·rw [hj] at g0;obtain rfl:=Option.some.inj g0
    rw [kj] at g1
    exact ⟨u,yk_one ((yk_form hsj p1).1 g1),g2⟩
  obtain ⟨a',w',⟨_,hh⟩,hf⟩:=wpOp_some (wpOp_form hi (h 0))
  obtain ⟨u,hu,_⟩:=look hh hf
  refine ⟨u,hu,fun n=>wpOp_shift hi hsi p3 p4 (wpOp_mono (fun a' w' hh=>?_) (wpOp_form hi (h n)))⟩
  obtain ⟨u',hu',hK⟩:=look hh.1.2 hh.2
  obtain rfl:=yields_det hu hu'
  exact ⟨hh.1.1,hK⟩
 rcases h with ⟨k,o,h⟩ | ⟨k,o,h⟩ | ⟨o,v,h0,h1,h2⟩
 ·have kj:kd j=1:=by rcases hk with e | e | ⟨e | e,_⟩ | ⟨e,_⟩ <;> first | exact e | omega
  obtain ⟨u,hu,hn⟩:=eff kj (fun _ _=>True) (fun n=>wpOp_mono (fun _ _ h=>⟨trivial,h⟩) (h n))
  exact .inr (.inr ⟨oj,u,hj,by rw [kj];exact yk_any hu,.inl ⟨k,⟨oi,hi⟩,fun n=>wpOp_mono (fun _ _ h=>h.2) (hn n)⟩⟩)
 ·have kj:kd j=1:=by rcases hk with e | e | ⟨e | e,_⟩ | ⟨e,_⟩ <;> first | exact e | omega
  obtain ⟨u,hu,hn⟩:=eff kj (fun n w'=>Keep S (w.drewN n) w') h
  exact .inr (.inr ⟨oj,u,hj,by rw [kj];exact yk_any hu,.inr (.inl ⟨k,⟨oi,hi⟩,hn⟩)⟩)
 ·rw [hi] at h0;obtain rfl:=Option.some.inj h0
  rcases h2 with ⟨kj,_,h2⟩ | ⟨kj,_,h2⟩ | ⟨o,u,g0,g1,g2⟩
  ·have ki:kd i=1:=by rcases hk with e | e | ⟨_,e | e⟩ | ⟨_,e⟩ <;> first | exact e | omega
   refine .inl ⟨kj,⟨oj,hj⟩,fun n=>wpOp_mono (fun a' w' hh=>?_) (wpOp_form hj (wpOp_unshift hj hsj p1 (fun d e=>p2 d e) (h2 n)))⟩
   obtain ⟨hK,r,ds,rfl⟩:=hh
   rw [ki] at h1
   exact .inr (.inr ⟨oi,v,hi,by rw [ki];exact (yk_form hsi p3).2 (yk_any (yk_one h1)),hK⟩)
  ·refine .inr (.inl ⟨kj,⟨oj,hj⟩,fun n=>wpOp_mono (fun a' w' hh=>?_) (wpOp_form hj (wpOp_unshift hj hsj p1 (fun d e=>p2 d e) (h2 n)))⟩)
   obtain ⟨⟨hw,hK⟩,r,ds,rfl⟩:=hh
   refine ⟨hw,.inr (.inr ⟨oi,v,hi,(yk_form hsi p3).2 ?_,hK⟩)⟩
   rcases hk with e | e | ⟨_,e | e⟩ | ⟨e,_⟩
   ·rw [e] at h1 |-;exact yk_any (yk_one h1)
   ·omega
   ·omega
   ·omega
   ·rw [e] at h1 |-
    rcases h1 with ⟨h1,_⟩ | ⟨h1,_⟩ | ⟨_,h1⟩
    ·cases h1
    ·cases h1
    ·exact .inr (.inr ⟨rfl,steady_on h1 hw⟩)
  ·rw [hj] at g0;obtain rfl:=Option.some.inj g0
   have e1:=(yk_form (ds:=a.defers) hsj p1).1 g1
   refine .inr (.inr ⟨oj,u,hj,e1,.inr (.inr ⟨oi,v,hi,(yk_form (ds:=a.defers) hsi p3).2 h1,?_⟩)⟩)
   rw [<-Act.put_comm a v u p2]
   exact g2
def wpX (P:Program) (ops:Array Oper) (S:Nat->Prop) (kd:Nat->Nat) (Q:Act->World->Prop):Nat->Array Bool->Act->World->Prop
 | 0,listed,a,w=>Region.ready .any ops listed=[]/\∀n,Q a (w.drewN n)
 | fuel+1,listed,a,w=>
  (Region.ready .any ops listed=[]->∀n,Q a (w.drewN n))/\
  ∀i ∈ Region.ready .any ops listed,opX P ops S kd i (wpX P ops S kd Q fuel (listed.setIfInBounds i true)) a w
theorem wpOp_of_opX {S:Nat->Prop} {kd:Nat->Nat} {Q:Exit->Act->World->Prop} {i:Nat} {K K':Act->World->Prop} {a:Act} {w:World} (h:∀a w,K a w->∀n,K' a (w.drewN n))
  (hh:opX P ops S kd i K a w) (n:Nat):wpOp P ops Q i K' a (w.drewN n):=by
 rcases hh with ⟨k,_,hh⟩ | ⟨k,_,hh⟩ | ⟨o,v,h0,h1,h2⟩
 ·exact wpOp_bot (wpOp_mono (fun a w hK=>h a w hK 0) (hh n))
 ·exact wpOp_bot (wpOp_mono (fun a w hK=>h a w hK.2 0) (hh n))
 ·rcases h1 with ⟨_,h1⟩ | ⟨_,h1⟩ | ⟨_,h1⟩
  ·exact wpOp_of_qOp (C:=cls w) (K:=fun a'=>K a' w) ⟨n,rfl⟩ (fun a' w' hw' hK=>by obtain ⟨m,rfl⟩:=hw';exact h _ _ hK m) (h1.qOp h0 h2)
  ·exact h1.wpOp h0 (h _ _ h2 n)
  ·exact wpOp_of_qOp (C:=cls w) (K:=fun a'=>K a' w) ⟨n,rfl⟩ (fun a' w' hw' hK=>by obtain ⟨m,rfl⟩:=hw';exact h _ _ hK m) ((h1 w (fun _ _=>rfl)).qOp h0 h2)
theorem wpAny_of_X {S:Nat->Prop} {kd:Nat->Nat} {Q:Exit->Act->World->Prop}:∀(fuel:Nat) (listed:Array Bool) (a:Act) (w:World),wpX P ops S kd (Q .normal) fuel listed a w->
  ∀n,wpAny P .any ops Q fuel listed a (w.drewN n)
 | 0,_,_,_,h,n=>⟨h.1,h.2 n⟩
 | fuel+1,_,_,_,h,n=>⟨fun h0=>h.1 h0 n,fun i hi=>wpOp_of_opX (fun a' w' hK m=>wpAny_of_X fuel _ a' w' hK m) (h.2 i hi) n⟩
theorem wpX_first {S:Nat->Prop} {kd:Nat->Nat} {Q:Act->World->Prop} {i:Nat} {oi:Oper} (hi:ops[i]?=some oi) (hsel:∀(j:Nat) (o:Oper) cs b,ops[j]?=some o->o.op≠.select cs b)
  (blk:Nat->Prop) (hb:∀j oj,blk j->ops[j]?=some oj->∃e ∈ oj.after,Region.binds .any e=true/\(e.on=i\/blk e.on)) :
  ∀(fuel:Nat) (listed:Array Bool) (a:Act) (w:World),
   (∀j,blk j->listed.getD j false=false)->
   (∀j oj,ops[j]?=some oj->j≠i->listed.getD j true=false->¬blk j->oi.apart ops oj=true/\kinds (kd i) (kd j)=true)->
   i ∈ Region.ready .any ops listed->opX P ops S kd i (wpX P ops S kd Q fuel (listed.setIfInBounds i true)) a w->wpX P ops S kd Q (fuel+1) listed a w:=by
 intro fuel
 induction fuel with
 | zero=>
  intro listed a w _ _ hr H
  refine ⟨fun h=>(by rw [h] at hr;cases hr),fun j hj=>?_⟩
  by_cases hji:j=i
  ·subst hji;exact H
  ·have:=ready_mono hj hji
   have he:Region.ready .any ops (listed.setIfInBounds i true)=[]:=by
    rcases H with ⟨_,_,H⟩ | ⟨_,_,H⟩ | ⟨o,v,_,_,H⟩
    ·obtain ⟨_,_,H⟩:=wpOp_some (H 0);exact H.1
    ·obtain ⟨_,_,_,H⟩:=wpOp_some (H 0);exact H.1
    ·exact H.1
   rw [he] at this
   cases this
 | succ fuel ih=>
  intro listed a w hbl hfree hr H
  refine ⟨fun h=>(by rw [h] at hr;cases hr),fun j hj=>?_⟩
  by_cases hji:j=i
  ·subst hji;exact H
  {
 obtain ⟨hjun,oj,hoj,hall⟩:=mem_ready.1 hj
 have hiun:listed.getD i false=false:=by
  have h0:=(mem_ready.1 hr).1
  rcases Nat.lt_or_ge i listed.size with h' | h'
  ·simp [h'] at h0 |-;exact h0
  ·simp [Array.getElem?_eq_none h']
 have hnb:¬blk j:=fun hbj=>by
  obtain ⟨e,he,hbi,ho⟩:=hb j oj hbj hoj
  have h1:=hall e he hbi
  rcases ho with ho | ho
  ·rw [ho,hiun] at h1;cases h1
  ·rw [hbl _ ho] at h1;cases h1
 obtain ⟨q1,q2⟩:=hfree j oj hoj hji hjun hnb
 have H1:opX P ops S kd i (opX P ops S kd j (wpX P ops S kd Q fuel ((listed.setIfInBounds i true).setIfInBounds j true))) a w:=opX_mono (fun a' w' h=>h.2 j (ready_mono hj hji)) H
 have H2:=opX_comm hi hoj q1 (fun cs b=>hsel i oi cs b hi) (fun cs b=>hsel j oj cs b hoj) q2 H1
 refine opX_mono (fun a' w' h3=>ih (listed.setIfInBounds j true) a' w' (fun k hk=>?_) (fun k ok hk hki hun hkb=>hfree k ok hk hki ?_ hkb) (ready_mono hr (Ne.symm hji)) ?_) H2
 ·by_cases hjk:j=k
  ·subst hjk;exact absurd hk hnb
  ·rw [getD_set_ne false hjk];exact hbl k hk
 ·by_cases hjk:j=k
  ·subst hjk;exact hjun
  ·rw [getD_set_ne true hjk] at hun;exact hun
 ·rw [Array.setIfInBounds_comm _ _ hji]
  exact h3
 }
def wpMix (P:Program) (ops:Array Oper) (S:Nat->Prop) (kd:Nat->Nat) (Q:Act->World->Prop):List Nat->Act->World->Prop
 | [],a,w=>∀n,Q a (w.drewN n)
 | i::rest,a,w=>opX P ops S kd i (wpMix P ops S kd Q rest) a w
def blkA (ops:Array Oper) (listed:Array Bool) (i:Nat):Array Bool:=
 (List.range ops.size).foldl (fun b j=>if !listed.getD j true && ((ops[j]?).map (·.after.any fun e=>Region.binds .any e && (e.on == i || b.getD e.on false))).getD false then b.setIfInBounds j true else b) (Array.replicate ops.size false)
def freeX (ops:Array Oper) (kd:Nat->Nat) (listed:Array Bool) (i:Nat):Bool:=
 let b:=blkA ops listed i
 match ops[i]? with
 | none=>false
 | some oi=>(List.range ops.size).all fun j=>
  match ops[j]? with
  | none=>true
  | some oj=>
   (!b.getD j false || (!listed.getD j false && oj.after.any fun e=>Region.binds .any e && (e.on == i || b.getD e.on false))) &&
   (j == i || listed.getD j true || b.getD j false || (oi.apart ops oj && kinds (kd i) (kd j)))
def lexX (ops:Array Oper) (kd:Nat->Nat):List Nat->Array Bool->Bool
 | [],listed=>(Region.ready .any ops listed).isEmpty
 | i::rest,listed=>(Region.ready .any ops listed).contains i && freeX ops kd listed i && lexX ops kd rest (listed.setIfInBounds i true)
def mixB (ops:Array Oper) (kd:Nat->Nat) (ord:List Nat):Bool:=Region.noSelect ops && ord.length == ops.size && lexX ops kd ord (Array.replicate ops.size false)
theorem wpX_lex {S:Nat->Prop} {kd:Nat->Nat} {Q:Act->World->Prop} (hs:Region.noSelect ops=true):∀(ord:List Nat) (listed:Array Bool) (a:Act) (w:World),
  listed.size=ops.size->lexX ops kd ord listed=true->wpMix P ops S kd Q ord a w->wpX P ops S kd Q ord.length listed a w
 | [],_,_,_,_,hB,h=>⟨by simpa [lexX] using hB,h⟩
 | i::rest,listed,a,w,hz,hB,h=>by
  simp only [lexX,Bool.and_eq_true] at hB
  obtain ⟨⟨hr,hf⟩,hB'⟩:=hB
  have hr':i ∈ Region.ready .any ops listed:=by simpa using hr
  obtain ⟨_,oi,hoi,_⟩:=mem_ready.1 hr'
  have H:=opX_mono (fun a' w' hK=>wpX_lex hs rest (listed.setIfInBounds i true) a' w' (by simpa using hz) hB' hK) h
  simp only [freeX,hoi,List.all_eq_true,List.mem_range] at hf
  refine wpX_first hoi (Region.noSelect_spec hs) (fun j=>(blkA ops listed i).getD j false=true/\j < ops.size) (fun j oj hj hoj=>?_) rest.length listed a w (fun j hj=>?_) (fun j oj hoj hji hun hb=>?_) hr' H
  {
 have h1:=hf j hj.2
 simp only [hoj,hj.1,Bool.not_true,Bool.false_or,Bool.and_eq_true] at h1
 obtain ⟨e,he,hb⟩:=Array.any_eq_true'.1 h1.1.2
 simp only [Bool.and_eq_true,Bool.or_eq_true,beq_iff_eq] at hb
 refine ⟨e,he,hb.1,hb.2.imp id fun h=>⟨h,?_⟩⟩
 rcases Nat.lt_or_ge e.on ops.size with h' | h'
 ·exact h'
 ·have hsz:(blkA ops listed i).size=ops.size:=by
   unfold blkA
   have:∀(l:List Nat) (b:Array Bool),b.size=ops.size->(l.foldl (fun b j=>if !listed.getD j true && ((ops[j]?).map (·.after.any fun e=>Region.binds .any e && (e.on == i || b.getD e.on false))).getD false then b.setIfInBounds j true else b) b).size=ops.size:=by
    intro l
    induction l with
    | nil=>intro b hb;exact hb
    | cons x l ih=>intro b hb;simp only [List.foldl_cons];exact ih _ (by split <;> simpa using hb)
   exact this _ _ (by simp)
  rw [Array.getD_eq_getD_getElem?,Array.getElem?_eq_none (by omega)] at h
  cases h
 }
  ·obtain ⟨o,ho⟩:∃o,ops[j]?=some o:=⟨_,Array.getElem?_eq_getElem hj.2⟩
   have h1:=hf j hj.2
   simp only [ho,hj.1,Bool.not_true,Bool.false_or,Bool.and_eq_true] at h1
   simpa using h1.1.1
  ·have hlt:j < ops.size:=(Array.getElem?_eq_some_iff.1 hoj).1
   have h1:=hf j hlt
   have hb':(blkA ops listed i).getD j false=false:=by
    cases hx:(blkA ops listed i).getD j false
    ·rfl
    ·exact absurd ⟨hx,hlt⟩ hb
   simp only [hoj,hb',Bool.not_false,Bool.true_or,Bool.true_and,Bool.or_eq_true,beq_iff_eq,hji,false_or,hun,Bool.false_eq_true,Bool.and_eq_true] at h1
   exact h1
theorem wp_region_mix {id:Nat} {Q:Exit->Act->World->Prop} {a:Act} {w:World} {l:List Oper} (S:Nat->Prop) (kd:Nat->Nat) (ord:List Nat) (hm:P.follows .mixedOrders=true)
  (hB:mixB l.toArray kd ord=true) (h:wpMix P l.toArray S kd (Q .normal) ord a w):(Code.region id l.toArray true).wp P Q a w:=by
 simp only [mixB,Bool.and_eq_true,beq_iff_eq] at hB
 refine wp_region_any hm ?_
 have:=wpAny_of_X (Q:=Q) _ _ _ _ (wpX_lex hB.1.1 ord (Array.replicate l.toArray.size false) a w (by simp) hB.2 h) 1
 rw [hB.1.2] at this
 exact this
theorem mix_q {S:Nat->Prop} {kd:Nat->Nat} {Q:Act->World->Prop} {i:Nat} {rest:List Nat} {o:Oper} {a:Act} {w:World} (ho:ops[i]?=some o) (hk:kd i=0)
  (h:wpQuiet P ops (fun w'=>∃n,w'=w.drewN n) (fun a'=>wpMix P ops S kd Q rest a' w) [o] a):wpMix P ops S kd Q (i::rest) a w:=by
 obtain ⟨v,hy,hK⟩:=yieldsIn_of_qOp (K:=fun a'=>wpMix P ops S kd Q rest a' w) ho (by unfold qOp;simp only [ho];exact h)
 exact .inr (.inr ⟨o,v,ho,.inl ⟨hk,hy⟩,hK⟩)
theorem mix_v {S:Nat->Prop} {kd:Nat->Nat} {Q:Act->World->Prop} {i:Nat} {rest:List Nat} {o:Oper} {a:Act} {w:World} (ho:ops[i]?=some o) (hk:kd i=0) (v:Value) (hg:o.guard=none)
  (hrun:∀W,(∃n,W=w.drewN n)->(execOp a.eval o).run P W=.ok (.value v) W) (h:wpMix P ops S kd Q rest (a.put o.dst v) w):wpMix P ops S kd Q (i::rest) a w:=
 .inr (.inr ⟨o,v,ho,.inl ⟨hk,.inl ⟨by simp [Region.wanted,hg],fun W hW=>by
  unfold Oper.quietAt
  rw [hrun W hW]
  exact ⟨rfl,rfl⟩⟩⟩,h⟩)
def plainOp:Op->Bool
 | .move _ | .assign _ | .pick .. | .nilCheck _ | .binOp .. | .unOp .. | .fieldAddr .. | .field .. | .indexAddr .. | .index .. | .extract .. | .build .. | .convert .. | .slice .. | .load .. | .makeFunc ..=>true
 | _=>false
theorem plain_value {o:Oper} (hp:plainOp o.op=true) {ρ:Operand->Value} {w w':World} {nx:Next} (h:(execOp ρ o).run P w=.ok nx w'):∃v,nx=.value v:=by
 obtain ⟨dst,op,type,pos,after,guard⟩:=o
 have vv:∀(s:Sem Value),(do let x <-s;pure (Next.value x):Sem Next).run P w=.ok nx w'->∃v,nx=.value v:=fun s hs=>by
  rw [Sem.run_bind] at hs
  generalize s.run P w=r at hs
  cases r with
  | halt _ _=>simp at hs
  | ok v w1=>simp at hs;exact ⟨v,hs.1.symm⟩
 have rt:∀w1,((runtimePanic .nilDeref:Sem Next)).run P w1=.ok nx w'->∃v,nx=.value v:=fun w1 he=>by
  simp [runtimePanic] at he
 cases op <;> simp only [plainOp,Bool.false_eq_true] at hp <;> simp only [execOp] at h
 case pick c x y=>
  rw [Sem.run_bind] at h
  generalize (asBool _).run P w=r at h
  cases r with
  | halt _ _=>simp at h
  | ok v w1=>simp at h;exact ⟨_,h.1.symm⟩
 case nilCheck x=>
  split at h
  ·exact rt _ h
  ·exact rt _ h
  ·exact rt _ h
  {
 split at h
 ·exact rt _ h
 ·simp only [Sem.run_bind] at h
  generalize Sem.run P _ w=r at h
  cases r with
  | halt _ _=>simp at h
  | ok p w1=>
   simp only [Result.andThen_ok] at h
   generalize Sem.run P _ w1=r at h
   cases r with
   | halt _ _=>simp at h
   | ok p w1=>
    simp only [Result.andThen_ok] at h
    split at h
    ·simp [unsupported] at h
    ·simp at h;exact ⟨_,h.1.symm⟩
 ·simp at h;exact ⟨_,h.1.symm⟩
 }
  ·simp at h;exact ⟨_,h.1.symm⟩
 case move x=>simp at h;exact ⟨_,h.1.symm⟩
 case assign x=>simp at h;exact ⟨_,h.1.symm⟩
 all_goals exact vv _ h
theorem run_of_quiet {C:World->Prop} {o:Oper} {a:Act} {v:Value} {w':World} (hp:plainOp o.op=true) (h1:o.quietAt P a C w' v):(execOp a.eval o).run P w'=.ok (.value v) w':=by
 unfold Oper.quietAt at h1
 generalize hr:(execOp a.eval o).run P w'=r at h1
 cases r with
 | halt _ _=>simp [Oper.quietUpon] at h1
 | ok n w''=>
  cases n <;> simp only [Oper.quietUpon] at h1
  case value u=>rw [h1.1,h1.2]
  case skip=>obtain ⟨v,hv⟩:=plain_value hp hr;cases hv
  case enter f args=>obtain ⟨v,hv⟩:=plain_value hp hr;cases hv
theorem mix_p {S:Nat->Prop} {kd:Nat->Nat} {Q:Act->World->Prop} {i:Nat} {rest:List Nat} {o:Oper} {a:Act} {w:World} (ho:ops[i]?=some o) (hk:kd i=1) (hp:plainOp o.op=true)
  (h:wpQuiet P ops (fun _=>True) (fun a'=>wpMix P ops S kd Q rest a' w) [o] a):wpMix P ops S kd Q (i::rest) a w:=by
 obtain ⟨v,hy,hK⟩:=yieldsIn_of_qOp (K:=fun a'=>wpMix P ops S kd Q rest a' w) ho (by unfold qOp;simp only [ho];exact h)
 refine .inr (.inr ⟨o,v,ho,.inr (.inl ⟨hk,?_⟩),hK⟩)
 rcases hy with ⟨hw,hy⟩ | h
 ·exact .inl ⟨hw,fun w'=>run_of_quiet hp (hy w' trivial)⟩
 ·exact .inr h
theorem mix_s {S:Nat->Prop} {kd:Nat->Nat} {Q:Act->World->Prop} {i:Nat} {rest:List Nat} {o:Oper} {a:Act} {w:World} (ho:ops[i]?=some o) (hk:kd i=4) (hp:plainOp o.op=true)
  (h:wpQuiet P ops (fun w'=>∃x:Far S w,w'=x.world) (fun a'=>wpMix P ops S kd Q rest a' w) [o] a):wpMix P ops S kd Q (i::rest) a w:=by
 obtain ⟨v,hy,hK⟩:=yieldsIn_of_qOp (K:=fun a'=>wpMix P ops S kd Q rest a' w) ho (by unfold qOp;simp only [ho];exact h)
 refine .inr (.inr ⟨o,v,ho,.inr (.inr ⟨hk,?_⟩),hK⟩)
 refine fun x hx=>?_
 rcases hy with ⟨hw,hy⟩ | h
 ·refine .inl ⟨hw,fun W hW=>?_⟩
  obtain ⟨m,rfl⟩:=hW
  unfold Oper.quietAt
  rw [run_of_quiet hp (hy _ ⟨⟨x.drewN m,hx⟩,rfl⟩)]
  exact ⟨rfl,rfl⟩
 ·exact .inr h
theorem mix_w {S:Nat->Prop} {kd:Nat->Nat} {Q:Act->World->Prop} {i:Nat} {rest:List Nat} {o:Oper} {a:Act} {w:World} (ho:ops[i]?=some o) (hk:kd i=4) (v:Value) (hg:o.guard=none)
  (hv:∀x,Keep S w x->(execOp a.eval o).run P x=.ok (.value v) x) (h:wpMix P ops S kd Q rest (a.put o.dst v) w):wpMix P ops S kd Q (i::rest) a w:=
 .inr (.inr ⟨o,v,ho,.inr (.inr ⟨hk,fun x hx=>.inl ⟨by simp [Region.wanted,hg],fun W hW=>by
  obtain ⟨m,rfl⟩:=hW
  unfold Oper.quietAt
  rw [hv _ (show Keep S w (x.drewN m) from hx)]
  exact ⟨rfl,rfl⟩⟩⟩),h⟩)
theorem wpOp_of_list {K:Act->World->Prop} {i:Nat} {o:Oper} {a:Act} {w:World} (ho:ops[i]?=some o) (h1:wpList P ops (noQ K) [o] a w):wpOp P ops bot i K a w:=by
 unfold wpList at h1
 unfold wpOp
 simp only [ho]
 split
 ·rename_i hw
  rw [if_pos hw] at h1
  rcases h1 with h1 | ⟨_,_,_,h1⟩
  case inr=>exact absurd h1 id
  refine .inl ?_
  unfold Oper.wp at *
  generalize (execOp a.eval o).run P w=r at *
  cases r with
  | ok n w'=>
   cases n <;> simp only [Oper.upon] at h1 |-
   case enter f args=>
    refine Calls.mono h1 fun e w'' he=>?_
    cases e with
    | returned u=>exact he
    | panicked c=>exact he
    | outgrown=>obtain ⟨_,_,he⟩:=he;exact absurd he id
   case row row args=>exact h1
   all_goals exact h1
  | halt x w'=>
   cases x <;> simp only [Oper.upon] at h1 |-
   case panic u=>exact h1
 ·rename_i hw;rw [if_neg hw] at h1;exact h1
theorem mix_e {S:Nat->Prop} {kd:Nat->Nat} {Q:Act->World->Prop} {i:Nat} {rest:List Nat} {o:Oper} {a:Act} {w:World} (ho:ops[i]?=some o) (hk:kd i=2)
  (h:∀W,(∃n,W=w.drewN n)->wpList P ops (noQ (wpMix P ops S kd Q rest)) [o] a W):wpMix P ops S kd Q (i::rest) a w:=
 .inl ⟨hk,⟨o,ho⟩,fun n=>wpOp_of_list ho (h _ ⟨n,rfl⟩)⟩
theorem mix_a {S:Nat->Prop} {kd:Nat->Nat} {Q:Act->World->Prop} {i:Nat} {rest:List Nat} {o:Oper} {a:Act} {w:World} (ho:ops[i]?=some o) (hk:kd i=3)
  (h:∀W,(∃n,W=w.drewN n)->wpList P ops (noQ (fun a' w'=>Keep S w w'/\wpMix P ops S kd Q rest a' w')) [o] a W):wpMix P ops S kd Q (i::rest) a w:=
 .inr (.inl ⟨hk,⟨o,ho⟩,fun n=>wpOp_of_list ho (h _ ⟨n,rfl⟩)⟩)
theorem q1 {S:Nat->Prop} {kd:Nat->Nat} {Q:Act->World->Prop} {i:Nat} {rest:List Nat} {o:Oper} {a:Act} {w:World} (hk:kd i=0)
  (h:wpQuiet P ops (fun w'=>∃n,w'=w.drewN n) (fun a'=>wpMix P ops S kd Q rest a' w) [o] a) (ho:ops[i]?=some o:=by simp only [List.getElem?_toArray,List.getElem?_cons_zero,List.getElem?_cons_succ];exact rfl):wpMix P ops S kd Q (i::rest) a w:=mix_q ho hk h
theorem p1 {S:Nat->Prop} {kd:Nat->Nat} {Q:Act->World->Prop} {i:Nat} {rest:List Nat} {o:Oper} {a:Act} {w:World} (hk:kd i=1) (hp:plainOp o.op=true)
  (h:wpQuiet P ops (fun _=>True) (fun a'=>wpMix P ops S kd Q rest a' w) [o] a) (ho:ops[i]?=some o:=by simp only [List.getElem?_toArray,List.getElem?_cons_zero,List.getElem?_cons_succ];exact rfl):wpMix P ops S kd Q (i::rest) a w:=mix_p ho hk hp h
theorem s1 {S:Nat->Prop} {kd:Nat->Nat} {Q:Act->World->Prop} {i:Nat} {rest:List Nat} {o:Oper} {a:Act} {w:World} (hk:kd i=4) (hp:plainOp o.op=true)
  (h:wpQuiet P ops (fun w'=>∃x:Far S w,w'=x.world) (fun a'=>wpMix P ops S kd Q rest a' w) [o] a) (ho:ops[i]?=some o:=by simp only [List.getElem?_toArray,List.getElem?_cons_zero,List.getElem?_cons_succ];exact rfl):wpMix P ops S kd Q (i::rest) a w:=mix_s ho hk hp h
theorem e1 {S:Nat->Prop} {kd:Nat->Nat} {Q:Act->World->Prop} {i:Nat} {rest:List Nat} {o:Oper} {a:Act} {w:World} (hk:kd i=2)
  (h:∀W,(∃n,W=w.drewN n)->wpList P ops (noQ (wpMix P ops S kd Q rest)) [o] a W) (ho:ops[i]?=some o:=by simp only [List.getElem?_toArray,List.getElem?_cons_zero,List.getElem?_cons_succ];exact rfl):wpMix P ops S kd Q (i::rest) a w:=mix_e ho hk h
theorem a1 {S:Nat->Prop} {kd:Nat->Nat} {Q:Act->World->Prop} {i:Nat} {rest:List Nat} {o:Oper} {a:Act} {w:World} (hk:kd i=3)
  (h:∀W,(∃n,W=w.drewN n)->wpList P ops (noQ (fun a' w'=>Keep S w w'/\wpMix P ops S kd Q rest a' w')) [o] a W) (ho:ops[i]?=some o:=by simp only [List.getElem?_toArray,List.getElem?_cons_zero,List.getElem?_cons_succ];exact rfl):wpMix P ops S kd Q (i::rest) a w:=mix_a ho hk h
theorem zq {S:Nat->Prop} {kd:Nat->Nat} {Q:Act->World->Prop} {i:Nat} {rest:List Nat} {o:Oper} {a:Act} {w:World} (h:wpQuiet P ops (fun w'=>∃n,w'=w.drewN n) (fun a'=>wpMix P ops S kd Q rest a' w) [o] a) (hk:kd i=0:=by rfl) (ho:ops[i]?=some o:=by simp only [List.getElem?_toArray,List.getElem?_cons_zero,List.getElem?_cons_succ];exact rfl):wpMix P ops S kd Q (i::rest) a w:=mix_q ho hk h
theorem zp {S:Nat->Prop} {kd:Nat->Nat} {Q:Act->World->Prop} {i:Nat} {rest:List Nat} {o:Oper} {a:Act} {w:World} (h:wpQuiet P ops (fun _=>True) (fun a'=>wpMix P ops S kd Q rest a' w) [o] a) (hk:kd i=1:=by rfl) (ho:ops[i]?=some o:=by simp only [List.getElem?_toArray,List.getElem?_cons_zero,List.getElem?_cons_succ];exact rfl) (hp:plainOp o.op=true:=by rfl):wpMix P ops S kd Q (i::rest) a w:=mix_p ho hk hp h
theorem zs {S:Nat->Prop} {kd:Nat->Nat} {Q:Act->World->Prop} {i:Nat} {rest:List Nat} {o:Oper} {a:Act} {w:World} (h:wpQuiet P ops (fun w'=>∃x:Far S w,w'=x.world) (fun a'=>wpMix P ops S kd Q rest a' w) [o] a) (hk:kd i=4:=by rfl) (ho:ops[i]?=some o:=by simp only [List.getElem?_toArray,List.getElem?_cons_zero,List.getElem?_cons_succ];exact rfl) (hp:plainOp o.op=true:=by rfl):wpMix P ops S kd Q (i::rest) a w:=mix_s ho hk hp h
theorem ze {S:Nat->Prop} {kd:Nat->Nat} {Q:Act->World->Prop} {i:Nat} {rest:List Nat} {o:Oper} {a:Act} {w:World} (h:∀W,(∃n,W=w.drewN n)->wpList P ops (noQ (wpMix P ops S kd Q rest)) [o] a W) (hk:kd i=2:=by rfl) (ho:ops[i]?=some o:=by simp only [List.getElem?_toArray,List.getElem?_cons_zero,List.getElem?_cons_succ];exact rfl):wpMix P ops S kd Q (i::rest) a w:=mix_e ho hk h
theorem za {S:Nat->Prop} {kd:Nat->Nat} {Q:Act->World->Prop} {i:Nat} {rest:List Nat} {o:Oper} {a:Act} {w:World} (h:∀W,(∃n,W=w.drewN n)->wpList P ops (noQ (fun a' w'=>Keep S w w'/\wpMix P ops S kd Q rest a' w')) [o] a W) (hk:kd i=3:=by rfl) (ho:ops[i]?=some o:=by simp only [List.getElem?_toArray,List.getElem?_cons_zero,List.getElem?_cons_succ];exact rfl):wpMix P ops S kd Q (i::rest) a w:=mix_a ho hk h
theorem rg {id:Nat} {Q:Exit->Act->World->Prop} {a:Act} {w:World} {l:List Oper} (S:Nat->Prop) (ks ord:List Nat) (h:wpMix P l.toArray S (fun i=>ks.getD i 0) (Q .normal) ord a w) (hm:P.follows .mixedOrders=true:=by kernel_rfl) (hB:mixB l.toArray (fun i=>ks.getD i 0) ord=true:=by kernel_rfl):(Code.region id l.toArray true).wp P Q a w:=wp_region_mix S _ ord hm hB h
theorem rt {id:Nat} {Q:Exit->Act->World->Prop} {a:Act} {w:World} {l:List Oper} (ks ord:List Nat) (h:wpMix P l.toArray (fun _=>True) (fun i=>ks.getD i 0) (Q .normal) ord a w) (hm:P.follows .mixedOrders=true:=by kernel_rfl) (hB:mixB l.toArray (fun i=>ks.getD i 0) ord=true:=by kernel_rfl):(Code.region id l.toArray true).wp P Q a w:=wp_region_mix _ _ ord hm hB h
theorem mix_world {S:Nat->Prop} {kd:Nat->Nat} {Q:Act->World->Prop} {is:List Nat} {a:Act} {w:World} (h:∀W,W=w->wpMix P ops S kd Q is a W):wpMix P ops S kd Q is a w:=h w rfl
end
end Go.Proofs.YtjcdknhejcbpiaaGreat.Mix
