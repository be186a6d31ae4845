/- Lemmas; no condition. -/
import Derived.Test.YtjcdknhejcbpiaaGreatSb14
set_option maxRecDepth 100000
set_option maxHeartbeats 8000000
namespace Go.Proofs.YtjcdknhejcbpiaaGreat
open Go.RowKit
set_option linter.unusedVariables false
set_option linter.unusedSimpArgs false
set_option linter.unusedSectionVars false
theorem own_apart {w:World} {B B' e e' s s' n m:Nat} {u v:Value} {xs ys:List Value} (h:w.ownsRow B e s u n xs) (h':w.ownsRow B' e' s' v m ys) (ht:e≠e') (k:Nat) (hu:u.ownBlock=some k):¬v.ownBlock=some k:=by
 intro hv
 rcases h.2 with ⟨rfl,_⟩ | ⟨g,c,cur,rfl,_,hg,_⟩
 ·simp [Value.ownBlock] at hu
 ·rcases h'.2 with ⟨rfl,_⟩ | ⟨g',c',cur',rfl,_,hg',_⟩
  ·simp [Value.ownBlock] at hv
  ·simp only [Value.ownBlock,Option.some.injEq] at hu hv
   subst hu
   subst hv
   rw [hg] at hg'
   injection hg' with hg'
   injection hg' with _ h2
   exact ht h2
theorem infoPr:(Tryz.prog.info? 246).map (fun i=>(i.zero,i.size,i.bytes))=some (some (Value.pointer none),1,8):=by kernel_rfl
def rootV (n:Nat) (its:List It) (ks:List Nat):List Value:=ks.map fun j=>match fOf n its j with
 | some r=>.pointer (some ⟨r,0,none⟩)
 | none=>.nilIface
theorem fOf_app {n:Nat} {a b:List It} {j r:Nat} (h:fOf n a j=some r):fOf n (a++b) j=some r:=by
 unfold fOf at *
 split at h
 ·rename_i hn
  rw [if_pos hn]
  obtain ⟨x,hx,hr⟩:=Option.map_eq_some_iff.1 h
  rw [List.getElem?_append_left (List.getElem?_eq_some_iff.1 hx).1,hx,<-hr]
  rfl
 ·cases h
theorem fOf_off {n:Nat} {a b:List It} {j r:Nat} (h:fOf (n+a.length) b j=some r):fOf n (a++b) j=some r:=by
 unfold fOf at *
 split at h
 ·rename_i hn
  rw [if_pos (by omega),List.getElem?_append_right (by omega),show j - n - a.length=j - (n+a.length) by omega]
  exact h
 ·cases h
theorem Its.app {w':World} {S S':Nat->Prop} {pb n:Nat} {s1 s2:List Sp} {i1 i2:List It} (h1:Its w' S pb n s1 i1) (h2:Its w' S' pb (n+i1.length) s2 i2) (S2:Nat->Prop) (hS:∀k,k < w'.heap.size->S k->S2 k) (hS':∀k,k < w'.heap.size->S' k->S2 k) (hd:∀a ∈ i1,∀b ∈ i2,a.rb≠b.rb):Its w' S2 pb n (s1++s2) (i1++i2):=by
 refine ⟨by rw [List.length_append,List.length_append,h1.len,h2.len],fun i sp it hi hi'=>?_,fun i sp it hi hi'=>?_,fun i j it it' hi hj hne=>?_⟩
 ·by_cases hl:i < s1.length
  ·rw [List.getElem?_append_left hl] at hi
   rw [List.getElem?_append_left (by rw [h1.len];exact hl)] at hi'
   exact (h1.item i sp it hi hi').keep (Ch.refl (fun _=>False) w') (fun _ _ _ _ _ _=>id) hS (fun j _ r hr=>fOf_app hr)
  ·rw [List.getElem?_append_right (by omega)] at hi
   rw [List.getElem?_append_right (by rw [h1.len];omega),h1.len] at hi'
   exact (h2.item _ sp it hi hi').keep (Ch.refl (fun _=>False) w') (fun _ _ _ _ _ _=>id) hS' (fun j _ r hr=>fOf_off hr)
 ·by_cases hl:i < s1.length
  ·rw [List.getElem?_append_left hl] at hi
   rw [List.getElem?_append_left (by rw [h1.len];exact hl)] at hi'
   exact h1.root i sp it hi hi'
  ·rw [List.getElem?_append_right (by omega)] at hi
   rw [List.getElem?_append_right (by rw [h1.len];omega),h1.len] at hi'
   exact h2.root _ sp it hi hi'
 ·by_cases hl:i < i1.length
  ·rw [List.getElem?_append_left hl] at hi
   by_cases hm:j < i1.length
   ·rw [List.getElem?_append_left hm] at hj
    exact h1.diff i j it it' hi hj hne
   ·rw [List.getElem?_append_right (by omega)] at hj
    exact hd it (List.mem_of_getElem? hi) it' (List.mem_of_getElem? hj)
  ·rw [List.getElem?_append_right (by omega)] at hi
   by_cases hm:j < i1.length
   ·rw [List.getElem?_append_left hm] at hj
    exact fun e=>hd it' (List.mem_of_getElem? hj) it (List.mem_of_getElem? hi) e.symm
   ·rw [List.getElem?_append_right (by omega)] at hj
    exact h2.diff _ _ it it' hi hj (by omega)
theorem Its.keep {w w':World} {S S' fp:Nat->Prop} {pb n:Nat} {sps:List Sp} {its:List It} (h:Its w S pb n sps its) (c:Ch fp w w') (hf:∀k t cs,Blk w k t cs->QT t->S k->¬fp k) (hS:∀k,k < w.heap.size->S k->S' k) (hr:∀it ∈ its,¬fp it.rb):Its w' S' pb n sps its:=
 ⟨h.len,fun i sp it hi hi'=>(h.item i sp it hi hi').keep c hf hS (fun _ _ _ h=>h),fun i sp it hi hi'=>c.blk (h.root i sp it hi hi') (hr it (List.mem_of_getElem? hi')),h.diff⟩
theorem post_last (t:T) (n:Nat):∃sp,(T.post n t)[t.cnt - 1]?=some sp/\sp.m=t.meas/\sp.h=t.ht:=by
 cases t with
 | leaf s=>exact ⟨_,rfl,rfl,rfl⟩
 | node h ks=>
  refine ⟨⟨h,⟨#[]⟩,rootL n ks,msum (T.measL ks)⟩,?_,rfl,rfl⟩
  simp only [T.post,T.cnt]
  rw [List.getElem?_append_right (by rw [postL_len];omega),postL_len,show T.cntL ks+1 - 1 - T.cntL ks=0 by omega]
  rfl
theorem rootV_app {n:Nat} {a b:List It} {ks:List Nat} (h:∀j ∈ ks,∃r,fOf n a j=some r):rootV n (a++b) ks=rootV n a ks:=by
 unfold rootV
 refine List.map_congr_left fun j hj=>?_
 obtain ⟨r,hr⟩:=h j hj
 rw [hr,fOf_app hr]
theorem Its.rblk {w:World} {S:Nat->Prop} {pb n:Nat} {sps:List Sp} {its:List It} (h:Its w S pb n sps its):∀it ∈ its,∃cs,Blk w it.rb 102 cs:=by
 intro it hit
 obtain ⟨i,hi⟩:=List.getElem?_of_mem hit
 obtain ⟨hl,_⟩:=List.getElem?_eq_some_iff.1 hi
 exact ⟨_,h.root i _ it (List.getElem?_eq_getElem (by rw [<-h.len];exact hl)) hi⟩
theorem Its.snoc {w:World} {S:Nat->Prop} {pb n:Nat} {s1:List Sp} {sp:Sp} {i1:List It} {it:It} (h:Its w S pb n s1 i1) (hi:ItemM w S pb (fOf n (i1++[it])) sp it) (hr:RootM w sp it 0) (hd:∀a ∈ i1,a.rb≠it.rb):Its w S pb n (s1++[sp]) (i1++[it]):=by
 have hl:=h.len
 have key:∀(i:Nat) (sp':Sp) (it':It),(s1++[sp])[i]?=some sp'->(i1++[it])[i]?=some it'->(i < s1.length/\s1[i]?=some sp'/\i1[i]?=some it')\/(sp'=sp/\it'=it):=by
  intro i sp' it' ha hb
  by_cases hc:i < s1.length
  ·rw [List.getElem?_append_left hc] at ha
   rw [List.getElem?_append_left (by omega)] at hb
   exact .inl ⟨hc,ha,hb⟩
  ·have e:=(List.getElem?_eq_some_iff.1 ha).1
   simp at e
   obtain rfl:i=s1.length:=by omega
   rw [List.getElem?_append_right (by omega),Nat.sub_self] at ha
   rw [List.getElem?_append_right (by omega),show s1.length - i1.length=0 by omega] at hb
   simp at ha hb
   exact .inr ⟨ha.symm,hb.symm⟩
 refine ⟨by simp [hl],fun i sp' it' ha hb=>?_,fun i sp' it' ha hb=>?_,fun i j a b ha hb hne=>?_⟩
 ·rcases key i sp' it' ha hb with ⟨_,h1,h2⟩ | ⟨rfl,rfl⟩
  ·exact (h.item i sp' it' h1 h2).keep (Ch.refl (fun _=>False) w) (fun _ _ _ _ _ _=>id) (fun _ _ h=>h) (fun j _ r hr=>fOf_app hr)
  ·exact hi
 ·rcases key i sp' it' ha hb with ⟨_,h1,h2⟩ | ⟨rfl,rfl⟩
  ·exact h.root i sp' it' h1 h2
  ·exact hr
 ·have e1:=(List.getElem?_eq_some_iff.1 ha).1
  have e2:=(List.getElem?_eq_some_iff.1 hb).1
  simp at e1 e2
  by_cases c1:i < i1.length
  ·rw [List.getElem?_append_left c1] at ha
   by_cases c2:j < i1.length
   ·rw [List.getElem?_append_left c2] at hb
    exact h.diff i j a b ha hb hne
   ·obtain rfl:j=i1.length:=by omega
    rw [List.getElem?_append_right (by omega),Nat.sub_self] at hb
    simp at hb
    subst hb
    exact hd a (List.mem_of_getElem? ha)
  ·obtain rfl:i=i1.length:=by omega
   rw [List.getElem?_append_right (by omega),Nat.sub_self] at ha
   simp at ha
   subst ha
   rw [List.getElem?_append_left (by omega)] at hb
   exact fun e=>hd b (List.mem_of_getElem? hb) e.symm
structure AddAt (B pb n kb rb tb N:Nat) (av todo rv:Value) (vals:List Value) (h:Nat) (tc:Array Value) (ts:List T) (w w1 W:World) (its:List It) (todo' kv:Value):Prop where
 p:Blk W pb 248 #[av,todo',rv]
 o:W.ownsRow B 276 1 todo' (n+T.cntL ts) (vals++its.map It.v)
 i:Its W (fun j=>w1.heap.size<=j/\¬kv.ownBlock=some j) pb n (T.postL n ts) its
 k:W.ownsRow w1.heap.size 246 1 kv ts.length (rootV n its (rootL n ts))
 kok:∀j ∈ rootL n ts,∃r,fOf n its j=some r
 kb:Blk W kb 293 #[kv]
 r:Blk W rb 102 #[.int .u64 0,.int .i64 (h:Int),.int .i64 (msum (T.measL ts)).b,.int .i64 (msum (T.measL ts)).r,.int .i64 (msum (T.measL ts)).l]
 t:Blk W tb 183 tc
 c:Ch (fun k=>k=pb\/todo.ownBlock=some k) w W
 f:Fresh w todo todo'
 rl:∀it ∈ its,w1.heap.size<=it.rb
 z:w1.heap.size<=W.heap.size
theorem add_node (h m b off c:Nat) (ks:List T) (S0:Nat->Prop) (B pb n:Nat) (av todo rv:Value) (vals:List Value) (w:World) (hm:h=m+1) (hm16:m+1<=16) (hI:InTs w S0 (some ⟨b,off,none⟩) ks.length ks) (hf1:2<=ks.length) (hf2:ks.length<=4) (hp:Blk w pb 248 #[av,todo,rv]) (ho:w.ownsRow B 276 1 todo n vals) (hB:B<=w.heap.size) (hn:n+T.cntL ks+1<=60000) (hS0:∀k,S0 k->¬(k=pb\/todo.ownBlock=some k)) (hby:T.bytesL ks<=65536)
  (ih:∀t ∈ ks,∀(cs:List Value) (w:World) (S:Nat->Prop) (n:Nat) (todo:Value) (vals:List Value),TreeAt w S t cs->Blk w pb 248 #[av,todo,rv]->w.ownsRow B 276 1 todo n vals->B<=w.heap.size->n+t.cnt<=60000->(∀k,S k->¬(k=pb\/todo.ownBlock=some k))->t.bytes<=65536->Calls Tryz.prog 145 #[.pointer (some ⟨pb,0,none⟩),.agg cs.toArray] w (AddOut t B pb n av todo rv vals w)) :
  Calls Tryz.prog 145 #[.pointer (some ⟨pb,0,none⟩),.agg #[.int .u64 0,.int .i64 (h:Int),.int .i64 0,.int .i64 0,.int .i64 0,.string ⟨#[]⟩,.slice (some ⟨b,off,none⟩) ks.length c]] w (AddOut (.node h ks) B pb n av todo rv vals w):=by
 obtain ⟨i0,hi,hz0,hz1,hz2⟩:=info_parts infoPr
 have d0:((h:Int) == 0)=false:=by rw [beq_eq_false_iff_ne];omega
 have HI:=hid hI
 have IH:=hid ih
 have HP:=hid hp
 have HO:=hid ho
 have HS0:=hid hS0
 have hpl:=hp.lt
 obtain ⟨TOT,hTOT⟩:∃x,x=T.cntL ks:=⟨_,rfl⟩
 rw [<-hTOT] at hn
 have HT:=hid hTOT
 have HBY:=hid hby
 obtain ⟨N,hN⟩:∃x,x=ks.length:=⟨_,rfl⟩
 rw [<-hN] at hf1 hf2
 rw [<-hN]
 have HN:=hid hN
 have d1:((N:Int) == 0)=false:=by rw [beq_eq_false_iff_ne];omega
 have HM:=hid hm
 clear hI ih hp ho hS0 hTOT hN hby hm
 go_enter Tryz.func145,Tryz.ntmps145
 go_wp2_with fail
 refine at_world fun W1 hW1=>?_
 obtain ⟨b0,hb0⟩:∃x,x=w.heap.size:=⟨_,rfl⟩
 rw [show w.heap.size+1+1=b0+2 by omega,show w.heap.size+1=b0+1 by omega]
 have C1:=hid (show Ch (fun _=>False) w W1 from by rw [hW1];exact (((Ch.refl _ w).alloc _).alloc _).alloc _)
 have T1:=hid (show Blk W1 b0 183 #[.int .u64 0,.int .i64 (h:Int),.int .i64 0,.int .i64 0,.int .i64 0,.string ⟨#[]⟩,.slice (some ⟨b,off,none⟩) N c] from by rw [hW1,hb0];exact ((Blk.new w _ _).alloc _).alloc _)
 have R1:=hid (show Blk W1 (b0+1) 102 #[.int .u64 0,.int .i64 (h:Int),.int .i64 0,.int .i64 0,.int .i64 0] from by
  rw [hW1,hb0]
  have t:=(Blk.new (w.alloc (.cells #[.int .u64 0,.int .i64 (h:Int),.int .i64 0,.int .i64 0,.int .i64 0,.string ⟨#[]⟩,.slice (some ⟨b,off,none⟩) N c] 183)) 102 #[.int .u64 0,.int .i64 (h:Int),.int .i64 0,.int .i64 0,.int .i64 0]).alloc (.cells #[.slice none 0 0] 293)
  simpa using t)
 have K1:=hid (show Blk W1 (b0+2) 293 #[.slice none 0 0] from by
  rw [hW1,hb0]
  have t:=Blk.new ((w.alloc (.cells #[.int .u64 0,.int .i64 (h:Int),.int .i64 0,.int .i64 0,.int .i64 0,.string ⟨#[]⟩,.slice (some ⟨b,off,none⟩) N c] 183)).alloc (.cells #[.int .u64 0,.int .i64 (h:Int),.int .i64 0,.int .i64 0,.int .i64 0] 102)) 293 #[.slice none 0 0]
  simpa using t)
 clear hW1
 have HZ:=hid hb0
 have hpb:pb < b0:=by omega
 have hBb:B<=b0:=by omega
 have hb1z:b0+2 < W1.heap.size:=K1.out.lt
 rw [<-hb0]
 clear hb0 hpl hB
 go_loopw [22] (fun i W=>∃(k:Nat) (its:List It) (todo' kv:Value),k<=N/\i=.int .i64 (k:Int)/\AddAt B pb n (b0+2) (b0+1) b0 N av todo rv vals h #[.int .u64 0,.int .i64 (h:Int),.int .i64 0,.int .i64 0,.int .i64 0,.string ⟨#[]⟩,.slice (some ⟨b,off,none⟩) N c] (ks.take k) w W1 W its todo' kv) (fun i _=>N - (intOf i).toNat)
 case atStart=>
  refine ⟨0,[],todo,.slice none 0 0,Nat.zero_le _,rfl,⟨C1.out.blk HP.out id,?_,⟨rfl,fun i sp it hi hi'=>by simp at hi',fun i sp it hi hi'=>by simp at hi',fun i j it it' hi=>by simp at hi⟩,World.ownsRow_nil _ _ _ _,fun j hj=>by simp [rootL] at hj,K1.out,R1.out,T1.out,C1.out.mono (fun _ _ e=>e.elim),.inl rfl,fun it hit=>by simp at hit,Nat.le_refl _⟩⟩
  have t:=C1.out.own HO.out (fun _ _=>id)
  simpa [T.cntL] using t
 case round=>
  clear C1 T1 R1 K1
  obtain ⟨k,its,todo',kv,hk,rfl,hA⟩:=hrel
  have HA:=hid hA
  clear hA
  by_cases hlt:k < N
  {
 have hlt':k < ks.length:=by rw [<-HN.out];exact hlt
 obtain ⟨x,hx⟩:∃x,ks[k]?=some x:=⟨_,List.getElem?_eq_getElem hlt'⟩
 have hI:=HI.out.keep HA.out.c (fun j _ hs=>HS0.out j hs) (S':=fun j=>S0 j/\j < w.heap.size) (fun j hj h=>⟨h,hj⟩)
 obtain ⟨cx,hcx,_,_,hcell⟩:=hI.at k x hx
 obtain ⟨xs,xa,xn,xc,rfl⟩:=hcx.form
 have hK0:wr.cell? ⟨b,off+k * 7,none⟩=some (.int .u64 0):=hcell 0 _ rfl
 have hK1:wr.cell? ⟨b,off+k * 7+1,none⟩=some (.int .i64 (Int.ofNat x.ht)):=hcell 1 _ rfl
 have hK2:wr.cell? ⟨b,off+k * 7+2,none⟩=some (.int .i64 0):=hcell 2 _ rfl
 have hK3:wr.cell? ⟨b,off+k * 7+3,none⟩=some (.int .i64 0):=hcell 3 _ rfl
 have hK4:wr.cell? ⟨b,off+k * 7+4,none⟩=some (.int .i64 0):=hcell 4 _ rfl
 have hK5:wr.cell? ⟨b,off+k * 7+5,none⟩=some (.string xs):=hcell 5 _ rfl
 have hK6:wr.cell? ⟨b,off+k * 7+6,none⟩=some (.slice xa xn xc):=hcell 6 _ rfl
 have HX:=hid hcx
 have HXM:=hid (List.mem_of_getElem? hx)
 have hsn:=cntL_snoc ks k x hx
 have htk:=cntL_take ks (k+1)
 rw [<-HT.out] at htk
 have hbs:=bytesL_snoc ks k x hx
 have hbt:=bytesL_take ks (k+1)
 have hby:=HBY.out
 have hxb:=hid (show x.bytes<=65536 by omega)
 have hrow:=HA.out.k
 obtain ⟨A0,c0',hkv,_⟩:=own_slice hrow
 have htl:(ks.take k).length=k:=by rw [List.length_take];omega
 rw [htl] at hkv hrow
 subst hkv
 have HROW:=hid hrow
 have HSN:=hid hsn
 have HTL:=hid htl
 have HXK:=hid hx
 have hcnt:=hid (show n+T.cntL (ks.take k)+x.cnt<=60000 by omega)
 have hqb:=hid (show (T.bytesL (ks.take k):Int)+(x.bytes:Int)<=65536 by omega)
 clear hcell hcx hx hI hsn htk hbs hbt hby hrow htl
 obtain ⟨y1,y2⟩:=dc_ltT (a:=k) (b:=N) (by omega)
 go_wp2_with fail
 refine calls_world fun W3 hW3=>?_
 have D3:=hid (show Ch (fun _=>False) wr W3 from by rw [hW3];exact (Ch.refl _ wr).alloc _)
 clear hW3 hK0 hK1 hK2 hK3 hK4 hK5 hK6
 have hzw3:wr.heap.size<=W3.heap.size:=D3.out.size
 have hzw1:W1.heap.size<=wr.heap.size:=HA.out.z
 have hsz:w.heap.size<=wr.heap.size:=HA.out.c.size
 have hownlt:∀j,todo'.ownBlock=some j->j < wr.heap.size:=fun j hj=>(HA.out.o.lt j hj).2
 refine (IH.out x HXM.out [.int .u64 0,.int .i64 (Int.ofNat x.ht),.int .i64 0,.int .i64 0,.int .i64 0,.string xs,.slice xa xn xc] W3 (fun j=>S0 j/\j < w.heap.size) (n+T.cntL (ks.take k)) todo' (vals++its.map It.v) (HX.out.keep D3.out (fun _ _ _=>id) (fun _ _ h=>h)) (D3.out.blk HA.out.p id) (D3.out.own HA.out.o (fun _ _=>id)) (by omega) hcnt.out (fun j hj e=>by
  rcases e with e | e
  ·exact HS0.out j hj.1 (.inl e)
  ·rcases HA.out.f with f | f
   ·exact HS0.out j hj.1 (.inr (f ▸ e))
   ·have:=f j e;omega) hxb.out).mono ?_
 rintro e w4 ⟨its1,it1,todo1,rfl,hl1,hp1,ho1,hI1,hr1,hc1,hf1⟩
 have HL1:=hid hl1
 have HP1:=hid hp1
 have HO1:=hid ho1
 have HI1:=hid hI1
 have HR1:=hid hr1
 have C41:=hid (show Ch (fun j=>j=pb\/todo'.ownBlock=some j) wr w4 from (D3.out.mono (fun _ _ e=>e.elim)).trans hc1 (fun _ _ h=>h))
 have HF1:=hid hf1
 have tn:∀(g:Nat) (t:TypeId) (cs:Array Value),Blk wr g t cs->t≠248->t≠276->¬(g=pb\/todo'.ownBlock=some g):=fun g t cs hb h1 h2 e=>by
  rcases e with e | e
  ·exact Blk.ne hb HA.out.p h1 e
  ·exact hb.own HA.out.o h2 e
 have HTN:=hid tn
 have K4:=hid (C41.out.blk HA.out.kb (tn _ _ _ HA.out.kb (by decide) (by decide)))
 have R4:=hid (C41.out.blk HA.out.r (tn _ _ _ HA.out.r (by decide) (by decide)))
 have T4:=hid (C41.out.blk HA.out.t (tn _ _ _ HA.out.t (by decide) (by decide)))
 have OK4:=hid (C41.out.own HROW.out (fun j hj e=>by
  rcases e with e | e
  ·rw [e] at hj;exact HA.out.p.own HROW.out (by decide) hj
  ·exact own_apart HROW.out HA.out.o (by decide) j hj e))
 clear hl1 hp1 ho1 hI1 hr1 hc1 hf1 tn hownlt
 have k0:w4.cell? ⟨b0+2,0,none⟩=some (.slice A0 k c0'):=K4.out.cell 0
 have f0:=K4.out.free 0
 go_wp2_with (at_builtin;refine wpList_app _ rfl (.tmp 29) (.tmp 31) 293 rfl W1.heap.size 246 i0 _ 1 8 Tryz.underlying293 hi hz0 hz1 hz2 rfl (by decide) _ _ _ rfl (OK4.out.alloc _) ⟨w4.heap.size,0,none⟩ 1 1 [.pointer (some ⟨it1.rb,0,none⟩)] rfl rfl ?c1 ?c2 (by decide) ?c3 ?c4 ?c5 ?c6)
 case c1=>
  intro j u hu
  rw [addr_add0]
  exact ((Blk.new w4 246 #[.pointer (some ⟨it1.rb,0,none⟩)]).cell j).trans (by simpa using hu)
 case c2=>intro u hu;simp at hu;subst hu;rfl
 case c3=>unfold maxLen;omega
 case c4=>omega
 case c5=>have:=C41.out.size;have:=Ch.size ((Ch.refl (fun _=>False) w4).alloc (.cells #[.pointer (some ⟨it1.rb,0,none⟩)] 246));omega
 case c6=>
  intro v' w5 hown' hgrow hfresh
  have hkvlt:∀j,(Value.slice A0 k c0').ownBlock=some j->W1.heap.size<=j/\j < wr.heap.size:=fun j hj=>HROW.out.lt j hj
  have hz41:=C41.out.size
  have CR:=hid (show Ch (fun j=>(Value.slice A0 k c0').ownBlock=some j) w4 w5 from ((Ch.refl _ w4).alloc _).grown hgrow (fun j hj _=>hj))
  have OW:=hid hown'
  have HF:=hid hfresh
  have K5:=hid (CR.out.blk K4.out (K4.out.own OK4.out (by decide)))
  have R5:=hid (CR.out.blk R4.out (R4.out.own OK4.out (by decide)))
  clear hown' hgrow hfresh k0 f0
  obtain ⟨A5,c5,hv5,_⟩:=own_slice OW.out
  subst hv5
  have s0:=K5.out.free 0
  have q0:w5.cell? ⟨b0+2,0,none⟩=some (.slice A0 k c0'):=K5.out.cell 0
  go_wp2_with fail
  refine at_world fun W6 hW6=>?_
  have C6:=hid (show Ch (fun j=>j=b0+2) w5 W6 from by rw [hW6];exact (Ch.refl (fun j=>j=b0+2) w5).set (fun _=>rfl) _)
  have K6:=hid (show Blk W6 (b0+2) 293 #[.slice A5 (k+1) c5] from by rw [hW6];exact K5.out.put 0 _)
  clear hW6 s0 q0
  have R6:=hid (C6.out.blk R5.out (by omega))
  have O6:=hid (C6.out.own OW.out (fun j hj e=>(K5.out.own OW.out (by decide)) (e ▸ hj)))
  obtain ⟨sp,hsp,hspm,hsph⟩:=post_last x (n+T.cntL (ks.take k))
  have hroot:=HI1.out.root _ sp it1 hsp HL1.out
  have hit1:it1 ∈ its1:=List.mem_of_getElem? HL1.out
  have hrb1:W3.heap.size<=it1.rb:=HR1.out it1 hit1
  have hkn:∀j,(Value.slice A0 k c0').ownBlock=some j->j≠it1.rb:=fun j hj e=>by have:=hkvlt j hj;omega
  unfold RootM at hroot
  rw [hspm] at hroot
  have X6:=hid (C6.out.blk (CR.out.blk hroot (fun e=>hkn _ e rfl)) (by omega))
  have HRM:=hid hroot
  have HSP:=hid hsp
  clear hroot hsp
  obtain ⟨mk,hmk⟩:∃v,v=msum (T.measL (ks.take k)):=⟨_,rfl⟩
  obtain ⟨mx,hmx⟩:∃v,v=x.meas:=⟨_,rfl⟩
  have e1:mk.b=(T.bytesL (ks.take k):Int):=by rw [hmk];exact measL_b _
  have e2:mk.ord:=by rw [hmk];exact measL_ord _
  have e3:mx.b=(x.bytes:Int):=by rw [hmx];exact (meas_bytes x).1
  have e4:mx.ord:=by rw [hmx];exact (meas_bytes x).2
  have hq:=hqb.out
  obtain ⟨u1,u2,u3⟩:=e2
  obtain ⟨u4,u5,u6⟩:=e4
  have v1:0<=mk.b/\mk.b+mx.b<=65536/\0<=mx.b:=⟨by omega,by omega,by omega⟩
  have v2:0<=mk.r/\mk.r+mx.r<=65536/\0<=mx.r:=⟨by omega,by omega,by omega⟩
  have v3:0<=mk.l/\mk.l+mx.l<=65536/\0<=mx.l:=⟨by omega,by omega,by omega⟩
  obtain ⟨v11,v12,v13⟩:=v1
  obtain ⟨v21,v22,v23⟩:=v2
  obtain ⟨v31,v32,v33⟩:=v3
  have R6:=hid (show Blk W6 (b0+1) 102 #[.int .u64 0,.int .i64 (h:Int),.int .i64 mk.b,.int .i64 mk.r,.int .i64 mk.l] from by rw [hmk];exact R6.out)
  have X6:=hid (show Blk W6 it1.rb 102 #[.int .u64 0,.int .i64 (sp.h:Int),.int .i64 mx.b,.int .i64 mx.r,.int .i64 mx.l] from by rw [hmx];exact X6.out)
  have HMK:=hid hmk
  have HMX:=hid hmx
  clear hmk hmx e1 e3 u1 u2 u3 u4 u5 u6 hq
  have hne:it1.rb≠b0+1:=by omega
  have r2:W6.cell? ⟨b0+1,2,none⟩=some (.int .i64 mk.b):=R6.out.cell 2
  have c2:W6.cell? ⟨it1.rb,2,none⟩=some (.int .i64 mx.b):=X6.out.cell 2
  have s2:=R6.out.free 2
  refine Mix.rt [0,0,0,0,0,0,0,0,0,0,0,0,0,0,2] [0,1,2,3,4,5,6,7,8,9,10,11,12,13,14] ?_
  repeat (first | (refine Mix.zq ?_;go_big_quiet_step (omega);refine wpQuiet_nil ?_) | (refine Mix.zp ?_;go_big_quiet_step (fail);refine wpQuiet_nil ?_) | (refine Mix.zs ?_;go_big_quiet_step (fail);refine wpQuiet_nil ?_))
  refine Mix.ze fun W hW=>?_
  obtain ⟨y,rfl⟩:=hW
  go_wp2_with fail
  intro y0
  go_wp2_with fail
  refine at_world fun W7 hW7=>?_
  have C7:=hid (show Ch (fun j=>j=b0+1) W6 W7 from by rw [hW7];exact (((Ch.refl (fun j=>j=b0+1) W6).drewN y).set (fun _=>rfl) _).drewN y0)
  have R7:=hid (show Blk W7 (b0+1) 102 #[.int .u64 0,.int .i64 (h:Int),.int .i64 (mk.b+mx.b),.int .i64 mk.r,.int .i64 mk.l] from by rw [hW7];exact ((R6.out.drewN y).put 2 _).drewN y0)
  have X7:=hid (C7.out.blk X6.out hne)
  clear hW7 r2 c2 s2
  have r2:W7.cell? ⟨b0+1,3,none⟩=some (.int .i64 mk.r):=R7.out.cell 3
  have c2:W7.cell? ⟨it1.rb,3,none⟩=some (.int .i64 mx.r):=X7.out.cell 3
  have s2:=R7.out.free 3
  refine Mix.rt [0,0,0,0,0,0,0,0,0,0,0,0,0,0,2] [0,1,2,3,4,5,6,7,8,9,10,11,12,13,14] ?_
  repeat (first | (refine Mix.zq ?_;go_big_quiet_step (omega);refine wpQuiet_nil ?_) | (refine Mix.zp ?_;go_big_quiet_step (fail);refine wpQuiet_nil ?_) | (refine Mix.zs ?_;go_big_quiet_step (fail);refine wpQuiet_nil ?_))
  refine Mix.ze fun W hW=>?_
  obtain ⟨y,rfl⟩:=hW
  go_wp2_with fail
  intro y1
  go_wp2_with fail
  refine at_world fun W8 hW8=>?_
  have C8:=hid (show Ch (fun j=>j=b0+1) W7 W8 from by rw [hW8];exact (((Ch.refl (fun j=>j=b0+1) W7).drewN y).set (fun _=>rfl) _).drewN y1)
  have R8:=hid (show Blk W8 (b0+1) 102 #[.int .u64 0,.int .i64 (h:Int),.int .i64 (mk.b+mx.b),.int .i64 (mk.r+mx.r),.int .i64 mk.l] from by rw [hW8];exact ((R7.out.drewN y).put 3 _).drewN y1)
  have X8:=hid (C8.out.blk X7.out hne)
  clear hW8 r2 c2 s2
  have r2:W8.cell? ⟨b0+1,4,none⟩=some (.int .i64 mk.l):=R8.out.cell 4
  have c2:W8.cell? ⟨it1.rb,4,none⟩=some (.int .i64 mx.l):=X8.out.cell 4
  have s2:=R8.out.free 4
  refine Mix.rt [0,0,0,0,0,0,0,0,0,0,0,0,0,0,2] [0,1,2,3,4,5,6,7,8,9,10,11,12,13,14] ?_
  repeat (first | (refine Mix.zq ?_;go_big_quiet_step (omega);refine wpQuiet_nil ?_) | (refine Mix.zp ?_;go_big_quiet_step (fail);refine wpQuiet_nil ?_) | (refine Mix.zs ?_;go_big_quiet_step (fail);refine wpQuiet_nil ?_))
  refine Mix.ze fun W hW=>?_
  obtain ⟨y,rfl⟩:=hW
  go_wp2_with fail
  intro y2
  go_wp2_with fail
  obtain ⟨W9,hW9⟩:∃x,x=((W8.drewN y).setCell ⟨b0+1,4,none⟩ (.int .i64 (mk.l+mx.l))).drewN y2:=⟨_,rfl⟩
  rw [<-hW9]
  have C9:=hid (show Ch (fun j=>j=b0+1) W8 W9 from by rw [hW9];exact (((Ch.refl (fun j=>j=b0+1) W8).drewN y).set (fun _=>rfl) _).drewN y2)
  have R9:=hid (show Blk W9 (b0+1) 102 #[.int .u64 0,.int .i64 (h:Int),.int .i64 (mk.b+mx.b),.int .i64 (mk.r+mx.r),.int .i64 (mk.l+mx.l)] from by rw [hW9];exact ((R8.out.drewN y).put 4 _).drewN y2)
  have X9:=hid (C9.out.blk X8.out hne)
  clear hW9 r2 c2 s2
  have CE:=hid (show Ch (fun j=>j=b0+1\/j=b0+2\/(Value.slice A0 k c0').ownBlock=some j) w4 W9 from
   (CR.out.mono (fun _ _ e=>.inr (.inr e))).trans ((C6.out.mono (fun _ _ e=>.inr (.inl e))).trans (((C7.out.trans C8.out (fun _ _ e=>e)).trans C9.out (fun _ _ e=>e)).mono (fun _ _ e=>.inl e)) (fun _ _ e=>e)) (fun _ _ e=>e))
  have C69:=hid ((C7.out.trans C8.out (fun _ _ e=>e)).trans C9.out (fun _ _ e=>e))
  have hzz:=HZ.out
  have htake:ks.take (k+1)=ks.take k++[x]:=by rw [List.take_add_one,HXK.out];rfl
  have hilen:its.length=T.cntL (ks.take k):=by rw [HA.out.i.len,postL_len]
  have hkv5:∀j,(Value.slice A5 (k+1) c5).ownBlock=some j->(Value.slice A0 k c0').ownBlock=some j\/w4.heap.size<=j:=fun j hj=>by
   rcases HF.out with e | e
   ·exact .inl (e ▸ hj)
   ·have:=e j hj
    have:=Ch.size ((Ch.refl (fun _=>False) w4).alloc (.cells #[.pointer (some ⟨it1.rb,0,none⟩)] 246))
    exact .inr (by omega)
  have I1:=HA.out.i.keep (S':=fun j=>W1.heap.size<=j/\¬(Value.slice A0 k c0').ownBlock=some j) C41.out (fun j t cs hb hq hs=>HTN.out j t cs hb (fun e=>absurd (e ▸ hq) (by unfold QT;decide)) (fun e=>absurd (e ▸ hq) (by unfold QT;decide))) (fun _ _ h=>h) (fun it hit=>by
   obtain ⟨cs,hb⟩:=HA.out.i.rblk it hit
   exact HTN.out _ _ _ hb (by decide) (by decide))
  have I2:=I1.keep (S':=fun j=>W1.heap.size<=j/\¬(Value.slice A5 (k+1) c5).ownBlock=some j) CE.out (fun j t cs hb hq hs e=>by
   rcases e with e | e | e
   ·have:=hs.1;omega
   ·have:=hs.1;omega
   ·exact hs.2 e) (fun j hj hs=>⟨hs.1,fun e=>(hkv5 j e).elim hs.2 (fun h=>absurd hj (by omega))⟩) (fun it hit e=>by
   have hge:=HA.out.rl it hit
   obtain ⟨cs,hb⟩:=HA.out.i.rblk it hit
   rcases e with e | e | e
   ·omega
   ·omega
   ·exact hb.own HROW.out (by decide) e)
  have I3:Its W9 (fun j=>W1.heap.size<=j/\¬(Value.slice A5 (k+1) c5).ownBlock=some j) pb (n+its.length) (T.post (n+T.cntL (ks.take k)) x) its1:=by
   rw [hilen]
   refine HI1.out.keep CE.out (fun j t cs hb hq hs e=>?_) (fun j hj hs=>⟨by omega,fun e=>(hkv5 j e).elim (fun e=>by have:=hkvlt j e;omega) (fun h=>absurd hj (by omega))⟩) (fun it hit e=>?_)
   ·rcases e with e | e | e
    ·omega
    ·omega
    ·have:=hkvlt j e;omega
   ·have hge:=HR1.out it hit
    rcases e with e | e | e
    ·omega
    ·omega
    ·have:=hkvlt _ e;omega
  have hdd:∀a ∈ its,∀b ∈ its1,a.rb≠b.rb:=fun a ha b' hb'=>by
   obtain ⟨cs,hb⟩:=HA.out.i.rblk a ha
   have:=hb.lt
   have:=HR1.out b' hb'
   omega
  have hxc:=cnt_pos x
  have hlast:fOf n (its++its1) (n+T.cntL (ks.take k)+x.cnt - 1)=some it1.rb:=by
   refine fOf_off ?_
   unfold fOf
   rw [if_pos (by omega),hilen,show n+T.cntL (ks.take k)+x.cnt - 1 - (n+T.cntL (ks.take k))=x.cnt - 1 by omega,HL1.out]
   rfl
  have c1:=HA.out.c.trans C41.out (fun i hi e=>e.elim .inl (fun e=>HA.out.f.elim (fun f=>.inr (f ▸ e)) (fun f=>absurd (f i e) (by omega))))
  have nw:∀(g:Nat) (t:TypeId) (cs:Array Value),Blk w4 g t cs->t≠246->g≠b0+1->g≠b0+2->Blk W9 g t cs:=fun g t cs hb h1 h2 h3=>CE.out.blk hb (fun e=>by
   rcases e with e | e | e
   ·exact h2 e
   ·exact h3 e
   ·exact hb.own OK4.out h1 e)
  refine ⟨⟨k+1,its++its1,todo1,.slice A5 (k+1) c5,hlt,by push_cast;rfl,?_⟩,by simp only [intOf];omega⟩
  refine ⟨nw _ _ _ HP1.out (by decide) (by omega) (by omega),?_,?_,?_,?_,?_,?_,nw _ _ _ T4.out (by decide) (by omega) (by omega),?_,?_,?_,?_⟩
  ·rw [HSN.out,List.map_append,<-List.append_assoc,<-Nat.add_assoc]
   refine CE.out.own HO1.out (fun j hj e=>?_)
   rcases e with e | e | e
   ·exact (R4.out.own HO1.out (by decide)) (e ▸ hj)
   ·exact (K4.out.own HO1.out (by decide)) (e ▸ hj)
   ·exact own_apart HO1.out OK4.out (by decide) j hj e
  ·rw [htake,postL_snoc]
   exact I2.app I3 _ (fun _ _ h=>h) (fun _ _ h=>h) hdd
  ·rw [List.length_take,show min (k+1) ks.length=k+1 by omega,htake,rootL_snoc]
   have hv:rootV n (its++its1) (rootL n (ks.take k)++[n+T.cntL (ks.take k)+x.cnt - 1])=rootV n its (rootL n (ks.take k))++[.pointer (some ⟨it1.rb,0,none⟩)]:=by
    rw [<-rootV_app (b:=its1) HA.out.kok]
    unfold rootV
    rw [List.map_append]
    simp [hlast]
   rw [hv]
   exact C69.out.own O6.out (fun j hj e=>(R6.out.own O6.out (by decide)) (e ▸ hj))
  ·rw [htake,rootL_snoc]
   intro j hj
   rcases List.mem_append.1 hj with hj | hj
   ·obtain ⟨r,hr⟩:=HA.out.kok j hj
    exact ⟨r,fOf_app hr⟩
   ·simp at hj
    exact ⟨_,hj ▸ hlast⟩
  ·exact C69.out.blk K6.out (by omega)
  ·rw [htake,show T.measL (ks.take k++[x])=T.measL (ks.take k)++[x.meas] by simp [measL_map],msum_snoc,<-HMK.out,<-HMX.out]
   exact R9.out
  ·refine c1.trans CE.out (fun i hi e=>?_)
   rcases e with e | e | e
   ·omega
   ·omega
   ·have:=hkvlt i e;omega
  ·rcases HF1.out with e1 | e1
   ·rcases HA.out.f with e2 | e2
    ·exact .inl (e1.trans e2)
    ·exact .inr (fun i hi=>e2 i (e1 ▸ hi))
   ·exact .inr (fun i hi=>by have:=e1 i hi;omega)
  ·intro it hit
   rcases List.mem_append.1 hit with hi | hi
   ·exact HA.out.rl it hi
   ·have:=HR1.out it hi;omega
  ·have:=CE.out.size;omega
 }
  {
 obtain rfl:N=k:=by omega
 have y1:decide (N < N)=false:=decide_eq_false (by omega)
 have htk:ks.take N=ks:=by rw [HN.out];exact List.take_length
 have HA:=hid (show AddAt B pb n (b0+2) (b0+1) b0 N av todo rv vals h #[.int .u64 0,.int .i64 (h:Int),.int .i64 0,.int .i64 0,.int .i64 0,.string ⟨#[]⟩,.slice (some ⟨b,off,none⟩) N c] ks w W1 wr its todo' kv from by have t:=HA.out;rw [htk] at t;exact t)
 go_wp2_with fail
 refine (put_any B pb (b0+1) av todo' rv 162 #[.pointer (some ⟨b0,0,none⟩),.pointer (some ⟨b0+2,0,none⟩)] (n+T.cntL ks) (vals++its.map It.v) wr HA.out.p HA.out.o (by have:=HA.out.z;omega) (by have:=HT.out;omega)).mono ?_
 rintro e w4 ⟨bp,bc,br,todo1,rfl,hp4,ho4,hbp,hbc,hbr,z1,z2,z3,hc4,hf4⟩
 go_wp2_with fail
 go_ret
 have hzz:=HZ.out
 have hz41:=hc4.size
 have hilen:its.length=T.cntL ks:=by rw [HA.out.i.len,postL_len]
 have hownlt:∀j,todo'.ownBlock=some j->B<=j/\j < wr.heap.size:=fun j hj=>HA.out.o.lt j hj
 have kp:∀(g:Nat) (t:TypeId) (cs:Array Value),Blk wr g t cs->t≠248->t≠276->Blk w4 g t cs:=fun g t cs hb h1 h2=>hc4.blk hb (fun e=>by
  rcases e with e | e
  ·exact Blk.ne hb HA.out.p h1 e
  ·exact hb.own HA.out.o h2 e)
 obtain ⟨g,cap,cur,hkv,hgB,hgb,_,_,_,hcur⟩:=(show _ from (HA.out.k.2).resolve_left (fun e=>by have:=e.2;have:=HN.out;omega))
 have hgb':Blk wr g 246 cur:=hgb
 have I1:=HA.out.i.keep (S':=fun j=>w.heap.size<=j) hc4 (fun j t cs hb hq hs e=>by
  rcases e with e | e
  ·exact Blk.ne hb HA.out.p (fun e=>absurd (e ▸ hq) (by unfold QT;decide)) e
  ·exact hb.own HA.out.o (fun e=>absurd (e ▸ hq) (by unfold QT;decide)) e) (fun j hj h=>by have:=h.1;omega) (fun it hit e=>by
  obtain ⟨cs,hb⟩:=HA.out.i.rblk it hit
  rcases e with e | e
  ·exact Blk.ne hb HA.out.p (by decide) e
  ·exact hb.own HA.out.o (by decide) e)
 obtain ⟨it0,hit0⟩:∃x:It,x=⟨b0+1,bp,bc,br,b0,b0+2,g,cap⟩:=⟨_,rfl⟩
 have hzw:=HA.out.z
 have hK:=HA.out.kb
 rw [hkv] at hK
 refine ⟨its++[it0],it0,todo1,by rw [hit0];rfl,?_,hp4,?_,?_,?_,?_,?_⟩
 ·simp only [T.cnt]
  rw [List.getElem?_append_right (by omega),show T.cntL ks+1 - 1 - its.length=0 by omega]
  rfl
 ·rw [List.map_append,<-List.append_assoc,hit0]
  exact ho4
 ·refine I1.snoc ?_ ?_ (fun a ha=>by rw [hit0];have:=HA.out.rl a ha;show a.rb≠b0+1;omega)
  {
 rw [hit0]
 refine ⟨⟨hbp,by show w.heap.size<=bp;omega⟩,⟨hbr,by show w.heap.size<=br;omega⟩,.inr ⟨by show 1<=h;have:=HM.out;omega,rfl,⟨hbc,by show w.heap.size<=bc;omega⟩,⟨_,⟨kp _ _ _ HA.out.t (by decide) (by decide),by show w.heap.size<=b0;omega⟩,rfl⟩,⟨?_,by show w.heap.size<=b0+2;omega⟩,cur,⟨kp _ _ _ hgb' (by decide) (by decide),by show w.heap.size<=g;omega⟩,fun i j hij=>?_⟩⟩
 ·have t:=kp _ _ _ hK (by decide) (by decide)
  show Blk w4 (b0+2) 293 #[.slice (some ⟨g,0,none⟩) (rootL n ks).length cap]
  rw [rootL_len]
  exact t
 ·have hij':(rootL n ks)[i]?=some j:=hij
  obtain ⟨r,hr⟩:=HA.out.kok j (List.mem_of_getElem? hij')
  refine ⟨r,fOf_app hr,?_⟩
  have hv:(rootV n its (rootL n ks))[i]?=some (.pointer (some ⟨r,0,none⟩)):=by
   unfold rootV
   rw [List.getElem?_map,hij']
   simp [hr]
  rw [<-hcur,List.getElem?_take] at hv
  split at hv
  ·rw [<-Array.getElem?_toList];exact hv
  ·cases hv
 }
  ·rw [hit0]
   exact kp _ _ _ HA.out.r (by decide) (by decide)
 ·intro it hit
  rcases List.mem_append.1 hit with hi | hi
  ·have:=HA.out.rl it hi;omega
  ·simp at hi
   rw [hi,hit0]
   show w.heap.size<=b0+1
   omega
 ·exact HA.out.c.trans hc4 (fun i hi e=>e.elim .inl (fun e=>HA.out.f.elim (fun f=>.inr (f ▸ e)) (fun f=>absurd (f i e) (by omega))))
 ·rcases hf4 with e1 | e1
  ·rcases HA.out.f with e2 | e2
   ·exact .inl (e1.trans e2)
   ·exact .inr (fun i hi=>e2 i (e1 ▸ hi))
  ·exact .inr (fun i hi=>by have:=e1 i hi;have:=HA.out.c.size;omega)
 }
theorem padd_any (t:T):∀(g:Nat) (cs:List Value) (B pb:Nat) (av rv:Value) (w:World) (S:Nat->Prop) (n:Nat) (todo:Value) (vals:List Value),g<=16->T.fit g t->TreeAt w S t cs->Blk w pb 248 #[av,todo,rv]->w.ownsRow B 276 1 todo n vals->B<=w.heap.size->n+t.cnt<=60000->(∀k,S k->¬(k=pb\/todo.ownBlock=some k))->t.bytes<=65536->Calls Tryz.prog 145 #[.pointer (some ⟨pb,0,none⟩),.agg cs.toArray] w (AddOut t B pb n av todo rv vals w):=by
 induction t using T.ind with
 | hl s=>
  intro g cs B pb av rv w S n todo vals hg hf hT hp ho hB hn hS hb
  cases hT
  obtain ⟨_,h1,h2⟩:=fit_leaf hf
  simp only [T.cnt] at hn
  exact add_leaf s B pb n av todo rv vals w (by omega) h2 hp ho hB (by omega)
 | hn h ks ih=>
  intro g cs B pb av rv w S n todo vals hg hf hT hp ho hB hn hS hb
  obtain ⟨b,off,c,rfl,hI,hne⟩:=hT.kids
  obtain ⟨m,rfl,hm,hf1,hf2,hf3⟩:=fit_node hf
  simp only [T.cnt] at hn
  simp only [T.bytes] at hb
  exact add_node h m b off c ks S B pb n av todo rv vals w hm hg hI hf1 hf2 hp ho hB (by omega) hS hb (fun t ht cs w S n todo vals h1 h2 h3 h4 h5 h6 h7=>ih t ht m cs B pb av rv w S n todo vals (by omega) (hf3 t ht) h1 h2 h3 h4 h5 h6 h7)
theorem gadd_any (t:T) (hg:t.good) (cs:List Value) (B pb:Nat) (av rv:Value) (w:World) (S:Nat->Prop) (n:Nat) (todo:Value) (vals:List Value) (hT:TreeAt w S t cs) (hp:Blk w pb 248 #[av,todo,rv]) (ho:w.ownsRow B 276 1 todo n vals) (hB:B<=w.heap.size) (hn:n+t.cnt<=60000) (hS:∀k,S k->¬(k=pb\/todo.ownBlock=some k)) (hb:t.bytes<=65536):Calls Tryz.prog 145 #[.pointer (some ⟨pb,0,none⟩),.agg cs.toArray] w (AddOut t B pb n av todo rv vals w):=by
 rcases hg with ⟨s,rfl,h1,h2⟩ | ⟨g,hg16,hf⟩
 ·cases hT
  simp only [T.cnt] at hn
  exact add_leaf s B pb n av todo rv vals w h1 h2 hp ho hB (by omega)
 ·exact padd_any t g cs B pb av rv w S n todo vals hg16 hf hT hp ho hB hn hS hb
theorem add1_any (b1:Nat) (s:ByteArray) (w:World) (h:Blk w b1 229 #[.int .i64 0,.string s,.slice none 0 0]):Calls Tryz.prog 161 #[.pointer (some ⟨b1,0,none⟩)] w fun e w'=>e=.returned (.agg #[.int .i64 0,.string s,.slice none 0 0])/\Ch (fun _=>False) w w':=by
 have hne:b1≠w.heap.size:=Nat.ne_of_lt h.lt
 have hlt:=h.lt
 obtain ⟨c0,c1,c2⟩:=h.c3
 go_enter Tryz.func161,Tryz.ntmps161
 go_wp2_with fail
 refine at_world fun W hW=>?_
 have C:=hid (show Ch (fun _=>False) w W from by rw [hW];exact (Ch.refl _ w).alloc _)
 have B:=hid (show Blk W w.heap.size 229 #[.int .i64 0,.string s,.slice none 0 0] from by rw [hW];exact Blk.new w _ _)
 obtain ⟨t0,t1,t2⟩:=B.out.c3
 refine bodyPost_ret (v:=.agg #[.int .i64 0,.string s,.slice none 0 0]) (by simp [results,Tryz.results161,go_sem,t0,t1,t2]) rfl ⟨rfl,C.out⟩
theorem add2_any (tb kb sb c h N:Nat) (tc scs:Array Value) (kids:List Kd) (w:World) (hN:N=kids.length) (hn4:N<=4) (ht:Blk w tb 183 tc) (htc:tc[1]?=some (.int .i64 (h:Int))) (hk:Blk w kb 293 #[.slice (some ⟨sb,0,none⟩) N c]) (hs:Blk w sb 246 scs)
  (hkd:∀(i:Nat) (x:Kd),kids[i]?=some x->∃(r:Nat) (hh:Int),scs[i]?=some (.pointer (some ⟨r,0,none⟩))/\Blk w r 102 #[.int .u64 (hdl x.at'),.int .i64 hh,.int .i64 x.m.b,.int .i64 x.m.r,.int .i64 x.m.l]) :
  Calls Tryz.prog 162 #[.pointer (some ⟨tb,0,none⟩),.pointer (some ⟨kb,0,none⟩)] w fun e w'=>∃a c',e=.returned (.agg #[.int .i64 (h:Int),.string ⟨#[]⟩,.slice a N c'])/\w'.ownsRow w.heap.size 266 4 (.slice a N c') N (kids.flatMap Kd.cells)/\Ch (fun _=>False) w w':=by
 obtain ⟨i0,hi,hz0,hz1,hz2⟩:=info_parts infoKd
 have HT:=hid ht
 have HK:=hid hk
 have HS:=hid hs
 have HKD:=hid hkd
 have HN:=hid hN
 have a0:w.cell? ⟨tb,1,none⟩=some (.int .i64 (h:Int)):=(ht.cell 1).trans htc
 have a1:w.cell? ⟨kb,0,none⟩=some (.slice (some ⟨sb,0,none⟩) N c):=hk.cell 0
 have htl:=ht.lt
 have hkl:=hk.lt
 clear ht hk hs hkd hN htc
 go_enter Tryz.func162,Tryz.ntmps162
 go_wp2_with fail
 refine at_world fun W1 hW1=>?_
 obtain ⟨b0,hb0⟩:∃x,x=w.heap.size:=⟨_,rfl⟩
 rw [<-hb0]
 have C1:=hid (show Ch (fun _=>False) w W1 from by rw [hW1];exact ((Ch.refl _ w).alloc _).alloc _)
 have R1:=hid (show Blk W1 b0 229 #[.int .i64 0,.string ⟨#[]⟩,.slice none 0 0] from by rw [hW1,hb0];exact (Blk.new w _ _).alloc _)
 have X1:=hid (show Blk W1 (b0+1) 229 #[.int .i64 (h:Int),.string ⟨#[]⟩,.slice none 0 0] from by
  rw [hW1,hb0]
  have t:=Blk.new (w.alloc (.cells #[.int .i64 0,.string ⟨#[]⟩,.slice none 0 0] 229)) 229 #[.int .i64 (h:Int),.string ⟨#[]⟩,.slice none 0 0]
  simpa using t)
 clear hW1 a0 a1
 have HZ:=hid hb0
 clear hb0 htl hkl
 go_loopw [11] (fun i W=>∃(k:Nat) (v:Value),k<=N/\i=.int .i64 (k:Int)/\Blk W b0 229 #[.int .i64 0,.string ⟨#[]⟩,.slice none 0 0]/\Blk W (b0+1) 229 #[.int .i64 (h:Int),.string ⟨#[]⟩,v]/\W.ownsRow b0 266 4 v k ((kids.take k).flatMap Kd.cells)/\Ch (fun _=>False) w W) (fun i _=>N - (intOf i).toNat)
 case atStart=>exact ⟨0,.slice none 0 0,Nat.zero_le _,rfl,R1.out,X1.out,World.ownsRow_nil _ _ _ _,C1.out⟩
 case round=>
  clear C1 R1 X1
  obtain ⟨k,v,hk,rfl,hR,hX,hO,hC⟩:=hrel
  obtain ⟨A0,c0,rfl,_⟩:=own_slice hO
  have RR:=hid hR
  have XX:=hid hX
  have OO:=hid hO
  have CC:=hid hC
  clear hR hX hO hC
  by_cases hlt:k < N
  {
 obtain ⟨x,hx⟩:∃x,kids[k]?=some x:=⟨_,List.getElem?_eq_getElem (by rw [<-HN.out];exact hlt)⟩
 obtain ⟨r,hh,hsc,hrb⟩:=HKD.out k x hx
 have HX:=hid hx
 have HRB:=hid (CC.out.blk hrb id)
 have hrl:=hrb.lt
 have hzz:=HZ.out
 have hrne:r < b0:=by omega
 clear hx hrb hrl hzz
 have q0:wr.cell? ⟨sb,k,none⟩=some (.pointer (some ⟨r,0,none⟩)):=((CC.out.blk HS.out id).cell k).trans hsc
 obtain ⟨y1,y2⟩:=dc_ltT (a:=k) (b:=N) (by omega)
 clear hsc
 go_wp2_with fail
 obtain ⟨SS,hSS⟩:∃S:Nat->Prop,∀j,S j↔j=b0+1:=⟨_,fun _=>Iff.rfl⟩
 have hS1:Mix.Has SS (b0+1):=(hSS _).2 rfl
 have HSS:=hid hSS
 clear hSS
 obtain ⟨r0,-,r2,r3,r4⟩:=HRB.out.c5
 have x2:wr.cell? ⟨b0+1,2,none⟩=some (.slice A0 k c0):=XX.out.cell 2
 refine Mix.rg SS [1,4,0,0,0,0,0,0,0,0,0,3,2,0,2] [0,1,2,3,4,5,6,7,8,9,10,11,12,13,14] ?_
 repeat ((first | refine Mix.zq ?_ | refine Mix.zp ?_ | refine Mix.zs ?_);go_big_quiet_step (fail);refine wpQuiet_nil ?_)
 refine Mix.za fun W2 hW2=>?_
 obtain ⟨y2,rfl⟩:=hW2
 go_wp2_with fail
 refine ⟨fun j hj=>(((Ch.refl (fun _=>False) wr).drewN y2).alloc _).block j (by rw [(HSS.out j).1 hj];exact XX.out.lt) id,?_⟩
 refine Mix.mix_world fun V hV=>?_
 have D2:=hid (show Ch (fun _=>False) wr V from by rw [hV];exact ((Ch.refl (fun _=>False) wr).drewN y2).alloc _)
 have T2:=hid (show Blk V wr.heap.size 266 #[.int .u64 (hdl x.at'),.int .i64 x.m.b,.int .i64 x.m.r,.int .i64 x.m.l] from by rw [hV];exact Blk.new (wr.drewN y2) _ _)
 clear hV r0 r2 r3 r4 x2 q0
 have X2:=hid (D2.out.blk XX.out id)
 have R2:=hid (D2.out.blk RR.out id)
 have O2:=hid (D2.out.own OO.out (fun _ _=>id))
 have hb0V:b0+1 < V.heap.size:=X2.out.lt
 refine Mix.ze fun W3 hW3=>?_
 obtain ⟨y3,rfl⟩:=hW3
 refine wpList_app _ rfl _ _ 227 rfl b0 266 i0 _ 4 32 Tryz.underlying227 hi hz0 hz1 hz2 rfl (by decide) (.slice A0 k c0) k _ rfl (((Ch.refl (fun _=>False) V).drewN y3).own O2.out (fun _ _=>id)) ⟨wr.heap.size,0,none⟩ 1 1 x.cells rfl rfl ?c1 ?c2 (by decide) ?c3 ?c4 ?c5 ?_
 case c1=>
  intro j u hu
  rw [addr_add0]
  exact ((T2.out.drewN y3).cell j).trans (by rw [<-hu,<-Array.getElem?_toList];rfl)
 case c2=>intro u hu;simp [Kd.cells] at hu;rcases hu with rfl | rfl | rfl | rfl <;> rfl
 case c3=>unfold maxLen;omega
 case c4=>omega
 case c5=>show b0<=V.heap.size;omega
 intro v' w' hown' hgrow hfresh
 have CR:=hid (show Ch (fun k'=>(Value.slice A0 k c0).ownBlock=some k') V w' from ((Ch.refl _ V).drewN y3).grown hgrow (fun k hk _=>hk))
 have OW:=hid hown'
 have X3:=hid (CR.out.blk X2.out (X2.out.own O2.out (by decide)))
 have R3:=hid (CR.out.blk R2.out (R2.out.own O2.out (by decide)))
 obtain ⟨A3,c3,hv3,_⟩:=own_slice hown'
 subst hv3
 clear hown' hgrow hfresh
 have s1:=X3.out.free 2
 have x3:w'.cell? ⟨b0+1,2,none⟩=some (.slice A0 k c0):=X3.out.cell 2
 go_wp2_with fail
 refine Mix.mix_world fun V2 hV2=>?_
 subst hV2
 repeat ((first | refine Mix.zq ?_ | refine Mix.zp ?_ | refine Mix.zs ?_);go_big_quiet_step (fail);refine wpQuiet_nil ?_)
 refine Mix.ze fun W4 hW4=>?_
 obtain ⟨y4,rfl⟩:=hW4
 go_wp2_with fail
 intro y5
 go_wp2_with fail
 have kx:(kids.take (k+1)).flatMap Kd.cells=(kids.take k).flatMap Kd.cells++x.cells:=by
  rw [List.take_add_one,HX.out,List.flatMap_append]
  simp
 have CF:Ch (fun j=>j=b0+1) V2 (((V2.drewN y4).setCell ⟨b0+1,2,none⟩ (.slice A3 (k+1) c3)).drewN y5):=(((Ch.refl (fun j=>j=b0+1) V2).drewN y4).set (fun _=>rfl) _).drewN y5
 refine ⟨⟨k+1,.slice A3 (k+1) c3,hlt,by push_cast;rfl,CF.blk R3.out (by omega),((X3.out.drewN y4).put 2 _).drewN y5,?_,?_⟩,by simp only [intOf];omega⟩
 ·rw [kx]
  exact CF.own OW.out (fun j hj e=>(X3.out.own OW.out (by decide)) (e ▸ hj))
 ·have hzz:=HZ.out
  refine (CC.out.trans D2.out (fun _ _ e=>e)).trans ((CR.out.mono (fp':=fun j=>j=b0+1\/(Value.slice A0 k c0).ownBlock=some j) (fun _ _ e=>.inr e)).trans CF (fun _ _ e=>.inl e)) (fun i hi e=>?_)
  rcases e with e | e
  ·omega
  ·have:=OO.out.lt i e;omega
 }
  {
 obtain rfl:N=k:=by omega
 have y1:decide (N < N)=false:=decide_eq_false (by omega)
 obtain ⟨x0,x1,x2⟩:=XX.out.c3
 have f0:=RR.out.free 0
 have f1:=RR.out.free 1
 have f2:=RR.out.free 2
 obtain ⟨z0,z1,z2⟩:=RR.out.c3
 go_wp2_with fail
 refine at_world fun WZ hWZ=>?_
 have CZ:=hid (show Ch (fun k=>k=b0) wr WZ from by rw [hWZ];exact (((Ch.refl (fun k=>k=b0) wr).set (fun _=>rfl) _).set (fun _=>rfl) _).set (fun _=>rfl) _)
 have BZ:=hid (show Blk WZ b0 229 #[.int .i64 (h:Int),.string ⟨#[]⟩,.slice A0 N c0] from by rw [hWZ];exact (((RR.out.put 0 _).put 1 _).put 2 _))
 clear hWZ
 obtain ⟨t0,t1,t2⟩:=BZ.out.c3
 have htk:kids.take N=kids:=by rw [HN.out];exact List.take_length
 have hO:=OO.out
 rw [htk] at hO
 have hzz:=HZ.out
 refine bodyPost_ret (v:=.agg #[.int .i64 (h:Int),.string ⟨#[]⟩,.slice A0 N c0]) (by simp [results,Tryz.results162,go_sem,t0,t1,t2]) rfl ⟨A0,c0,rfl,?_,CC.out.trans CZ.out (fun i hi e=>absurd hi (by omega))⟩
 rw [<-hzz]
 exact CZ.out.own hO (fun j hj e=>(RR.out.own OO.out (by decide)) (e ▸ hj))
 }
end Go.Proofs.YtjcdknhejcbpiaaGreat
