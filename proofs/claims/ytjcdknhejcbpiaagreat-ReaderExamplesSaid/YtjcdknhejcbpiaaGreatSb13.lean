/- Lemmas; no condition. -/
import Derived.Test.YtjcdknhejcbpiaaGreatSb06
import Derived.Test.YtjcdknhejcbpiaaGreatSb11
set_option maxRecDepth 100000
set_option maxHeartbeats 8000000
namespace Go.Proofs.YtjcdknhejcbpiaaGreat
open Go.RowKit
set_option linter.unusedVariables false
set_option linter.unusedSimpArgs false
set_option linter.unusedSectionVars false
structure ArA where
 ab:Nat
 lb:Nat
 mb:Nat
 g0:Nat
 g1:Nat
 g2:Nat
 n:Nat
 g:Int
structure An where
 x:Nd
 a:Option Addr
 c:Nat
def An.v (y:An):Value:=y.x.v y.a y.x.ks.length y.c
def entsF:Nat->List An->List (Int × Value)
 | _,[]=>[]
 | i,y::l=>(hdl i,y.v)::entsF (i+1) l
theorem ents_len:∀(l:List An) (i:Nat),(entsF i l).length=l.length
 | [],_=>rfl
 | y::l,i=>by simp [entsF,ents_len l]
theorem ents_snoc:∀(l:List An) (i:Nat) (y:An),entsF i (l++[y])=entsF i l++[(hdl (i+l.length),y.v)]
 | [],i,y=>rfl
 | z::l,i,y=>by
  simp only [List.cons_append,entsF,ents_snoc l (i+1) y,List.length_cons]
  rw [show i+1+l.length=i+(l.length+1) by omega]
theorem hdl_inj {i j:Nat} (h:hdl i=hdl j):i=j:=by unfold hdl at h;omega
theorem ents_at:∀(l:List An) (i j:Nat),u64At (entsF i l) (hdl (i+j))=(l[j]?).map An.v
 | [],i,j=>rfl
 | z::l,i,0=>by simp [entsF,u64At]
 | z::l,i,j+1=>by
  have t:=ents_at l (i+1) j
  have hne:(hdl (i+(j+1)) == hdl i)=false:=by rw [beq_eq_false_iff_ne];intro e;have:=hdl_inj e;omega
  simp only [entsF,u64At,List.find?_cons,hne,List.getElem?_cons_succ]
  rw [show i+(j+1)=i+1+j by omega]
  exact t
def ArA.mut (A:ArA) (k:Nat):Prop:=k=A.ab\/k=A.lb\/k=A.mb\/k=A.g1
def An.kb (y:An) (k:Nat):Prop:=0 < y.x.ks.length/\∃o,y.a=some ⟨k,o,none⟩
def ArA.foot (A:ArA) (ns:List An) (k:Nat):Prop:=A.mut k\/k=A.g0\/k=A.g2\/∃y ∈ ns,y.kb k
structure ArP (ns:List An):Prop where
 ok:∀y ∈ ns,y.x.ok
 kids:∀(i:Nat) (y:An),ns[i]?=some y->∀k ∈ y.x.ks,k.at' < i/\∃z,ns[k.at']?=some z/\z.x.h+1=y.x.h/\z.x.ms=k.m
structure ArM (A:ArA) (w:World) (ns:List An) (st:Int):Prop where
 a:Blk w A.ab 164 #[.int .i64 A.n,.pointer (some ⟨A.lb,0,none⟩),.map (some A.mb),.int .i64 (ns.length:Int),.int .i64 0,.int .i64 st]
 l:Blk w A.lb 211 #[.slice (some ⟨A.g0,0,none⟩) (A.n - ns.length) A.n,.slice (some ⟨A.g1,0,none⟩) A.n A.n,.slice (some ⟨A.g2,0,none⟩) A.n A.n,.int .u64 A.g]
 b0:Blk w A.g0 3 (fillA (fun i=>.int .i64 ((A.n:Int) - 1 - i)) (.int .i64 0) A.n A.n)
 b1:Blk w A.g1 213 (fillA (fun _=>.int .u8 1) (.int .u8 0) A.n ns.length)
 b2:Blk w A.g2 54 (fillA (fun _=>.int .u64 1) (.int .u64 0) A.n A.n)
 m:MapAt w A.mb (entsF 0 ns)
 le:ns.length<=A.n
 ks:∀y ∈ ns,InP Kd.cells 4 w y.kb y.a y.x.ks.length y.x.ks
 kd:∀y ∈ ns,∀k,y.kb k->¬A.mut k
 kn:∀y ∈ ns,y.x.ks=[]->y.a=none/\y.c=0
theorem MapAt.lt {w:World} {B:Nat} {es:List (Int × Value)} (h:MapAt w B es):B < w.heap.size:=by
 obtain ⟨bs,_,hb⟩:=h
 exact (Array.getElem?_eq_some_iff.1 hb).1
theorem ArM.keep {A:ArA} {w w':World} {ns:List An} {st:Int} {fp:Nat->Prop} (h:ArM A w ns st) (c:Ch fp w w') (hf:∀k,k < w.heap.size->A.foot ns k->¬fp k):ArM A w' ns st where
 a:=c.blk h.a (hf _ h.a.lt (.inl (.inl rfl)))
 l:=c.blk h.l (hf _ h.l.lt (.inl (.inr (.inl rfl))))
 b0:=c.blk h.b0 (hf _ h.b0.lt (.inr (.inl rfl)))
 b1:=c.blk h.b1 (hf _ h.b1.lt (.inl (.inr (.inr (.inr rfl)))))
 b2:=c.blk h.b2 (hf _ h.b2.lt (.inr (.inr (.inl rfl))))
 m:=h.m.ch c (hf _ h.m.lt (.inl (.inr (.inr (.inl rfl)))))
 le:=h.le
 ks:=fun y hy=>(h.ks y hy).keep c (fun k hk hS=>hf k hk (.inr (.inr (.inr ⟨y,hy,hS⟩)))) (fun _ _ h=>h)
 kd:=h.kd
 kn:=h.kn
theorem ArM.keep0 {A:ArA} {w w':World} {ns:List An} {st:Int} (h:ArM A w ns st) (c:Ch (fun _=>False) w w'):ArM A w' ns st:=h.keep c (fun _ _ _=>id)
theorem ArM.foot_lt {A:ArA} {w:World} {ns:List An} {st:Int} (h:ArM A w ns st) {k:Nat} (hk:A.foot ns k):k < w.heap.size:=by
 rcases hk with (rfl | rfl | rfl | rfl) | rfl | rfl | ⟨y,hy,h0,o,ho⟩
 ·exact h.a.lt
 ·exact h.l.lt
 ·exact h.m.lt
 ·exact h.b1.lt
 ·exact h.b0.lt
 ·exact h.b2.lt
 ·have t:=h.ks y hy
  rw [ho] at t
  exact (t.lt h0).1
theorem freeM_len (n N:Nat) (lb g0:Nat) (XS:List Int) (hn:n<=16384) (hN:XS.length=N) (hnN:n<=N) (w:World) (hlb:lb < w.heap.size) (h0:w.cell? ⟨lb,0,none⟩=some (.slice (some ⟨g0,0,none⟩) n N)) (hb:Blk w g0 3 (i64s XS)) :
  Calls Tryz.prog 58 #[.pointer (some ⟨lb,0,none⟩)] w fun e w'=>∃A,e=.returned (.slice A n n)/\Ch (fun _=>False) w w':=by
 have hmk:=fun W:World=>run_make_x (P:=Tryz.prog) 77 3 (.int .i64 0) 1 8 Tryz.underlying77 (by kernel_rfl) (by decide) n (by omega) W
 have hsz1:(Tryz.prog.info? 3).map (·.size)=some 1:=by kernel_rfl
 obtain ⟨xs,hxs⟩:∃xs,xs=XS.take n:=⟨_,rfl⟩
 have hx:xs.length=n:=by rw [hxs,List.length_take];omega
 have HXS:=hid hxs
 clear hxs
 have HB:=hid hb
 have Hx:=hid hx
 clear hb hx
 go_enter Tryz.func58,Tryz.ntmps58
 go_wp2_with (refine wpList_copy_full rfl (.tmp 14) (.tmp 18) 77 77 rfl 3 Tryz.underlying77 1 hsz1 w.heap.size n n (some ⟨g0,0,none⟩) N rfl rfl (madeX #[.int .i64 0] n) 3 ?k1 ?k2 (xs.map (Value.int .i64)) ?k3 ?k4 ?k5 ?k6)
 case k1=>exact Blk.push rfl
 case k2=>rw [madeX_size];omega
 case k3=>rw [List.length_map,Hx.out];omega
 case k4=>
  intro _
  refine ⟨_,rfl,fun j v hj=>?_⟩
  rw [addr_add0]
  refine (World.cell?_alloc_lt w _ _ HB.out.lt).trans ((HB.out.cell j).trans ?_)
  rw [HXS.out,List.map_take] at hj
  have hjl:j < n:=by
   have:=(List.getElem?_eq_some_iff.1 hj).1
   rw [List.length_take] at this
   omega
  rw [List.getElem?_take_of_lt hjl] at hj
  simpa [i64s] using hj
 case k5=>
  intro v hv
  obtain ⟨x,_,rfl⟩:=List.mem_map.1 hv
  rfl
 case k6=>
  intro w1 hb hc
  have HC:=hid (((Ch.refl (fun _=>False) w).alloc _).trans hc (fun i hi h=>absurd hi (by omega)))
  have HG:=hid (show Blk w1 w.heap.size 3 (i64s xs) from hb)
  clear hb hc h0 hlb hmk
  go_wp2_with fail
  go_loopw [4,5] (fun i j W=>∃(k:Nat) (ys:List Int),k<=n/\ys.length=n/\i=.int .i64 k/\j=.int .i64 ((n:Int) - 1 - k)/\Blk W w.heap.size 3 (i64s ys)/\Ch (fun _=>False) w W) (fun i _ _=>n - (intOf i).toNat)
  case atStart=>exact ⟨0,xs,Nat.zero_le _,Hx.out,rfl,by simp,HG.out,HC.out⟩
  case round=>
   (
 clear HG HC Hx
 obtain ⟨k,ys,hk,hl,rfl,rfl,hG,hC⟩:=hrel
 have HG:=hid hG
 have HC:=hid hC
 have HL:=hid hl
 clear hG hC hl
 by_cases hlt:(k:Int) < (n:Int) - 1 - k
 ·obtain ⟨m,hm⟩:∃m:Nat,m=n - 1 - k:=⟨_,rfl⟩
  rw [show ((n:Int) - 1 - (k:Int))=(m:Int) by omega] at hlt |-
  have hkm:k < m:=by omega
  have hmn:m < n:=by omega
  have hkn:k < n:=by omega
  have hM:=hid hm
  clear hm
  have e1:decide ((k:Int) < (m:Int))=true:=decide_eq_true hlt
  have e2:decide (k < m)=true:=decide_eq_true hkm
  have ck:wr.cell? ⟨w.heap.size,k,none⟩=some (.int .i64 (lk ys k)):=(HG.out.cell k).trans (i64s_get ys k (by rw [HL.out];exact hkn))
  have cm:wr.cell? ⟨w.heap.size,m,none⟩=some (.int .i64 (lk ys m)):=(HG.out.cell m).trans (i64s_get ys m (by rw [HL.out];exact hmn))
  have fk:=HG.out.free k
  have fm:=HG.out.free m
  have d1:k≠m:=by omega
  have d2:m≠k:=by omega
  go_wp2_with fail
  refine Mix.rt [0,0,1,1,0,0,0,0,0,0,0,0,0,2,0,2] [0,1,2,3,4,5,6,7,8,9,10,11,12,13,14,15] ?_
  repeat (first | (refine Mix.zq ?_;go_big_quiet_step (fail);refine wpQuiet_nil ?_) | (refine Mix.zp ?_;go_big_quiet_step (fail);refine wpQuiet_nil ?_))
  refine Mix.ze fun W1 hW1=>?_
  obtain ⟨k1,rfl⟩:=hW1
  go_wp2_with fail
  refine Mix.mix_world fun W2 hW2=>?_
  have G2:=hid (show Blk W2 w.heap.size 3 (i64s (ys.set k (lk ys m))) from by rw [hW2,<-i64s_set];exact (HG.out.drewN k1).put k _)
  have C2:=hid (show Ch (fun _=>False) w W2 from by rw [hW2];exact (HC.out.drewN k1).set (fun ho=>absurd ho (Nat.lt_irrefl _)) _)
  have q1:W2.cell? ⟨w.heap.size,m,none⟩=some (.int .i64 (lk ys m)):=(G2.out.cell m).trans ((i64s_get _ m (by rw [List.length_set,HL.out];exact hmn)).trans (by simp [lk,d1]))
  have q2:=G2.out.free m
  clear hW2 ck cm fk fm
  repeat (first | (refine Mix.zq ?_;go_big_quiet_step (fail);refine wpQuiet_nil ?_) | (refine Mix.zp ?_;go_big_quiet_step (fail);refine wpQuiet_nil ?_))
  refine Mix.ze fun W3 hW3=>?_
  obtain ⟨k2,rfl⟩:=hW3
  go_wp2_with fail
  intro k3
  go_wp2_with fail
  refine ⟨⟨k+1,(ys.set k (lk ys m)).set m (lk ys k),hkn,by simp [HL.out],by push_cast;rfl,?_,?_,?_⟩,by simp only [intOf];omega⟩
  ·have:=hM.out
   congr 1
   omega
  ·rw [<-i64s_set];exact ((G2.out.drewN k2).put m _).drewN k3
  ·exact ((C2.out.drewN k2).set (fun ho=>absurd ho (Nat.lt_irrefl _)) _).drewN k3
 ·have e1:decide ((k:Int) < (n:Int) - 1 - k)=false:=decide_eq_false hlt
  go_wp2_with fail
  go_ret
  exact ⟨⟨_,rfl⟩,HC.out⟩
 )
theorem slotsM (n lb g1:Nat) (hn:n<=16384) (w:World) (h1:w.cell? ⟨lb,1,none⟩=some (.slice (some ⟨g1,0,none⟩) n n)) (m:Nat) (hb:∀k,k < n->w.cell? ⟨g1,k,none⟩=some (if k < m then .int .u8 1 else .int .u8 0)) :
  Calls Tryz.prog 90 #[.pointer (some ⟨lb,0,none⟩),.int .u8 2] w fun e w'=>e=.returned (.slice none 0 0)/\w'=w:=by
 have HB:=hid hb
 clear hb
 go_enter Tryz.func90,Tryz.ntmps90
 go_wp2_with fail
 go_loopw [5,16] (fun r i W=>∃k:Nat,k<=n/\r=.slice none 0 0/\i=.int .i64 k/\W=w) (fun _ i _=>n - (intOf i).toNat)
 case atStart=>exact ⟨0,Nat.zero_le _,rfl,rfl,rfl⟩
 case round=>
  obtain ⟨k,hk,rfl,rfl,rfl⟩:=hrel
  by_cases hlt:k < n
  ·have c:=HB.out k hlt
   by_cases hkm:k < m
   ·rw [if_pos hkm] at c
    go_wp2_with fail
    exact ⟨⟨k+1,hlt,by simp⟩,by simp only [intOf];omega⟩
   ·rw [if_neg hkm] at c
    go_wp2_with fail
    exact ⟨⟨k+1,hlt,by simp⟩,by simp only [intOf];omega⟩
  ·obtain rfl:k=n:=by omega
   go_wp2_with fail
   go_ret
   exact ⟨rfl,rfl⟩
theorem wdM (n lb g1:Nat) (hn:n<=16384) (w:World) (h1:w.cell? ⟨lb,1,none⟩=some (.slice (some ⟨g1,0,none⟩) n n)) (m:Nat) (hb:∀k,k < n->w.cell? ⟨g1,k,none⟩=some (if k < m then .int .u8 1 else .int .u8 0)) :
  Calls Tryz.prog 59 #[.pointer (some ⟨lb,0,none⟩)] w fun e w'=>e=.returned (.slice none 0 0)/\w'=w:=by
 go_enter Tryz.func59,Tryz.ntmps59
 go_wp2_with fail
 refine (slotsM n lb g1 hn w h1 m hb).mono ?_
 rintro e _ ⟨rfl,rfl⟩
 go_wp2_with fail
 go_ret
 exact ⟨rfl,rfl⟩
theorem run_len_mapAt {P:Program} {w:World} {t ty:TypeId} {r:Nat} {l:List An} (h:P.underlying t=some (.map (P.mapKeyOf t) (P.mapElemOf t))) (hm:MapAt w r (entsF 0 l)):(Builtin.len_ #[t] ty #[.map (some r)]).run P w=.ok (.int .i64 (l.length:Int)) w:=by
 obtain ⟨bs,hl,hb⟩:=hm
 rw [run_len_map w t ty r _ _ h hb]
 rw [ents_len] at hl
 simp [hl,ents_len,goInt]
theorem wdM_q (n lb g1:Nat) (hn:n<=16384) (w:World) (h1:w.cell? ⟨lb,1,none⟩=some (.slice (some ⟨g1,0,none⟩) n n)) (m:Nat) (hb:∀k,k < n->w.cell? ⟨g1,k,none⟩=some (if k < m then .int .u8 1 else .int .u8 0)) (k:Nat) :
  Calls Tryz.prog 59 #[.pointer (some ⟨lb,0,none⟩)] (w.drewN k) fun e w'=>e=.returned (.slice none 0 0)/\∃m,w'=w.drewN m:=
 (wdM n lb g1 hn (w.drewN k) (by rw [<-h1];rfl) m (fun j hj=>by rw [<-hb j hj];rfl)).mono fun e w' h=>⟨h.1,k,h.2⟩
theorem statsM (A:ArA) (ns:List An) (st:Int) (hn:A.n<=16384) (w:World) (h:ArM A w ns st) :
  Calls Tryz.prog 36 #[.pointer (some ⟨A.ab,0,none⟩)] w fun e w'=>e=.returned (.agg #[.int .i64 (A.n:Int),.int .i64 ((A.n - ns.length:Nat):Int),.int .i64 (ns.length:Int),.int .i64 0,.int .i64 (ns.length:Int),.int .i64 0,.int .i64 st])/\Ch (fun _=>False) w w':=by
 obtain ⟨ab,lb,mb,g0,g1,g2,n,g⟩:=A
 simp only at hn |-
 obtain ⟨K,hK⟩:∃K,K=ns.length:=⟨_,rfl⟩
 obtain ⟨F,hF⟩:∃F,F=n - ns.length:=⟨_,rfl⟩
 rw [<-hF,<-hK]
 rw [<-hK] at hF
 have hle:ns.length<=n:=h.le
 have hKn:K<=16384:=by omega
 have HK:=hid hK
 have HF:=hid hF
 have hFn:F<=n:=by omega
 have hF16:F<=16384:=by omega
 clear hK hle hF
 go_enter Tryz.func36,Tryz.ntmps36
 go_wp2_with fail
 refine at_world fun W hW=>?_
 have cW:Ch (fun _=>False) w W:=by rw [hW];exact (Ch.refl _ w).alloc _
 have bR:Blk W w.heap.size 97 #[.int .i64 0,.int .i64 0,.int .i64 0,.int .i64 0,.int .i64 0,.int .i64 0,.int .i64 0]:=by rw [hW];exact Blk.new w _ _
 have HW:=hid cW
 have HB:=hid bR
 have HM:=hid (h.keep0 cW)
 have hne:ab≠w.heap.size:=Nat.ne_of_lt h.a.lt
 clear hW cW bR h
 obtain ⟨S,hS⟩:∃S:Nat->Prop,∀k,S k↔k=ab:=⟨_,fun _=>Iff.rfl⟩
 have hSp:Mix.Has S ab:=(hS _).2 rfl
 have HS:=hid hS
 clear hS
 obtain ⟨a0,a1,a2⟩:=HM.out.a.c3
 have a3:W.cell? ⟨ab,3,none⟩=some (.int .i64 (K:Int)):=by rw [HK.out];exact HM.out.a.cell 3
 obtain ⟨-,-,-,-,a4,a5⟩:=HM.out.a.c6
 refine Mix.rg S [1,1,1,4,0,0,0,4,3,0,1,1,1,4,0,1,1,1,4,0,0,1,1,1,4,1,1,1,4,1,1,1,4,0,2] [0,1,2,3,4,5,6,7,10,11,12,13,15,16,17,18,21,22,23,24,25,26,27,28,29,30,31,32,8,9,14,19,20,33,34] ?_
 repeat ((first | refine Mix.zq ?_ | refine Mix.zp ?_ | refine Mix.zs ?_);go_big_quiet_step (fail);refine wpQuiet_nil ?_)
 refine Mix.za fun W1 hW1=>?_
 obtain ⟨k1,rfl⟩:=hW1
 go_wp2_with fail
 refine (freeM_len F n lb g0 ((List.range n).map (fun i:Nat=>(n:Int) - 1 - i)) (by omega) (by simp) (by omega) (W.drewN k1) HM.out.l.lt (by rw [HF.out,HK.out];exact HM.out.l.cell 0) (by rw [<-fill_i64s (fun i:Nat=>(n:Int) - 1 - i)];exact HM.out.b0.drewN k1)).mono ?_
 rintro e w2 ⟨A,rfl,hc⟩
 have HC:=hid (((Ch.refl (fun _=>False) W).drewN k1).trans hc (fun _ _ h=>h))
 have HM2:=hid (HM.out.keep0 HC.out)
 clear hc
 go_wp2_with fail
 refine ⟨fun j' hj'=>HC.out.block j' (Nat.lt_of_lt_of_le (by rw [(HS.out j').1 hj'];exact HM.out.a.lt) (Nat.le_refl _)) id,?_⟩
 clear a0 a1 a2 a3 a4 a5
 (refine Mix.zq ?_;go_big_quiet_step (fail);refine wpQuiet_nil ?_)
 repeat ((first | refine Mix.zq ?_ | refine Mix.zp ?_ | refine Mix.zs ?_);go_big_quiet_step (fail);refine wpQuiet_nil ?_)
 refine Mix.mix_v (by simp only [List.getElem?_toArray,List.getElem?_cons_zero,List.getElem?_cons_succ];exact rfl) rfl (.int .i64 (K:Int)) rfl (fun W' hW'=>exec_len rfl rfl (by rw [HK.out];exact run_len_mapAt (by kernel_rfl) (by obtain ⟨z,rfl⟩:=hW';exact HM2.out.m))) ?_
 simp only [Act.put,List.setIfInBounds_toArray,List.set_cons_succ,List.set_cons_zero]
 repeat (first | (refine Mix.zq ?_;go_big_quiet_step ((go_at_call 59;exact wdM_q n lb g1 hn _ (HM2.out.l.cell 1) K (fun k hk=>by rw [HK.out];exact (HM2.out.b1.cell k).trans (fillA_get _ _ _ _ _ hk)) _));refine wpQuiet_nil ?_) | (refine Mix.zp ?_;go_big_quiet_step (fail);refine wpQuiet_nil ?_) | (refine Mix.zs ?_;go_big_quiet_step (fail);refine wpQuiet_nil ?_))
 have B2:=HC.out.blk HB.out id
 obtain ⟨r0,r1,r2,r3,r4,r5,r6⟩:=B2.c7
 obtain ⟨s0,s1,s2,s3,s4,s5,s6⟩:=B2.f7
 refine Mix.ze fun W3 hW3=>?_
 obtain ⟨k3,rfl⟩:=hW3
 go_wp2_with fail
 intro k4
 go_wp2_with fail
 refine at_world fun W7 hW7=>?_
 have B7:Blk W7 w.heap.size 97 #[.int .i64 (n:Int),.int .i64 (F:Int),.int .i64 (K:Int),.int .i64 0,.int .i64 (K:Int),.int .i64 0,.int .i64 st]:=by rw [hW7];exact (((((((((B2.drewN k3).put 0 _).put 1 _).put 2 _).put 3 _).put 4 _).put 5 _).put 6 _)).drewN k4
 have c7:Ch (fun k=>k=w.heap.size) w2 W7:=by rw [hW7];exact ((((((((((Ch.refl (fun k=>k=w.heap.size) w2).drewN k3).set (fun _=>rfl) _).set (fun _=>rfl) _).set (fun _=>rfl) _).set (fun _=>rfl) _).set (fun _=>rfl) _).set (fun _=>rfl) _).set (fun _=>rfl) _)).drewN k4
 obtain ⟨t0,t1,t2,t3,t4,t5,t6⟩:=B7.c7
 refine bodyPost_ret (v:=.agg #[.int .i64 (n:Int),.int .i64 (F:Int),.int .i64 (K:Int),.int .i64 0,.int .i64 (K:Int),.int .i64 0,.int .i64 st]) ?_ rfl ⟨rfl,(HW.out.trans HC.out (fun _ _ h=>h)).trans c7 (fun i hi e=>absurd hi (by omega))⟩
 clear hW7 c7
 simp [results,Tryz.results36,go_sem,t0,t1,t2,t3,t4,t5,t6]
section
variable {P:Program} {w:World} {ops:Array Oper} {rest:List Oper} {o:Oper} {a:Act} {Q:Exit->Act->World->Prop}
theorem run_lookok_u64 {T kt et:TypeId} (hT:P.underlying T=some (.map kt et)) (hkt:P.underlying kt=some (.int .u64)) {B:Nat} {es:List (Int × Value)} (h:MapAt w B es) (key:Int) (z:Value) (hz:(zeroValue et).run P w=.ok z w) :
  (Instr.lookup T (.map (some B)) (.int .u64 key) true).run P w=.ok (.tuple #[(u64At es key).getD z,.bool (u64At es key).isSome]) w:=by
 obtain ⟨bs,hl,hb⟩:=h
 obtain ⟨r,h1,h2⟩:=findNow_u64 key es bs 0 hl
 have hc:∀b,(Instr.checkKey b 10000 kt (.int .u64 key)).run P w=.ok () w:=fun b=>MapKept.run_checkKey (k:=.int .u64 key) hkt (by simp [MapKept.IsKey]) b 9999
 simp only [Instr.lookup,Sem.run_bind,run_underlying hT,Result.andThen_ok,MapKept.run_getObj_map hb,Sem.run_pure,hc]
 rw [MapKept.run_findKey hkt h1]
 cases r with
 | none=>
  have h2':u64At es key=none:=by rw [<-h2];rfl
  simp [hz,h2',Result.andThen]
 | some x=>
  have h2':u64At es key=some x.2:=by rw [<-h2];rfl
  simp [h2',Result.andThen]
theorem exec_lookok {T kt et:TypeId} {m k:Operand} (ho:o.op=.lookup T m k true) (hT:P.underlying T=some (.map kt et)) (hkt:P.underlying kt=some (.int .u64)) {B:Nat} {es:List (Int × Value)} (h:MapAt w B es) (key:Int) (z:Value) (hz:(zeroValue et).run P w=.ok z w) (hm:a.eval m=.map (some B)) (hk:a.eval k=.int .u64 key) (r:Value) (hr:u64At es key=some r):(execOp a.eval o).run P w=.ok (.value (.tuple #[r,.bool true])) w:=by
 have hrun:=run_lookok_u64 hT hkt h key z hz
 rw [hr] at hrun
 simp [execOp,ho,hm,hk,hrun,Result.andThen]
theorem wpList_mapu (hgd:o.guard=none) (m k v:Operand) (T:TypeId) (ho:o.op=.mapUpdate T m k v) (kt et:TypeId) (hT:P.underlying T=some (.map kt et)) (hkt:P.underlying kt=some (.int .u64))
  (B:Nat) (es:List (Int × Value)) (h:MapAt w B es) (key:Int) (val:Value) (hm:a.eval m=.map (some B)) (hk:a.eval k=.int .u64 key) (hv:a.eval v=val) (hn:u64At es key=none)
  (hK:∀w',MapAt w' B (es++[(key,val)])->Ch (fun b=>b=B) w w'->wpList P ops Q rest (a.put o.dst undef) w'):wpList P ops Q (o::rest) a w:=by
 refine wpList_plain hgd fun K' hK'=>?_
 obtain ⟨w',hrun,r1,r2⟩:=run_insert_u64 hT hkt h key val hn
 unfold Oper.wp
 simp [execOp,ho,hm,hk,hv,hrun,Result.andThen]
 exact hK' _ _ (hK w' r1 r2)
end
theorem take_any (A:ArA) (ns:List An) (st:Int) (w:World) (h:ArM A w ns st) (hlt:ns.length < A.n) (hn:A.n<=16384):Calls Tryz.prog 172 #[.pointer (some ⟨A.lb,0,none⟩)] w fun e w'=>e=.returned (.tuple #[.int .u64 (hdl ns.length),.int .i64 0])/\Blk w' A.lb 211 #[.slice (some ⟨A.g0,0,none⟩) (A.n - (ns.length+1)) A.n,.slice (some ⟨A.g1,0,none⟩) A.n A.n,.slice (some ⟨A.g2,0,none⟩) A.n A.n,.int .u64 A.g]/\Blk w' A.g1 213 (fillA (fun _=>.int .u8 1) (.int .u8 0) A.n (ns.length+1))/\Ch (fun k=>k=A.lb\/k=A.g1) w w':=by
 obtain ⟨ab,lb,mb,g0,g1,g2,n,g⟩:=A
 simp only at hlt hn |-
 obtain ⟨K,hK⟩:∃K,K=ns.length:=⟨_,rfl⟩
 have hl:=h.l
 have h0:=h.b0
 have h1:=h.b1
 have h2:=h.b2
 simp only at hl h0 h1 h2
 clear h
 rw [<-hK] at hl h1 hlt |-
 clear hK
 obtain ⟨F,hF⟩:∃F,n=K+F+1:=⟨n - K - 1,by omega⟩
 subst hF
 rw [show K+F+1 - K=F+1 by omega] at hl
 rw [show K+F+1 - (K+1)=F by omega]
 have HL:=hid hl
 have H1:=hid h1
 have hkf:K < K+F+1:=by omega
 have hff:F < K+F+1:=by omega
 obtain ⟨l0,l1,l2⟩:=hl.c3
 have s0:w.cell? ⟨g0,F,none⟩=some (.int .i64 (K:Int)):=by
  rw [h0.cell F,fillA_get _ _ _ _ _ hff,if_pos hff]
  congr 2
  push_cast
  omega
 have s1:w.cell? ⟨g1,K,none⟩=some (if K < K then .int .u8 1 else .int .u8 0):=(h1.cell K).trans (fillA_get _ _ _ _ _ hkf)
 have s2:w.cell? ⟨g2,K,none⟩=some (.int .u64 1):=by rw [h2.cell K,fillA_get _ _ _ _ _ hkf,if_pos hkf]
 have f0:=hl.free 0
 have f1:=h1.free K
 have n1:g0≠lb:=Blk.ne h0 hl (by decide)
 have n2:g1≠lb:=Blk.ne h1 hl (by decide)
 have n3:g2≠lb:=Blk.ne h2 hl (by decide)
 have n4:lb≠g1:=Ne.symm n2
 have n5:g2≠g1:=Blk.ne h2 h1 (by decide)
 have n6:lb≠g2:=Ne.symm n3
 clear hl h0 h1 h2
 go_enter Tryz.func172,Tryz.ntmps172
 go_wp2_with fail
 refine Mix.rt [0,0,0,0,0,0,0,0,0,0,0,0,0] [0,1,2,3,4,5,6,7,8,9,10,11,12] ?_
 repeat (first | (refine Mix.zq ?_;go_big_quiet_step (fail);refine wpQuiet_nil ?_) | (refine Mix.zp ?_;go_big_quiet_step (fail);refine wpQuiet_nil ?_))
 intro z1
 go_wp2_with fail
 refine Mix.rt [0,0,0,0,0,0,0,0,0,0,0,0,0,0,2] [0,1,2,3,4,5,6,7,8,9,10,11,12,13,14] ?_
 repeat (first | (refine Mix.zq ?_;go_big_quiet_step (fail);refine wpQuiet_nil ?_) | (refine Mix.zp ?_;go_big_quiet_step (fail);refine wpQuiet_nil ?_))
 refine Mix.ze fun Y1 hY1=>?_
 obtain ⟨y1,rfl⟩:=hY1
 go_wp2_with fail
 intro z2
 go_wp2_with fail
 refine calls_world fun W3 hW3=>?_
 have B3:=hid (show Blk W3 lb 211 #[.slice (some ⟨g0,0,none⟩) F (K+F+1),.slice (some ⟨g1,0,none⟩) (K+F+1) (K+F+1),.slice (some ⟨g2,0,none⟩) (K+F+1) (K+F+1),.int .u64 g] from by
  rw [hW3]
  exact (((HL.out.drewN (z1+y1)).put 0 _).drewN z2).far n4 _)
 have D3:=hid (show Blk W3 g1 213 (fillA (fun _=>.int .u8 1) (.int .u8 0) (K+F+1) (K+1)) from by
  rw [hW3,<-fillA_set (fun _=>.int .u8 1) (.int .u8 0) (K+F+1) K hkf]
  exact ((((H1.out.drewN (z1+y1)).far n2 _).drewN z2).put K _))
 have C3:=hid (show Ch (fun k=>k=lb\/k=g1) w W3 from by
  rw [hW3]
  exact ((((Ch.refl _ w).drewN (z1+y1)).set (fun _=>.inl rfl) _).drewN z2).set (fun _=>.inr rfl) _)
 clear hW3
 refine (hmake_any K (by omega) W3).mono ?_
 rintro e w4 ⟨rfl,rfl⟩
 go_wp2_with fail
 go_ret2
 exact ⟨rfl,B3.out,D3.out,C3.out⟩
theorem infoKd:(Tryz.prog.info? 266).map (fun i=>(i.zero,i.size,i.bytes))=some (some (Value.agg #[.int .u64 0,.int .i64 0,.int .i64 0,.int .i64 0]),4,32):=by kernel_rfl
theorem kd_nil_run (w:World):(binOp .eql 227 (.slice none 0 0) (.slice none 0 0)).run Tryz.prog w=.ok (.bool true) w:=by
 simp only [binOp]
 simp [run_equal_slice_nil w 227 266 none 0 0 Tryz.underlying227]
theorem kd_not_nil_run (a:Addr) (n c:Nat) (w:World):(binOp .eql 227 (.slice (some a) n c) (.slice none 0 0)).run Tryz.prog w=.ok (.bool false) w:=by
 simp only [binOp]
 simp [run_equal_slice_nil w 227 266 (some a) n c Tryz.underlying227]
def OwnKd (w w':World) (l:List Kd) (e:Ending):Prop:=∃a c,e=.returned (.slice a l.length c)/\(l=[]->a=none/\c=0)/\w'.ownsRow w.heap.size 266 4 (.slice a l.length c) l.length (l.flatMap Kd.cells)/\Ch (fun _=>False) w w'
theorem kd_one (l:List Kd):∀u ∈ l.flatMap Kd.cells,u.oneCell'=true:=by
 intro u hu
 obtain ⟨m,_,hm⟩:=List.mem_flatMap.1 hu
 simp [Kd.cells] at hm
 rcases hm with rfl | rfl | rfl | rfl <;> rfl
theorem kd_flat_len (l:List Kd):(l.flatMap Kd.cells).length=l.length * 4:=by
 induction l with
 | nil=>rfl
 | cons k l ih=>simp only [List.flatMap_cons,List.length_append,List.length_cons,ih,kd_len];omega
theorem InP.flat {α:Type} {cells:α->List Value} {sz:Nat} (hz:∀x,(cells x).length=sz) (h0:0 < sz) {w:World} {S:Nat->Prop} {b off n:Nat} {l:List α} (h:InP cells sz w S (Option.some ⟨b,off,none⟩) n l) (j:Nat) (u:Value) (hu:(l.flatMap cells)[j]?=Option.some u):w.cell? ⟨b,off+j,none⟩=Option.some u:=by
 have hfl:∀l:List α,(l.flatMap cells).length=l.length * sz:=by
  intro l
  induction l with
  | nil=>simp
  | cons k l ih=>simp only [List.flatMap_cons,List.length_append,List.length_cons,ih,hz,Nat.succ_mul];omega
 have hj:j < l.length * sz:=by have:=(List.getElem?_eq_some_iff.1 hu).1;rw [hfl] at this;exact this
 have hd:j / sz < l.length:=Nat.div_lt_of_lt_mul (by rw [Nat.mul_comm];exact hj)
 have hm:j % sz < sz:=Nat.mod_lt _ h0
 obtain ⟨x,hx⟩:∃x,l[j / sz]?=Option.some x:=⟨_,List.getElem?_eq_getElem hd⟩
 obtain ⟨v,hv⟩:∃v,(cells x)[j % sz]?=Option.some v:=⟨_,List.getElem?_eq_getElem (by rw [hz];exact hm)⟩
 have t:=flatP hz l (j / sz) (j % sz) x v hx hv
 have e:j / sz * sz+j % sz=j:=by rw [Nat.mul_comm];exact Nat.div_add_mod j sz
 rw [e,hu] at t
 injection t with t
 have:=h.at (j / sz) x hx (j % sz) v hv
 rw [e] at this
 rw [this,t]
theorem cloneKd_any (S:Nat->Prop) (a:Option Addr) (n c:Nat) (l:List Kd) (w:World) (h:InP Kd.cells 4 w S a n l) (hn:n<=100000) (hz:l=[]->a=none/\c=0) :
  Calls Tryz.prog 149 #[.slice a n c] w fun e w'=>OwnKd w w' l e:=by
 obtain ⟨i0,hi,hz0,hz1,hz2⟩:=info_parts infoKd
 obtain rfl:l.length=n:=h.1
 rcases Nat.eq_zero_or_pos l.length with h0 | h0
 ·have hl:l=[]:=List.eq_nil_of_length_eq_zero h0
  obtain ⟨rfl,rfl⟩:=hz hl
  subst hl
  show Calls Tryz.prog 149 #[.slice none 0 0] w _
  go_enter Tryz.func149,Tryz.ntmps149
  go_wp2_with fail
  rw [kd_nil_run]
  go_wp2_with fail
  go_ret
  exact ⟨none,0,rfl,fun _=>⟨rfl,rfl⟩,World.ownsRow_nil _ _ _ _,Ch.refl _ _⟩
 ·obtain ⟨b,off,rfl⟩:=h.some h0
  have hlt:=(h.lt h0).1
  have HH:=hid h
  have hone:=hid (kd_one l)
  have hfl:=hid (kd_flat_len l)
  obtain ⟨n,hnn⟩:∃n,n=l.length:=⟨_,rfl⟩
  rw [<-hnn] at h0 hn
  rw [<-hnn]
  have HN:=hid hnn
  clear hnn h hz
  go_enter Tryz.func149,Tryz.ntmps149
  go_wp2_with fail
  rw [kd_not_nil_run]
  have OV:=hid (show (w.alloc (.cells #[] 266)).ownsRow w.heap.size 266 4 (.slice (some ⟨w.heap.size,0,none⟩) 0 0) 0 [] from World.ownsRow_made w #[] 0 (Nat.le_refl _) (Nat.zero_le _) rfl)
  go_wp2_with (at_builtin;refine wpList_app _ rfl (.tmp 5) (.tmp 6) 227 rfl w.heap.size 266 i0 _ 4 32 Tryz.underlying227 hi hz0 hz1 hz2 rfl (by decide) (.slice (some ⟨w.heap.size,0,none⟩) 0 0) 0 [] rfl OV.out ⟨b,off,none⟩ n c (l.flatMap Kd.cells) rfl (by rw [hfl.out,HN.out]) ?c1 hone.out h0 ?c3 ?c4 ?c5 ?c6)
  case c1=>
   intro j u hu
   rw [addr_add]
   exact (((Ch.refl (fun _=>False) w).alloc (.cells #[] 266)).cell (p:=⟨b,_,none⟩) hlt id).trans (HH.out.flat kd_len (by decide) j u hu)
  case c3=>unfold maxLen;omega
  case c4=>omega
  case c5=>simp
  case c6=>
   intro v' w' hown' hgrow hfresh
   have hch:Ch (fun _=>False) w w':=((Ch.refl (fun _=>False) w).alloc _).grown hgrow (fun g hg hl=>by
    have e:some w.heap.size=some g:=hg
    have:=Option.some.inj e
    omega)
   obtain ⟨a',c',rfl,_⟩:=own_slice hown'
   go_wp2_with fail
   go_ret
   exact ⟨a',c',by rw [HN.out];rfl,fun e=>by rw [e] at HN;exact absurd h0 (by rw [HN.out];simp),by rw [<-HN.out];exact hown',hch⟩
theorem map_ne {w:World} {B g:Nat} {es:List (Int × Value)} {t:TypeId} {cs:Array Value} (h:MapAt w B es) (hb:Blk w g t cs):B≠g:=by
 intro e
 subst e
 obtain ⟨bs,_,hm⟩:=h
 have hb':w.heap[B]?=some (.cells cs t (0,0)):=hb
 rw [hb'] at hm
 cases hm
theorem ms_neq_run (m:Ms) (w:World):(binOp .neq 36 m.v m.v).run Tryz.prog w=.ok (.bool false) w:=by
 unfold Ms.v
 go_simp
 repeat' split
 all_goals simp_all
theorem zero_nd (w:World):(zeroValue 229).run Tryz.prog w=.ok (.agg #[.int .i64 0,.string ByteArray.empty,.slice none 0 0]) w:=by kernel_rfl
theorem alloc_any (S:Nat->Prop) (A:ArA) (ns:List An) (st:Int) (x:Nd) (a:Option Addr) (n c:Nat) (w:World) (h:ArM A w ns st) (hP:ArP ns) (hx:x.ok) (hI:InP Kd.cells 4 w S a n x.ks) (ha:x.ks=[]->a=none/\c=0)
  (hkids:∀k ∈ x.ks,∃z,ns[k.at']?=some z/\z.x.h+1=x.h/\z.x.ms=k.m) (hroom:ns.length < A.n) (hn:A.n<=16384) (hSm:∀k,S k->¬A.mut k) :
  Calls Tryz.prog 168 #[.pointer (some ⟨A.ab,0,none⟩),x.v a n c] w fun e w'=>∃y:An,y.x=x/\e=.returned (.tuple #[.int .u64 (hdl ns.length),.int .i64 0])/\ArM A w' (ns++[y]) st/\Ch A.mut w w'/\∀k,y.kb k->w.heap.size<=k:=by
 have hn4:n<=4:=by
  have:=hI.1
  rcases hx with ⟨_,_,_,h4⟩ | ⟨_,_,_,_,h5,_⟩
  ·rw [h4] at this;simp at this;omega
  ·omega
 have HI:=hid hI
 have HX:=hid hx
 have HA:=hid ha
 have HK:=hid hkids
 have HP:=hid hP
 have HM:=hid h
 have HSM:=hid hSm
 clear hI hx ha hkids hP h hSm
 have HV:=hid (show x.v a n c=.agg #[.int .i64 (x.h:Int),.string x.s,.slice a n c] from rfl)
 rw [HV.out]
 go_enter Tryz.func168,Tryz.ntmps168
 go_wp2_with fail
 refine calls_world fun W0 hW0=>?_
 have C0:=hid (show Ch (fun _=>False) w W0 from by rw [hW0];exact (Ch.refl _ w).alloc _)
 have B0:=hid (show Blk W0 w.heap.size 229 #[.int .i64 (x.h:Int),.string x.s,.slice a n c] from by rw [hW0];exact Blk.new w _ _)
 clear hW0
 refine (ncheck_any S x a n c W0 HX.out (HI.out.keep C0.out (fun _ _ _=>id) (fun _ _ h=>h))).mono ?_
 rintro e W1 ⟨rfl,hc⟩
 have C1:=hid (C0.out.trans hc (fun _ _ h=>h))
 have B1:=hid (hc.blk B0.out id)
 clear hc B0 C0
 have r2:W1.cell? ⟨w.heap.size,2,none⟩=some (.slice a n c):=B1.out.cell 2
 go_wp2_with fail
 go_loopw [25] (fun i W=>∃k:Nat,k<=n/\i=.int .i64 (k:Int)/\Ch (fun _=>False) W1 W) (fun i _=>n - (intOf i).toNat)
 case atStart=>exact ⟨0,Nat.zero_le _,rfl,Ch.refl _ _⟩
 case round=>
  clear r2
  obtain ⟨k,hk,rfl,hCh⟩:=hrel
  have hln:=HI.out.1
  by_cases hlt:k < n
  {
 obtain ⟨b,off,rfl⟩:=HI.out.some (by omega)
 obtain ⟨q,hq⟩:∃q,x.ks[k]?=some q:=⟨_,List.getElem?_eq_getElem (by omega)⟩
 have C2:=hid (C1.out.trans hCh (fun _ _ h=>h))
 have hI:=HI.out.keep C2.out (fun _ _ _=>id) (fun _ _ h=>h)
 have c0:wr.cell? ⟨b,off+k * 4,none⟩=some (.int .u64 (hdl q.at')):=hI.at k q hq 0 _ rfl
 have c1:wr.cell? ⟨b,off+k * 4+1,none⟩=some (.int .i64 q.m.b):=hI.at k q hq 1 _ rfl
 have c2:wr.cell? ⟨b,off+k * 4+2,none⟩=some (.int .i64 q.m.r):=hI.at k q hq 2 _ rfl
 have c3:wr.cell? ⟨b,off+k * 4+3,none⟩=some (.int .i64 q.m.l):=hI.at k q hq 3 _ rfl
 obtain ⟨z,hz,hzh,hzm⟩:=HK.out q (List.mem_of_getElem? hq)
 have HZ:=hid hz
 have HZM:=hid hzm
 obtain ⟨y1,y2⟩:=dc_ltT (a:=k) (b:=n) (by omega)
 have hxh1:1<=x.h:=by omega
 have hxh2:x.h<=16:=by
  rcases HX.out with ⟨h0,_⟩ | ⟨_,h2,_⟩
  ·omega
  ·exact h2
 have hzh':((z.x.h:Int) != (x.h:Int) - 1)=false:=by simp;omega
 have M2:=hid (HM.out.keep0 C2.out)
 have B2:=hid (hCh.blk B1.out id)
 have hlm:=M2.out.a.lt
 have HCH:=hid hCh
 clear hI hq hCh hz hzm hzh
 have a2:wr.cell? ⟨A.ab,2,none⟩=some (.map (some A.mb)):=M2.out.a.cell 2
 go_wp2_with fail
 refine at_world fun W3 hW3=>?_
 have D3:=hid (show Ch (fun _=>False) wr W3 from by rw [hW3];exact (Ch.refl _ wr).alloc _)
 have Q3:=hid (show Blk W3 wr.heap.size 266 #[.int .u64 (hdl q.at'),.int .i64 q.m.b,.int .i64 q.m.r,.int .i64 q.m.l] from by rw [hW3];exact Blk.new wr _ _)
 have M3:=hid (M2.out.keep0 D3.out)
 clear hW3 a2 c0 c1 c2 c3
 have hbw:w.heap.size < wr.heap.size:=B2.out.lt
 have hb1:w.heap.size≠wr.heap.size:=Nat.ne_of_lt hbw
 have hb2:wr.heap.size≠w.heap.size:=Ne.symm hb1
 obtain ⟨SS,hSS⟩:∃S:Nat->Prop,∀j,S j↔(j=A.ab\/j=wr.heap.size\/j=A.mb):=⟨_,fun _=>Iff.rfl⟩
 have hS1:Mix.Has SS A.ab:=(hSS _).2 (.inl rfl)
 have hS2:Mix.Has SS wr.heap.size:=(hSS _).2 (.inr (.inl rfl))
 have HS:=hid hSS
 clear hSS
 have a2:W3.cell? ⟨A.ab,2,none⟩=some (.map (some A.mb)):=M3.out.a.cell 2
 have q0:W3.cell? ⟨wr.heap.size,0,none⟩=some (.int .u64 (hdl q.at')):=Q3.out.cell 0
 refine Mix.rg SS [1,1,1,4,1,4,4,1,1,1,3,2,0] [0,1,2,3,4,5,6,7,8,9,10,11,12] ?_
 iterate 6 (first | (refine Mix.zp ?_;go_big_quiet_step (fail);refine wpQuiet_nil ?_) | (refine Mix.zs ?_;go_big_quiet_step (fail);refine wpQuiet_nil ?_))
 refine Mix.mix_w (by simp only [List.getElem?_toArray,List.getElem?_cons_zero,List.getElem?_cons_succ];exact rfl) rfl (.tuple #[.agg #[.int .i64 (z.x.h:Int),.string z.x.s,.slice z.a z.x.ks.length z.c],.bool true]) rfl (fun X hX=>exec_lookok (es:=entsF 0 ns) (B:=A.mb) rfl Tryz.underlying162 Tryz.underlying55 (by obtain ⟨bs,hl,hb⟩:=M3.out.m;exact ⟨bs,hl,(hX A.mb ((HS.out _).2 (.inr (.inr rfl)))).trans hb⟩) (hdl q.at') _ (zero_nd X) rfl rfl _ (by have t:=ents_at ns 0 q.at';rw [Nat.zero_add,HZ.out] at t;exact t)) ?_
 simp only [Act.put,List.setIfInBounds_toArray,List.set_cons_succ,List.set_cons_zero]
 iterate 3 (refine Mix.zp ?_;go_big_quiet_step (fail);refine wpQuiet_nil ?_)
 refine Mix.za fun W4 hW4=>?_
 obtain ⟨y1',rfl⟩:=hW4
 go_wp2_with fail
 refine ⟨fun j hj=>(((Ch.refl (fun _=>False) W3).drewN y1').alloc _).block j (by rcases (HS.out j).1 hj with rfl | rfl | rfl;exact M3.out.a.lt;exact Q3.out.lt;exact M3.out.m.lt) id,?_⟩
 refine Mix.mix_world fun V hV=>?_
 have D4:=hid (show Ch (fun _=>False) wr V from by rw [hV];exact (D3.out.drewN y1').alloc _)
 have K4:=hid (show Blk V wr.heap.size 266 #[.int .u64 (hdl q.at'),.int .i64 q.m.b,.int .i64 q.m.r,.int .i64 q.m.l] from by rw [hV];exact (Q3.out.drewN y1').alloc _)
 have N4:=hid (show Blk V W3.heap.size 229 #[.int .i64 0,.string ⟨#[]⟩,.slice none 0 0] from by rw [hV];exact Blk.new (W3.drewN y1') _ _)
 have hb3:wr.heap.size < W3.heap.size:=Q3.out.lt
 clear hV
 obtain ⟨zb,hzb⟩:∃zb,zb=W3.heap.size:=⟨_,rfl⟩
 rw [<-hzb] at N4 hb3
 rw [<-hzb]
 clear hzb a2 q0
 obtain ⟨r0,r1,r2⟩:=N4.out.c3
 obtain ⟨s0,s1,s2⟩:=N4.out.f3
 refine Mix.ze fun W5 hW5=>?_
 obtain ⟨y2',rfl⟩:=hW5
 go_wp2_with fail
 (refine Mix.zq ?_;go_big_quiet_step (fail);refine wpQuiet_nil ?_)
 intro y3'
 go_wp2_with fail
 refine calls_world fun W7 hW7=>?_
 have D7:=hid (show Ch (fun _=>False) wr W7 from by rw [hW7];exact ((((D4.out.drewN y2').set (fun h=>absurd h (by omega)) _).set (fun h=>absurd h (by omega)) _).set (fun h=>absurd h (by omega)) _).drewN y3')
 have hbz:wr.heap.size≠zb:=Nat.ne_of_lt hb3
 have hbz2:zb≠wr.heap.size:=Ne.symm hbz
 have K7:=hid (show Blk W7 wr.heap.size 266 #[.int .u64 (hdl q.at'),.int .i64 q.m.b,.int .i64 q.m.r,.int .i64 q.m.l] from by rw [hW7];exact ((((K4.out.drewN y2').far hbz _).far hbz _).far hbz _).drewN y3')
 have N7:=hid (show Blk W7 zb 229 #[.int .i64 (z.x.h:Int),.string z.x.s,.slice z.a z.x.ks.length z.c] from by rw [hW7];exact ((((N4.out.drewN y2').put 0 _).put 1 _).put 2 _).drewN y3')
 clear hW7 D4 K4 N4 r0 r1 r2 s0 s1 s2
 have M7:=hid (M2.out.keep0 D7.out)
 have hzmem:z ∈ ns:=List.mem_of_getElem? HZ.out
 refine (nmeas_any z.kb z.x z.a z.x.ks.length z.c W7 (HP.out.ok z hzmem) (M7.out.ks z hzmem)).mono ?_
 rintro e w8 ⟨rfl,hc8⟩
 rw [HZM.out]
 simp only [Ms.v]
 have D8:=hid (D7.out.trans hc8 (fun _ _ h=>h))
 have k1:w8.cell? ⟨wr.heap.size,1,none⟩=some (.int .i64 q.m.b):=(hc8.blk K7.out id).cell 1
 have k2:w8.cell? ⟨wr.heap.size,2,none⟩=some (.int .i64 q.m.r):=(hc8.blk K7.out id).cell 2
 have k3:w8.cell? ⟨wr.heap.size,3,none⟩=some (.int .i64 q.m.l):=(hc8.blk K7.out id).cell 3
 have m0:w8.cell? ⟨zb,0,none⟩=some (.int .i64 (z.x.h:Int)):=(hc8.blk N7.out id).cell 0
 have x0:w8.cell? ⟨w.heap.size,0,none⟩=some (.int .i64 (x.h:Int)):=(D8.out.blk B2.out id).cell 0
 have e1:zb < w8.heap.size:=(hc8.blk N7.out id).lt
 have e2:zb≠w8.heap.size:=Nat.ne_of_lt e1
 have e3:wr.heap.size≠w8.heap.size:=by omega
 have e4:w.heap.size≠w8.heap.size:=by omega
 have e5:wr.heap.size < w8.heap.size:=by omega
 have e6:w.heap.size < w8.heap.size:=by omega
 have hrn:∀W:World,(binOp .neq 36 (.agg #[.int .i64 q.m.b,.int .i64 q.m.r,.int .i64 q.m.l]) (.agg #[.int .i64 q.m.b,.int .i64 q.m.r,.int .i64 q.m.l])).run Tryz.prog W=.ok (.bool false) W:=fun W=>ms_neq_run q.m W
 clear hc8
 go_wp2_with fail
 exact ⟨⟨k+1,by omega,by push_cast;rfl,(HCH.out.trans D8.out (fun _ _ h=>h)).alloc _⟩,by simp only [intOf];omega⟩
 }
  {
 obtain rfl:n=k:=by omega
 have y1:decide (n < n)=false:=decide_eq_false (by omega)
 have C2:=hid (C1.out.trans hCh (fun _ _ h=>h))
 have M2:=hid (HM.out.keep0 C2.out)
 have B2:=hid (hCh.blk B1.out id)
 have a1:wr.cell? ⟨A.ab,1,none⟩=some (.pointer (some ⟨A.lb,0,none⟩)):=M2.out.a.cell 1
 clear hCh
 go_wp2_with fail
 refine (take_any A ns st wr M2.out hroom hn).mono ?_
 rintro e w3 ⟨rfl,hL,hG,hc3⟩
 have l1:=HM.out.a.lt
 have l2:=HM.out.l.lt
 have l3:=HM.out.m.lt
 have l4:=HM.out.b1.lt
 have l5:=HM.out.b0.lt
 have l6:=HM.out.b2.lt
 have hmut:∀k,A.mut k->k < w.heap.size:=fun k hk=>by rcases hk with rfl | rfl | rfl | rfl <;> assumption
 have HMUT:=hid hmut
 clear hmut
 have C3:=hid (show Ch A.mut w w3 from (C2.out.mono (fun _ _ e=>e.elim)).trans hc3 (fun _ _ h=>by rcases h with h | h;exact .inr (.inl h);exact .inr (.inr (.inr h))))
 have B3:=hid (hc3.blk B2.out (fun e=>by rcases e with e | e <;> omega))
 have A3:=hid (hc3.blk M2.out.a (fun e=>by rcases e with e | e;exact Blk.ne HM.out.a HM.out.l (by decide) e;exact Blk.ne HM.out.a HM.out.b1 (by decide) e))
 have P3:=hid (M2.out.m.ch hc3 (fun e=>by
  rcases e with e | e
  ·exact map_ne HM.out.m HM.out.l e
  ·exact map_ne HM.out.m HM.out.b1 e))
 have L3:=hid hL
 have G3:=hid hG
 clear hL hG hc3 a1 M2 B2 C2
 have r2:w3.cell? ⟨w.heap.size,2,none⟩=some (.slice a n c):=B3.out.cell 2
 go_wp2_with fail
 refine (cloneKd_any S a n c x.ks w3 (HI.out.keep C3.out (fun k _ h=>HSM.out k h) (fun _ _ h=>h)) (by omega) HA.out).mono ?_
 rintro e w4 ⟨a',c',rfl,hz',hown,hc4⟩
 rw [show x.ks.length=n from HI.out.1]
 have hw3:w.heap.size < w3.heap.size:=B3.out.lt
 have C4:=hid (show Ch A.mut w w4 from C3.out.trans hc4 (fun _ _ e=>e.elim))
 have B4:=hid (hc4.blk B3.out id)
 have A4:=hid (hc4.blk A3.out id)
 have P4:=hid (P3.out.ch hc4 id)
 have L4:=hid (hc4.blk L3.out id)
 have G4:=hid (hc4.blk G3.out id)
 have OW:=hid hown
 have HZ:=hid hz'
 clear hc4 r2 B3 A3 P3 L3 G3 hown hz'
 obtain ⟨r0,r1,r2⟩:=B4.out.c3
 have s2:=B4.out.free 2
 have a2:w4.cell? ⟨A.ab,2,none⟩=some (.map (some A.mb)):=A4.out.cell 2
 have n1:A.ab≠w.heap.size:=by omega
 go_wp2_with fail
 refine Mix.rt [0,0,0,0,0,0,2] [0,1,2,3,4,5,6] ?_
 repeat (first | (refine Mix.zq ?_;go_big_quiet_step (fail);refine wpQuiet_nil ?_) | (refine Mix.zp ?_;go_big_quiet_step (fail);refine wpQuiet_nil ?_))
 refine Mix.ze fun W5 hW5=>?_
 obtain ⟨y5,rfl⟩:=hW5
 refine wpList_mapu rfl _ _ _ 162 rfl _ _ Tryz.underlying162 Tryz.underlying55 A.mb (entsF 0 ns) ?m1 (hdl ns.length) (.agg #[.int .i64 (x.h:Int),.string x.s,.slice a' n c']) rfl rfl rfl ?m2 ?_
 case m1=>exact P4.out.ch (((Ch.refl (fun k=>k=w.heap.size) w4).set (fun _=>rfl) _).drewN y5) (by omega)
 case m2=>
  have t:=ents_at ns 0 ns.length
  rw [Nat.zero_add,List.getElem?_eq_none (Nat.le_refl _)] at t
  exact t
 intro w5 hm5 hc5
 have D5:=hid (show Ch (fun k=>k=w.heap.size\/k=A.mb) w4 w5 from ((((Ch.refl (fun k=>k=w.heap.size\/k=A.mb) w4).set (fun _=>.inl rfl) _).drewN y5).trans hc5 (fun _ _ h=>.inr h)))
 have e1:¬(A.ab=w.heap.size\/A.ab=A.mb):=fun e=>by
  rcases e with e | e
  ·omega
  ·exact map_ne HM.out.m HM.out.a e.symm
 have A5:=hid (D5.out.blk A4.out e1)
 have P5:=hid hm5
 clear hc5 hm5 r0 r1 r2 s2 a2 B4
 have a3:w5.cell? ⟨A.ab,3,none⟩=some (.int .i64 (ns.length:Int)):=A5.out.cell 3
 have f3:=A5.out.free 3
 go_wp2_with fail
 intro z5
 go_wp2_with fail
 go_ret2
 have CF:Ch A.mut w5 ((w5.drewN z5).setCell ⟨A.ab,3,none⟩ (.int .i64 ((ns.length:Int)+1))):=((Ch.refl A.mut w5).drewN z5).set (fun _=>.inl rfl) _
 have CE:Ch (fun k=>k=A.ab) w5 ((w5.drewN z5).setCell ⟨A.ab,3,none⟩ (.int .i64 ((ns.length:Int)+1))):=((Ch.refl (fun k=>k=A.ab) w5).drewN z5).set (fun _=>rfl) _
 have C45:Ch A.mut w w5:=C4.out.trans D5.out (fun i hi h=>by
  rcases h with h | h
  ·omega
  ·exact .inr (.inr (.inl h)))
 have hlen:(ns++[An.mk x a' c']).length=ns.length+1:=by simp
 have hg:∀(g:Nat) (t:TypeId) (cs:Array Value),Blk w4 g t cs->g < w.heap.size->g≠A.mb->g≠A.ab->Blk ((w5.drewN z5).setCell ⟨A.ab,3,none⟩ (.int .i64 ((ns.length:Int)+1))) g t cs:=fun g t cs hb h1 h2 h3=>CE.blk (D5.out.blk hb (fun e=>by rcases e with e | e;omega;exact h2 e)) h3
 have hkk:A.lb≠A.mb/\A.lb≠A.ab/\A.g1≠A.mb/\A.g1≠A.ab:=⟨fun e=>map_ne HM.out.m HM.out.l e.symm,Blk.ne HM.out.l HM.out.a (by decide),fun e=>map_ne HM.out.m HM.out.b1 e.symm,Blk.ne HM.out.b1 HM.out.a (by decide)⟩
 refine ⟨⟨x,a',c'⟩,rfl,rfl,⟨?_,?_,?_,?_,?_,?_,?_,?_,?_,?_⟩,C45.trans CF (fun _ _ h=>h),?_⟩
 ·rw [hlen]
  have t:=(A5.out.drewN z5).put 3 (.int .i64 ((ns.length:Int)+1))
  push_cast
  exact t
 ·rw [hlen]
  exact hg _ _ _ L4.out l2 hkk.1 hkk.2.1
 ·exact (C45.trans CF (fun _ _ h=>h)).blk HM.out.b0 (fun e=>by
   rcases e with e | e | e | e
   ·exact Blk.ne HM.out.b0 HM.out.a (by decide) e
   ·exact Blk.ne HM.out.b0 HM.out.l (by decide) e
   ·exact map_ne HM.out.m HM.out.b0 e.symm
   ·exact Blk.ne HM.out.b0 HM.out.b1 (by decide) e)
 ·rw [hlen]
  exact hg _ _ _ G4.out l4 hkk.2.2.1 hkk.2.2.2
 ·exact (C45.trans CF (fun _ _ h=>h)).blk HM.out.b2 (fun e=>by
   rcases e with e | e | e | e
   ·exact Blk.ne HM.out.b2 HM.out.a (by decide) e
   ·exact Blk.ne HM.out.b2 HM.out.l (by decide) e
   ·exact map_ne HM.out.m HM.out.b2 e.symm
   ·exact Blk.ne HM.out.b2 HM.out.b1 (by decide) e)
 ·rw [ents_snoc,Nat.zero_add]
  have t:=P5.out.ch CE (fun e=>map_ne P5.out A5.out e)
  have e:(An.mk x a' c').v=.agg #[.int .i64 (x.h:Int),.string x.s,.slice a' n c']:=by rw [<-HI.out.1];rfl
  rw [e]
  exact t
 ·rw [hlen];omega
 ·intro y hy
  rcases List.mem_append.1 hy with hy | hy
  ·exact (HM.out.ks y hy).keep (C45.trans CF (fun _ _ h=>h)) (fun k _ h=>HM.out.kd y hy k h) (fun _ _ h=>h)
  ·simp at hy
   subst hy
   have hl:x.ks.length=n:=HI.out.1
   have hD:Ch (fun k=>k=w.heap.size\/k=A.mb\/k=A.ab) w4 ((w5.drewN z5).setCell ⟨A.ab,3,none⟩ (.int .i64 ((ns.length:Int)+1))):=(D5.out.mono (fun _ _ h=>by rcases h with h | h;exact .inl h;exact .inr (.inl h))).trans CE (fun _ _ h=>.inr (.inr h))
   have t:=InP.ofOwn (cells:=Kd.cells) kd_len rfl OW.out (fun k=>w3.heap.size<=k) (fun k _ h=>h)
   have t2:=t.keep (S':=fun k=>w3.heap.size<=k) hD (fun k _ h e=>by have h':w3.heap.size<=k:=h;have m1:=l1;have m3:=l3;rcases e with e | e | e <;> omega) (fun _ _ h=>h)
   refine ⟨rfl,fun h0=>?_⟩
   obtain ⟨b,off,hv,hb,hlt,hc⟩:=t2.2 h0
   exact ⟨b,off,hv,⟨h0,off,hv⟩,hlt,hc⟩
 ·intro y hy k hk
  rcases List.mem_append.1 hy with hy | hy
  ·exact HM.out.kd y hy k hk
  ·simp at hy
   subst hy
   intro hm
   have h1:=HMUT.out k hm
   obtain ⟨h0,o,ho⟩:=hk
   simp only at ho
   have h2:=(OW.out.lt k (by rw [ho];rfl)).1
   omega
 ·intro y hy h0
  rcases List.mem_append.1 hy with hy | hy
  ·exact HM.out.kn y hy h0
  ·simp at hy
   subst hy
   exact HZ.out h0
 ·intro k hk
  obtain ⟨h0,o,ho⟩:=hk
  simp only at ho
  have h2:=(OW.out.lt k (by rw [ho];rfl)).1
  omega
 }
end Go.Proofs.YtjcdknhejcbpiaaGreat
