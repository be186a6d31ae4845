/- Lemmas; no condition. -/
import Derived.Test.YtjcdknhejcbpiaaGreatSb21
set_option maxRecDepth 100000
set_option maxHeartbeats 4000000
namespace Go.Proofs.YtjcdknhejcbpiaaGreat
open Go.RowKit
set_option linter.unusedVariables false
set_option linter.unusedSimpArgs false
set_option linter.unusedSectionVars false
structure Ly where
 l0:Int
 l1:Int
 l2:Int
 l3:Int
 l4:Int
 l5:Int
 l6:Int
 l7:Int
 l8:Int
 l9:Int
def Ly.arr (y:Ly):Array Value:=#[.int .i64 y.l0,.int .i64 y.l1,.int .i64 y.l2,.int .i64 y.l3,.int .i64 y.l4,.int .i64 y.l5,.int .i64 y.l6,.int .i64 y.l7,.int .i64 y.l8,.int .i64 y.l9]
structure StF (cs:Array Value) (p ab eb:Nat) (y:Ly):Prop where
 bank:cs[18]?=some (.pointer (some ⟨p,0,none⟩))
 arena:cs[19]?=some (.pointer (some ⟨ab,0,none⟩))
 epoch:cs[21]?=some (.pointer (some ⟨eb,0,none⟩))
 lay:∀(j:Nat) (v:Value),y.arr[j]?=some v->cs[8+j]?=some v
section
variable {sb p ab eb:Nat} {y:Ly} {cs:Array Value}
theorem sbank_any (w:World) (hS:Blk w sb 125 cs) (hF:StF cs p ab eb y):Calls Tryz.prog 26 #[.pointer (some ⟨sb,0,none⟩)] w fun e w'=>e=.returned (.pointer (some ⟨p,0,none⟩))/\w=w':=by
 have a18:w.cell? ⟨sb,18,none⟩=some (.pointer (some ⟨p,0,none⟩)):=(hS.cell 18).trans hF.bank
 clear hS hF
 go_enter Tryz.func26,Tryz.ntmps26
 go_wp2_with fail
 go_ret
 exact ⟨rfl,rfl⟩
theorem sbank_q (w:World) (hS:Blk w sb 125 cs) (hF:StF cs p ab eb y) (k:Nat):Calls Tryz.prog 26 #[.pointer (some ⟨sb,0,none⟩)] (w.drewN k) fun e w''=>e=.returned (.pointer (some ⟨p,0,none⟩))/\∃m,w''=w.drewN m:=
 Calls.quiet_of_same ((sbank_any (w.drewN k) (hS.drewN k) hF).mono fun e w' ⟨he,hw⟩=>⟨he,hw.symm⟩)
theorem sarena_any (w:World) (hS:Blk w sb 125 cs) (hF:StF cs p ab eb y):Calls Tryz.prog 35 #[.pointer (some ⟨sb,0,none⟩)] w fun e w'=>e=.returned (.pointer (some ⟨ab,0,none⟩))/\w=w':=by
 have a19:w.cell? ⟨sb,19,none⟩=some (.pointer (some ⟨ab,0,none⟩)):=(hS.cell 19).trans hF.arena
 clear hS hF
 go_enter Tryz.func35,Tryz.ntmps35
 go_wp2_with fail
 go_ret
 exact ⟨rfl,rfl⟩
theorem sepoch_any (w:World) (hS:Blk w sb 125 cs) (hF:StF cs p ab eb y):Calls Tryz.prog 97 #[.pointer (some ⟨sb,0,none⟩)] w fun e w'=>e=.returned (.pointer (some ⟨eb,0,none⟩))/\w=w':=by
 have a21:w.cell? ⟨sb,21,none⟩=some (.pointer (some ⟨eb,0,none⟩)):=(hS.cell 21).trans hF.epoch
 clear hS hF
 go_enter Tryz.func97,Tryz.ntmps97
 go_wp2_with fail
 go_ret
 exact ⟨rfl,rfl⟩
theorem sepoch_q (w:World) (hS:Blk w sb 125 cs) (hF:StF cs p ab eb y) (k:Nat):Calls Tryz.prog 97 #[.pointer (some ⟨sb,0,none⟩)] (w.drewN k) fun e w''=>e=.returned (.pointer (some ⟨eb,0,none⟩))/\∃m,w''=w.drewN m:=
 Calls.quiet_of_same ((sepoch_any (w.drewN k) (hS.drewN k) hF).mono fun e w' ⟨he,hw⟩=>⟨he,hw.symm⟩)
theorem slayout_any (w:World) (hS:Blk w sb 125 cs) (hF:StF cs p ab eb y):Calls Tryz.prog 27 #[.pointer (some ⟨sb,0,none⟩)] w fun e w'=>e=.returned (.agg y.arr)/\Ch (fun _=>False) w w':=by
 have hl:=hS.lt
 have n1:sb≠w.heap.size:=Nat.ne_of_lt hl
 have n2:w.heap.size≠sb:=Ne.symm n1
 have b0:w.cell? ⟨sb,8,none⟩=some (.int .i64 y.l0):=(hS.cell 8).trans (hF.lay 0 _ rfl)
 have b1:w.cell? ⟨sb,9,none⟩=some (.int .i64 y.l1):=(hS.cell 9).trans (hF.lay 1 _ rfl)
 have b2:w.cell? ⟨sb,10,none⟩=some (.int .i64 y.l2):=(hS.cell 10).trans (hF.lay 2 _ rfl)
 have b3:w.cell? ⟨sb,11,none⟩=some (.int .i64 y.l3):=(hS.cell 11).trans (hF.lay 3 _ rfl)
 have b4:w.cell? ⟨sb,12,none⟩=some (.int .i64 y.l4):=(hS.cell 12).trans (hF.lay 4 _ rfl)
 have b5:w.cell? ⟨sb,13,none⟩=some (.int .i64 y.l5):=(hS.cell 13).trans (hF.lay 5 _ rfl)
 have b6:w.cell? ⟨sb,14,none⟩=some (.int .i64 y.l6):=(hS.cell 14).trans (hF.lay 6 _ rfl)
 have b7:w.cell? ⟨sb,15,none⟩=some (.int .i64 y.l7):=(hS.cell 15).trans (hF.lay 7 _ rfl)
 have b8:w.cell? ⟨sb,16,none⟩=some (.int .i64 y.l8):=(hS.cell 16).trans (hF.lay 8 _ rfl)
 have b9:w.cell? ⟨sb,17,none⟩=some (.int .i64 y.l9):=(hS.cell 17).trans (hF.lay 9 _ rfl)
 clear hS hF
 go_enter Tryz.func27,Tryz.ntmps27
 go_wp2_with fail
 refine bodyPost_ret (v:=.agg y.arr) ?_ rfl ⟨rfl,below_ch ?_⟩
 ·simp [results,Tryz.results27,go_sem,Ly.arr]
 ·repeat (refine Below.setCell ?_ (by simp) _)
  exact (Below.refl _ _).alloc (Nat.le_refl _) _
end
def free1:List (Option Nat)->Nat->Int
 | [],_=>-1
 | none::_,k=>k
 | some _::l,k=>free1 l (k+1)
theorem free1_at:∀(l:List (Option Nat)) (k i:Nat),l[i]?=some none->(∀j < i,∃g,l[j]?=some (some g))->free1 l k=((k+i:Nat):Int)
 | [],k,i,h,_=>by simp at h
 | none::l,k,0,h,_=>by simp [free1]
 | none::l,k,i+1,h,hj=>by
  obtain ⟨g,hg⟩:=hj 0 (by omega)
  simp at hg
 | some g::l,k,0,h,_=>by simp at h
 | some g::l,k,i+1,h,hj=>by
  simp only [free1]
  rw [free1_at l (k+1) i (by simpa using h) (fun j hji=>by
   obtain ⟨g,hg⟩:=hj (j+1) (by omega)
   exact ⟨g,by simpa using hg⟩)]
  congr 1
  omega
theorem free1_none:∀(l:List (Option Nat)) (k:Nat),(∀j < l.length,∃g,l[j]?=some (some g))->free1 l k = -1
 | [],k,_=>rfl
 | none::l,k,hj=>by
  obtain ⟨g,hg⟩:=hj 0 (by simp)
  simp at hg
 | some g::l,k,hj=>by
  simp only [free1]
  exact free1_none l (k+1) (fun j hji=>by
   obtain ⟨g,hg⟩:=hj (j+1) (by simpa using hji)
   exact ⟨g,by simpa using hg⟩)
theorem index_any (lb n:Nat) (l:List (Option Nat)) (w:World) (h:Blk w lb 140 (pinsA l)) (hl:l.length=n) (hn:n < 1000) :
  Calls Tryz.prog 96 #[.slice (some ⟨lb,0,none⟩) n n,.pointer none] w fun e w'=>e=.returned (.int .i64 (free1 l 0))/\w=w':=by
 have H:=hid h
 have HL:=hid hl
 clear h hl
 go_enter Tryz.func96,Tryz.ntmps96
 go_wp2_with fail
 go_loopw [8] (fun i W=>∃k:Nat,k<=n/\i=.int .i64 (k:Int)/\(∀j < k,∃g,l[j]?=some (some g))/\w=W) (fun i _=>n - (intOf i).toNat)
 case atStart=>exact ⟨0,Nat.zero_le _,rfl,fun j h=>by omega,rfl⟩
 case round=>
  obtain ⟨k,hk,rfl,hj,rfl⟩:=hrel
  have HJ:=hid hj
  clear hj
  by_cases hlt:k < n
  {
 have d1:decide ((k:Int) < (n:Int))=true:=decide_eq_true (by omega)
 have d2:decide (k < n)=true:=decide_eq_true hlt
 obtain ⟨o,ho⟩:∃o,l[k]?=some o:=⟨l[k]'(by rw [HL.out];exact hlt),List.getElem?_eq_getElem _⟩
 have HO:=hid ho
 have CK0:=hid (show w.cell? ⟨lb,k,none⟩=some (pinV o) from (H.out.cell k).trans (pinsA_at ho))
 clear ho
 cases o with
 | none=>
  have ck:w.cell? ⟨lb,k,none⟩=some (.pointer none):=CK0.out
  go_wp2_with fail
  go_ret
  exact ⟨by rw [free1_at l 0 k HO.out HJ.out,Nat.zero_add];rfl,rfl⟩
 | some g=>
  have ck:w.cell? ⟨lb,k,none⟩=some (.pointer (some ⟨g,0,none⟩)):=CK0.out
  have hne:∀W:World,(binOp .eql 140 (.pointer none) (.pointer (some ⟨g,0,none⟩))).run Tryz.prog W=.ok (.bool false) W:=fun W=>by kernel_rfl
  go_wp2_with fail
  go_roundw
  case rel=>
   refine ⟨k+1,hlt,by go_num,fun j hj=>?_,by first | trivial | rfl⟩
   by_cases hjk:j < k
   ·exact HJ.out j hjk
   ·obtain rfl:j=k:=by omega
    exact ⟨g,HO.out⟩
  case measure=>simp [intOf];omega
 }
  ·have d1:decide ((k:Int) < (n:Int))=false:=decide_eq_false (by omega)
   have d2:decide (k < n)=false:=decide_eq_false hlt
   go_wp2_with fail
   go_ret
   exact ⟨by rw [free1_none l 0 (fun j hj=>HJ.out j (by rw [HL.out] at hj;omega))];rfl,rfl⟩
theorem held_q (g lb n m:Nat) (r:Rd) (k:Nat) (w:World) (h:Blk w g 111 r.cells) (hs:r.sl=.slice (some ⟨lb,0,none⟩) n n) (hm:r.cl * (n:Int)=(m:Int)) (hm2:m<=64) (hk:k < 16) (j:Nat) :
  Calls Tryz.prog 99 #[.pointer (some ⟨g,0,none⟩),.int .i64 (k:Int)] (w.drewN j) fun e w''=>e=.returned (.int .i64 ((m+k:Nat):Int))/\∃q,w''=w.drewN q:=by
 have a1:w.cell? ⟨g,1,none⟩=some (.int .i64 r.cl):=h.cell 1
 have a2:w.cell? ⟨g,2,none⟩=some (.slice (some ⟨lb,0,none⟩) n n):=(h.cell 2).trans (by rw [<-hs];rfl)
 have wm:IntKind.i64.wrap (r.cl * (n:Int))=(m:Int):=by rw [hm];exact IntWalk.i64_in _ (by omega)
 have wk:IntKind.i64.wrap ((m:Int)+(k:Int))=((m+k:Nat):Int):=by rw [IntWalk.i64_in _ (by omega)];push_cast;rfl
 clear h hs hm
 go_enter Tryz.func99,Tryz.ntmps99
 go_wp2_with fail
 refine Mix.rt [0,0,0,0,0,0,0,0,0,0,0,0,0] [0,1,2,3,4,5,6,7,8,9,10,11,12] ?_
 repeat ((first | refine Mix.zq ?_ | refine Mix.zp ?_ | refine Mix.zs ?_);go_big_quiet_step (fail);refine wpQuiet_nil ?_)
 intro q
 go_wp2_with fail
 go_ret
 exact ⟨rfl,_,by rw [World.drewN_drewN]⟩
structure Snp where
 g:Nat
 x:Rv
 mv:Value
 ms:List Mk
 dv:Value
 ds:List Pc
 ix:Int
 cu:Int
def Snp.cells (s:Snp):Array Value:=#[.int .i64 s.x.num,.int .u64 s.x.at',.int .i64 s.x.h,.int .i64 s.x.b,.int .i64 s.x.r,.int .i64 s.x.l,s.mv,s.dv,.int .i64 s.ix,.int .i64 s.cu]
structure SnpM (B:Nat) (w:World) (s:Snp):Prop where
 b:Blk w s.g 144 s.cells
 m:w.ownsRow B 160 3 s.mv s.ms.length (mkCells s.ms)
 d:w.ownsRow B 217 3 s.dv s.ds.length (pcCells s.ds)
def Snp.foot (s:Snp) (k:Nat):Prop:=k=s.g\/s.mv.ownBlock=some k\/s.dv.ownBlock=some k
theorem SnpM.ch {B:Nat} {w w':World} {s:Snp} {fp:Nat->Prop} (h:SnpM B w s) (c:Ch fp w w') (hn:∀k,s.foot k->¬fp k):SnpM B w' s:=
 ⟨c.blk h.b (hn _ (.inl rfl)),c.own h.m (fun k hk=>hn k (.inr (.inl hk))),c.own h.d (fun k hk=>hn k (.inr (.inr hk)))⟩
theorem SnpM.lt {B:Nat} {w:World} {s:Snp} (h:SnpM B w s) {k:Nat} (hk:s.foot k):k < w.heap.size:=by
 rcases hk with rfl | hk | hk
 ·exact h.b.lt
 ·exact (h.m.lt k hk).2
 ·exact (h.d.lt k hk).2
theorem SnpM.off {B:Nat} {w:World} {s:Snp} (h:SnpM B w s) {g:Nat} {t:TypeId} {cs:Array Value} (hb:Blk w g t cs) (h1:t≠144:=by decide) (h2:t≠160:=by decide) (h3:t≠217:=by decide):∀k,s.foot k->¬k=g:=by
 rintro k (rfl | hk | hk) rfl
 ·exact hb.ne h.b h1 rfl
 ·exact hb.own h.m h2 hk
 ·exact hb.own h.d h3 hk
def sptr (o:Option Snp):Option Nat:=o.map Snp.g
structure SlotsM (B lb:Nat) (sl:List (Option Snp)) (w:World):Prop where
 b:Blk w lb 140 (pinsA (sl.map sptr))
 s:∀(k:Nat) (s:Snp),sl[k]?=some (some s)->SnpM B w s
 ne:∀(j k:Nat) (s t:Snp),sl[j]?=some (some s)->sl[k]?=some (some t)->j≠k->s.g≠t.g
def slotsR (B lb:Nat) (sl:List (Option Snp)):Res where
 holds w:=SlotsM B lb sl w
 foot k:=k=lb\/∃j s,sl[j]?=some (some s)/\s.foot k
 stable h c hn:=⟨c.blk h.b (hn _ (.inl rfl)),fun k s hk=>(h.s k s hk).ch c (fun i hi=>hn i (.inr ⟨k,s,hk,hi⟩)),h.ne⟩
 lt h k hk:=by
  rcases hk with rfl | ⟨j,s,hj,hk⟩
  ·exact h.b.lt
  ·exact (h.s j s hj).lt hk
theorem sset {α:Type} {l:List (Option α)} {k j:Nat} {o:Option α} {s:α} (h:(l.set k o)[j]?=some (some s)):(j=k/\o=some s)\/(j≠k/\l[j]?=some (some s)):=by
 rw [List.getElem?_set] at h
 by_cases hj:k=j
 ·subst hj
  rw [if_pos rfl] at h
  split at h
  ·injection h with h
   exact .inl ⟨rfl,h⟩
  ·cases h
 ·rw [if_neg hj] at h
  exact .inr ⟨Ne.symm hj,h⟩
section
variable {B lb:Nat} {sl:List (Option Snp)} {w w':World}
theorem slots_add {k:Nat} {s:Snp} (h:SlotsM B lb sl w) (hs:SnpM B w s) (hk:sl[k]?=some none) (hn:∀(j:Nat) (t:Snp),sl[j]?=some (some t)->t.g≠s.g) :
  SlotsM B lb (sl.set k (some s)) (w.setCell ⟨lb,k,none⟩ (.pointer (some ⟨s.g,0,none⟩))):=by
 have c:Ch (fun b=>b=lb) w (w.setCell ⟨lb,k,none⟩ (.pointer (some ⟨s.g,0,none⟩))):=(Ch.refl (fun b=>b=lb) w).set (fun _=>rfl) _
 refine ⟨?_,fun j t hj=>?_,fun j i t u hj hi hne=>?_⟩
 ·have t:=h.b.put k (.pointer (some ⟨s.g,0,none⟩))
  rw [List.map_set,show sptr (some s)=some s.g from rfl]
  rw [<-pinsA_set]
  exact t
 ·rcases sset hj with ⟨rfl,e⟩ | ⟨_,hj⟩
  ·injection e with e
   subst e
   exact hs.ch c (hs.off h.b)
  ·exact (h.s j t hj).ch c ((h.s j t hj).off h.b)
 ·rcases sset hj with ⟨e0,e⟩ | ⟨hjk,hj'⟩ <;> rcases sset hi with ⟨e1,e2⟩ | ⟨hik,hi'⟩
  ·exact absurd (e0.trans e1.symm) hne
  ·injection e with e
   subst e
   exact (hn i u hi').symm
  ·injection e2 with e2
   subst e2
   exact hn j t hj'
  ·exact h.ne j i t u hj' hi' hne
theorem slots_del {k:Nat} (h:SlotsM B lb sl w):SlotsM B lb (sl.set k none) (w.setCell ⟨lb,k,none⟩ (.pointer none)):=by
 have c:Ch (fun b=>b=lb) w (w.setCell ⟨lb,k,none⟩ (.pointer none)):=(Ch.refl (fun b=>b=lb) w).set (fun _=>rfl) _
 refine ⟨?_,fun j t hj=>?_,fun j i t u hj hi hne=>?_⟩
 ·have t:=h.b.put k (.pointer none)
  rw [List.map_set,show sptr none=none from rfl]
  rw [<-pinsA_set]
  exact t
 ·rcases sset hj with ⟨rfl,e⟩ | ⟨_,hj⟩
  ·cases e
  ·exact (h.s j t hj).ch c ((h.s j t hj).off h.b)
 ·rcases sset hj with ⟨e0,e⟩ | ⟨hjk,hj'⟩ <;> rcases sset hi with ⟨e1,e2⟩ | ⟨hik,hi'⟩
  ·exact absurd (e0.trans e1.symm) hne
  ·cases e
  ·cases e2
  ·exact h.ne j i t u hj' hi' hne
theorem slots_cur {k:Nat} {s:Snp} (c:Int) (h:SlotsM B lb sl w) (hk:sl[k]?=some (some s)):SlotsM B lb (sl.set k (some { s with cu:=c })) (w.setCell ⟨s.g,9,none⟩ (.int .i64 c)):=by
 have hM:=h.s k s hk
 have cc:Ch (fun b=>b=s.g) w (w.setCell ⟨s.g,9,none⟩ (.int .i64 c)):=(Ch.refl (fun b=>b=s.g) w).set (fun _=>rfl) _
 refine ⟨?_,fun j t hj=>?_,fun j i t u hj hi hne=>?_⟩
 ·have e:(sl.set k (some { s with cu:=c })).map sptr=sl.map sptr:=by
   rw [List.map_set]
   apply List.ext_getElem?
   intro i
   rw [List.getElem?_set]
   split
   ·rename_i e
    subst e
    rw [List.length_map]
    have hl:=(List.getElem?_eq_some_iff.1 hk).1
    rw [if_pos hl,List.getElem?_map,hk]
    rfl
   ·rfl
  rw [e]
  exact cc.blk h.b (fun e=>hM.b.ne h.b (by decide) e.symm)
 ·rcases sset hj with ⟨rfl,e⟩ | ⟨hjk,hj⟩
  ·injection e with e
   subst e
   exact ⟨hM.b.put 9 _,cc.own hM.m (fun i hi e=>hM.b.own hM.m (by decide) (e ▸ hi)),cc.own hM.d (fun i hi e=>hM.b.own hM.d (by decide) (e ▸ hi))⟩
  ·have hT:=h.s j t hj
   refine hT.ch cc fun i hi e=>?_
   rcases hi with rfl | hi | hi
   ·exact h.ne j k t s hj hk hjk e
   ·exact hM.b.own hT.m (by decide) (e ▸ hi)
   ·exact hM.b.own hT.d (by decide) (e ▸ hi)
 ·have hg:∀{j:Nat} {t:Snp},(sl.set k (some { s with cu:=c }))[j]?=some (some t)->∃t':Snp,sl[j]?=some (some t')/\t'.g=t.g:=fun {j t} hj=>by
   rcases sset hj with ⟨rfl,e⟩ | ⟨_,hj⟩
   ·injection e with e
    subst e
    exact ⟨s,hk,rfl⟩
   ·exact ⟨t,hj,rfl⟩
  obtain ⟨t',ht,e1⟩:=hg hj
  obtain ⟨u',hu,e2⟩:=hg hi
  rw [<-e1,<-e2]
  exact h.ne j i t' u' ht hu hne
end
structure PinsM (eb pb:Nat) (ps:List (Option (Nat × Pn))) (w:World):Prop where
 b:Blk w pb 109 (pinsA (ps.map (Option.map Prod.fst)))
 s:∀(k:Nat) (x:Nat × Pn),ps[k]?=some (some x)->Blk w x.1 256 (pnCells eb x.1 x.2)
 ne:∀(j k:Nat) (x y:Nat × Pn),ps[j]?=some (some x)->ps[k]?=some (some y)->j≠k->x.1≠y.1
def pinsR (eb pb:Nat) (ps:List (Option (Nat × Pn))):Res where
 holds w:=PinsM eb pb ps w
 foot k:=k=pb\/∃j x,ps[j]?=some (some x)/\k=x.1
 stable h c hn:=⟨c.blk h.b (hn _ (.inl rfl)),fun k x hk=>c.blk (h.s k x hk) (hn _ (.inr ⟨k,x,hk,rfl⟩)),h.ne⟩
 lt h k hk:=by
  rcases hk with rfl | ⟨j,x,hj,rfl⟩
  ·exact h.b.lt
  ·exact (h.s j x hj).lt
section
variable {eb pb:Nat} {ps:List (Option (Nat × Pn))} {w w':World}
theorem pins_set {fp:Nat->Prop} (h:PinsM eb pb ps w) {k:Nat} {o:Option (Nat × Pn)} (c:Ch fp w w') (hb:Blk w' pb 109 (pinsA ((ps.map (Option.map Prod.fst)).set k (o.map Prod.fst)))) (ho:∀x,o=some x->Blk w' x.1 256 (pnCells eb x.1 x.2)/\∀(j:Nat) (y:Nat × Pn),j≠k->ps[j]?=some (some y)->y.1≠x.1)
  (hn:∀(j:Nat) (y:Nat × Pn),j≠k->ps[j]?=some (some y)->¬fp y.1):PinsM eb pb (ps.set k o) w':=by
 refine ⟨by rw [List.map_set];exact hb,fun j x hj=>?_,fun j i x y hj hi hne=>?_⟩
 ·rcases sset hj with ⟨rfl,e⟩ | ⟨hjk,hj⟩
  ·exact (ho x e).1
  ·exact c.blk (h.s j x hj) (hn j x hjk hj)
 ·rcases sset hj with ⟨e0,e⟩ | ⟨hjk,hj'⟩ <;> rcases sset hi with ⟨e1,e2⟩ | ⟨hik,hi'⟩
  ·exact absurd (e0.trans e1.symm) hne
  ·exact fun e3=>(ho x e).2 i y hik hi' e3.symm
  ·exact (ho y e2).2 j x hjk hj'
  ·exact h.ne j i x y hj' hi' hne
end
structure RvS where
 x:Rv
 mv:Value
 ms:List Mk
 dv:Value
 ds:List Pc
def RvS.cells (r:RvS):List Value:=rvCells r.x r.mv r.dv
structure RevsM (B:Nat) (rv:Value) (rs:List RvS) (w:World):Prop where
 b:w.ownsRow B 104 8 rv rs.length (rs.flatMap RvS.cells)
 s:∀r ∈ rs,w.ownsRow B 160 3 r.mv r.ms.length (mkCells r.ms)/\w.ownsRow B 217 3 r.dv r.ds.length (pcCells r.ds)
def revsR (B:Nat) (rv:Value) (rs:List RvS):Res where
 holds w:=RevsM B rv rs w
 foot k:=rv.ownBlock=some k\/∃r ∈ rs,r.mv.ownBlock=some k\/r.dv.ownBlock=some k
 stable h c hn:=⟨c.own h.b (fun k hk=>hn k (.inl hk)),fun r hr=>⟨c.own (h.s r hr).1 (fun k hk=>hn k (.inr ⟨r,hr,.inl hk⟩)),c.own (h.s r hr).2 (fun k hk=>hn k (.inr ⟨r,hr,.inr hk⟩))⟩⟩
 lt h k hk:=by
  rcases hk with hk | ⟨r,hr,hk | hk⟩
  ·exact (h.b.lt k hk).2
  ·exact ((h.s r hr).1.lt k hk).2
  ·exact ((h.s r hr).2.lt k hk).2
structure RS where
 g:Nat
 r:Rd
 lb:Nat
 sl:List (Option Snp)
 cs:Array Value
 p:Nat
 cb:Nat
 lv:Value
 s:BS
 eb:Nat
 f:Ed
 sc:Value
 pb:Nat
 ps:List (Option (Nat × Pn))
 rv:Value
 rs:List RvS
 A:ArA
 ns:List An
 st:Int
 tx:List UInt8
def RS.pv (σ:RS):Value:=.slice (some ⟨σ.pb,0,none⟩) σ.f.n σ.f.n
def txCells (l:List UInt8):List Value:=l.map fun b=>.int .u8 (b.toNat:Int)
def RS.L (B:Nat) (σ:RS):List Res:=[blkR σ.g 111 σ.r.cells,slotsR B σ.lb σ.sl,blkR σ.r.sb 125 σ.cs,bankR B σ.p σ.cb σ.lv σ.s.vs σ.s.lg,blkR σ.eb 200 (edCells σ.p σ.f σ.pv σ.sc),pinsR σ.eb σ.pb σ.ps,revsR B σ.rv σ.rs,arR σ.A σ.ns σ.st,rowR B 5 1 σ.tx.length σ.r.tx (txCells σ.tx)]
structure RS.Ok (σ:RS) (y:Ly) (n m:Nat):Prop where
 sl:σ.r.sl=.slice (some ⟨σ.lb,0,none⟩) n n
 nl:σ.sl.length=n
 n8:n<=8
 cl:0<=σ.r.cl/\σ.r.cl < 16
 hm:σ.r.cl * (n:Int)=(m:Int)
 mn:m+n<=σ.f.n
 pl:σ.ps.length=σ.f.n
 stf:StF σ.cs σ.p σ.A.ab σ.eb y
 h23:σ.cs[23]?=some σ.rv
 ed:EdOk σ.s σ.f
 y0:y.l0=0
 y1:y.l1=1
 vs:3<=σ.s.vs.length/\σ.s.vs.length<=4096
 lg:σ.s.lg.length < 900000
 f0:σ.f.ep≠0/\σ.f.ep≠1
 fs:∀i,i < σ.f.n->2 < σ.f.slot i
section
variable {B:Nat} {w0 w:World} {R:List Res} {σ:RS} (M:Mem B w0 (σ.L B++R) w)
include M
theorem m_rd:Blk w σ.g 111 σ.r.cells:=M.each 0 _ rfl
theorem m_sl:SlotsM B σ.lb σ.sl w:=M.each 1 _ rfl
theorem m_st:Blk w σ.r.sb 125 σ.cs:=M.each 2 _ rfl
theorem m_bk:Bank B w σ.p σ.cb σ.lv σ.s.vs σ.s.lg:=M.each 3 _ rfl
theorem m_ed:Blk w σ.eb 200 (edCells σ.p σ.f σ.pv σ.sc):=M.each 4 _ rfl
theorem m_pn:PinsM σ.eb σ.pb σ.ps w:=M.each 5 _ rfl
theorem m_rv:RevsM B σ.rv σ.rs w:=M.each 6 _ rfl
theorem m_ar:ArM σ.A w σ.ns σ.st:=M.each 7 _ rfl
theorem m_tx:w.ownsRow B 5 1 σ.r.tx σ.tx.length (txCells σ.tx):=M.each 8 _ rfl
theorem m_ep (ed:EdOk σ.s σ.f):EpochM B w σ.p σ.cb σ.eb σ.lv σ.s σ.f σ.pv σ.sc:=⟨m_bk M,m_ed M,ed,M.low 4 _ rfl _ rfl⟩
theorem m_set {w':World} {r':Rd} {v:Value} {e:Ending} (h:RdSet σ.g r' w v e w') (hs:r'.sb=σ.r.sb) (ht:r'.tx=σ.r.tx):Mem B w0 (RS.L B { σ with r:=r' }++R) w':=by
 have t:=M.upd (i:=0) (blkR σ.g 111 r'.cells) rfl h.2.2 (fun _ _ e=>e) h.2.1 (fun _ e=>.inl e)
 have e:RS.L B { σ with r:=r' }++R=(σ.L B++R).set 0 (blkR σ.g 111 r'.cells):=by
  simp only [RS.L,hs,ht];rfl
 rw [e]
 exact t
end
section
variable {B:Nat} {w0 w:World} {R:List Res} {σ:RS} {y:Ly} {n m:Nat}
theorem m_bank (M:Mem B w0 (σ.L B++R) w) {w':World} {s':BS} (h:BStep B w w' σ.p σ.cb σ.lv s'):∃lv',Mem B w0 (RS.L B { σ with s:=s',lv:=lv' }++R) w':=by
 obtain ⟨lv',hb,hc,hf⟩:=h
 refine ⟨lv',?_⟩
 have t:=M.upd (i:=3) (bankR B σ.p σ.cb lv' s'.vs s'.lg) rfl hc (fun _ _ e=>e) hb (fun k e=>by
  rcases e with e | e | e
  ·exact .inl (.inl e)
  ·exact .inl (.inr (.inl e))
  ·rcases hf with hf | hf
   ·rw [hf] at e;exact .inl (.inr (.inr e))
   ·exact .inr (hf k e))
 exact t
theorem m_put (M:Mem B w0 (σ.L B++R) w) (o:Nat) (u:Value) (r':Rd) (e:σ.r.cells.setIfInBounds o u=r'.cells) (hs:r'.sb=σ.r.sb) (ht:r'.tx=σ.r.tx):Mem B w0 (RS.L B { σ with r:=r' }++R) (w.setCell ⟨σ.g,o,none⟩ u):=
 m_set M (v:=.tuple #[]) (e:=.returned (.tuple #[])) ⟨rfl,Blk.as ((m_rd M).put o u) e,(Ch.refl (fun b=>b=σ.g) w).set (fun _=>rfl) u⟩ hs ht
theorem m_fin (M:Mem B w0 (σ.L B++R) w) {w':World} {r0:Rd} {x:RsV} {v:Value} {e:Ending} (h:RdSet σ.g (r0.fin x) w v e w') (hs:r0.sb=σ.r.sb):Mem B w0 (RS.L B { σ with r:=r0.fin x,tx:=[] }++R) w':=by
 have t:=M.upd (i:=0) (blkR σ.g 111 (r0.fin x).cells) rfl h.2.2 (fun _ _ e=>e) h.2.1 (fun _ e=>.inl e)
 have u:=t.upd (i:=8) (rowR B 5 1 0 (.slice none 0 0) []) rfl (Ch.refl (fun _=>False) w') (fun _ _ e=>e.elim) (World.ownsRow_nil _ _ _ _) (fun k e=>by cases e)
 have e:RS.L B { σ with r:=r0.fin x,tx:=[] }++R=((σ.L B++R).set 0 (blkR σ.g 111 (r0.fin x).cells)).set 8 (rowR B 5 1 0 (.slice none 0 0) []):=by
  simp only [RS.L,Rd.fin,hs];rfl
 rw [e]
 exact u
theorem m_pin (M:Mem B w0 (σ.L B++R) w) {w':World} {k g:Nat} {q:Pn} (hk:σ.ps[k]?=some none) (h1:Blk w' g 256 (pnCells σ.eb g q)) (h2:Blk w' σ.pb 109 (pinsA ((σ.ps.map (Option.map Prod.fst)).set k (some g)))) (hc:Ch (fun b=>b=σ.pb) w w') (hg:w.heap.size<=g) :
  Mem B w0 (RS.L B { σ with ps:=σ.ps.set k (some (g,q)) }++R) w':=by
 have hP:=m_pn M
 have hne:∀(j:Nat) (y:Nat × Pn),σ.ps[j]?=some (some y)->y.1≠g/\y.1≠σ.pb:=fun j y hj=>⟨by have:=(hP.s j y hj).lt;omega,(hP.s j y hj).ne hP.b (by decide)⟩
 have t:=pins_set (o:=some (g,q)) hP hc (k:=k) h2 (fun x hx=>by
  injection hx with hx
  subst hx
  exact ⟨h1,fun j y _ hj=>(hne j y hj).1⟩) (fun j y _ hj=>(hne j y hj).2)
 have u:=M.upd (i:=5) (pinsR σ.eb σ.pb (σ.ps.set k (some (g,q)))) rfl hc (fun _ _ e=>.inl e) t (fun i e=>by
  rcases e with e | ⟨j,x,hj,e⟩
  ·exact .inl (.inl e)
  ·rcases sset hj with ⟨_,e2⟩ | ⟨_,hj⟩
   ·injection e2 with e2
    subst e2
    exact .inr (by rw [e];exact hg)
   ·exact .inl (.inr ⟨j,x,hj,e⟩))
 exact u
end
theorem free1_spec:∀(l:List (Option Nat)) (j:Nat),free1 l j = -1\/∃i,free1 l j=((j+i:Nat):Int)/\l[i]?=some none
 | [],_=>.inl rfl
 | none::l,j=>.inr ⟨0,rfl,rfl⟩
 | some g::l,j=>by
  rcases free1_spec l (j+1) with h | ⟨i,h,hi⟩
  ·exact .inl h
  ·exact .inr ⟨i+1,by rw [show j+(i+1)=j+1+i by omega];exact h,by simpa using hi⟩
theorem sptr_none {l:List (Option Snp)} {k:Nat} (h:(l.map sptr)[k]?=some none):l[k]?=some none:=by
 rw [List.getElem?_map] at h
 cases hl:l[k]? with
 | none=>rw [hl] at h;cases h
 | some o=>
  rw [hl] at h
  cases o with
  | none=>rfl
  | some s=>simp [sptr] at h
def loadF (g:Nat):Value:=.func (.func 101) #[.pointer (some ⟨g,0,none⟩)] #[]
def rootF (g:Nat):Value:=.func (.func 128) #[.pointer (some ⟨g,0,none⟩)] #[]
def ClOut (B:Nat) (w0:World) (R:List Res) (σ:RS) (m:Nat) (e:Ending) (w':World):Prop:=e=.returned (.int .u64 0)/\∃lv',
 (lk σ.s.vs 0≠0/\Mem B w0 (RS.L B { σ with s:=σ.s.load σ.r.cl 0,lv:=lv',r:=Rd.fin { σ.r with slot:=free1 (σ.sl.map sptr) 0 } { RsV.zero with er:=13 },tx:=[] }++R) w')\/
 (lk σ.s.vs 0=0/\free1 (σ.sl.map sptr) 0 < 0/\Mem B w0 (RS.L B { σ with s:=σ.s.load σ.r.cl 0,lv:=lv',r:=Rd.fin { σ.r with slot:=free1 (σ.sl.map sptr) 0 } { RsV.zero with er:=15 },tx:=[] }++R) w')\/
 (lk σ.s.vs 0=0/\∃k pg:Nat,free1 (σ.sl.map sptr) 0=k/\Mem B w0 (RS.L B { σ with s:=σ.s.load σ.r.cl 0,lv:=lv',ps:=σ.ps.set (m+k) (some (pg,⟨σ.r.cl,m+k,0,9⟩)),r:={ σ.r with slot:=(k:Int),pin:=.pointer (some ⟨pg,0,none⟩),ph:=9,dv:=loadF σ.g } }++R) w')
theorem closed_m {B:Nat} {w0 w:World} {R:List Res} {σ:RS} {y:Ly} {n m:Nat} (M:Mem B w0 (σ.L B++R) w) (O:σ.Ok y n m) (hfree:∀k,k < n->(σ.sl[k]?=some none↔σ.ps[m+k]?=some none)) :
  Calls Tryz.prog 64 #[.pointer (some ⟨σ.g,0,none⟩)] w (ClOut B w0 R σ m):=by
 have HM:=hid M
 have HO:=hid O
 have HF:=hid hfree
 have HS:=m_st M
 have hst:=hid HS
 have hg:=m_rd M
 obtain ⟨a0,a1⟩:=hg.c2
 have lg:=hg.lt
 clear M O hfree HS hg
 go_enter Tryz.func64,Tryz.ntmps64
 go_wp2_with fail
 obtain ⟨S,hS⟩:∃S:Nat->Prop,∀k,S k↔k=σ.g:=⟨_,fun _=>Iff.rfl⟩
 have hSp:Mix.Has S σ.g:=(hS _).2 rfl
 have HSS:=hid hS
 clear hS
 refine Mix.rg S [0,0,0,0,0,1,1,1,4,0,0,0,0,3,0,2,0,0,0,0,0] [0,1,2,3,4,5,6,7,8,9,10,11,12,13,14,15,16,17,18,19,20] ?_
 repeat ((first | refine Mix.zq ?_ | refine Mix.zp ?_ | refine Mix.zs ?_);go_big_quiet_step (fail);refine wpQuiet_nil ?_)
 (refine Mix.zq ?_;go_big_quiet_step ((go_at_call 26;exact sbank_q w hst.out HO.out.stf _));refine wpQuiet_nil ?_)
 repeat ((first | refine Mix.zq ?_ | refine Mix.zp ?_ | refine Mix.zs ?_);go_big_quiet_step (fail);refine wpQuiet_nil ?_)
 refine Mix.za fun W2 hW2=>?_
 obtain ⟨k2,rfl⟩:=hW2
 go_wp2_with fail
 refine (slayout_any (w.drewN k2) (hst.out.drewN k2) HO.out.stf).mono ?_
 rintro e w3 ⟨rfl,hc⟩
 have c3:Ch (fun _=>False) w w3:=hc.ofDrewN
 have M3:=hid (HM.out.keep c3)
 have hkeep:Mix.Keep S w w3:=fun k hk=>by rw [(HSS.out k).1 hk];exact c3.block _ lg id
 clear hc c3
 simp only [Ly.arr]
 go_wp2_with fail
 refine ⟨hkeep,?_⟩
 clear hkeep
 have hfd:∀W:World,(Instr.field 83 (.agg #[.int .i64 y.l0,.int .i64 y.l1,.int .i64 y.l2,.int .i64 y.l3,.int .i64 y.l4,.int .i64 y.l5,.int .i64 y.l6,.int .i64 y.l7,.int .i64 y.l8,.int .i64 y.l9]) 0).run Tryz.prog W=.ok (.int .i64 y.l0) W:=fun W=>by kernel_rfl
 repeat ((first | refine Mix.zq ?_ | refine Mix.zp ?_ | refine Mix.zs ?_);go_big_quiet_step (fail);refine wpQuiet_nil ?_)
 refine Mix.ze fun W4 hW4=>?_
 obtain ⟨k4,rfl⟩:=hW4
 go_wp2_with fail
 rw [HO.out.y0]
 refine (load_ok B σ.p σ.cb σ.lv σ.s σ.r.cl 0 (w3.drewN k4) (m_bk (M3.out.drewN k4)) ⟨HO.out.cl.1,HO.out.cl.2,by decide,by have:=HO.out.vs;omega⟩ (by have:=HO.out.lg;omega) (M3.out.drewN k4).bz).mono ?_
 rintro e w5 ⟨rfl,hbs⟩
 obtain ⟨lv',hM5⟩:=m_bank (M3.out.drewN k4) hbs
 have M5:=hid hM5
 obtain ⟨v,hv⟩:∃v,v=lk σ.s.vs (0:Int).toNat:=⟨_,rfl⟩
 rw [<-hv]
 have HV:=hid (show lk σ.s.vs 0=v from hv.symm)
 clear hbs hM5 hv a0 a1
 go_wp2_with fail
 repeat ((first | refine Mix.zq ?_ | refine Mix.zp ?_ | refine Mix.zs ?_);go_big_quiet_step (fail);refine wpQuiet_nil ?_)
 intro k5
 refine at_world fun W6 hW6=>?_
 have M6:=hid (show Mem B w0 (RS.L B { σ with s:=σ.s.load σ.r.cl 0,lv:=lv' }++R) W6 from by rw [hW6];exact M5.out.drewN k5)
 clear hW6
 have a2:W6.cell? ⟨σ.g,2,none⟩=some (.slice (some ⟨σ.lb,0,none⟩) n n):=((m_rd M6.out).cell 2).trans (by rw [<-HO.out.sl];rfl)
 have c27:W6.cell? ⟨σ.g,27,none⟩=some (.int .i64 σ.r.slot):=(m_rd M6.out).cell 27
 have f27:=(m_rd M6.out).free 27
 go_wp2_with fail
 refine (index_any σ.lb n (σ.sl.map sptr) W6 (m_sl M6.out).b (by rw [List.length_map];exact HO.out.nl) (by have:=HO.out.n8;omega)).mono ?_
 rintro e w' ⟨rfl,rfl⟩
 obtain ⟨fr,hfr⟩:∃x,x=free1 (σ.sl.map sptr) 0:=⟨_,rfl⟩
 rw [<-hfr]
 have HFR:=hid hfr
 clear hfr
 by_cases hv0:v=0
 ·subst hv0
  by_cases hs0:fr < 0
  ·have d1:decide (fr < 0)=true:=decide_eq_true hs0
   go_wp2_with fail
   refine calls_world fun W7 hW7=>?_
   have M7:=hid (show Mem B w0 (RS.L B { σ with s:=σ.s.load σ.r.cl 0,lv:=lv',r:={ σ.r with slot:=fr } }++R) W7 from by rw [hW7];exact m_put M6.out 27 (.int .i64 fr) { σ.r with slot:=fr } rfl rfl rfl)
   clear hW7 a2 c27 f27
   refine (rend_any σ.g { σ.r with slot:=fr } { RsV.zero with er:=15 } W7 (m_rd M7.out)).mono ?_
   intro e w8 hset
   have M8:=hid (m_fin M7.out hset rfl)
   obtain ⟨rfl,_,_⟩:=hset
   go_wp2_with fail
   go_ret
   exact ⟨rfl,lv',.inr (.inl ⟨HV.out,by rw [<-HFR.out];exact hs0,by rw [<-HFR.out];exact M8.out⟩)⟩
  {
 obtain ⟨k,hk1,hk2⟩:∃k:Nat,fr=k/\σ.sl[k]?=some none:=by
  rcases free1_spec (σ.sl.map sptr) 0 with h | ⟨i,h,hi⟩
  ·have:=HFR.out;omega
  ·exact ⟨i,by rw [HFR.out,h,Nat.zero_add],sptr_none hi⟩
 subst hk1
 have hkn:k < n:=by rw [<-HO.out.nl];exact (List.getElem?_eq_some_iff.1 hk2).1
 have hps:=hid ((HF.out k hkn).1 hk2)
 have HK2:=hid hk2
 have hn8:=HO.out.n8
 have hmn:=HO.out.mn
 have hf64:=HO.out.ed.n
 have d1:decide ((k:Int) < 0)=false:=decide_eq_false hs0
 clear hs0 hk2
 go_wp2_with fail
 refine at_world fun W7 hW7=>?_
 have M7:=hid (show Mem B w0 (RS.L B { σ with s:=σ.s.load σ.r.cl 0,lv:=lv',r:={ σ.r with slot:=(k:Int) } }++R) W7 from by rw [hW7];exact m_put M6.out 27 (.int .i64 (k:Int)) { σ.r with slot:=(k:Int) } rfl rfl rfl)
 clear hW7 a2 c27 f27
 have a0:W7.cell? ⟨σ.g,0,none⟩=some (.pointer (some ⟨σ.r.sb,0,none⟩)):=(m_rd M7.out).cell 0
 have a1:W7.cell? ⟨σ.g,1,none⟩=some (.int .i64 σ.r.cl):=(m_rd M7.out).cell 1
 have a27:W7.cell? ⟨σ.g,27,none⟩=some (.int .i64 (k:Int)):=(m_rd M7.out).cell 27
 refine Mix.rt [1,0,0,0,0,0,0,0,0,0,0,0,0,0,0,0,2,0,0,1,0,0,2] [0,1,2,3,4,5,6,7,8,9,10,11,12,13,14,15,16,17,18,19,20,21,22] ?_
 repeat ((first | refine Mix.zq ?_ | refine Mix.zp ?_ | refine Mix.zs ?_);go_big_quiet_step (fail);refine wpQuiet_nil ?_)
 (refine Mix.zq ?_;go_big_quiet_step ((go_at_call 97;exact sepoch_q W7 (m_st M7.out) HO.out.stf _));refine wpQuiet_nil ?_)
 repeat ((first | refine Mix.zq ?_ | refine Mix.zp ?_ | refine Mix.zs ?_);go_big_quiet_step (fail);refine wpQuiet_nil ?_)
 (refine Mix.zq ?_;go_big_quiet_step ((go_at_call 99;exact held_q σ.g σ.lb n m { σ.r with slot:=(k:Int) } k W7 (m_rd M7.out) HO.out.sl HO.out.hm (by omega) (by omega) _));refine wpQuiet_nil ?_)
 repeat ((first | refine Mix.zq ?_ | refine Mix.zp ?_ | refine Mix.zs ?_);go_big_quiet_step (fail);refine wpQuiet_nil ?_)
 refine Mix.ze fun W8 hW8=>?_
 obtain ⟨k8,rfl⟩:=hW8
 go_wp2_with fail
 have hck:ckerr σ.f σ.r.cl ((m+k:Nat):Int)=0:=by
  unfold ckerr
  rw [if_neg (by have:=HO.out.cl;omega),if_neg (by omega)]
 have M8:=hid (M7.out.drewN k8)
 refine (pin_ok B σ.p σ.cb σ.eb σ.pb lv' (σ.s.load σ.r.cl 0) σ.f σ.sc (σ.ps.map (Option.map Prod.fst)) (W7.drewN k8) (m_ep M8.out (HO.out.ed.of rfl)) (m_pn M8.out).b (by rw [List.length_map];exact HO.out.pl) σ.r.cl (m+k) hck (by rw [List.getElem?_map,hps.out];rfl)).mono ?_
 rintro e w9 ⟨pg,rfl,h1,h2,hc,hg⟩
 have M9:=hid (m_pin M8.out (k:=m+k) hps.out h1 h2 hc hg)
 clear h1 h2 hc hg hck a0 a1 a27
 have c28:w9.cell? ⟨σ.g,28,none⟩=some σ.r.pin:=(m_rd M9.out).cell 28
 have f28:=(m_rd M9.out).free 28
 go_wp2_with fail
 repeat ((first | refine Mix.zq ?_ | refine Mix.zp ?_ | refine Mix.zs ?_);go_big_quiet_step (fail);refine wpQuiet_nil ?_)
 refine Mix.ze fun W10 hW10=>?_
 obtain ⟨k10,rfl⟩:=hW10
 go_wp2_with fail
 intro k11
 refine at_world fun W11 hW11=>?_
 have M11:=hid (show Mem B w0 (RS.L B { σ with s:=σ.s.load σ.r.cl 0,lv:=lv',ps:=σ.ps.set (m+k) (some (pg,⟨σ.r.cl,m+k,0,9⟩)),r:={ σ.r with slot:=(k:Int),pin:=.pointer (some ⟨pg,0,none⟩) } }++R) W11 from by rw [hW11];exact (m_put (M9.out.drewN k10) 28 (.pointer (some ⟨pg,0,none⟩)) { σ.r with slot:=(k:Int),pin:=.pointer (some ⟨pg,0,none⟩) } rfl rfl rfl).drewN k11)
 clear hW11 c28 f28
 have a28:W11.cell? ⟨σ.g,28,none⟩=some (.pointer (some ⟨pg,0,none⟩)):=(m_rd M11.out).cell 28
 have hpl:m+k < σ.ps.length:=by rw [HO.out.pl];omega
 have hq:=(m_pn M11.out).s (m+k) (pg,⟨σ.r.cl,m+k,0,9⟩) (by simp only;rw [List.getElem?_set_self hpl])
 have HQ:=hid hq
 clear hq
 go_wp2_with fail
 refine (pn_next σ.eb pg W11 ⟨σ.r.cl,m+k,0,9⟩ HQ.out).mono ?_
 rintro e w' ⟨rfl,rfl⟩
 go_wp2_with fail
 refine (rthen_any σ.g { σ.r with slot:=(k:Int),pin:=.pointer (some ⟨pg,0,none⟩) } 9 _ _ _ W11 (m_rd M11.out)).mono ?_
 intro e w12 hset
 have M12:=hid (m_set M11.out hset rfl rfl)
 obtain ⟨rfl,_,_⟩:=hset
 go_wp2_with fail
 go_ret
 exact ⟨rfl,lv',.inr (.inr ⟨HV.out,k,pg,HFR.out.symm,M12.out⟩)⟩
 }
 ·have d1:(v != 0)=true:=by rw [bne_iff_ne];exact hv0
  have d2:(v == 0)=false:=by rw [beq_eq_false_iff_ne];exact hv0
  go_wp2_with fail
  refine calls_world fun W7 hW7=>?_
  have M7:=hid (show Mem B w0 (RS.L B { σ with s:=σ.s.load σ.r.cl 0,lv:=lv',r:={ σ.r with slot:=fr } }++R) W7 from by rw [hW7];exact m_put M6.out 27 (.int .i64 fr) { σ.r with slot:=fr } rfl rfl rfl)
  clear hW7 a2 c27 f27
  refine (rend_any σ.g { σ.r with slot:=fr } { RsV.zero with er:=13 } W7 (m_rd M7.out)).mono ?_
  intro e w8 hset
  have M8:=hid (m_fin M7.out hset rfl)
  obtain ⟨rfl,_,_⟩:=hset
  go_wp2_with fail
  go_ret
  exact ⟨rfl,lv',.inl ⟨by rw [HV.out];exact hv0,by rw [<-HFR.out];exact M8.out⟩⟩
end Go.Proofs.YtjcdknhejcbpiaaGreat
