/- Lemmas; no condition. -/
import Derived.Test.YtjcdknhejcbpiaaGreatSb06
import Derived.Test.YtjcdknhejcbpiaaGreatSb11
set_option maxRecDepth 100000
set_option maxHeartbeats 4000000
namespace Go.Proofs.YtjcdknhejcbpiaaGreat
open Go.RowKit
set_option linter.unusedVariables false
set_option linter.unusedSimpArgs false
set_option linter.unusedSectionVars false
def lenV:Value->Nat
 | .slice _ n _=>n
 | _=>0
def zTree:List Value:=[.int .u64 0,.int .i64 0,.int .i64 0,.int .i64 0,.int .i64 0,.string ⟨#[]⟩,.slice none 0 0]
def BuildOut (s:ByteArray) (w:World) (e:Ending) (w':World):Prop:=∃cs,e=.returned (.tuple #[.agg cs.toArray,.int .i64 0])/\Ch (fun _=>False) w w'/\((s.size=0/\cs=zTree)\/∃t,buildT s=[t]/\TreeAt w' (fun k=>w.heap.size<=k) t cs)
theorem base_get {s:ByteArray} {k:Nat} {x:ByteArray} (h:(chunksS s)[k]?=some x):(baseT s)[k]?=some (.leaf x):=by simp [baseT,h]
theorem tcut (l:List T) (k:Nat) (x:List T) (h:(cutL (sizesN l.length 4) l)[k]?=some x):(rowUp l)[k]?=some (groupT x):=by simp [rowUp,h]
theorem sum_take_succ {l:List Nat} {k z:Nat} (h:l[k]?=some z):(l.take (k+1)).sum=(l.take k).sum+z:=by
 have hk:=List.getElem?_eq_some_iff.1 h
 rw [List.take_succ_eq_append_getElem hk.1,List.sum_append,hk.2]
 simp
theorem sum_take_le (l:List Nat) (k:Nat):(l.take k).sum<=l.sum:=by
 have:((l.take k).sum+(l.drop k).sum)=l.sum:=by rw [<-List.sum_append,List.take_append_drop]
 omega
theorem TreeAt.form1 {w:World} {S:Nat->Prop} {h:Nat} {ks:List T} {cs:List Value} (ht:TreeAt w S (.node (h+1) ks) cs):∃s a n c,cs=[.int .u64 0,.int .i64 ((h:Int)+1),.int .i64 0,.int .i64 0,.int .i64 0,.string s,.slice a n c]:=by
 obtain ⟨s,a,n,c,h⟩:=ht.form
 exact ⟨s,a,n,c,h⟩
theorem group_zero (a:Option Addr) (c:Nat) (w:World):Calls Tryz.prog 118 #[.slice a 0 c] w fun e w'=>e=.returned (.agg zTree.toArray)/\Ch (fun _=>False) w w':=by
 go_enter Tryz.func118,Tryz.ntmps118
 go_wp2_with fail
 refine bodyPost_ret (v:=.agg #[.int .u64 0,.int .i64 0,.int .i64 0,.int .i64 0,.int .i64 0,.string ⟨#[]⟩,.slice none 0 0]) (by simp [results,Tryz.results118,go_sem]) rfl ⟨rfl,(Ch.refl (fun _=>False) w).alloc _⟩
theorem build_any (s:ByteArray) (hs:s.size<=65536) (w:World):Calls Tryz.prog 80 #[.string s] w (BuildOut s w):=by
 obtain ⟨i0,hi,hz0,hz1,hz2⟩:=info_parts infoTree
 have x1:decide (65536 < s.size)=false:=decide_eq_false (by omega)
 have x2:decide ((65536:Int) < (s.size:Int))=false:=decide_eq_false (by omega)
 have hbl:(baseT s).length<=5000:=by
  rw [base_len]
  have:=(grp_le (n:=s.size) (m:=16) (by decide)).2
  omega
 have hcl:(chunksS s).length=(baseT s).length:=by simp [baseT]
 go_enter Tryz.func80,Tryz.ntmps80
 go_wp2_with fail
 refine calls_world fun W1 hW1=>?_
 have C1:=hid (show Ch (fun _=>False) w W1 from by rw [hW1];exact (Ch.refl _ w).alloc _)
 have B1:=hid (show Blk W1 w.heap.size 183 #[.int .u64 0,.int .i64 0,.int .i64 0,.int .i64 0,.int .i64 0,.string ⟨#[]⟩,.slice none 0 0] from by rw [hW1];exact Blk.new w _ _)
 clear hW1
 refine (chunks_any s hs W1).mono ?_
 rintro e w2 ⟨v2,rfl,ho2,hc2⟩
 rw [hcl] at ho2
 obtain ⟨A2,cap2,rfl,_⟩:=own_slice ho2
 have C2:=hid (C1.out.trans hc2 (fun _ _ h=>h))
 have B2:=hid (hc2.blk B1.out id)
 have O2:=hid ho2
 have hlt2:=B2.out.lt
 clear ho2 hc2
 obtain ⟨L,hL⟩:∃L,L=(baseT s).length:=⟨_,rfl⟩
 rw [<-hL] at hbl hcl O2
 rw [<-hL]
 have HL:=hid hL
 have HCL:=hid hcl
 clear hL hcl
 go_wp2_with fail
 go_loopw [4,19] (fun v i W=>∃k:Nat,k<=L/\i=.int .i64 (k:Int)/\RowT W w2.heap.size (fun k=>w.heap.size < k) v ((baseT s).take k)/\Ch (fun _=>False) w2 W) (fun _ i _=>L - (intOf i).toNat)
 case atStart=>exact ⟨0,Nat.zero_le _,rfl,RowT.nil _ _ _,Ch.refl _ _⟩
 case round=>
  obtain ⟨k,hk,rfl,hR,hch⟩:=hrel
  by_cases hlt:k < L
  {
 obtain ⟨g,cg,hv,_,_,hg1,hgl⟩:=own_form O2.out (by omega)
 injection hv with hA _ hcg
 subst hA hcg
 obtain ⟨x,hx⟩:∃x,(chunksS s)[k]?=some x:=⟨_,List.getElem?_eq_getElem (by rw [HCL.out];exact hlt)⟩
 have c0:wr.cell? ⟨g,k,none⟩=some (.string x):=by
  have t:=O2.out.cells (g:=g) rfl k _ (by rw [strsV,List.getElem?_map,hx];rfl)
  rw [addr_add0] at t
  exact (hch.cell (p:=⟨g,_,none⟩) hgl id).trans t
 have htk:(baseT s).take (k+1)=(baseT s).take k++[.leaf x]:=by
  have hb:=base_get hx
  have hkl:=List.getElem?_eq_some_iff.1 hb
  rw [List.take_succ_eq_append_getElem hkl.1,hkl.2]
 have HT:=hid htk
 clear htk hx
 obtain ⟨css,hcss,hks,hown⟩:=hR
 have hkl:((baseT s).take k).length=k:=by rw [List.length_take,<-HL.out];omega
 have HK:=hid hks
 have HC:=hid hcss
 have hown0:=hown
 rw [hkl] at hown0
 obtain ⟨A0,cap0,hv0,_⟩:=own_slice hown0
 subst hv0
 have HKL:=hid hkl
 clear hks hcss hown hkl
 obtain ⟨y1,y2⟩:=dc_ltT (a:=k) (b:=L) (by omega)
 go_wp2_with (at_builtin;refine wpList_app _ rfl (.tmp 23) (.tmp 26) 181 rfl w2.heap.size 183 i0 _ 7 80 Tryz.underlying181 hi hz0 hz1 hz2 rfl (by decide) _ _ _ rfl (hown0.alloc _) ⟨wr.heap.size,0,none⟩ 1 1 [.int .u64 0,.int .i64 0,.int .i64 0,.int .i64 0,.int .i64 0,.string x,.slice none 0 0] rfl rfl ?c1 ?c2 (by decide) ?c3 ?c4 ?c5 ?c6)
 case c2=>exact ⟨rfl,rfl,rfl,rfl⟩
 case c3=>unfold maxLen;omega
 case c4=>omega
 case c5=>exact Nat.le_trans hch.size (by simp)
 case c6=>
  intro v' w' hown' hgrow hfresh
  have hch':Ch (fun _=>False) w2 w':=(hch.alloc _).grown hgrow (fun g hg hl=>by
   have:=(hown0.lt g hg).1
   omega)
  have hR':RowT w' w2.heap.size (fun k=>w.heap.size < k) v' ((baseT s).take k++[.leaf x]):=RowT.snoc HC.out HK.out (.leaf x) ((Ch.refl (fun _=>False) wr).alloc _) (by rw [HKL.out];exact hown') hgrow hfresh
  go_wp2_with fail
  go_roundw
  case rel=>exact ⟨k+1,by omega,by go_num,by rw [HT.out];exact hR',hch'⟩
  case measure=>simp [intOf];omega
 }
  {
 obtain rfl:L=k:=by omega
 have y1:decide (L < L)=false:=decide_eq_false (by omega)
 rw [List.take_of_length_le (by rw [<-HL.out];exact Nat.le_refl _)] at hR
 obtain ⟨ra,rc,hrv,hrc⟩:=hR.slice
 subst hrv
 rw [<-HL.out] at hR hrc
 rw [<-HL.out]
 have HR:=hid hR
 have HCH:=hid hch
 clear hR hch
 go_wp2_with fail
 go_loopw [4] (fun v W=>∃(ts:List T) (h:Nat) (a:Option Addr) (c:Nat),v=.slice a ts.length c/\ts.length<=c/\InTs W (fun k=>w.heap.size < k) a ts.length ts/\topT ts=buildT s/\(1 < ts.length->fitRow h ts)/\ts.length+h<=5000/\Blk W w.heap.size 183 #[.int .u64 0,.int .i64 0,.int .i64 0,.int .i64 0,.int .i64 0,.string ⟨#[]⟩,.slice none 0 0]/\Ch (fun _=>False) w W) (fun v _=>lenV v)
 case atStart=>exact ⟨baseT s,0,ra,rc,by rw [<-HL.out],by rw [<-HL.out];exact hrc,by rw [<-HL.out];exact HR.out.reads _ (fun k hk h=>by rcases h with h | h <;> omega),rfl,base_fit,by rw [<-HL.out];exact hbl,HCH.out.blk B2.out id,C2.out.trans HCH.out (fun _ _ h=>h)⟩
 case round=>
  clear HR HCH B2 C2 O2
  obtain ⟨ts,h,a,c,rfl,hcap,hI,htop,hfit,hlen,hB,hC⟩:=hrel
  by_cases hl:1 < ts.length
  {
 obtain ⟨b,off,rfl⟩:=hI.some (by omega)
 have z1:decide (1 < ts.length)=true:=decide_eq_true hl
 have z2:decide ((1:Int) < (ts.length:Int))=true:=decide_eq_true (by omega)
 have HI:=hid hI
 have HTOP:=hid htop
 have HFIT:=hid (hfit hl)
 have HB:=hid hB
 have HC:=hid hC
 clear hI htop hfit hB hC
 go_wp2_with fail
 refine (even_any ts.length 4 (by decide) (by decide) (by omega) _).mono ?_
 rintro e w3 ⟨v3,rfl,ho3,hc3⟩
 obtain ⟨A3,cap3,rfl,_⟩:=own_slice ho3
 have C3:=hid (HC.out.trans hc3 (fun _ _ h=>h))
 have B3:=hid (hc3.blk HB.out id)
 have O3:=hid ho3
 have I3:=hid (show InTs w3 (fun k=>w.heap.size < k/\k < w3.heap.size) (some ⟨b,off,none⟩) ts.length ts from HI.out.keep hc3 (fun _ _ _=>id) (fun k hk h=>⟨h,Nat.lt_of_lt_of_le hk hc3.size⟩))
 have B3lt:=B3.out.lt
 have hsum:=sizes_sum ts.length 4 (by decide)
 have hup:=rowUp_len ts
 have hult:=rowUp_lt hl
 have hparts:=hid (rowUp_parts hl)
 clear ho3 hc3 HI HB HC
 obtain ⟨ns,hns⟩:∃ns,ns=sizesN ts.length 4:=⟨_,rfl⟩
 have hnl:ns.length=(rowUp ts).length:=by rw [hns,sizes_len,hup]
 rw [<-hns] at hsum O3
 rw [<-hns]
 have HNS:=hid hns
 have HNL:=hid hnl
 have HSUM:=hid hsum
 clear hns hup
 have hnl2:ns.length<=5000:=by omega
 clear hnl hsum
 go_wp2_with fail
 go_loopw [9,4,44] (fun nx v i W=>∃(k cc:Nat),k<=ns.length/\i=.int .i64 (k:Int)/\RowT W w3.heap.size (fun k=>w.heap.size < k) nx ((rowUp ts).take k)/\(k < ns.length->v=.slice (some ⟨b,off+(ns.take k).sum * 7,none⟩) (ts.length - (ns.take k).sum) cc/\ts.length - (ns.take k).sum<=cc)/\Ch (fun _=>False) w3 W) (fun _ _ i _=>ns.length - (intOf i).toNat)
 case atStart=>exact ⟨0,c,Nat.zero_le _,rfl,RowT.nil _ _ _,fun _=>⟨by simp,by simpa using hcap⟩,Ch.refl _ _⟩
 case round=>
  obtain ⟨k,cc,hk,rfl,hR,hv,hch⟩:=hrel
  by_cases hlt:k < ns.length
  {
 obtain ⟨rfl,hcc⟩:=hv hlt
 obtain ⟨g,cg,hv3,_,_,hg1,hgl⟩:=own_form O3.out (by omega)
 injection hv3 with hA _ hcg
 subst hA hcg
 obtain ⟨z,hz⟩:∃z,ns[k]?=some z:=⟨_,List.getElem?_eq_getElem hlt⟩
 have c0:wr.cell? ⟨g,k,none⟩=some (.int .i64 (z:Int)):=by
  have t:=O3.out.cells (g:=g) rfl k _ (by rw [intsV,List.getElem?_map,hz];rfl)
  rw [addr_add0] at t
  exact (hch.cell (p:=⟨g,_,none⟩) hgl id).trans t
 have hp1:=sum_take_succ hz
 have hp2:=sum_take_le ns (k+1)
 obtain ⟨p,hp⟩:∃p,p=(ns.take k).sum:=⟨_,rfl⟩
 rw [<-hp] at hp1 hcc
 rw [<-hp]
 have hpz:p+z<=ts.length:=by have:=HSUM.out;omega
 have hcut:=cutL_get ns ts k z hz
 rw [<-hp,HNS.out] at hcut
 have hpt:=hparts.out _ (List.mem_of_getElem? hcut)
 have htl:((ts.drop p).take z).length=z:=by rw [List.length_take,List.length_drop];omega
 have hgk:=tcut ts k _ hcut
 rw [group_node hpt.1] at hgk
 rw [htl] at hpt
 have hht:(((ts.drop p).take z).headD (.leaf ByteArray.empty)).ht=h:=by
  match hm:(ts.drop p).take z,htl with
  | [],e=>simp at e;omega
  | x::_,_=>exact T.fit_ht (HFIT.out x (hpt.2.2 x (by rw [hm];simp)))
 rw [hht] at hgk
 have htk:(rowUp ts).take (k+1)=(rowUp ts).take k++[.node (h+1) ((ts.drop p).take z)]:=by
  have hkl:=List.getElem?_eq_some_iff.1 hgk
  rw [List.take_succ_eq_append_getElem hkl.1,hkl.2]
 have HTK:=hid htk
 have HHT:=hid hht
 have hza:2<=z:=hpt.1
 have hnext:=hid (show k+1 < ns.length->p+z < ts.length from fun hk1=>by
  obtain ⟨z',hz'⟩:∃z',ns[k+1]?=some z':=⟨_,List.getElem?_eq_getElem hk1⟩
  have e1:=sum_take_succ hz'
  have e2:=sum_take_le ns (k+1+1)
  have e3:0 < z':=by
   rw [HNS.out] at hz'
   have hk2:=(List.getElem?_eq_some_iff.1 hz').1
   rw [sizes_len] at hk2
   rw [sizes_get _ _ _ hk2] at hz'
   injection hz' with hz'
   rw [<-hz']
   exact sz_pos (by omega) (by decide)
  have:=HSUM.out
  omega)
 have hzb:z<=4:=hpt.2.1
 have HR:=hid hR
 have HCH:=hid hch
 have HP:=hid hp
 have HP1:=hid hp1
 have y1:decide (k < ns.length)=true:=decide_eq_true hlt
 have y2:decide ((k:Int) < (ns.length:Int))=true:=decide_eq_true (by omega)
 have y3:z<=cc:=by omega
 clear hv hcut hpt hgk htk hht htl hR hch hp hp1 hz
 go_wp2_with fail
 refine (group_many (fun k=>w.heap.size < k/\k < w3.heap.size) b (off+p * 7) z cc ((ts.drop p).take z) wr ((I3.out.keep HCH.out (fun _ _ _=>id) (fun _ _ h=>h)).sub p z hpz) hza (by omega) (by rw [HHT.out];omega)).mono ?_
 rintro e w5 ⟨cs,rfl,ht,hc5⟩
 rw [HHT.out] at ht
 obtain ⟨s5,a5,n5,c5,rfl⟩:=ht.form1
 have HT5:=hid ht
 have C5:=hid (HCH.out.trans hc5 (fun _ _ h=>h))
 obtain ⟨css,hcss,hks,hown⟩:=HR.out.keep hc5 (fun _ _=>id)
 have hkl:((rowUp ts).take k).length=k:=by rw [List.length_take,<-HNL.out];omega
 have HK:=hid hks
 have HCSS:=hid hcss
 have hown0:=hown
 rw [hkl] at hown0
 obtain ⟨A0,cap0,hv0,_⟩:=own_slice hown0
 subst hv0
 have HKL:=hid hkl
 have z5:=hid (show wr.heap.size<=w5.heap.size from hc5.size)
 have z3:=hid (show w3.heap.size<=wr.heap.size from HCH.out.size)
 have OB:=hid (show ∀j,(Value.slice A0 k cap0).ownBlock=some j->w3.heap.size<=j/\j < wr.heap.size from fun j hj=>by
  obtain ⟨_,_,_,ho⟩:=HR.out
  exact ho.lt j hj)
 clear hks hcss hown hkl ht hc5
 go_wp2_with (at_builtin;refine wpList_app _ rfl (.tmp 48) (.tmp 53) 181 rfl w3.heap.size 183 i0 _ 7 80 Tryz.underlying181 hi hz0 hz1 hz2 rfl (by decide) _ _ _ rfl (hown0.alloc _) ⟨w5.heap.size,0,none⟩ 1 1 [.int .u64 0,.int .i64 ((h:Int)+1),.int .i64 0,.int .i64 0,.int .i64 0,.string s5,.slice a5 n5 c5] rfl rfl ?d1 ?d2 (by decide) ?d3 ?d4 ?d5 ?d6)
 case d1=>
  intro j u hu
  rw [addr_add0,(Blk.new w5 183 _).cell j]
  simpa using hu
 case d2=>
  intro u hu
  simp at hu
  rcases hu with rfl | rfl | rfl | rfl | rfl <;> rfl
 case d3=>unfold maxLen;omega
 case d4=>omega
 case d5=>have:=z5.out;have:=z3.out;simp;omega
 case d6=>
  intro v' w' hown' hgrow hfresh
  have hch':Ch (fun _=>False) w3 w':=(C5.out.alloc _).grown hgrow (fun g hg hl=>by
   have:=(OB.out g hg).1
   omega)
  have hR':RowT w' w3.heap.size (fun k=>w.heap.size < k) v' ((rowUp ts).take k++[.node (h+1) ((ts.drop p).take z)]):=RowT.snoc HCSS.out HK.out (HT5.out.keep (Ch.refl (fun _=>False) w5) (fun _ _ _=>id) (fun j hj h=>by
   have:=B3lt
   have:=z3.out
   refine ⟨by rcases h with h | h <;> omega,fun hv=>?_⟩
   have:=OB.out j hv
   rcases h with h | h <;> omega)) ((Ch.refl (fun _=>False) w5).alloc _) (by rw [HKL.out];exact hown') hgrow hfresh
  go_wp2_with fail
  refine ⟨⟨k+1,cc - z,by omega,by push_cast;rfl,by rw [HTK.out];exact hR',fun hk1=>?_,hch'⟩,by simp only [intOf];omega⟩
  have hn:=hnext.out hk1
  rw [if_neg (by omega),HP1.out]
  exact ⟨by rw [show off+p * 7+z * 7=off+(p+z) * 7 by omega,Nat.sub_sub],by omega⟩
 }
  ·obtain rfl:ns.length=k:=by omega
   have y1:decide (ns.length < ns.length)=false:=decide_eq_false (by omega)
   rw [List.take_of_length_le (by rw [HNL.out];exact Nat.le_refl _)] at hR
   obtain ⟨ra',rc',hrv,hrc'⟩:=hR.slice
   subst hrv
   have HR:=hid hR
   have HCH:=hid hch
   clear hR hch hv
   go_wp2_with fail
   refine ⟨⟨rowUp ts,h+1,ra',rc',rfl,hrc',HR.out.reads _ (fun k hk h=>by rcases h with h | h <;> omega),by rw [<-topT_up hl];exact HTOP.out,fun _=>rowUp_fit hl HFIT.out,by omega,HCH.out.blk B3.out id,C3.out.trans HCH.out (fun _ _ h=>h)⟩,by simp only [lenV];omega⟩
 }
  {
 have z1:decide (1 < ts.length)=false:=decide_eq_false hl
 have z2:decide ((1:Int) < (ts.length:Int))=false:=decide_eq_false (by omega)
 rw [topT_le (by omega)] at htop
 have hbl:=hB.lt
 by_cases h0:ts.length=0
 ·have hts:ts=[]:=List.eq_nil_of_length_eq_zero h0
  have hs0:s.size=0:=by
   rw [<-build_bytes s,<-htop,hts]
   rfl
  rw [h0] at z1 z2 |-
  have HB:=hid hB
  have HC:=hid hC
  clear hI htop hfit hB hC hts
  go_wp2_with fail
  refine (group_zero a c wr).mono ?_
  rintro e w5 ⟨rfl,hc5⟩
  have B5:=hid (hc5.blk HB.out id)
  have C5:=hid (HC.out.trans hc5 (fun _ _ h=>h))
  clear hc5
  simp only [zTree,List.toArray]
  obtain ⟨r0,r1,r2,r3,r4,r5,r6⟩:=B5.out.c7
  obtain ⟨s0,s1,s2,s3,s4,s5',s6⟩:=B5.out.f7
  go_wp2_with fail
  refine at_world fun W6 hW6=>?_
  have C6:=hid (show Ch (fun k=>k=w.heap.size) w5 W6 from by rw [hW6];exact ((((((((Ch.refl (fun k=>k=w.heap.size) w5).set (fun _=>rfl) _).set (fun _=>rfl) _).set (fun _=>rfl) _).set (fun _=>rfl) _).set (fun _=>rfl) _).set (fun _=>rfl) _).set (fun _=>rfl) _))
  have B6:=hid (show Blk W6 w.heap.size 183 #[.int .u64 0,.int .i64 0,.int .i64 0,.int .i64 0,.int .i64 0,.string ⟨#[]⟩,.slice none 0 0] from by rw [hW6];exact (((((((B5.out.put 0 _).put 1 _).put 2 _).put 3 _).put 4 _).put 5 _).put 6 _))
  clear hW6 r0 r1 r2 r3 r4 r5 r6 s0 s1 s2 s3 s4 s5' s6
  obtain ⟨t0,t1,t2,t3,t4,t5,t6⟩:=B6.out.c7
  have hck:Ch (fun _=>False) w W6:=C5.out.trans C6.out (fun i hi e=>absurd hi (by omega))
  refine bodyPost_ret (v:=.tuple #[.agg #[.int .u64 0,.int .i64 0,.int .i64 0,.int .i64 0,.int .i64 0,.string ⟨#[]⟩,.slice none 0 0],.int .i64 0]) (by simp [results,Tryz.results80,go_sem,t0,t1,t2,t3,t4,t5,t6]) rfl ⟨[.int .u64 0,.int .i64 0,.int .i64 0,.int .i64 0,.int .i64 0,.string ⟨#[]⟩,.slice none 0 0],rfl,hck,.inl ⟨hs0,rfl⟩⟩
 ·obtain ⟨t,hts⟩:∃t,ts=[t]:=by
   match ts,h0,hl with
   | [],h0,_=>exact absurd rfl h0
   | [t],_,_=>exact ⟨t,rfl⟩
   | _::_::_,_,hl=>exact absurd (by simp) hl
  subst hts
  obtain ⟨b,off,rfl⟩:=hI.some (by simp)
  have HI:=hid hI
  have HTOP:=hid htop
  have HB:=hid hB
  have HC:=hid hC
  clear hI htop hfit hB hC
  go_wp2_with fail
  refine (group_one (fun k=>w.heap.size < k) b off c t wr HI.out).mono ?_
  rintro e w5 ⟨cs,rfl,ht,hc5⟩
  obtain ⟨s5,a5,n5,c5,rfl⟩:=ht.form
  have HT5:=hid ht
  have B5:=hid (hc5.blk HB.out id)
  have C5:=hid (HC.out.trans hc5 (fun _ _ h=>h))
  have z5:=hid (show wr.heap.size<=w5.heap.size from hc5.size)
  clear hc5 ht
  have hwz:=HC.out.size
  obtain ⟨r0,r1,r2,r3,r4,r5,r6⟩:=B5.out.c7
  obtain ⟨s0,s1,s2,s3,s4,s5',s6⟩:=B5.out.f7
  go_wp2_with fail
  refine at_world fun W6 hW6=>?_
  have C6:=hid (show Ch (fun k=>k=w.heap.size) w5 W6 from by rw [hW6];exact ((((((((Ch.refl (fun k=>k=w.heap.size) w5).set (fun _=>rfl) _).set (fun _=>rfl) _).set (fun _=>rfl) _).set (fun _=>rfl) _).set (fun _=>rfl) _).set (fun _=>rfl) _).set (fun _=>rfl) _))
  have B6:=hid (show Blk W6 w.heap.size 183 #[.int .u64 0,.int .i64 (Int.ofNat t.ht),.int .i64 0,.int .i64 0,.int .i64 0,.string s5,.slice a5 n5 c5] from by rw [hW6];exact (((((((B5.out.put 0 _).put 1 _).put 2 _).put 3 _).put 4 _).put 5 _).put 6 _))
  clear hW6 r0 r1 r2 r3 r4 r5 r6 s0 s1 s2 s3 s4 s5' s6
  obtain ⟨t0,t1,t2,t3,t4,t5,t6⟩:=B6.out.c7
  have hck:Ch (fun _=>False) w W6:=C5.out.trans C6.out (fun i hi e=>absurd hi (by omega))
  refine bodyPost_ret (v:=.tuple #[.agg #[.int .u64 0,.int .i64 (Int.ofNat t.ht),.int .i64 0,.int .i64 0,.int .i64 0,.string s5,.slice a5 n5 c5],.int .i64 0]) (by simp [results,Tryz.results80,go_sem,t0,t1,t2,t3,t4,t5,t6]) rfl ⟨[.int .u64 0,.int .i64 (Int.ofNat t.ht),.int .i64 0,.int .i64 0,.int .i64 0,.string s5,.slice a5 n5 c5],rfl,hck,.inr ⟨t,HTOP.out.symm,HT5.out.keep C6.out (fun k hk h=>by have:=z5.out;rcases h with h | h <;> omega) (fun k hk h=>by have:=z5.out;rcases h with h | h <;> omega)⟩⟩
 }
 }
theorem kind_leaf (s:ByteArray) (h1:1<=s.size) (h2:s.size<=16) (w:World):Calls Tryz.prog 156 #[.agg #[.int .u64 0,.int .i64 0,.int .i64 0,.int .i64 0,.int .i64 0,.string s,.slice none 0 0]] w fun e w'=>e=.returned (.int .i64 3)/\Ch (fun _=>False) w w':=by
 have d1:decide ((s.size:Int)<=16)=true:=decide_eq_true (by omega)
 have d2:decide (s.size<=16)=true:=decide_eq_true h2
 have d3:=size_data (s:=s) (by omega)
 go_enter Tryz.func156,Tryz.ntmps156
 go_wp2_with fail
 go_ret
 exact ⟨rfl,(Ch.refl _ w).alloc _⟩
theorem kind_node (h b off n c:Nat) (h1:1<=h) (h2:h<=16) (n1:2<=n) (n2:n<=4) (w:World):Calls Tryz.prog 156 #[.agg #[.int .u64 0,.int .i64 (h:Int),.int .i64 0,.int .i64 0,.int .i64 0,.string ⟨#[]⟩,.slice (some ⟨b,off,none⟩) n c]] w fun e w'=>e=.returned (.int .i64 4)/\Ch (fun _=>False) w w':=by
 have d0:((h:Int) == 0)=false:=by rw [beq_eq_false_iff_ne];omega
 have d1:decide ((1:Int)<=(h:Int))=true:=decide_eq_true (by omega)
 have d2:decide ((h:Int)<=16)=true:=decide_eq_true (by omega)
 have d3:decide (h<=16)=true:=decide_eq_true h2
 have d4:decide ((2:Int)<=(n:Int))=true:=decide_eq_true (by omega)
 have d5:decide (2<=n)=true:=decide_eq_true n1
 have d6:decide ((n:Int)<=4)=true:=decide_eq_true (by omega)
 have d7:decide (n<=4)=true:=decide_eq_true n2
 have d8:((n:Int) == 0)=false:=by rw [beq_eq_false_iff_ne];omega
 have d9:decide (1<=h)=true:=decide_eq_true h1
 go_enter Tryz.func156,Tryz.ntmps156
 go_wp2_with fail
 go_ret
 exact ⟨rfl,(Ch.refl _ w).alloc _⟩
theorem TreeAt.kids {w:World} {S:Nat->Prop} {h:Nat} {ks:List T} {cs:List Value} (ht:TreeAt w S (.node h ks) cs):∃b off c,cs=[.int .u64 0,.int .i64 (h:Int),.int .i64 0,.int .i64 0,.int .i64 0,.string ⟨#[]⟩,.slice (some ⟨b,off,none⟩) ks.length c]/\InTs w S (some ⟨b,off,none⟩) ks.length ks/\0 < ks.length:=by
 cases ht with
 | node h ks b off c css hS hb hne hl hk hc=>exact ⟨b,off,c,rfl,⟨rfl,fun _=>⟨b,off,css,rfl,hS,hb,hl,hk,hc⟩⟩,hne⟩
theorem bytesL_take (ks:List T) (k:Nat):T.bytesL (ks.take k)<=T.bytesL ks:=by
 have e:T.bytesL ks=T.bytesL (ks.take k)+T.bytesL (ks.drop k):=by
  rw [bytesL_sum,bytesL_sum,bytesL_sum,<-List.sum_append,<-List.map_append,List.take_append_drop]
 omega
theorem bytesL_snoc (ks:List T) (k:Nat) (t:T) (h:ks[k]?=some t):T.bytesL (ks.take (k+1))=T.bytesL (ks.take k)+t.bytes:=by
 have hk:=List.getElem?_eq_some_iff.1 h
 rw [List.take_succ_eq_append_getElem hk.1,hk.2,bytesL_sum,bytesL_sum]
 simp
theorem cntL_take (ks:List T) (k:Nat):T.cntL (ks.take k)<=T.cntL ks:=by
 have e:T.cntL ks=T.cntL (ks.take k)+T.cntL (ks.drop k):=by
  rw [cntL_sum,cntL_sum,cntL_sum,<-List.sum_append,<-List.map_append,List.take_append_drop]
 omega
theorem cntL_snoc (ks:List T) (k:Nat) (t:T) (h:ks[k]?=some t):T.cntL (ks.take (k+1))=T.cntL (ks.take k)+t.cnt:=by
 have hk:=List.getElem?_eq_some_iff.1 h
 rw [List.take_succ_eq_append_getElem hk.1,hk.2,cntL_sum,cntL_sum]
 simp
theorem bytes_leaf (s:ByteArray) (hb:s.size<=65536) (w:World):Calls Tryz.prog 158 #[.agg #[.int .u64 0,.int .i64 0,.int .i64 0,.int .i64 0,.int .i64 0,.string s,.slice none 0 0]] w fun e w'=>e=.returned (.int .i64 (s.size:Nat))/\Ch (fun _=>False) w w':=by
 go_enter Tryz.func158,Tryz.ntmps158
 go_wp2_with fail
 refine at_world fun W1 hW1=>?_
 have C1:=hid (show Ch (fun _=>False) w W1 from by rw [hW1];exact (Ch.refl _ w).alloc _)
 clear hW1
 go_loopw [3,16] (fun v i W=>v=.int .i64 (s.size:Int)/\i=.int .i64 0/\W=W1) (fun _ _ _=>0)
 case atStart=>exact ⟨rfl,rfl,rfl⟩
 case round=>
  obtain ⟨rfl,rfl,rfl⟩:=hrel
  go_wp2_with fail
  go_ret
  exact ⟨rfl,C1.out⟩
theorem fit_node {g h:Nat} {ks:List T} (h1:T.fit g (.node h ks)):∃m,g=m+1/\h=m+1/\2<=ks.length/\ks.length<=4/\∀t ∈ ks,T.fit m t:=by
 match g,h1 with
 | 0,h1=>exact h1.elim
 | m+1,h1=>exact ⟨m,rfl,h1.1,h1.2.1,h1.2.2.1,h1.2.2.2⟩
theorem fit_leaf {g:Nat} {s:ByteArray} (h1:T.fit g (.leaf s)):g=0/\8<=s.size/\s.size<=16:=by
 match g,h1 with
 | 0,h1=>exact ⟨rfl,h1.1,h1.2⟩
 | m+1,h1=>exact h1.elim
theorem bytes_any (t:T):∀(g:Nat) (cs:List Value) (w:World) (S:Nat->Prop),T.fit g t->TreeAt w S t cs->t.bytes<=65536->Calls Tryz.prog 158 #[.agg cs.toArray] w fun e w'=>e=.returned (.int .i64 (t.bytes:Nat))/\Ch (fun _=>False) w w':=by
 induction t using T.ind with
 | hl s=>
  intro g cs w S hf hT hb
  cases hT
  exact bytes_leaf s hb w
 | hn h ks ih=>
  intro g cs w S hf hT hb
  obtain ⟨b,off,c,rfl,hI,hne⟩:=hT.kids
  obtain ⟨m,rfl,hm,hf1,hf2,hf3⟩:=fit_node hf
  have HM:=hid hm
  clear hm
  simp only [T.bytes] at hb |-
  have HI:=hid hI
  have IH:=hid ih
  have HF:=hid hf3
  clear hI hT ih hf hf3
  show Calls Tryz.prog 158 #[.agg #[.int .u64 0,.int .i64 (h:Int),.int .i64 0,.int .i64 0,.int .i64 0,.string ⟨#[]⟩,.slice (some ⟨b,off,none⟩) ks.length c]] w _
  obtain ⟨n,hn⟩:∃n,n=ks.length:=⟨_,rfl⟩
  obtain ⟨TOT,hTOT⟩:∃x,x=T.bytesL ks:=⟨_,rfl⟩
  rw [<-hn] at hne hf1 hf2
  rw [<-hTOT] at hb
  rw [<-hn,<-hTOT]
  have HN:=hid hn
  have HT:=hid hTOT
  clear hn hTOT
  go_enter Tryz.func158,Tryz.ntmps158
  go_wp2_with fail
  refine at_world fun W1 hW1=>?_
  have C1:=hid (show Ch (fun _=>False) w W1 from by rw [hW1];exact (Ch.refl _ w).alloc _)
  clear hW1
  go_loopw [3,16] (fun v i W=>∃k:Nat,k<=n/\i=.int .i64 (k:Int)/\v=.int .i64 (T.bytesL (ks.take k):Nat)/\Ch (fun _=>False) w W) (fun _ i _=>n - (intOf i).toNat)
  case atStart=>exact ⟨0,Nat.zero_le _,rfl,rfl,C1.out⟩
  case round=>
   (
 clear C1
 obtain ⟨k,hk,rfl,rfl,hCh⟩:=hrel
 by_cases hlt:k < n
 ·have hlt':k < ks.length:=by rw [<-HN.out];exact hlt
  obtain ⟨x,hx⟩:∃x,ks[k]?=some x:=⟨_,List.getElem?_eq_getElem hlt'⟩
  have hI:=HI.out.keep hCh (fun _ _ _=>id) (fun _ _ h=>h)
  obtain ⟨cx,hcx,_,_,hcell⟩:=hI.at k x hx
  obtain ⟨xs,xa,xn,xc,rfl⟩:=hcx.form
  have c0:wr.cell? ⟨b,off+k * 7,none⟩=some (.int .u64 0):=hcell 0 _ rfl
  have c1:wr.cell? ⟨b,off+k * 7+1,none⟩=some (.int .i64 (Int.ofNat x.ht)):=hcell 1 _ rfl
  have c2:wr.cell? ⟨b,off+k * 7+2,none⟩=some (.int .i64 0):=hcell 2 _ rfl
  have c3:wr.cell? ⟨b,off+k * 7+3,none⟩=some (.int .i64 0):=hcell 3 _ rfl
  have c4:wr.cell? ⟨b,off+k * 7+4,none⟩=some (.int .i64 0):=hcell 4 _ rfl
  have c5:wr.cell? ⟨b,off+k * 7+5,none⟩=some (.string xs):=hcell 5 _ rfl
  have c6:wr.cell? ⟨b,off+k * 7+6,none⟩=some (.slice xa xn xc):=hcell 6 _ rfl
  have HX:=hid hcx
  have HXM:=hid (List.mem_of_getElem? hx)
  have hsn:=bytesL_snoc ks k x hx
  have htk:=bytesL_take ks (k+1)
  rw [<-HT.out] at htk
  obtain ⟨q,hq⟩:∃q,q=T.bytesL (ks.take k):=⟨_,rfl⟩
  rw [<-hq] at hsn
  rw [<-hq]
  have hxb:x.bytes<=65536:=by omega
  have hqb:q+x.bytes<=65536:=by omega
  have HSN:=hid hsn
  have HCH:=hid hCh
  clear hcell hcx hx hI hsn htk hq hCh
  obtain ⟨y1,y2⟩:=dc_ltT (a:=k) (b:=n) (by omega)
  go_wp2_with fail
  refine calls_world fun W3 hW3=>?_
  have D3:=hid (show Ch (fun _=>False) wr W3 from by rw [hW3];exact (Ch.refl _ wr).alloc _)
  clear hW3
  refine (IH.out x HXM.out m [.int .u64 0,.int .i64 (Int.ofNat x.ht),.int .i64 0,.int .i64 0,.int .i64 0,.string xs,.slice xa xn xc] W3 S (HF.out x HXM.out) (HX.out.keep D3.out (fun _ _ _=>id) (fun _ _ h=>h)) hxb).mono ?_
  rintro e w4 ⟨rfl,hc4⟩
  go_wp2_with fail
  go_roundw
  case rel=>exact ⟨k+1,by omega,by go_num,by rw [HSN.out];go_num,(HCH.out.trans D3.out (fun _ _ h=>h)).trans hc4 (fun _ _ h=>h)⟩
  case measure=>simp [intOf];omega
 ·obtain rfl:n=k:=by omega
  have y1:decide (n < n)=false:=decide_eq_false (by omega)
  rw [List.take_of_length_le (by rw [HN.out];exact Nat.le_refl _)]
  rw [<-HT.out]
  go_wp2_with fail
  go_ret
  exact ⟨rfl,hCh⟩
 )
def T.knd:T->Int
 | .leaf _=>3
 | .node _ _=>4
theorem kind_any (t:T) (cs:List Value) (w:World) (S:Nat->Prop) (hg:t.good) (hT:TreeAt w S t cs):Calls Tryz.prog 156 #[.agg cs.toArray] w fun e w'=>e=.returned (.int .i64 t.knd)/\Ch (fun _=>False) w w':=by
 cases t with
 | leaf s=>
  cases hT
  rcases hg with ⟨s',hs,h1,h2⟩ | ⟨g,_,hf⟩
  ·injection hs with hs
   subst hs
   exact kind_leaf s h1 h2 w
  ·obtain ⟨_,h1,h2⟩:=fit_leaf hf
   exact kind_leaf s (by omega) h2 w
 | node h ks=>
  obtain ⟨b,off,c,rfl,hI,hne⟩:=hT.kids
  rcases hg with ⟨s',hs,_⟩ | ⟨g,hg16,hf⟩
  ·cases hs
  ·obtain ⟨m,rfl,hm,h1,h2,_⟩:=fit_node hf
   exact kind_node h b off ks.length c (by omega) (by omega) h1 h2 w
theorem fit_good {g:Nat} {t:T} (h:g<=16) (hf:T.fit g t):t.good:=.inr ⟨g,h,hf⟩
theorem new_leaf (s:ByteArray) (h1:1<=s.size) (h2:s.size<=16) (w:World):Calls Tryz.prog 144 #[.agg #[.int .u64 0,.int .i64 0,.int .i64 0,.int .i64 0,.int .i64 0,.string s,.slice none 0 0]] w fun e w'=>e=.returned (.int .i64 1)/\Ch (fun _=>False) w w':=by
 go_enter Tryz.func144,Tryz.ntmps144
 go_wp2_with fail
 refine calls_world fun W0 hW0=>?_
 have C0:=hid (show Ch (fun _=>False) w W0 from by rw [hW0];exact (Ch.refl _ w).alloc _)
 have B0:=hid (show Blk W0 w.heap.size 183 #[.int .u64 0,.int .i64 0,.int .i64 0,.int .i64 0,.int .i64 0,.string s,.slice none 0 0] from by rw [hW0];exact Blk.new w _ _)
 clear hW0
 refine (kind_leaf s h1 h2 W0).mono ?_
 rintro e W1 ⟨rfl,hc⟩
 have C1:=hid (C0.out.trans hc (fun _ _ h=>h))
 have r6:W1.cell? ⟨w.heap.size,6,none⟩=some (.slice none 0 0):=(hc.blk B0.out id).cell 6
 clear hc
 go_wp2_with fail
 go_loopw [3,18] (fun v i W=>v=.int .i64 1/\i=.int .i64 0/\W=W1) (fun _ _ _=>0)
 case atStart=>exact ⟨rfl,rfl,rfl⟩
 case round=>
  obtain ⟨rfl,rfl,rfl⟩:=hrel
  go_wp2_with fail
  go_ret
  exact ⟨rfl,C1.out⟩
theorem new_any (t:T):∀(g:Nat) (cs:List Value) (w:World) (S:Nat->Prop),g<=16->T.fit g t->TreeAt w S t cs->t.cnt<=65536->Calls Tryz.prog 144 #[.agg cs.toArray] w fun e w'=>e=.returned (.int .i64 (t.cnt:Nat))/\Ch (fun _=>False) w w':=by
 induction t using T.ind with
 | hl s=>
  intro g cs w S hg hf hT hb
  cases hT
  obtain ⟨_,h1,h2⟩:=fit_leaf hf
  exact new_leaf s (by omega) h2 w
 | hn h ks ih=>
  intro g cs w S hg hf hT hb
  have hkind:=fun w' (hT':TreeAt w' S (.node h ks) cs)=>kind_any (.node h ks) cs w' S (fit_good hg hf) hT'
  have hT0:=hT
  obtain ⟨b,off,c,rfl,hI,hne⟩:=hT.kids
  obtain ⟨m,rfl,hm,hf1,hf2,hf3⟩:=fit_node hf
  simp only [T.cnt] at hb |-
  have HM:=hid hm
  have HI:=hid hI
  have IH:=hid ih
  have HF:=hid hf3
  have HK:=hid hkind
  have HT0:=hid hT0
  have hg16:m<=16:=by omega
  clear hI hT ih hf hf3 hm hkind hT0 hg
  show Calls Tryz.prog 144 #[.agg #[.int .u64 0,.int .i64 (h:Int),.int .i64 0,.int .i64 0,.int .i64 0,.string ⟨#[]⟩,.slice (some ⟨b,off,none⟩) ks.length c]] w _
  obtain ⟨n,hn⟩:∃n,n=ks.length:=⟨_,rfl⟩
  obtain ⟨TOT,hTOT⟩:∃x,x=T.cntL ks:=⟨_,rfl⟩
  rw [<-hn] at hne hf1 hf2 HK HT0
  rw [<-hTOT] at hb
  rw [<-hn,<-hTOT]
  have HN:=hid hn
  have HT:=hid hTOT
  clear hn hTOT
  go_enter Tryz.func144,Tryz.ntmps144
  go_wp2_with fail
  refine calls_world fun W0 hW0=>?_
  have C0:=hid (show Ch (fun _=>False) w W0 from by rw [hW0];exact (Ch.refl _ w).alloc _)
  have B0:=hid (show Blk W0 w.heap.size 183 #[.int .u64 0,.int .i64 (h:Int),.int .i64 0,.int .i64 0,.int .i64 0,.string ⟨#[]⟩,.slice (some ⟨b,off,none⟩) n c] from by rw [hW0];exact Blk.new w _ _)
  clear hW0
  refine (HK.out W0 (HT0.out.keep C0.out (fun _ _ _=>id) (fun _ _ h=>h))).mono ?_
  rintro e W1 ⟨rfl,hc⟩
  have C1:=hid (C0.out.trans hc (fun _ _ h=>h))
  have r6:W1.cell? ⟨w.heap.size,6,none⟩=some (.slice (some ⟨b,off,none⟩) n c):=(hc.blk B0.out id).cell 6
  clear hc B0 C0 HK HT0
  simp only [T.knd]
  go_wp2_with fail
  go_loopw [3,18] (fun v i W=>∃k:Nat,k<=n/\i=.int .i64 (k:Int)/\v=.int .i64 ((T.cntL (ks.take k):Int)+1)/\Ch (fun _=>False) w W) (fun _ i _=>n - (intOf i).toNat)
  case atStart=>exact ⟨0,Nat.zero_le _,rfl,rfl,C1.out⟩
  case round=>
   (
 clear C1 r6
 obtain ⟨k,hk,rfl,rfl,hCh⟩:=hrel
 by_cases hlt:k < n
 ·have hlt':k < ks.length:=by rw [<-HN.out];exact hlt
  obtain ⟨x,hx⟩:∃x,ks[k]?=some x:=⟨_,List.getElem?_eq_getElem hlt'⟩
  have hI:=HI.out.keep hCh (fun _ _ _=>id) (fun _ _ h=>h)
  obtain ⟨cx,hcx,_,_,hcell⟩:=hI.at k x hx
  obtain ⟨xs,xa,xn,xc,rfl⟩:=hcx.form
  have c0:wr.cell? ⟨b,off+k * 7,none⟩=some (.int .u64 0):=hcell 0 _ rfl
  have c1:wr.cell? ⟨b,off+k * 7+1,none⟩=some (.int .i64 (Int.ofNat x.ht)):=hcell 1 _ rfl
  have c2:wr.cell? ⟨b,off+k * 7+2,none⟩=some (.int .i64 0):=hcell 2 _ rfl
  have c3:wr.cell? ⟨b,off+k * 7+3,none⟩=some (.int .i64 0):=hcell 3 _ rfl
  have c4:wr.cell? ⟨b,off+k * 7+4,none⟩=some (.int .i64 0):=hcell 4 _ rfl
  have c5:wr.cell? ⟨b,off+k * 7+5,none⟩=some (.string xs):=hcell 5 _ rfl
  have c6:wr.cell? ⟨b,off+k * 7+6,none⟩=some (.slice xa xn xc):=hcell 6 _ rfl
  have HX:=hid hcx
  have HXM:=hid (List.mem_of_getElem? hx)
  have hsn:=cntL_snoc ks k x hx
  have htk:=cntL_take ks (k+1)
  rw [<-HT.out] at htk
  obtain ⟨q,hq⟩:∃q,q=T.cntL (ks.take k):=⟨_,rfl⟩
  rw [<-hq] at hsn
  rw [<-hq]
  have hxb:x.cnt<=65536:=by omega
  have hqb:q+x.cnt<=65536:=by omega
  have HSN:=hid hsn
  have HCH:=hid hCh
  clear hcell hcx hx hI hsn htk hq hCh
  obtain ⟨y1,y2⟩:=dc_ltT (a:=k) (b:=n) (by omega)
  go_wp2_with fail
  refine calls_world fun W3 hW3=>?_
  have D3:=hid (show Ch (fun _=>False) wr W3 from by rw [hW3];exact (Ch.refl _ wr).alloc _)
  clear hW3
  refine (IH.out x HXM.out m [.int .u64 0,.int .i64 (Int.ofNat x.ht),.int .i64 0,.int .i64 0,.int .i64 0,.string xs,.slice xa xn xc] W3 S hg16 (HF.out x HXM.out) (HX.out.keep D3.out (fun _ _ _=>id) (fun _ _ h=>h)) hxb).mono ?_
  rintro e w4 ⟨rfl,hc4⟩
  go_wp2_with fail
  go_roundw
  case rel=>exact ⟨k+1,by omega,by go_num,by rw [HSN.out];go_num,(HCH.out.trans D3.out (fun _ _ h=>h)).trans hc4 (fun _ _ h=>h)⟩
  case measure=>simp [intOf];omega
 ·obtain rfl:n=k:=by omega
  have y1:decide (n < n)=false:=decide_eq_false (by omega)
  rw [List.take_of_length_le (by rw [HN.out];exact Nat.le_refl _)]
  rw [<-HT.out]
  go_wp2_with fail
  go_ret
  exact ⟨by push_cast;rfl,hCh⟩
 )
end Go.Proofs.YtjcdknhejcbpiaaGreat
