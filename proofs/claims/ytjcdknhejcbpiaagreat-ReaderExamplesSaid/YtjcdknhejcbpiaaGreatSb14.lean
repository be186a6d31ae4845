/- Lemmas; no condition. -/
import Derived.Test.YtjcdknhejcbpiaaGreatSb12
import Derived.Test.YtjcdknhejcbpiaaGreatSb13
set_option maxRecDepth 100000
set_option maxHeartbeats 4000000
namespace Go.Proofs.YtjcdknhejcbpiaaGreat
open Go.RowKit
set_option linter.unusedVariables false
set_option linter.unusedSimpArgs false
set_option linter.unusedSectionVars false
theorem check_leafT (p:Option Addr) (s:ByteArray) (h8:8<=s.size) (h2:s.size<=16) (w:World):Calls Tryz.prog 157 #[.pointer p,.agg #[.int .u64 0,.int .i64 0,.int .i64 0,.int .i64 0,.int .i64 0,.string s,.slice none 0 0],.bool true,.int .i64 0] w fun e w'=>e=.returned (.int .i64 0)/\Ch (fun _=>False) w w':=by
 have d1:decide ((s.size:Int) < 8)=false:=decide_eq_false (by omega)
 go_enter Tryz.func157,Tryz.ntmps157
 go_wp2_with fail
 refine calls_world fun W0 hW0=>?_
 have C0:=hid (show Ch (fun _=>False) w W0 from by rw [hW0];exact (Ch.refl _ w).alloc _)
 have B0:=hid (show Blk W0 w.heap.size 183 #[.int .u64 0,.int .i64 0,.int .i64 0,.int .i64 0,.int .i64 0,.string s,.slice none 0 0] from by rw [hW0];exact Blk.new w _ _)
 clear hW0
 refine (kind_leaf s (by omega) h2 W0).mono ?_
 rintro e W1 ⟨rfl,hc⟩
 have C1:=hid (C0.out.trans hc (fun _ _ h=>h))
 have B1:=hid (hc.blk B0.out id)
 obtain ⟨-,r1,-,-,-,r5⟩:=B1.out.c6
 obtain ⟨r0,-,r2,r3,r4,-,r6⟩:=B1.out.c7
 clear hc
 go_wp2_with fail
 refine (bytes_leaf s (by omega) W1).mono ?_
 rintro e WL ⟨rfl,hc⟩
 have CL:=hid (C1.out.trans hc (fun _ _ h=>h))
 have r6':WL.cell? ⟨w.heap.size,6,none⟩=some (.slice none 0 0):=(hc.blk B1.out id).cell 6
 clear hc r0 r1 r2 r3 r4 r5 r6
 go_wp2_with fail
 go_loopw [58] (fun i W=>i=.int .i64 0/\W=WL) (fun _ _=>0)
 case atStart=>exact ⟨rfl,rfl⟩
 case round=>
  obtain ⟨rfl,rfl⟩:=hrel
  go_wp2_with fail
  go_ret
  exact ⟨rfl,CL.out⟩
theorem check_leafF (p:Option Addr) (s:ByteArray) (h8:1<=s.size) (h2:s.size<=16) (w:World):Calls Tryz.prog 157 #[.pointer p,.agg #[.int .u64 0,.int .i64 0,.int .i64 0,.int .i64 0,.int .i64 0,.string s,.slice none 0 0],.bool false,.int .i64 0] w fun e w'=>e=.returned (.int .i64 0)/\Ch (fun _=>False) w w':=by
 go_enter Tryz.func157,Tryz.ntmps157
 go_wp2_with fail
 refine calls_world fun W0 hW0=>?_
 have C0:=hid (show Ch (fun _=>False) w W0 from by rw [hW0];exact (Ch.refl _ w).alloc _)
 have B0:=hid (show Blk W0 w.heap.size 183 #[.int .u64 0,.int .i64 0,.int .i64 0,.int .i64 0,.int .i64 0,.string s,.slice none 0 0] from by rw [hW0];exact Blk.new w _ _)
 clear hW0
 refine (kind_leaf s (by omega) h2 W0).mono ?_
 rintro e W1 ⟨rfl,hc⟩
 have C1:=hid (C0.out.trans hc (fun _ _ h=>h))
 have B1:=hid (hc.blk B0.out id)
 obtain ⟨-,r1,-,-,-,-,r6⟩:=B1.out.c7
 clear hc
 go_wp2_with fail
 go_loopw [58] (fun i W=>i=.int .i64 0/\W=W1) (fun _ _=>0)
 case atStart=>exact ⟨rfl,rfl⟩
 case round=>
  obtain ⟨rfl,rfl⟩:=hrel
  go_wp2_with fail
  go_ret
  exact ⟨rfl,C1.out⟩
theorem check_nodeT (p:Option Addr) (h:Nat) (ks:List T) (m b off c:Nat) (w:World) (S:Nat->Prop) (hm16:m+1<=16) (hm:h=m+1) (hI:InTs w S (some ⟨b,off,none⟩) ks.length ks) (hf1:2<=ks.length) (hf2:ks.length<=4) (hf3:∀t ∈ ks,T.fit m t)
  (ih:∀t ∈ ks,∀(cs:List Value) (w:World) (S:Nat->Prop),TreeAt w S t cs->Calls Tryz.prog 157 #[.pointer p,.agg cs.toArray,.bool true,.int .i64 (m:Int)] w fun e w'=>e=.returned (.int .i64 0)/\Ch (fun _=>False) w w') :
  Calls Tryz.prog 157 #[.pointer p,.agg #[.int .u64 0,.int .i64 (h:Int),.int .i64 0,.int .i64 0,.int .i64 0,.string ⟨#[]⟩,.slice (some ⟨b,off,none⟩) ks.length c],.bool true,.int .i64 (h:Int)] w fun e w'=>e=.returned (.int .i64 0)/\Ch (fun _=>False) w w':=by
 have hh1:1<=h:=by omega
 have hh2:h<=16:=by omega
 have d0:((h:Int) == 0)=false:=by rw [beq_eq_false_iff_ne];omega
 have d1:((h:Int) != (h:Int))=false:=by simp
 have hm1:(h:Int) - 1=(m:Int):=by omega
 have HI:=hid hI
 have IH:=hid ih
 have HM1:=hid hm1
 clear hI ih hf3 hm hm1
 obtain ⟨n,hn⟩:∃n,n=ks.length:=⟨_,rfl⟩
 rw [<-hn] at hf1 hf2
 rw [<-hn]
 have HN:=hid hn
 clear hn
 go_enter Tryz.func157,Tryz.ntmps157
 go_wp2_with fail
 refine calls_world fun W0 hW0=>?_
 have C0:=hid (show Ch (fun _=>False) w W0 from by rw [hW0];exact (Ch.refl _ w).alloc _)
 have B0:=hid (show Blk W0 w.heap.size 183 #[.int .u64 0,.int .i64 (h:Int),.int .i64 0,.int .i64 0,.int .i64 0,.string ⟨#[]⟩,.slice (some ⟨b,off,none⟩) n c] from by rw [hW0];exact Blk.new w _ _)
 clear hW0
 refine (kind_node h b off n c hh1 hh2 hf1 hf2 W0).mono ?_
 rintro e W1 ⟨rfl,hc⟩
 have C1:=hid (C0.out.trans hc (fun _ _ h=>h))
 have B1:=hid (hc.blk B0.out id)
 obtain ⟨-,r1,-,-,-,-,r6⟩:=B1.out.c7
 clear hc B0 C0
 have hbl:=B1.out.lt
 go_wp2_with fail
 go_loopw [58] (fun i W=>∃k:Nat,k<=n/\i=.int .i64 (k:Int)/\Ch (fun _=>False) W1 W) (fun i _=>n - (intOf i).toNat)
 case atStart=>exact ⟨0,Nat.zero_le _,rfl,Ch.refl _ _⟩
 case round=>
  clear r1 r6
  obtain ⟨k,hk,rfl,hCh⟩:=hrel
  by_cases hlt:k < n
  {
 have hlt':k < ks.length:=by rw [<-HN.out];exact hlt
 obtain ⟨x,hx⟩:∃x,ks[k]?=some x:=⟨_,List.getElem?_eq_getElem hlt'⟩
 have hI:=HI.out.keep (C1.out.trans hCh (fun _ _ h=>h)) (fun _ _ _=>id) (fun _ _ h=>h)
 obtain ⟨cx,hcx,_,_,hcell⟩:=hI.at k x hx
 obtain ⟨xs,xa,xn,xc,rfl⟩:=hcx.form
 have c0:wr.cell? ⟨b,off+k * 7,none⟩=some (.int .u64 0):=hcell 0 _ rfl
 have c1:wr.cell? ⟨b,off+k * 7+1,none⟩=some (.int .i64 (Int.ofNat x.ht)):=hcell 1 _ rfl
 have c2:wr.cell? ⟨b,off+k * 7+2,none⟩=some (.int .i64 0):=hcell 2 _ rfl
 have c3:wr.cell? ⟨b,off+k * 7+3,none⟩=some (.int .i64 0):=hcell 3 _ rfl
 have c4:wr.cell? ⟨b,off+k * 7+4,none⟩=some (.int .i64 0):=hcell 4 _ rfl
 have c5:wr.cell? ⟨b,off+k * 7+5,none⟩=some (.string xs):=hcell 5 _ rfl
 have c6:wr.cell? ⟨b,off+k * 7+6,none⟩=some (.slice xa xn xc):=hcell 6 _ rfl
 have HX:=hid hcx
 have HXM:=hid (List.mem_of_getElem? hx)
 have HCH:=hid hCh
 have r1:wr.cell? ⟨w.heap.size,1,none⟩=some (.int .i64 (h:Int)):=(hCh.blk B1.out id).cell 1
 have hbw:w.heap.size < wr.heap.size:=by have:=hCh.size;omega
 have hb1:w.heap.size≠wr.heap.size:=Nat.ne_of_lt hbw
 have hb2:wr.heap.size≠w.heap.size:=Ne.symm hb1
 clear hcell hcx hx hI hCh
 obtain ⟨y1,y2⟩:=dc_ltT (a:=k) (b:=n) (by omega)
 go_wp2_with fail
 refine calls_world fun W3 hW3=>?_
 have D3:=hid (show Ch (fun _=>False) wr W3 from by rw [hW3];exact (Ch.refl _ wr).alloc _)
 clear hW3
 rw [HM1.out]
 refine (IH.out x HXM.out [.int .u64 0,.int .i64 (Int.ofNat x.ht),.int .i64 0,.int .i64 0,.int .i64 0,.string xs,.slice xa xn xc] W3 S (HX.out.keep D3.out (fun _ _ _=>id) (fun _ _ h=>h))).mono ?_
 rintro e w4 ⟨rfl,hc4⟩
 go_wp2_with fail
 refine ⟨⟨k+1,by omega,by push_cast;rfl,(HCH.out.trans D3.out (fun _ _ h=>h)).trans hc4 (fun _ _ h=>h)⟩,by simp only [intOf];omega⟩
 }
  ·obtain rfl:n=k:=by omega
   have y1:decide (n < n)=false:=decide_eq_false (by omega)
   go_wp2_with fail
   go_ret
   exact ⟨rfl,C1.out.trans hCh (fun _ _ h=>h)⟩
theorem check_nodeF (p:Option Addr) (h:Nat) (ks:List T) (m b off c:Nat) (w:World) (S:Nat->Prop) (hm16:m+1<=16) (hm:h=m+1) (hI:InTs w S (some ⟨b,off,none⟩) ks.length ks) (hf1:2<=ks.length) (hf2:ks.length<=4) (hf3:∀t ∈ ks,T.fit m t)
  (ih:∀t ∈ ks,∀(cs:List Value) (w:World) (S:Nat->Prop),TreeAt w S t cs->Calls Tryz.prog 157 #[.pointer p,.agg cs.toArray,.bool true,.int .i64 (m:Int)] w fun e w'=>e=.returned (.int .i64 0)/\Ch (fun _=>False) w w') :
  Calls Tryz.prog 157 #[.pointer p,.agg #[.int .u64 0,.int .i64 (h:Int),.int .i64 0,.int .i64 0,.int .i64 0,.string ⟨#[]⟩,.slice (some ⟨b,off,none⟩) ks.length c],.bool false,.int .i64 0] w fun e w'=>e=.returned (.int .i64 0)/\Ch (fun _=>False) w w':=by
 have hh1:1<=h:=by omega
 have hh2:h<=16:=by omega
 have d0:((h:Int) == 0)=false:=by rw [beq_eq_false_iff_ne];omega
 have d1:((h:Int) != (h:Int))=false:=by simp
 have hm1:(h:Int) - 1=(m:Int):=by omega
 have HI:=hid hI
 have IH:=hid ih
 have HM1:=hid hm1
 clear hI ih hf3 hm hm1
 obtain ⟨n,hn⟩:∃n,n=ks.length:=⟨_,rfl⟩
 rw [<-hn] at hf1 hf2
 rw [<-hn]
 have HN:=hid hn
 clear hn
 go_enter Tryz.func157,Tryz.ntmps157
 go_wp2_with fail
 refine calls_world fun W0 hW0=>?_
 have C0:=hid (show Ch (fun _=>False) w W0 from by rw [hW0];exact (Ch.refl _ w).alloc _)
 have B0:=hid (show Blk W0 w.heap.size 183 #[.int .u64 0,.int .i64 (h:Int),.int .i64 0,.int .i64 0,.int .i64 0,.string ⟨#[]⟩,.slice (some ⟨b,off,none⟩) n c] from by rw [hW0];exact Blk.new w _ _)
 clear hW0
 refine (kind_node h b off n c hh1 hh2 hf1 hf2 W0).mono ?_
 rintro e W1 ⟨rfl,hc⟩
 have C1:=hid (C0.out.trans hc (fun _ _ h=>h))
 have B1:=hid (hc.blk B0.out id)
 obtain ⟨-,r1,-,-,-,-,r6⟩:=B1.out.c7
 clear hc B0 C0
 have hbl:=B1.out.lt
 go_wp2_with fail
 go_loopw [58] (fun i W=>∃k:Nat,k<=n/\i=.int .i64 (k:Int)/\Ch (fun _=>False) W1 W) (fun i _=>n - (intOf i).toNat)
 case atStart=>exact ⟨0,Nat.zero_le _,rfl,Ch.refl _ _⟩
 case round=>
  clear r1 r6
  obtain ⟨k,hk,rfl,hCh⟩:=hrel
  by_cases hlt:k < n
  {
 have hlt':k < ks.length:=by rw [<-HN.out];exact hlt
 obtain ⟨x,hx⟩:∃x,ks[k]?=some x:=⟨_,List.getElem?_eq_getElem hlt'⟩
 have hI:=HI.out.keep (C1.out.trans hCh (fun _ _ h=>h)) (fun _ _ _=>id) (fun _ _ h=>h)
 obtain ⟨cx,hcx,_,_,hcell⟩:=hI.at k x hx
 obtain ⟨xs,xa,xn,xc,rfl⟩:=hcx.form
 have c0:wr.cell? ⟨b,off+k * 7,none⟩=some (.int .u64 0):=hcell 0 _ rfl
 have c1:wr.cell? ⟨b,off+k * 7+1,none⟩=some (.int .i64 (Int.ofNat x.ht)):=hcell 1 _ rfl
 have c2:wr.cell? ⟨b,off+k * 7+2,none⟩=some (.int .i64 0):=hcell 2 _ rfl
 have c3:wr.cell? ⟨b,off+k * 7+3,none⟩=some (.int .i64 0):=hcell 3 _ rfl
 have c4:wr.cell? ⟨b,off+k * 7+4,none⟩=some (.int .i64 0):=hcell 4 _ rfl
 have c5:wr.cell? ⟨b,off+k * 7+5,none⟩=some (.string xs):=hcell 5 _ rfl
 have c6:wr.cell? ⟨b,off+k * 7+6,none⟩=some (.slice xa xn xc):=hcell 6 _ rfl
 have HX:=hid hcx
 have HXM:=hid (List.mem_of_getElem? hx)
 have HCH:=hid hCh
 have r1:wr.cell? ⟨w.heap.size,1,none⟩=some (.int .i64 (h:Int)):=(hCh.blk B1.out id).cell 1
 have hbw:w.heap.size < wr.heap.size:=by have:=hCh.size;omega
 have hb1:w.heap.size≠wr.heap.size:=Nat.ne_of_lt hbw
 have hb2:wr.heap.size≠w.heap.size:=Ne.symm hb1
 clear hcell hcx hx hI hCh
 obtain ⟨y1,y2⟩:=dc_ltT (a:=k) (b:=n) (by omega)
 go_wp2_with fail
 refine calls_world fun W3 hW3=>?_
 have D3:=hid (show Ch (fun _=>False) wr W3 from by rw [hW3];exact (Ch.refl _ wr).alloc _)
 clear hW3
 rw [HM1.out]
 refine (IH.out x HXM.out [.int .u64 0,.int .i64 (Int.ofNat x.ht),.int .i64 0,.int .i64 0,.int .i64 0,.string xs,.slice xa xn xc] W3 S (HX.out.keep D3.out (fun _ _ _=>id) (fun _ _ h=>h))).mono ?_
 rintro e w4 ⟨rfl,hc4⟩
 go_wp2_with fail
 refine ⟨⟨k+1,by omega,by push_cast;rfl,(HCH.out.trans D3.out (fun _ _ h=>h)).trans hc4 (fun _ _ h=>h)⟩,by simp only [intOf];omega⟩
 }
  ·obtain rfl:n=k:=by omega
   have y1:decide (n < n)=false:=decide_eq_false (by omega)
   go_wp2_with fail
   go_ret
   exact ⟨rfl,C1.out.trans hCh (fun _ _ h=>h)⟩
theorem pchk_any (p:Option Addr) (t:T):∀(g:Nat) (cs:List Value) (w:World) (S:Nat->Prop),g<=16->T.fit g t->TreeAt w S t cs->Calls Tryz.prog 157 #[.pointer p,.agg cs.toArray,.bool true,.int .i64 (g:Int)] w fun e w'=>e=.returned (.int .i64 0)/\Ch (fun _=>False) w w':=by
 induction t using T.ind with
 | hl s=>
  intro g cs w S hg hf hT
  cases hT
  obtain ⟨rfl,h1,h2⟩:=fit_leaf hf
  exact check_leafT p s h1 h2 w
 | hn h ks ih=>
  intro g cs w S hg hf hT
  obtain ⟨b,off,c,rfl,hI,hne⟩:=hT.kids
  obtain ⟨m,rfl,hm,hf1,hf2,hf3⟩:=fit_node hf
  have t:=check_nodeT p h ks m b off c w S hg hm hI hf1 hf2 hf3 (fun t ht cs w S hT=>ih t ht m cs w S (by omega) (hf3 t ht) hT)
  rw [show (h:Int)=((m+1:Nat):Int) from by rw [hm]] at t
  rw [<-hm] at t
  rw [<-hm]
  exact t
theorem checkF_any (p:Option Addr) (t:T) (cs:List Value) (w:World) (S:Nat->Prop) (hg:t.good) (hT:TreeAt w S t cs):Calls Tryz.prog 157 #[.pointer p,.agg cs.toArray,.bool false,.int .i64 0] w fun e w'=>e=.returned (.int .i64 0)/\Ch (fun _=>False) w w':=by
 cases t with
 | leaf s=>
  cases hT
  rcases hg with ⟨s',hs,h1,h2⟩ | ⟨g,_,hf⟩
  ·injection hs with hs
   subst hs
   exact check_leafF p s h1 h2 w
  ·obtain ⟨_,h1,h2⟩:=fit_leaf hf
   exact check_leafF p s (by omega) h2 w
 | node h ks=>
  obtain ⟨b,off,c,rfl,hI,hne⟩:=hT.kids
  rcases hg with ⟨s',hs,_⟩ | ⟨g,hg16,hf⟩
  ·cases hs
  ·obtain ⟨m,rfl,hm,hf1,hf2,hf3⟩:=fit_node hf
   exact check_nodeF p h ks m b off c w S hg16 hm hI hf1 hf2 hf3 (fun t ht cs w S hT=>pchk_any p t m cs w S (by omega) (hf3 t ht) hT)
theorem gbytes_any (t:T) (cs:List Value) (w:World) (S:Nat->Prop) (hg:t.good) (hT:TreeAt w S t cs) (hb:t.bytes<=65536):Calls Tryz.prog 158 #[.agg cs.toArray] w fun e w'=>e=.returned (.int .i64 (t.bytes:Nat))/\Ch (fun _=>False) w w':=by
 rcases hg with ⟨s,rfl,h1,h2⟩ | ⟨g,hg16,hf⟩
 ·cases hT
  exact bytes_leaf s hb w
 ·exact bytes_any t g cs w S hf hT hb
theorem gnew_any (t:T) (cs:List Value) (w:World) (S:Nat->Prop) (hg:t.good) (hT:TreeAt w S t cs) (hb:t.cnt<=65536):Calls Tryz.prog 144 #[.agg cs.toArray] w fun e w'=>e=.returned (.int .i64 (t.cnt:Nat))/\Ch (fun _=>False) w w':=by
 rcases hg with ⟨s,rfl,h1,h2⟩ | ⟨g,hg16,hf⟩
 ·cases hT
  exact new_leaf s h1 h2 w
 ·exact new_any t g cs w S hg16 hf hT hb
theorem knd_ne (t:T):(t.knd == 1)=false:=by cases t <;> rfl
theorem pcheck_any (ab:Nat) (t:T) (cs:List Value) (w:World) (S:Nat->Prop) (hg:t.good) (hT:TreeAt w S t cs) (hb:t.bytes<=65536):Calls Tryz.prog 143 #[.pointer (some ⟨ab,0,none⟩),.agg cs.toArray] w fun e w'=>e=.returned (.int .i64 0)/\Ch (fun _=>False) w w':=by
 obtain ⟨s,a,n,c,rfl⟩:=hT.form
 have d1:=knd_ne t
 have d2:decide (65536 < t.bytes)=false:=decide_eq_false (by omega)
 have d3:decide ((65536:Int) < (t.bytes:Int))=false:=decide_eq_false (by omega)
 have HT:=hid hT
 have HG:=hid hg
 clear hT hg
 go_enter Tryz.func143,Tryz.ntmps143
 go_wp2_with fail
 refine calls_world fun W0 hW0=>?_
 have C0:=hid (show Ch (fun _=>False) w W0 from by rw [hW0];exact (Ch.refl _ w).alloc _)
 have B0:=hid (show Blk W0 w.heap.size 183 #[.int .u64 0,.int .i64 (Int.ofNat t.ht),.int .i64 0,.int .i64 0,.int .i64 0,.string s,.slice a n c] from by rw [hW0];exact Blk.new w _ _)
 clear hW0
 refine (kind_any t [.int .u64 0,.int .i64 (Int.ofNat t.ht),.int .i64 0,.int .i64 0,.int .i64 0,.string s,.slice a n c] W0 S HG.out (HT.out.keep C0.out (fun _ _ _=>id) (fun _ _ h=>h))).mono ?_
 rintro e W1 ⟨rfl,hc⟩
 have C1:=hid (C0.out.trans hc (fun _ _ h=>h))
 have B1:=hid (hc.blk B0.out id)
 clear hc B0 C0
 obtain ⟨r0,r1,r2,r3,r4,r5,r6⟩:=B1.out.c7
 go_wp2_with fail
 refine (checkF_any (some ⟨ab,0,none⟩) t [.int .u64 0,.int .i64 (Int.ofNat t.ht),.int .i64 0,.int .i64 0,.int .i64 0,.string s,.slice a n c] W1 S HG.out (HT.out.keep C1.out (fun _ _ _=>id) (fun _ _ h=>h))).mono ?_
 rintro e W2 ⟨rfl,hc⟩
 have C2:=hid (C1.out.trans hc (fun _ _ h=>h))
 have B2:=hid (hc.blk B1.out id)
 clear hc B1 C1 r0 r1 r2 r3 r4 r5 r6
 obtain ⟨r0,r1,r2,r3,r4,r5,r6⟩:=B2.out.c7
 go_wp2_with fail
 refine (gbytes_any t [.int .u64 0,.int .i64 (Int.ofNat t.ht),.int .i64 0,.int .i64 0,.int .i64 0,.string s,.slice a n c] W2 S HG.out (HT.out.keep C2.out (fun _ _ _=>id) (fun _ _ h=>h)) hb).mono ?_
 rintro e W3 ⟨rfl,hc⟩
 go_wp2_with fail
 go_ret
 exact ⟨rfl,C2.out.trans hc (fun _ _ h=>h)⟩
mutual
def T.meas:T->Ms
 | .leaf s=>mOf s
 | .node _ ks=>msum (T.measL ks)
def T.measL:List T->List Ms
 | []=>[]
 | t::ts=>t.meas::T.measL ts
end
structure Sp where
 h:Nat
 s:ByteArray
 ks:List Nat
 m:Ms
def rootL:Nat->List T->List Nat
 | _,[]=>[]
 | n,t::ts=>(n+t.cnt - 1)::rootL (n+t.cnt) ts
mutual
def T.post:Nat->T->List Sp
 | _,.leaf s=>[⟨0,s,[],mOf s⟩]
 | n,.node h ks=>T.postL n ks++[⟨h,⟨#[]⟩,rootL n ks,msum (T.measL ks)⟩]
def T.postL:Nat->List T->List Sp
 | _,[]=>[]
 | n,t::ts=>T.post n t++T.postL (n+t.cnt) ts
end
theorem measL_map (ks:List T):T.measL ks=ks.map T.meas:=by
 induction ks with
 | nil=>rfl
 | cons t ts ih=>simp [T.measL,ih]
theorem cnt_pos (t:T):0 < t.cnt:=by cases t <;> simp [T.cnt]
theorem post_len (t:T):∀n,(T.post n t).length=t.cnt:=by
 induction t using T.ind with
 | hl s=>intro n;simp [T.post,T.cnt]
 | hn h ks ih=>
  intro n
  have hl:∀(l:List T) (n:Nat),(∀t ∈ l,∀n,(T.post n t).length=t.cnt)->(T.postL n l).length=T.cntL l:=by
   intro l
   induction l with
   | nil=>intro n _;rfl
   | cons t ts ih'=>
    intro n h
    simp only [T.postL,List.length_append,T.cntL]
    rw [h t (by simp),ih' _ (fun t ht=>h t (by simp [ht]))]
  simp only [T.post,List.length_append,T.cnt,List.length_cons,List.length_nil]
  rw [hl ks n ih]
theorem postL_len (l:List T):∀n,(T.postL n l).length=T.cntL l:=by
 induction l with
 | nil=>intro n;rfl
 | cons t ts ih=>intro n;simp only [T.postL,List.length_append,T.cntL,post_len,ih]
theorem postL_snoc (l:List T) (t:T):∀n,T.postL n (l++[t])=T.postL n l++T.post (n+T.cntL l) t:=by
 induction l with
 | nil=>intro n;simp [T.postL,T.cntL]
 | cons u us ih=>intro n;simp only [List.cons_append,T.postL,ih,T.cntL,List.append_assoc,Nat.add_assoc]
theorem rootL_snoc (l:List T) (t:T):∀n,rootL n (l++[t])=rootL n l++[n+T.cntL l+t.cnt - 1]:=by
 induction l with
 | nil=>intro n;simp [rootL,T.cntL]
 | cons u us ih=>intro n;simp only [List.cons_append,rootL,ih,T.cntL,Nat.add_assoc]
theorem rootL_len (l:List T):∀n,(rootL n l).length=l.length:=by
 induction l with
 | nil=>intro n;rfl
 | cons u us ih=>intro n;simp [rootL,ih]
theorem rootL_bd (l:List T):∀n,∀j ∈ rootL n l,n<=j/\j < n+T.cntL l:=by
 induction l with
 | nil=>intro n j hj;simp [rootL] at hj
 | cons u us ih=>
  intro n j hj
  simp only [rootL,List.mem_cons] at hj
  have hu:=cnt_pos u
  simp only [T.cntL]
  rcases hj with rfl | hj
  ·omega
  ·have:=ih _ j hj
   omega
structure It where
 rb:Nat
 bp:Nat
 bc:Nat
 br:Nat
 b1:Nat
 b2:Nat
 sb:Nat
 c:Nat
def QB (w:World) (S:Nat->Prop) (k:Nat) (t:TypeId) (cs:Array Value):Prop:=Blk w k t cs/\S k
def QT (t:TypeId):Prop:=t=242\/t=246\/t=292\/t=229\/t=183\/t=293
def It.v (it:It):Value:=.func (.func 167) #[] #[.pointer (some ⟨it.bp,0,none⟩),.pointer (some ⟨it.bc,0,none⟩),.pointer (some ⟨it.br,0,none⟩)]
structure ItemM (w:World) (S:Nat->Prop) (pb:Nat) (f:Nat->Option Nat) (sp:Sp) (it:It):Prop where
 p:QB w S it.bp 242 #[.pointer (some ⟨pb,0,none⟩)]
 r:QB w S it.br 246 #[.pointer (some ⟨it.rb,0,none⟩)]
 c:(sp.h=0/\sp.ks=[]/\QB w S it.bc 292 #[.func (.func 161) #[] #[.pointer (some ⟨it.b1,0,none⟩)]]/\QB w S it.b1 229 #[.int .i64 0,.string sp.s,.slice none 0 0])\/
  (1<=sp.h/\sp.s=⟨#[]⟩/\QB w S it.bc 292 #[.func (.func 162) #[] #[.pointer (some ⟨it.b1,0,none⟩),.pointer (some ⟨it.b2,0,none⟩)]]/\(∃cs:Array Value,QB w S it.b1 183 cs/\cs[1]?=some (.int .i64 (sp.h:Int)))/\
   QB w S it.b2 293 #[.slice (some ⟨it.sb,0,none⟩) sp.ks.length it.c]/\∃cs:Array Value,QB w S it.sb 246 cs/\∀(i j:Nat),sp.ks[i]?=some j->∃r,f j=some r/\cs[i]?=some (.pointer (some ⟨r,0,none⟩)))
def RootM (w:World) (sp:Sp) (it:It) (at':Int):Prop:=Blk w it.rb 102 #[.int .u64 at',.int .i64 (sp.h:Int),.int .i64 sp.m.b,.int .i64 sp.m.r,.int .i64 sp.m.l]
theorem QB.keep {w w':World} {S S' fp:Nat->Prop} {k:Nat} {t:TypeId} {cs:Array Value} (h:QB w S k t cs) (ht:QT t) (c:Ch fp w w') (hf:∀k t cs,Blk w k t cs->QT t->S k->¬fp k) (hS:∀k,k < w.heap.size->S k->S' k):QB w' S' k t cs:=
 ⟨c.blk h.1 (hf k t cs h.1 ht h.2),hS k h.1.lt h.2⟩
theorem ItemM.keep {w w':World} {S S' fp:Nat->Prop} {pb:Nat} {f f':Nat->Option Nat} {sp:Sp} {it:It} (h:ItemM w S pb f sp it) (c:Ch fp w w') (hf:∀k t cs,Blk w k t cs->QT t->S k->¬fp k) (hS:∀k,k < w.heap.size->S k->S' k) (hff:∀j ∈ sp.ks,∀r,f j=some r->f' j=some r):ItemM w' S' pb f' sp it:=by
 refine ⟨h.p.keep (.inl rfl) c hf hS,h.r.keep (.inr (.inl rfl)) c hf hS,?_⟩
 rcases h.c with ⟨h0,h1,h2,h3⟩ | ⟨h1,h1s,h2,⟨cs,h3,h4⟩,h5,cs',h6,h7⟩
 ·exact .inl ⟨h0,h1,h2.keep (.inr (.inr (.inl rfl))) c hf hS,h3.keep (.inr (.inr (.inr (.inl rfl)))) c hf hS⟩
 ·refine .inr ⟨h1,h1s,h2.keep (.inr (.inr (.inl rfl))) c hf hS,⟨cs,h3.keep (.inr (.inr (.inr (.inr (.inl rfl))))) c hf hS,h4⟩,h5.keep (.inr (.inr (.inr (.inr (.inr rfl))))) c hf hS,cs',h6.keep (.inr (.inl rfl)) c hf hS,fun i j hi=>?_⟩
  obtain ⟨r,hr,hc⟩:=h7 i j hi
  exact ⟨r,hff j (List.mem_of_getElem? hi) r hr,hc⟩
theorem infoTd:(Tryz.prog.info? 276).map (fun i=>(i.zero,i.size,i.bytes))=some (some Value.nilFunc,1,8):=by kernel_rfl
def PutOut (B pb rb:Nat) (av todo rv:Value) (F:FuncId) (caps:Array Value) (n:Nat) (vals:List Value) (w:World) (e:Ending) (w':World):Prop:=
 ∃bp bc br todo',e=.returned (.tuple #[])/\Blk w' pb 248 #[av,todo',rv]/\w'.ownsRow B 276 1 todo' (n+1) (vals++[.func (.func 167) #[] #[.pointer (some ⟨bp,0,none⟩),.pointer (some ⟨bc,0,none⟩),.pointer (some ⟨br,0,none⟩)]])/\
  Blk w' bp 242 #[.pointer (some ⟨pb,0,none⟩)]/\Blk w' bc 292 #[.func (.func F) #[] caps]/\Blk w' br 246 #[.pointer (some ⟨rb,0,none⟩)]/\w.heap.size<=bp/\w.heap.size<=bc/\w.heap.size<=br/\Ch (fun k=>k=pb\/todo.ownBlock=some k) w w'/\Fresh w todo todo'
theorem put_any (B pb rb:Nat) (av todo rv:Value) (F:FuncId) (caps:Array Value) (n:Nat) (vals:List Value) (w:World) (hp:Blk w pb 248 #[av,todo,rv]) (ho:w.ownsRow B 276 1 todo n vals) (hB:B<=w.heap.size) (hn:n<=100000) :
  Calls Tryz.prog 160 #[.pointer (some ⟨pb,0,none⟩),.pointer (some ⟨rb,0,none⟩),.func (.func F) #[] caps] w (PutOut B pb rb av todo rv F caps n vals w):=by
 obtain ⟨i0,hi,hz0,hz1,hz2⟩:=info_parts infoTd
 obtain ⟨A0,c0,rfl,_⟩:=own_slice ho
 have HP:=hid hp
 have HO:=hid ho
 have hpl:=hp.lt
 clear hp ho
 go_enter Tryz.func160,Tryz.ntmps160
 go_wp2_with fail
 refine at_world fun W1 hW1=>?_
 obtain ⟨b0,hb0⟩:∃x,x=w.heap.size:=⟨_,rfl⟩
 have C1:=hid (show Ch (fun _=>False) w W1 from by rw [hW1];exact (((Ch.refl _ w).alloc _).alloc _).alloc _)
 have K0:=hid (show Blk W1 b0 242 #[.pointer (some ⟨pb,0,none⟩)] from by rw [hW1,hb0];exact ((Blk.new w _ _).alloc _).alloc _)
 have K1:=hid (show Blk W1 (b0+1) 246 #[.pointer (some ⟨rb,0,none⟩)] from by
  rw [hW1,hb0]
  have t:=(Blk.new (w.alloc (.cells #[.pointer (some ⟨pb,0,none⟩)] 242)) 246 #[.pointer (some ⟨rb,0,none⟩)]).alloc (.cells #[.func (.func F) #[] caps] 292)
  simpa using t)
 have K2:=hid (show Blk W1 (b0+2) 292 #[.func (.func F) #[] caps] from by
  rw [hW1,hb0]
  have t:=Blk.new ((w.alloc (.cells #[.pointer (some ⟨pb,0,none⟩)] 242)).alloc (.cells #[.pointer (some ⟨rb,0,none⟩)] 246)) 292 #[.func (.func F) #[] caps]
  simpa using t)
 clear hW1
 have hpb:pb < b0:=by omega
 have hBb:B<=b0:=by omega
 rw [show w.heap.size+1+1=b0+2 by omega,show w.heap.size+1=b0+1 by omega,<-hb0]
 have HZ:=hid hb0
 clear hb0 hpl hB
 have P1:=hid (C1.out.blk HP.out id)
 have O1:=hid (C1.out.own HO.out (fun _ _=>id))
 obtain ⟨SS,hSS⟩:∃S:Nat->Prop,∀j,S j↔(j=pb\/j=b0):=⟨_,fun _=>Iff.rfl⟩
 have hS1:Mix.Has SS pb:=(hSS _).2 (.inl rfl)
 have hS2:Mix.Has SS b0:=(hSS _).2 (.inr rfl)
 have HS:=hid hSS
 clear hSS
 have a0:W1.cell? ⟨b0,0,none⟩=some (.pointer (some ⟨pb,0,none⟩)):=K0.out.cell 0
 have a1:W1.cell? ⟨pb,1,none⟩=some (.slice A0 n c0):=P1.out.cell 1
 refine Mix.rg SS [4,4,1,1,4,1,3,3,0,0,2] [0,1,2,3,4,5,6,7,8,9,10] ?_
 repeat (first | (refine Mix.zp ?_;go_big_quiet_step (fail);refine wpQuiet_nil ?_) | (refine Mix.zs ?_;go_big_quiet_step (fail);refine wpQuiet_nil ?_))
 refine Mix.za fun W2 hW2=>?_
 obtain ⟨y2,rfl⟩:=hW2
 go_wp2_with fail
 obtain ⟨CL,hCL⟩:∃v:Value,v=.func (.func 167) #[] #[.pointer (some ⟨b0,0,none⟩),.pointer (some ⟨b0+2,0,none⟩),.pointer (some ⟨b0+1,0,none⟩)]:=⟨_,rfl⟩
 rw [<-hCL]
 have hone:CL.oneCell'=true:=by rw [hCL];rfl
 have HCL:=hid hCL
 clear hCL
 refine ⟨fun j hj=>(((Ch.refl (fun _=>False) W1).drewN y2).alloc _).block j (by rcases (HS.out j).1 hj with rfl | rfl;exact P1.out.lt;exact K0.out.lt) id,?_⟩
 refine Mix.mix_world fun V hV=>?_
 have D2:=hid (show Ch (fun _=>False) W1 V from by rw [hV];exact ((Ch.refl (fun _=>False) W1).drewN y2).alloc _)
 have T2:=hid (show Blk V W1.heap.size 276 #[CL] from by rw [hV];exact Blk.new (W1.drewN y2) _ _)
 clear hV
 have hzV:W1.heap.size < V.heap.size:=T2.out.lt
 have hzW:b0<=W1.heap.size:=Nat.le_of_lt K0.out.lt
 have O2:=hid (D2.out.own O1.out (fun _ _=>id))
 have P2:=hid (D2.out.blk P1.out id)
 refine Mix.za fun W3 hW3=>?_
 obtain ⟨y3,rfl⟩:=hW3
 refine wpList_app _ rfl _ _ 245 rfl B 276 i0 _ 1 8 Tryz.underlying245 hi hz0 hz1 hz2 rfl (by decide) (.slice A0 n c0) n vals rfl (((Ch.refl (fun _=>False) V).drewN y3).own O2.out (fun _ _=>id)) ⟨W1.heap.size,0,none⟩ 1 1 [CL] rfl rfl ?c1 ?c2 (by decide) ?c3 ?c4 ?c5 ?_
 case c1=>
  intro j u hu
  rw [addr_add0]
  exact ((T2.out.drewN y3).cell j).trans (by simpa using hu)
 case c2=>intro u hu;simp at hu;subst hu;exact hone
 case c3=>unfold maxLen;omega
 case c4=>omega
 case c5=>show B<=V.heap.size;omega
 intro v' w' hown' hgrow hfresh
 have CR:=hid (show Ch (fun k=>(Value.slice A0 n c0).ownBlock=some k) V w' from ((Ch.refl _ V).drewN y3).grown hgrow (fun k hk _=>hk))
 have OW:=hid hown'
 have HF:=hid hfresh
 have P3:=hid (CR.out.blk P2.out (P2.out.own O2.out (by decide)))
 obtain ⟨A3,c3,hv3,_⟩:=own_slice hown'
 subst hv3
 clear hown' hgrow hfresh a0 a1
 have r1:w'.cell? ⟨pb,1,none⟩=some (.slice A0 n c0):=P3.out.cell 1
 have s1:=P3.out.free 1
 go_wp2_with fail
 refine ⟨fun j hj=>CR.out.block j (by rcases (HS.out j).1 hj with rfl | rfl;exact P2.out.lt;exact (D2.out.blk K0.out id).lt) (by
  rcases (HS.out j).1 hj with rfl | rfl
  ·exact P2.out.own O2.out (by decide)
  ·exact (D2.out.blk K0.out id).own O2.out (by decide)),?_⟩
 iterate 2 (refine Mix.zq ?_;go_big_quiet_step (fail);refine wpQuiet_nil ?_)
 refine Mix.ze fun W4 hW4=>?_
 obtain ⟨y4,rfl⟩:=hW4
 go_wp2_with fail
 intro y5
 go_wp2_with fail
 go_end0
 have CF:Ch (fun k=>k=pb) w' (((w'.drewN y4).setCell ⟨pb,1,none⟩ (.slice A3 (n+1) c3)).drewN y5):=(((Ch.refl (fun k=>k=pb) w').drewN y4).set (fun _=>rfl) _).drewN y5
 have CVf:Ch (fun k=>k=pb\/(Value.slice A0 n c0).ownBlock=some k) V (((w'.drewN y4).setCell ⟨pb,1,none⟩ (.slice A3 (n+1) c3)).drewN y5):=(CR.out.mono (fun _ _ h=>.inr h)).trans CF (fun _ _ h=>.inl h)
 have kp:∀(g:Nat) (t:TypeId) (cs:Array Value),Blk W1 g t cs->t≠248->t≠276->Blk (((w'.drewN y4).setCell ⟨pb,1,none⟩ (.slice A3 (n+1) c3)).drewN y5) g t cs:=fun g t cs hb h1 h2=>CVf.blk (D2.out.blk hb id) (fun e=>by
  rcases e with e | e
  ·exact Blk.ne (D2.out.blk hb id) P2.out h1 e
  ·exact (D2.out.blk hb id).own O2.out h2 e)
 refine ⟨b0,b0+2,b0+1,.slice A3 (n+1) c3,rfl,((P3.out.drewN y4).put 1 _).drewN y5,?_,kp _ _ _ K0.out (by decide) (by decide),kp _ _ _ K2.out (by decide) (by decide),kp _ _ _ K1.out (by decide) (by decide),by have:=HZ.out;omega,by have:=HZ.out;omega,by have:=HZ.out;omega,?_,?_⟩
 ·rw [<-HCL.out]
  exact CF.own OW.out (fun k hk e=>by
   have:=P3.out.own OW.out (by decide)
   rw [e] at hk
   exact this hk)
 ·exact ((C1.out.trans D2.out (fun _ _ h=>h)).mono (fun _ _ e=>e.elim)).trans CVf (fun _ _ h=>h)
 ·rcases HF.out with e | e
  ·exact .inl e
  ·exact .inr (fun k hk=>by have:=e k hk;have h2:(V.drewN y3).heap.size=V.heap.size:=rfl;have:=HZ.out;omega)
theorem fold_b:∀(l:List Ms) (m0:Ms),(l.foldl Ms.add m0).b=m0.b+(l.map Ms.b).sum
 | [],m0=>by simp
 | m::l,m0=>by rw [List.foldl_cons,fold_b l];simp only [Ms.add,List.map_cons,List.sum_cons];omega
theorem msum_b (l:List Ms):(msum l).b=(l.map Ms.b).sum:=by unfold msum;rw [fold_b];simp
def Ms.ord (m:Ms):Prop:=0<=m.l/\m.l<=m.r/\m.r<=m.b
theorem fold_ord:∀(l:List Ms) (m0:Ms),m0.ord->(∀m ∈ l,m.ord)->(l.foldl Ms.add m0).ord
 | [],m0,h,_=>h
 | m::l,m0,h,hl=>fold_ord l (m0.add m) (by obtain ⟨a,b,c⟩:=h;obtain ⟨d,e,f⟩:=hl m (by simp);exact ⟨by simp only [Ms.add];omega,by simp only [Ms.add];omega,by simp only [Ms.add];omega⟩) (fun k hk=>hl k (by simp [hk]))
theorem msum_ord (l:List Ms) (h:∀m ∈ l,m.ord):(msum l).ord:=fold_ord l _ ⟨by decide,by decide,by decide⟩ h
theorem mOf_ord (s:ByteArray):(mOf s).ord:=by
 refine ⟨by simp only [mOf];omega,?_,cntP_len _ s⟩
 simp only [mOf]
 have:cntP (fun b=>b == 10) (bs s)<=cntP begB (bs s):=by
  unfold cntP
  refine filter_le _ _ ?_ _
  intro b hb
  simp at hb
  subst hb
  rfl
 omega
theorem meas_bytes (t:T):t.meas.b=(t.bytes:Int)/\t.meas.ord:=by
 induction t using T.ind with
 | hl s=>exact ⟨rfl,mOf_ord s⟩
 | hn h ks ih=>
  have hb:∀l:List T,(∀t ∈ l,t.meas.b=(t.bytes:Int))->(msum (T.measL l)).b=(T.bytesL l:Int):=by
   intro l
   induction l with
   | nil=>intro _;rfl
   | cons t ts ih'=>
    intro h
    have h2:=ih' (fun t ht=>h t (by simp [ht]))
    rw [msum_b] at h2 |-
    simp only [T.measL,List.map_cons,List.sum_cons,T.bytesL]
    rw [h2,h t (by simp)]
    push_cast
    rfl
  refine ⟨?_,?_⟩
  ·simp only [T.meas,T.bytes]
   exact hb ks (fun t ht=>(ih t ht).1)
  ·simp only [T.meas]
   refine msum_ord _ (fun m hm=>?_)
   rw [measL_map] at hm
   obtain ⟨t,ht,rfl⟩:=List.mem_map.1 hm
   exact (ih t ht).2
theorem measL_b (l:List T):(msum (T.measL l)).b=(T.bytesL l:Int):=(meas_bytes (.node 0 l)).1
theorem measL_ord (l:List T):(msum (T.measL l)).ord:=(meas_bytes (.node 0 l)).2
def fOf (n:Nat) (its:List It) (j:Nat):Option Nat:=if n<=j then (its[j - n]?).map It.rb else none
structure Its (w:World) (S:Nat->Prop) (pb n:Nat) (sps:List Sp) (its:List It):Prop where
 len:its.length=sps.length
 item:∀(i:Nat) (sp:Sp) (it:It),sps[i]?=some sp->its[i]?=some it->ItemM w S pb (fOf n its) sp it
 root:∀(i:Nat) (sp:Sp) (it:It),sps[i]?=some sp->its[i]?=some it->RootM w sp it 0
 diff:∀(i j:Nat) (it it':It),its[i]?=some it->its[j]?=some it'->i≠j->it.rb≠it'.rb
def AddOut (t:T) (B pb n:Nat) (av todo rv:Value) (vals:List Value) (w:World) (e:Ending) (w':World):Prop:=
 ∃its it0 todo',e=.returned (.pointer (some ⟨it0.rb,0,none⟩))/\its[t.cnt - 1]?=some it0/\Blk w' pb 248 #[av,todo',rv]/\w'.ownsRow B 276 1 todo' (n+t.cnt) (vals++its.map It.v)/\
  Its w' (fun k=>w.heap.size<=k) pb n (T.post n t) its/\(∀it ∈ its,w.heap.size<=it.rb)/\Ch (fun k=>k=pb\/todo.ownBlock=some k) w w'/\Fresh w todo todo'
theorem add_leaf (s:ByteArray) (B pb n:Nat) (av todo rv:Value) (vals:List Value) (w:World) (h1:1<=s.size) (h2:s.size<=16) (hp:Blk w pb 248 #[av,todo,rv]) (ho:w.ownsRow B 276 1 todo n vals) (hB:B<=w.heap.size) (hn:n<=60000) :
  Calls Tryz.prog 145 #[.pointer (some ⟨pb,0,none⟩),.agg #[.int .u64 0,.int .i64 0,.int .i64 0,.int .i64 0,.int .i64 0,.string s,.slice none 0 0]] w (AddOut (.leaf s) B pb n av todo rv vals w):=by
 have d3:=size_data (s:=s) (by omega)
 have HP:=hid hp
 have HO:=hid ho
 have hpl:=hp.lt
 clear hp ho
 go_enter Tryz.func145,Tryz.ntmps145
 go_wp2_with fail
 refine calls_world fun W1 hW1=>?_
 obtain ⟨b0,hb0⟩:∃x,x=w.heap.size:=⟨_,rfl⟩
 rw [show w.heap.size+1+1=b0+2 by omega,show w.heap.size+1=b0+1 by omega]
 have C1:=hid (show Ch (fun _=>False) w W1 from by rw [hW1];exact (((Ch.refl _ w).alloc _).alloc _).alloc _)
 have R1:=hid (show Blk W1 (b0+1) 102 #[.int .u64 0,.int .i64 0,.int .i64 0,.int .i64 0,.int .i64 0] from by
  rw [hW1,hb0]
  have t:=(Blk.new (w.alloc (.cells #[.int .u64 0,.int .i64 0,.int .i64 0,.int .i64 0,.int .i64 0,.string s,.slice none 0 0] 183)) 102 #[.int .u64 0,.int .i64 0,.int .i64 0,.int .i64 0,.int .i64 0]).alloc (.cells #[.int .i64 0,.string s,.slice none 0 0] 229)
  simpa using t)
 have X1:=hid (show Blk W1 (b0+2) 229 #[.int .i64 0,.string s,.slice none 0 0] from by
  rw [hW1,hb0]
  have t:=Blk.new ((w.alloc (.cells #[.int .u64 0,.int .i64 0,.int .i64 0,.int .i64 0,.int .i64 0,.string s,.slice none 0 0] 183)).alloc (.cells #[.int .u64 0,.int .i64 0,.int .i64 0,.int .i64 0,.int .i64 0] 102)) 229 #[.int .i64 0,.string s,.slice none 0 0]
  simpa using t)
 clear hW1
 have HZ:=hid hb0
 have hpb:pb < b0:=by omega
 have hBb:B<=b0:=by omega
 clear hb0 hpl hB
 have hnd:Nd.ok ⟨0,s,[]⟩:=.inl ⟨rfl,h1,h2,rfl⟩
 refine (nmeas_any (fun _=>True) ⟨0,s,[]⟩ none 0 0 W1 hnd (InP.nil _ _ _ _ _)).mono ?_
 rintro e w2 ⟨rfl,hc⟩
 rw [show (Nd.ms ⟨0,s,[]⟩)=mOf s from rfl]
 simp only [Ms.v]
 have C2:=hid (C1.out.trans hc (fun _ _ h=>h))
 have R2:=hid (hc.blk R1.out id)
 have X2:=hid (hc.blk X1.out id)
 clear hc R1 X1 C1
 obtain ⟨-,-,r2,r3,r4⟩:=R2.out.c5
 have s2:=R2.out.free 2
 have s3:=R2.out.free 3
 have s4:=R2.out.free 4
 go_wp2_with fail
 refine calls_world fun W3 hW3=>?_
 have D3:=hid (show Ch (fun k=>k=b0+1) w2 W3 from by rw [hW3];exact (((Ch.refl (fun k=>k=b0+1) w2).set (fun _=>rfl) _).set (fun _=>rfl) _).set (fun _=>rfl) _)
 have R3:=hid (show Blk W3 (b0+1) 102 #[.int .u64 0,.int .i64 0,.int .i64 (mOf s).b,.int .i64 (mOf s).r,.int .i64 (mOf s).l] from by rw [hW3];exact ((R2.out.put 2 _).put 3 _).put 4 _)
 have C3:=hid (show Ch (fun _=>False) w W3 from C2.out.trans D3.out (fun i hi e=>absurd hi (by have:=HZ.out;omega)))
 have X3:=hid (D3.out.blk X2.out (by omega))
 clear hW3 r2 r3 r4 s2 s3 s4 R2 X2
 refine (put_any B pb (b0+1) av todo rv 161 #[.pointer (some ⟨b0+2,0,none⟩)] n vals W3 (C3.out.blk HP.out id) (C3.out.own HO.out (fun _ _=>id)) (by have:=C3.out.size;have:=HZ.out;omega) (by omega)).mono ?_
 rintro e w4 ⟨bp,bc,br,todo',rfl,hp4,ho4,hbp,hbc,hbr,z1,z2,z3,hc4,hf4⟩
 go_wp2_with fail
 go_ret
 have hsz:=C3.out.size
 have hzz:=HZ.out
 have own3:=C3.out.own HO.out (fun _ _=>id)
 have hown:∀k,todo.ownBlock=some k->k < w.heap.size:=fun k hk=>(HO.out.lt k hk).2
 have kp:∀(g:Nat) (t:TypeId) (cs:Array Value),Blk W3 g t cs->b0<=g->Blk w4 g t cs:=fun g t cs hb hg=>hc4.blk hb (fun e=>by
  rcases e with e | e
  ·omega
  ·have:=hown g e;omega)
 refine ⟨[⟨b0+1,bp,bc,br,b0+2,0,0,0⟩],⟨b0+1,bp,bc,br,b0+2,0,0,0⟩,todo',rfl,rfl,hp4,ho4,⟨rfl,?_,?_,?_⟩,?_,?_,?_⟩
 ·intro i sp it hi hi'
  match i,hi,hi' with
  | 0,hi,hi'=>
   simp [T.post] at hi
   simp at hi'
   subst hi hi'
   exact ⟨⟨hbp,by show w.heap.size<=bp;omega⟩,⟨hbr,by show w.heap.size<=br;omega⟩,.inl ⟨rfl,rfl,⟨hbc,by show w.heap.size<=bc;omega⟩,⟨kp (b0+2) _ _ X3.out (by omega),by show w.heap.size<=b0+2;omega⟩⟩⟩
  | i+1,hi,hi'=>simp at hi'
 ·intro i sp it hi hi'
  match i,hi,hi' with
  | 0,hi,hi'=>
   simp [T.post] at hi
   simp at hi'
   subst hi hi'
   exact kp (b0+1) _ _ R3.out (by omega)
  | i+1,hi,hi'=>simp at hi'
 ·intro i j it it' hi hj hne
  match i,j,hi,hj with
  | 0,0,_,_=>exact absurd rfl hne
  | i+1,_,hi,_=>simp at hi
  | 0,j+1,_,hj=>simp at hj
 ·intro it hit
  simp at hit
  subst hit
  show w.heap.size<=b0+1
  omega
 ·exact (C3.out.mono (fun _ _ e=>e.elim)).trans hc4 (fun _ _ h=>h)
 ·rcases hf4 with e | e
  ·exact .inl e
  ·exact .inr (fun k hk=>by have:=e k hk;omega)
end Go.Proofs.YtjcdknhejcbpiaaGreat
