/- Lemmas that the proof of the last text leans on; no condition. -/
import Derived.Test.YtjcdknhejcbpiaaGreatAb10
import Derived.Test.YtjcdknhejcbpiaaGreatAb12
set_option maxRecDepth 100000
set_option maxHeartbeats 4000000
namespace Go.Proofs.YtjcdknhejcbpiaaGreat
open Go.RowKit
set_option linter.unusedVariables false
set_option linter.unusedSimpArgs false
set_option linter.unusedSectionVars false
theorem kind_leaf (s:ByteArray) (h1:1≤s.size) (h2:s.size≤16) (w:World):Calls Tryz.prog 156 #[.agg #[.int .u64 0,.int .i64 0,.int .i64 0,.int .i64 0,.int .i64 0,.string s,.slice none 0 0]] w fun e w'=>e=.returned (.int .i64 3)∧Ch (fun _=>False) w w':=by
 have d1:decide ((s.size:Int)≤16)=true:=decide_eq_true (by omega)
 have d2:decide (s.size≤16)=true:=decide_eq_true h2
 have d3:=size_data (s:=s) (by omega)
 go_enter Tryz.func156,Tryz.ntmps156
 go_wp2_with fail
 go_ret
 exact ⟨rfl,(Ch.refl _ w).alloc _⟩
theorem kind_node (h b off n c:Nat) (h1:1≤h) (h2:h≤16) (n1:2≤n) (n2:n≤4) (w:World):Calls Tryz.prog 156 #[.agg #[.int .u64 0,.int .i64 (h:Int),.int .i64 0,.int .i64 0,.int .i64 0,.string ⟨#[]⟩,.slice (some ⟨b,off,none⟩) n c]] w fun e w'=>e=.returned (.int .i64 4)∧Ch (fun _=>False) w w':=by
 have d0:((h:Int) == 0)=false:=by rw [beq_eq_false_iff_ne];omega
 have d1:decide ((1:Int)≤(h:Int))=true:=decide_eq_true (by omega)
 have d2:decide ((h:Int)≤16)=true:=decide_eq_true (by omega)
 have d3:decide (h≤16)=true:=decide_eq_true h2
 have d4:decide ((2:Int)≤(n:Int))=true:=decide_eq_true (by omega)
 have d5:decide (2≤n)=true:=decide_eq_true n1
 have d6:decide ((n:Int)≤4)=true:=decide_eq_true (by omega)
 have d7:decide (n≤4)=true:=decide_eq_true n2
 have d8:((n:Int) == 0)=false:=by rw [beq_eq_false_iff_ne];omega
 have d9:decide (1≤h)=true:=decide_eq_true h1
 go_enter Tryz.func156,Tryz.ntmps156
 go_wp2_with fail
 go_ret
 exact ⟨rfl,(Ch.refl _ w).alloc _⟩
theorem TreeAt.kids {w:World} {S:Nat→Prop} {h:Nat} {ks:List T} {cs:List Value} (ht:TreeAt w S (.node h ks) cs):∃b off c,cs=[.int .u64 0,.int .i64 (h:Int),.int .i64 0,.int .i64 0,.int .i64 0,.string ⟨#[]⟩,.slice (some ⟨b,off,none⟩) ks.length c]∧InTs w S (some ⟨b,off,none⟩) ks.length ks∧0 < ks.length:=by
 cases ht with
 | node h ks b off c css hS hb hne hl hk hc=>exact ⟨b,off,c,rfl,⟨rfl,fun _=>⟨b,off,css,rfl,hS,hb,hl,hk,hc⟩⟩,hne⟩
theorem bytesL_take (ks:List T) (k:Nat):T.bytesL (ks.take k)≤T.bytesL ks:=by
 have e:T.bytesL ks=T.bytesL (ks.take k)+T.bytesL (ks.drop k):=by
  rw [bytesL_sum,bytesL_sum,bytesL_sum,←List.sum_append,←List.map_append,List.take_append_drop]
 omega
theorem bytesL_snoc (ks:List T) (k:Nat) (t:T) (h:ks[k]?=some t):T.bytesL (ks.take (k+1))=T.bytesL (ks.take k)+t.bytes:=by
 have hk:=List.getElem?_eq_some_iff.1 h
 rw [List.take_succ_eq_append_getElem hk.1,hk.2,bytesL_sum,bytesL_sum]
 simp
theorem cntL_take (ks:List T) (k:Nat):T.cntL (ks.take k)≤T.cntL ks:=by
 have e:T.cntL ks=T.cntL (ks.take k)+T.cntL (ks.drop k):=by
  rw [cntL_sum,cntL_sum,cntL_sum,←List.sum_append,←List.map_append,List.take_append_drop]
 omega
theorem cntL_snoc (ks:List T) (k:Nat) (t:T) (h:ks[k]?=some t):T.cntL (ks.take (k+1))=T.cntL (ks.take k)+t.cnt:=by
 have hk:=List.getElem?_eq_some_iff.1 h
 rw [List.take_succ_eq_append_getElem hk.1,hk.2,cntL_sum,cntL_sum]
 simp
theorem bytes_leaf (s:ByteArray) (hb:s.size≤65536) (w:World):Calls Tryz.prog 158 #[.agg #[.int .u64 0,.int .i64 0,.int .i64 0,.int .i64 0,.int .i64 0,.string s,.slice none 0 0]] w fun e w'=>e=.returned (.int .i64 (s.size:Nat))∧Ch (fun _=>False) w w':=by
 go_enter Tryz.func158,Tryz.ntmps158
 go_wp2_with fail
 refine at_world fun W1 hW1=>?_
 have C1:=hid (show Ch (fun _=>False) w W1 from by rw [hW1];exact (Ch.refl _ w).alloc _)
 clear hW1
 go_loopw [3,16] (fun v i W=>v=.int .i64 (s.size:Int)∧i=.int .i64 0∧W=W1) (fun _ _ _=>0)
 case atStart=>exact ⟨rfl,rfl,rfl⟩
 case round=>
  obtain ⟨rfl,rfl,rfl⟩:=hrel
  go_wp2_with fail
  go_ret
  exact ⟨rfl,C1.out⟩
theorem fit_node {g h:Nat} {ks:List T} (h1:T.fit g (.node h ks)):∃m,g=m+1∧h=m+1∧2≤ks.length∧ks.length≤4∧∀t ∈ ks,T.fit m t:=by
 match g,h1 with
 | 0,h1=>exact h1.elim
 | m+1,h1=>exact ⟨m,rfl,h1.1,h1.2.1,h1.2.2.1,h1.2.2.2⟩
theorem fit_leaf {g:Nat} {s:ByteArray} (h1:T.fit g (.leaf s)):g=0∧8≤s.size∧s.size≤16:=by
 match g,h1 with
 | 0,h1=>exact ⟨rfl,h1.1,h1.2⟩
 | m+1,h1=>exact h1.elim
theorem bytes_any (t:T):∀(g:Nat) (cs:List Value) (w:World) (S:Nat→Prop),T.fit g t→TreeAt w S t cs→t.bytes≤65536→Calls Tryz.prog 158 #[.agg cs.toArray] w fun e w'=>e=.returned (.int .i64 (t.bytes:Nat))∧Ch (fun _=>False) w w':=by
 induction t using T.ind with
 | hl s=>
  intro g cs w S hf hT hb
  cases hT
  exact bytes_leaf s hb w
 | hn h ks ih=>
  intro g cs w S hf hT hb
  obtain ⟨b,off,c,rfl,hI,hne⟩:=hT.kids
  obtain ⟨m,rfl,hm,hf1,hf2,hf3⟩:=fit_node hf
  have HM:=hid hm
  clear hm
  simp only [T.bytes] at hb ⊢
  have HI:=hid hI
  have IH:=hid ih
  have HF:=hid hf3
  clear hI hT ih hf hf3
  show Calls Tryz.prog 158 #[.agg #[.int .u64 0,.int .i64 (h:Int),.int .i64 0,.int .i64 0,.int .i64 0,.string ⟨#[]⟩,.slice (some ⟨b,off,none⟩) ks.length c]] w _
  obtain ⟨n,hn⟩:∃n,n=ks.length:=⟨_,rfl⟩
  obtain ⟨TOT,hTOT⟩:∃x,x=T.bytesL ks:=⟨_,rfl⟩
  rw [←hn] at hne hf1 hf2
  rw [←hTOT] at hb
  rw [←hn,←hTOT]
  have HN:=hid hn
  have HT:=hid hTOT
  clear hn hTOT
  go_enter Tryz.func158,Tryz.ntmps158
  go_wp2_with fail
  refine at_world fun W1 hW1=>?_
  have C1:=hid (show Ch (fun _=>False) w W1 from by rw [hW1];exact (Ch.refl _ w).alloc _)
  clear hW1
  go_loopw [3,16] (fun v i W=>∃k:Nat,k≤n∧i=.int .i64 (k:Int)∧v=.int .i64 (T.bytesL (ks.take k):Nat)∧Ch (fun _=>False) w W) (fun _ i _=>n - (intOf i).toNat)
  case atStart=>exact ⟨0,Nat.zero_le _,rfl,rfl,C1.out⟩
  case round=>
   clear C1
   obtain ⟨k,hk,rfl,rfl,hCh⟩:=hrel
   by_cases hlt:k < n
   ·have hlt':k < ks.length:=by rw [←HN.out];exact hlt
    obtain ⟨x,hx⟩:∃x,ks[k]?=some x:=⟨_,List.getElem?_eq_getElem hlt'⟩
    have hI:=HI.out.keep hCh (fun _ _ _=>id) (fun _ _ h=>h)
    obtain ⟨cx,hcx,_,_,hcell⟩:=hI.at k x hx
    obtain ⟨xs,xa,xn,xc,rfl⟩:=hcx.form
    have c0:wr.cell? ⟨b,off+k * 7,none⟩=some (.int .u64 0):=hcell 0 _ rfl
    have c1:wr.cell? ⟨b,off+k * 7+1,none⟩=some (.int .i64 (Int.ofNat x.ht)):=hcell 1 _ rfl
    have c2:wr.cell? ⟨b,off+k * 7+2,none⟩=some (.int .i64 0):=hcell 2 _ rfl
    have c3:wr.cell? ⟨b,off+k * 7+3,none⟩=some (.int .i64 0):=hcell 3 _ rfl
    have c4:wr.cell? ⟨b,off+k * 7+4,none⟩=some (.int .i64 0):=hcell 4 _ rfl
    have c5:wr.cell? ⟨b,off+k * 7+5,none⟩=some (.string xs):=hcell 5 _ rfl
    have c6:wr.cell? ⟨b,off+k * 7+6,none⟩=some (.slice xa xn xc):=hcell 6 _ rfl
    have HX:=hid hcx
    have HXM:=hid (List.mem_of_getElem? hx)
    have hsn:=bytesL_snoc ks k x hx
    have htk:=bytesL_take ks (k+1)
    rw [←HT.out] at htk
    obtain ⟨q,hq⟩:∃q,q=T.bytesL (ks.take k):=⟨_,rfl⟩
    rw [←hq] at hsn
    rw [←hq]
    have hxb:x.bytes≤65536:=by omega
    have hqb:q+x.bytes≤65536:=by omega
    have HSN:=hid hsn
    have HCH:=hid hCh
    clear hcell hcx hx hI hsn htk hq hCh
    have y1:decide (k < n)=true:=decide_eq_true hlt
    have y2:decide ((k:Int) < (n:Int))=true:=decide_eq_true (by omega)
    go_wp2_with fail
    refine calls_world fun W3 hW3=>?_
    have D3:=hid (show Ch (fun _=>False) wr W3 from by rw [hW3];exact (Ch.refl _ wr).alloc _)
    clear hW3
    refine (IH.out x HXM.out m [.int .u64 0,.int .i64 (Int.ofNat x.ht),.int .i64 0,.int .i64 0,.int .i64 0,.string xs,.slice xa xn xc] W3 S (HF.out x HXM.out) (HX.out.keep D3.out (fun _ _ _=>id) (fun _ _ h=>h)) hxb).mono ?_
    rintro e w4 ⟨rfl,hc4⟩
    go_wp2_with fail
    go_roundw
    case rel=>exact ⟨k+1,by omega,by go_num,by rw [HSN.out];go_num,(HCH.out.trans D3.out (fun _ _ h=>h)).trans hc4 (fun _ _ h=>h)⟩
    case measure=>simp [intOf];omega
   ·obtain rfl:n=k:=by omega
    have y1:decide (n < n)=false:=decide_eq_false (by omega)
    rw [List.take_of_length_le (by rw [HN.out];exact Nat.le_refl _)]
    rw [←HT.out]
    go_wp2_with fail
    go_ret
    exact ⟨rfl,hCh⟩
def T.knd:T→Int
 | .leaf _=>3
 | .node _ _=>4
theorem kind_any (t:T) (cs:List Value) (w:World) (S:Nat→Prop) (hg:t.good) (hT:TreeAt w S t cs):Calls Tryz.prog 156 #[.agg cs.toArray] w fun e w'=>e=.returned (.int .i64 t.knd)∧Ch (fun _=>False) w w':=by
 cases t with
 | leaf s=>
  cases hT
  rcases hg with ⟨s',hs,h1,h2⟩ | ⟨g,_,hf⟩
  ·injection hs with hs
   subst hs
   exact kind_leaf s h1 h2 w
  ·obtain ⟨_,h1,h2⟩:=fit_leaf hf
   exact kind_leaf s (by omega) h2 w
 | node h ks=>
  obtain ⟨b,off,c,rfl,hI,hne⟩:=hT.kids
  rcases hg with ⟨s',hs,_⟩ | ⟨g,hg16,hf⟩
  ·cases hs
  ·obtain ⟨m,rfl,hm,h1,h2,_⟩:=fit_node hf
   exact kind_node h b off ks.length c (by omega) (by omega) h1 h2 w
theorem fit_good {g:Nat} {t:T} (h:g≤16) (hf:T.fit g t):t.good:=.inr ⟨g,h,hf⟩
theorem new_leaf (s:ByteArray) (h1:1≤s.size) (h2:s.size≤16) (w:World):Calls Tryz.prog 144 #[.agg #[.int .u64 0,.int .i64 0,.int .i64 0,.int .i64 0,.int .i64 0,.string s,.slice none 0 0]] w fun e w'=>e=.returned (.int .i64 1)∧Ch (fun _=>False) w w':=by
 go_enter Tryz.func144,Tryz.ntmps144
 go_wp2_with fail
 refine calls_world fun W0 hW0=>?_
 have C0:=hid (show Ch (fun _=>False) w W0 from by rw [hW0];exact (Ch.refl _ w).alloc _)
 have B0:=hid (show Blk W0 w.heap.size 183 #[.int .u64 0,.int .i64 0,.int .i64 0,.int .i64 0,.int .i64 0,.string s,.slice none 0 0] from by rw [hW0];exact Blk.new w _ _)
 clear hW0
 refine (kind_leaf s h1 h2 W0).mono ?_
 rintro e W1 ⟨rfl,hc⟩
 have C1:=hid (C0.out.trans hc (fun _ _ h=>h))
 have r6:W1.cell? ⟨w.heap.size,6,none⟩=some (.slice none 0 0):=(hc.blk B0.out id).cell 6
 clear hc
 go_wp2_with fail
 go_loopw [3,18] (fun v i W=>v=.int .i64 1∧i=.int .i64 0∧W=W1) (fun _ _ _=>0)
 case atStart=>exact ⟨rfl,rfl,rfl⟩
 case round=>
  obtain ⟨rfl,rfl,rfl⟩:=hrel
  go_wp2_with fail
  go_ret
  exact ⟨rfl,C1.out⟩
theorem new_any (t:T):∀(g:Nat) (cs:List Value) (w:World) (S:Nat→Prop),g≤16→T.fit g t→TreeAt w S t cs→t.cnt≤65536→Calls Tryz.prog 144 #[.agg cs.toArray] w fun e w'=>e=.returned (.int .i64 (t.cnt:Nat))∧Ch (fun _=>False) w w':=by
 induction t using T.ind with
 | hl s=>
  intro g cs w S hg hf hT hb
  cases hT
  obtain ⟨_,h1,h2⟩:=fit_leaf hf
  exact new_leaf s (by omega) h2 w
 | hn h ks ih=>
  intro g cs w S hg hf hT hb
  have hkind:=fun w' (hT':TreeAt w' S (.node h ks) cs)=>kind_any (.node h ks) cs w' S (fit_good hg hf) hT'
  have hT0:=hT
  obtain ⟨b,off,c,rfl,hI,hne⟩:=hT.kids
  obtain ⟨m,rfl,hm,hf1,hf2,hf3⟩:=fit_node hf
  simp only [T.cnt] at hb ⊢
  have HM:=hid hm
  have HI:=hid hI
  have IH:=hid ih
  have HF:=hid hf3
  have HK:=hid hkind
  have HT0:=hid hT0
  have hg16:m≤16:=by omega
  clear hI hT ih hf hf3 hm hkind hT0 hg
  show Calls Tryz.prog 144 #[.agg #[.int .u64 0,.int .i64 (h:Int),.int .i64 0,.int .i64 0,.int .i64 0,.string ⟨#[]⟩,.slice (some ⟨b,off,none⟩) ks.length c]] w _
  obtain ⟨n,hn⟩:∃n,n=ks.length:=⟨_,rfl⟩
  obtain ⟨TOT,hTOT⟩:∃x,x=T.cntL ks:=⟨_,rfl⟩
  rw [←hn] at hne hf1 hf2 HK HT0
  rw [←hTOT] at hb
  rw [←hn,←hTOT]
  have HN:=hid hn
  have HT:=hid hTOT
  clear hn hTOT
  go_enter Tryz.func144,Tryz.ntmps144
  go_wp2_with fail
  refine calls_world fun W0 hW0=>?_
  have C0:=hid (show Ch (fun _=>False) w W0 from by rw [hW0];exact (Ch.refl _ w).alloc _)
  have B0:=hid (show Blk W0 w.heap.size 183 #[.int .u64 0,.int .i64 (h:Int),.int .i64 0,.int .i64 0,.int .i64 0,.string ⟨#[]⟩,.slice (some ⟨b,off,none⟩) n c] from by rw [hW0];exact Blk.new w _ _)
  clear hW0
  refine (HK.out W0 (HT0.out.keep C0.out (fun _ _ _=>id) (fun _ _ h=>h))).mono ?_
  rintro e W1 ⟨rfl,hc⟩
  have C1:=hid (C0.out.trans hc (fun _ _ h=>h))
  have r6:W1.cell? ⟨w.heap.size,6,none⟩=some (.slice (some ⟨b,off,none⟩) n c):=(hc.blk B0.out id).cell 6
  clear hc B0 C0 HK HT0
  simp only [T.knd]
  go_wp2_with fail
  go_loopw [3,18] (fun v i W=>∃k:Nat,k≤n∧i=.int .i64 (k:Int)∧v=.int .i64 ((T.cntL (ks.take k):Int)+1)∧Ch (fun _=>False) w W) (fun _ i _=>n - (intOf i).toNat)
  case atStart=>exact ⟨0,Nat.zero_le _,rfl,rfl,C1.out⟩
  case round=>
   clear C1 r6
   obtain ⟨k,hk,rfl,rfl,hCh⟩:=hrel
   by_cases hlt:k < n
   ·have hlt':k < ks.length:=by rw [←HN.out];exact hlt
    obtain ⟨x,hx⟩:∃x,ks[k]?=some x:=⟨_,List.getElem?_eq_getElem hlt'⟩
    have hI:=HI.out.keep hCh (fun _ _ _=>id) (fun _ _ h=>h)
    obtain ⟨cx,hcx,_,_,hcell⟩:=hI.at k x hx
    obtain ⟨xs,xa,xn,xc,rfl⟩:=hcx.form
    have c0:wr.cell? ⟨b,off+k * 7,none⟩=some (.int .u64 0):=hcell 0 _ rfl
    have c1:wr.cell? ⟨b,off+k * 7+1,none⟩=some (.int .i64 (Int.ofNat x.ht)):=hcell 1 _ rfl
    have c2:wr.cell? ⟨b,off+k * 7+2,none⟩=some (.int .i64 0):=hcell 2 _ rfl
    have c3:wr.cell? ⟨b,off+k * 7+3,none⟩=some (.int .i64 0):=hcell 3 _ rfl
    have c4:wr.cell? ⟨b,off+k * 7+4,none⟩=some (.int .i64 0):=hcell 4 _ rfl
    have c5:wr.cell? ⟨b,off+k * 7+5,none⟩=some (.string xs):=hcell 5 _ rfl
    have c6:wr.cell? ⟨b,off+k * 7+6,none⟩=some (.slice xa xn xc):=hcell 6 _ rfl
    have HX:=hid hcx
    have HXM:=hid (List.mem_of_getElem? hx)
    have hsn:=cntL_snoc ks k x hx
    have htk:=cntL_take ks (k+1)
    rw [←HT.out] at htk
    obtain ⟨q,hq⟩:∃q,q=T.cntL (ks.take k):=⟨_,rfl⟩
    rw [←hq] at hsn
    rw [←hq]
    have hxb:x.cnt≤65536:=by omega
    have hqb:q+x.cnt≤65536:=by omega
    have HSN:=hid hsn
    have HCH:=hid hCh
    clear hcell hcx hx hI hsn htk hq hCh
    have y1:decide (k < n)=true:=decide_eq_true hlt
    have y2:decide ((k:Int) < (n:Int))=true:=decide_eq_true (by omega)
    go_wp2_with fail
    refine calls_world fun W3 hW3=>?_
    have D3:=hid (show Ch (fun _=>False) wr W3 from by rw [hW3];exact (Ch.refl _ wr).alloc _)
    clear hW3
    refine (IH.out x HXM.out m [.int .u64 0,.int .i64 (Int.ofNat x.ht),.int .i64 0,.int .i64 0,.int .i64 0,.string xs,.slice xa xn xc] W3 S hg16 (HF.out x HXM.out) (HX.out.keep D3.out (fun _ _ _=>id) (fun _ _ h=>h)) hxb).mono ?_
    rintro e w4 ⟨rfl,hc4⟩
    go_wp2_with fail
    go_roundw
    case rel=>exact ⟨k+1,by omega,by go_num,by rw [HSN.out];go_num,(HCH.out.trans D3.out (fun _ _ h=>h)).trans hc4 (fun _ _ h=>h)⟩
    case measure=>simp [intOf];omega
   ·obtain rfl:n=k:=by omega
    have y1:decide (n < n)=false:=decide_eq_false (by omega)
    rw [List.take_of_length_le (by rw [HN.out];exact Nat.le_refl _)]
    rw [←HT.out]
    go_wp2_with fail
    go_ret
    exact ⟨by push_cast;rfl,hCh⟩
theorem check_leafT (p:Option Addr) (s:ByteArray) (h8:8≤s.size) (h2:s.size≤16) (w:World):Calls Tryz.prog 157 #[.pointer p,.agg #[.int .u64 0,.int .i64 0,.int .i64 0,.int .i64 0,.int .i64 0,.string s,.slice none 0 0],.bool true,.int .i64 0] w fun e w'=>e=.returned (.int .i64 0)∧Ch (fun _=>False) w w':=by
 have d1:decide ((s.size:Int) < 8)=false:=decide_eq_false (by omega)
 go_enter Tryz.func157,Tryz.ntmps157
 go_wp2_with fail
 refine calls_world fun W0 hW0=>?_
 have C0:=hid (show Ch (fun _=>False) w W0 from by rw [hW0];exact (Ch.refl _ w).alloc _)
 have B0:=hid (show Blk W0 w.heap.size 183 #[.int .u64 0,.int .i64 0,.int .i64 0,.int .i64 0,.int .i64 0,.string s,.slice none 0 0] from by rw [hW0];exact Blk.new w _ _)
 clear hW0
 refine (kind_leaf s (by omega) h2 W0).mono ?_
 rintro e W1 ⟨rfl,hc⟩
 have C1:=hid (C0.out.trans hc (fun _ _ h=>h))
 have B1:=hid (hc.blk B0.out id)
 have r1:W1.cell? ⟨w.heap.size,1,none⟩=some (.int .i64 0):=B1.out.cell 1
 have r5:W1.cell? ⟨w.heap.size,5,none⟩=some (.string s):=B1.out.cell 5
 have r0:W1.cell? ⟨w.heap.size,0,none⟩=some (.int .u64 0):=B1.out.cell 0
 have r2:W1.cell? ⟨w.heap.size,2,none⟩=some (.int .i64 0):=B1.out.cell 2
 have r3:W1.cell? ⟨w.heap.size,3,none⟩=some (.int .i64 0):=B1.out.cell 3
 have r4:W1.cell? ⟨w.heap.size,4,none⟩=some (.int .i64 0):=B1.out.cell 4
 have r6:W1.cell? ⟨w.heap.size,6,none⟩=some (.slice none 0 0):=B1.out.cell 6
 clear hc
 go_wp2_with fail
 refine (bytes_leaf s (by omega) W1).mono ?_
 rintro e WL ⟨rfl,hc⟩
 have CL:=hid (C1.out.trans hc (fun _ _ h=>h))
 have r6':WL.cell? ⟨w.heap.size,6,none⟩=some (.slice none 0 0):=(hc.blk B1.out id).cell 6
 clear hc r0 r1 r2 r3 r4 r5 r6
 go_wp2_with fail
 go_loopw [58] (fun i W=>i=.int .i64 0∧W=WL) (fun _ _=>0)
 case atStart=>exact ⟨rfl,rfl⟩
 case round=>
  obtain ⟨rfl,rfl⟩:=hrel
  go_wp2_with fail
  go_ret
  exact ⟨rfl,CL.out⟩
theorem check_leafF (p:Option Addr) (s:ByteArray) (h8:1≤s.size) (h2:s.size≤16) (w:World):Calls Tryz.prog 157 #[.pointer p,.agg #[.int .u64 0,.int .i64 0,.int .i64 0,.int .i64 0,.int .i64 0,.string s,.slice none 0 0],.bool false,.int .i64 0] w fun e w'=>e=.returned (.int .i64 0)∧Ch (fun _=>False) w w':=by
 go_enter Tryz.func157,Tryz.ntmps157
 go_wp2_with fail
 refine calls_world fun W0 hW0=>?_
 have C0:=hid (show Ch (fun _=>False) w W0 from by rw [hW0];exact (Ch.refl _ w).alloc _)
 have B0:=hid (show Blk W0 w.heap.size 183 #[.int .u64 0,.int .i64 0,.int .i64 0,.int .i64 0,.int .i64 0,.string s,.slice none 0 0] from by rw [hW0];exact Blk.new w _ _)
 clear hW0
 refine (kind_leaf s (by omega) h2 W0).mono ?_
 rintro e W1 ⟨rfl,hc⟩
 have C1:=hid (C0.out.trans hc (fun _ _ h=>h))
 have B1:=hid (hc.blk B0.out id)
 have r1:W1.cell? ⟨w.heap.size,1,none⟩=some (.int .i64 0):=B1.out.cell 1
 have r6:W1.cell? ⟨w.heap.size,6,none⟩=some (.slice none 0 0):=B1.out.cell 6
 clear hc
 go_wp2_with fail
 go_loopw [58] (fun i W=>i=.int .i64 0∧W=W1) (fun _ _=>0)
 case atStart=>exact ⟨rfl,rfl⟩
 case round=>
  obtain ⟨rfl,rfl⟩:=hrel
  go_wp2_with fail
  go_ret
  exact ⟨rfl,C1.out⟩
theorem check_nodeT (p:Option Addr) (h:Nat) (ks:List T) (m b off c:Nat) (w:World) (S:Nat→Prop) (hm16:m+1≤16) (hm:h=m+1) (hI:InTs w S (some ⟨b,off,none⟩) ks.length ks) (hf1:2≤ks.length) (hf2:ks.length≤4) (hf3:∀t ∈ ks,T.fit m t)
  (ih:∀t ∈ ks,∀(cs:List Value) (w:World) (S:Nat→Prop),TreeAt w S t cs→Calls Tryz.prog 157 #[.pointer p,.agg cs.toArray,.bool true,.int .i64 (m:Int)] w fun e w'=>e=.returned (.int .i64 0)∧Ch (fun _=>False) w w') :
  Calls Tryz.prog 157 #[.pointer p,.agg #[.int .u64 0,.int .i64 (h:Int),.int .i64 0,.int .i64 0,.int .i64 0,.string ⟨#[]⟩,.slice (some ⟨b,off,none⟩) ks.length c],.bool true,.int .i64 (h:Int)] w fun e w'=>e=.returned (.int .i64 0)∧Ch (fun _=>False) w w':=by
 have hh1:1≤h:=by omega
 have hh2:h≤16:=by omega
 have d0:((h:Int) == 0)=false:=by rw [beq_eq_false_iff_ne];omega
 have d1:((h:Int) != (h:Int))=false:=by simp
 have hm1:(h:Int) - 1=(m:Int):=by omega
 have HI:=hid hI
 have IH:=hid ih
 have HM1:=hid hm1
 clear hI ih hf3 hm hm1
 obtain ⟨n,hn⟩:∃n,n=ks.length:=⟨_,rfl⟩
 rw [←hn] at hf1 hf2
 rw [←hn]
 have HN:=hid hn
 clear hn
 go_enter Tryz.func157,Tryz.ntmps157
 go_wp2_with fail
 refine calls_world fun W0 hW0=>?_
 have C0:=hid (show Ch (fun _=>False) w W0 from by rw [hW0];exact (Ch.refl _ w).alloc _)
 have B0:=hid (show Blk W0 w.heap.size 183 #[.int .u64 0,.int .i64 (h:Int),.int .i64 0,.int .i64 0,.int .i64 0,.string ⟨#[]⟩,.slice (some ⟨b,off,none⟩) n c] from by rw [hW0];exact Blk.new w _ _)
 clear hW0
 refine (kind_node h b off n c hh1 hh2 hf1 hf2 W0).mono ?_
 rintro e W1 ⟨rfl,hc⟩
 have C1:=hid (C0.out.trans hc (fun _ _ h=>h))
 have B1:=hid (hc.blk B0.out id)
 have r1:W1.cell? ⟨w.heap.size,1,none⟩=some (.int .i64 (h:Int)):=B1.out.cell 1
 have r6:W1.cell? ⟨w.heap.size,6,none⟩=some (.slice (some ⟨b,off,none⟩) n c):=B1.out.cell 6
 clear hc B0 C0
 have hbl:=B1.out.lt
 go_wp2_with fail
 go_loopw [58] (fun i W=>∃k:Nat,k≤n∧i=.int .i64 (k:Int)∧Ch (fun _=>False) W1 W) (fun i _=>n - (intOf i).toNat)
 case atStart=>exact ⟨0,Nat.zero_le _,rfl,Ch.refl _ _⟩
 case round=>
  clear r1 r6
  obtain ⟨k,hk,rfl,hCh⟩:=hrel
  by_cases hlt:k < n
  ·have hlt':k < ks.length:=by rw [←HN.out];exact hlt
   obtain ⟨x,hx⟩:∃x,ks[k]?=some x:=⟨_,List.getElem?_eq_getElem hlt'⟩
   have hI:=HI.out.keep (C1.out.trans hCh (fun _ _ h=>h)) (fun _ _ _=>id) (fun _ _ h=>h)
   obtain ⟨cx,hcx,_,_,hcell⟩:=hI.at k x hx
   obtain ⟨xs,xa,xn,xc,rfl⟩:=hcx.form
   have c0:wr.cell? ⟨b,off+k * 7,none⟩=some (.int .u64 0):=hcell 0 _ rfl
   have c1:wr.cell? ⟨b,off+k * 7+1,none⟩=some (.int .i64 (Int.ofNat x.ht)):=hcell 1 _ rfl
   have c2:wr.cell? ⟨b,off+k * 7+2,none⟩=some (.int .i64 0):=hcell 2 _ rfl
   have c3:wr.cell? ⟨b,off+k * 7+3,none⟩=some (.int .i64 0):=hcell 3 _ rfl
   have c4:wr.cell? ⟨b,off+k * 7+4,none⟩=some (.int .i64 0):=hcell 4 _ rfl
   have c5:wr.cell? ⟨b,off+k * 7+5,none⟩=some (.string xs):=hcell 5 _ rfl
   have c6:wr.cell? ⟨b,off+k * 7+6,none⟩=some (.slice xa xn xc):=hcell 6 _ rfl
   have HX:=hid hcx
   have HXM:=hid (List.mem_of_getElem? hx)
   have HCH:=hid hCh
   have r1:wr.cell? ⟨w.heap.size,1,none⟩=some (.int .i64 (h:Int)):=(hCh.blk B1.out id).cell 1
   have hbw:w.heap.size < wr.heap.size:=by have:=hCh.size;omega
   have hb1:w.heap.size≠wr.heap.size:=Nat.ne_of_lt hbw
   have hb2:wr.heap.size≠w.heap.size:=Ne.symm hb1
   clear hcell hcx hx hI hCh
   have y1:decide (k < n)=true:=decide_eq_true hlt
   have y2:decide ((k:Int) < (n:Int))=true:=decide_eq_true (by omega)
   go_wp2_with fail
   refine calls_world fun W3 hW3=>?_
   have D3:=hid (show Ch (fun _=>False) wr W3 from by rw [hW3];exact (Ch.refl _ wr).alloc _)
   clear hW3
   rw [HM1.out]
   refine (IH.out x HXM.out [.int .u64 0,.int .i64 (Int.ofNat x.ht),.int .i64 0,.int .i64 0,.int .i64 0,.string xs,.slice xa xn xc] W3 S (HX.out.keep D3.out (fun _ _ _=>id) (fun _ _ h=>h))).mono ?_
   rintro e w4 ⟨rfl,hc4⟩
   go_wp2_with fail
   refine ⟨⟨k+1,by omega,by push_cast;rfl,(HCH.out.trans D3.out (fun _ _ h=>h)).trans hc4 (fun _ _ h=>h)⟩,by simp only [intOf];omega⟩
  ·obtain rfl:n=k:=by omega
   have y1:decide (n < n)=false:=decide_eq_false (by omega)
   go_wp2_with fail
   go_ret
   exact ⟨rfl,C1.out.trans hCh (fun _ _ h=>h)⟩
theorem check_nodeF (p:Option Addr) (h:Nat) (ks:List T) (m b off c:Nat) (w:World) (S:Nat→Prop) (hm16:m+1≤16) (hm:h=m+1) (hI:InTs w S (some ⟨b,off,none⟩) ks.length ks) (hf1:2≤ks.length) (hf2:ks.length≤4) (hf3:∀t ∈ ks,T.fit m t)
  (ih:∀t ∈ ks,∀(cs:List Value) (w:World) (S:Nat→Prop),TreeAt w S t cs→Calls Tryz.prog 157 #[.pointer p,.agg cs.toArray,.bool true,.int .i64 (m:Int)] w fun e w'=>e=.returned (.int .i64 0)∧Ch (fun _=>False) w w') :
  Calls Tryz.prog 157 #[.pointer p,.agg #[.int .u64 0,.int .i64 (h:Int),.int .i64 0,.int .i64 0,.int .i64 0,.string ⟨#[]⟩,.slice (some ⟨b,off,none⟩) ks.length c],.bool false,.int .i64 0] w fun e w'=>e=.returned (.int .i64 0)∧Ch (fun _=>False) w w':=by
 have hh1:1≤h:=by omega
 have hh2:h≤16:=by omega
 have d0:((h:Int) == 0)=false:=by rw [beq_eq_false_iff_ne];omega
 have d1:((h:Int) != (h:Int))=false:=by simp
 have hm1:(h:Int) - 1=(m:Int):=by omega
 have HI:=hid hI
 have IH:=hid ih
 have HM1:=hid hm1
 clear hI ih hf3 hm hm1
 obtain ⟨n,hn⟩:∃n,n=ks.length:=⟨_,rfl⟩
 rw [←hn] at hf1 hf2
 rw [←hn]
 have HN:=hid hn
 clear hn
 go_enter Tryz.func157,Tryz.ntmps157
 go_wp2_with fail
 refine calls_world fun W0 hW0=>?_
 have C0:=hid (show Ch (fun _=>False) w W0 from by rw [hW0];exact (Ch.refl _ w).alloc _)
 have B0:=hid (show Blk W0 w.heap.size 183 #[.int .u64 0,.int .i64 (h:Int),.int .i64 0,.int .i64 0,.int .i64 0,.string ⟨#[]⟩,.slice (some ⟨b,off,none⟩) n c] from by rw [hW0];exact Blk.new w _ _)
 clear hW0
 refine (kind_node h b off n c hh1 hh2 hf1 hf2 W0).mono ?_
 rintro e W1 ⟨rfl,hc⟩
 have C1:=hid (C0.out.trans hc (fun _ _ h=>h))
 have B1:=hid (hc.blk B0.out id)
 have r1:W1.cell? ⟨w.heap.size,1,none⟩=some (.int .i64 (h:Int)):=B1.out.cell 1
 have r6:W1.cell? ⟨w.heap.size,6,none⟩=some (.slice (some ⟨b,off,none⟩) n c):=B1.out.cell 6
 clear hc B0 C0
 have hbl:=B1.out.lt
 go_wp2_with fail
 go_loopw [58] (fun i W=>∃k:Nat,k≤n∧i=.int .i64 (k:Int)∧Ch (fun _=>False) W1 W) (fun i _=>n - (intOf i).toNat)
 case atStart=>exact ⟨0,Nat.zero_le _,rfl,Ch.refl _ _⟩
 case round=>
  clear r1 r6
  obtain ⟨k,hk,rfl,hCh⟩:=hrel
  by_cases hlt:k < n
  ·have hlt':k < ks.length:=by rw [←HN.out];exact hlt
   obtain ⟨x,hx⟩:∃x,ks[k]?=some x:=⟨_,List.getElem?_eq_getElem hlt'⟩
   have hI:=HI.out.keep (C1.out.trans hCh (fun _ _ h=>h)) (fun _ _ _=>id) (fun _ _ h=>h)
   obtain ⟨cx,hcx,_,_,hcell⟩:=hI.at k x hx
   obtain ⟨xs,xa,xn,xc,rfl⟩:=hcx.form
   have c0:wr.cell? ⟨b,off+k * 7,none⟩=some (.int .u64 0):=hcell 0 _ rfl
   have c1:wr.cell? ⟨b,off+k * 7+1,none⟩=some (.int .i64 (Int.ofNat x.ht)):=hcell 1 _ rfl
   have c2:wr.cell? ⟨b,off+k * 7+2,none⟩=some (.int .i64 0):=hcell 2 _ rfl
   have c3:wr.cell? ⟨b,off+k * 7+3,none⟩=some (.int .i64 0):=hcell 3 _ rfl
   have c4:wr.cell? ⟨b,off+k * 7+4,none⟩=some (.int .i64 0):=hcell 4 _ rfl
   have c5:wr.cell? ⟨b,off+k * 7+5,none⟩=some (.string xs):=hcell 5 _ rfl
   have c6:wr.cell? ⟨b,off+k * 7+6,none⟩=some (.slice xa xn xc):=hcell 6 _ rfl
   have HX:=hid hcx
   have HXM:=hid (List.mem_of_getElem? hx)
   have HCH:=hid hCh
   have r1:wr.cell? ⟨w.heap.size,1,none⟩=some (.int .i64 (h:Int)):=(hCh.blk B1.out id).cell 1
   have hbw:w.heap.size < wr.heap.size:=by have:=hCh.size;omega
   have hb1:w.heap.size≠wr.heap.size:=Nat.ne_of_lt hbw
   have hb2:wr.heap.size≠w.heap.size:=Ne.symm hb1
   clear hcell hcx hx hI hCh
   have y1:decide (k < n)=true:=decide_eq_true hlt
   have y2:decide ((k:Int) < (n:Int))=true:=decide_eq_true (by omega)
   go_wp2_with fail
   refine calls_world fun W3 hW3=>?_
   have D3:=hid (show Ch (fun _=>False) wr W3 from by rw [hW3];exact (Ch.refl _ wr).alloc _)
   clear hW3
   rw [HM1.out]
   refine (IH.out x HXM.out [.int .u64 0,.int .i64 (Int.ofNat x.ht),.int .i64 0,.int .i64 0,.int .i64 0,.string xs,.slice xa xn xc] W3 S (HX.out.keep D3.out (fun _ _ _=>id) (fun _ _ h=>h))).mono ?_
   rintro e w4 ⟨rfl,hc4⟩
   go_wp2_with fail
   refine ⟨⟨k+1,by omega,by push_cast;rfl,(HCH.out.trans D3.out (fun _ _ h=>h)).trans hc4 (fun _ _ h=>h)⟩,by simp only [intOf];omega⟩
  ·obtain rfl:n=k:=by omega
   have y1:decide (n < n)=false:=decide_eq_false (by omega)
   go_wp2_with fail
   go_ret
   exact ⟨rfl,C1.out.trans hCh (fun _ _ h=>h)⟩
theorem pchk_any (p:Option Addr) (t:T):∀(g:Nat) (cs:List Value) (w:World) (S:Nat→Prop),g≤16→T.fit g t→TreeAt w S t cs→Calls Tryz.prog 157 #[.pointer p,.agg cs.toArray,.bool true,.int .i64 (g:Int)] w fun e w'=>e=.returned (.int .i64 0)∧Ch (fun _=>False) w w':=by
 induction t using T.ind with
 | hl s=>
  intro g cs w S hg hf hT
  cases hT
  obtain ⟨rfl,h1,h2⟩:=fit_leaf hf
  exact check_leafT p s h1 h2 w
 | hn h ks ih=>
  intro g cs w S hg hf hT
  obtain ⟨b,off,c,rfl,hI,hne⟩:=hT.kids
  obtain ⟨m,rfl,hm,hf1,hf2,hf3⟩:=fit_node hf
  have t:=check_nodeT p h ks m b off c w S hg hm hI hf1 hf2 hf3 (fun t ht cs w S hT=>ih t ht m cs w S (by omega) (hf3 t ht) hT)
  rw [show (h:Int)=((m+1:Nat):Int) from by rw [hm]] at t
  rw [←hm] at t
  rw [←hm]
  exact t
theorem checkF_any (p:Option Addr) (t:T) (cs:List Value) (w:World) (S:Nat→Prop) (hg:t.good) (hT:TreeAt w S t cs):Calls Tryz.prog 157 #[.pointer p,.agg cs.toArray,.bool false,.int .i64 0] w fun e w'=>e=.returned (.int .i64 0)∧Ch (fun _=>False) w w':=by
 cases t with
 | leaf s=>
  cases hT
  rcases hg with ⟨s',hs,h1,h2⟩ | ⟨g,_,hf⟩
  ·injection hs with hs
   subst hs
   exact check_leafF p s h1 h2 w
  ·obtain ⟨_,h1,h2⟩:=fit_leaf hf
   exact check_leafF p s (by omega) h2 w
 | node h ks=>
  obtain ⟨b,off,c,rfl,hI,hne⟩:=hT.kids
  rcases hg with ⟨s',hs,_⟩ | ⟨g,hg16,hf⟩
  ·cases hs
  ·obtain ⟨m,rfl,hm,hf1,hf2,hf3⟩:=fit_node hf
   exact check_nodeF p h ks m b off c w S hg16 hm hI hf1 hf2 hf3 (fun t ht cs w S hT=>pchk_any p t m cs w S (by omega) (hf3 t ht) hT)
theorem gbytes_any (t:T) (cs:List Value) (w:World) (S:Nat→Prop) (hg:t.good) (hT:TreeAt w S t cs) (hb:t.bytes≤65536):Calls Tryz.prog 158 #[.agg cs.toArray] w fun e w'=>e=.returned (.int .i64 (t.bytes:Nat))∧Ch (fun _=>False) w w':=by
 rcases hg with ⟨s,rfl,h1,h2⟩ | ⟨g,hg16,hf⟩
 ·cases hT
  exact bytes_leaf s hb w
 ·exact bytes_any t g cs w S hf hT hb
theorem gnew_any (t:T) (cs:List Value) (w:World) (S:Nat→Prop) (hg:t.good) (hT:TreeAt w S t cs) (hb:t.cnt≤65536):Calls Tryz.prog 144 #[.agg cs.toArray] w fun e w'=>e=.returned (.int .i64 (t.cnt:Nat))∧Ch (fun _=>False) w w':=by
 rcases hg with ⟨s,rfl,h1,h2⟩ | ⟨g,hg16,hf⟩
 ·cases hT
  exact new_leaf s h1 h2 w
 ·exact new_any t g cs w S hg16 hf hT hb
theorem knd_ne (t:T):(t.knd == 1)=false:=by cases t <;> rfl
theorem pcheck_any (ab:Nat) (t:T) (cs:List Value) (w:World) (S:Nat→Prop) (hg:t.good) (hT:TreeAt w S t cs) (hb:t.bytes≤65536):Calls Tryz.prog 143 #[.pointer (some ⟨ab,0,none⟩),.agg cs.toArray] w fun e w'=>e=.returned (.int .i64 0)∧Ch (fun _=>False) w w':=by
 obtain ⟨s,a,n,c,rfl⟩:=hT.form
 have d1:=knd_ne t
 have d2:decide (65536 < t.bytes)=false:=decide_eq_false (by omega)
 have d3:decide ((65536:Int) < (t.bytes:Int))=false:=decide_eq_false (by omega)
 have HT:=hid hT
 have HG:=hid hg
 clear hT hg
 go_enter Tryz.func143,Tryz.ntmps143
 go_wp2_with fail
 refine calls_world fun W0 hW0=>?_
 have C0:=hid (show Ch (fun _=>False) w W0 from by rw [hW0];exact (Ch.refl _ w).alloc _)
 have B0:=hid (show Blk W0 w.heap.size 183 #[.int .u64 0,.int .i64 (Int.ofNat t.ht),.int .i64 0,.int .i64 0,.int .i64 0,.string s,.slice a n c] from by rw [hW0];exact Blk.new w _ _)
 clear hW0
 refine (kind_any t [.int .u64 0,.int .i64 (Int.ofNat t.ht),.int .i64 0,.int .i64 0,.int .i64 0,.string s,.slice a n c] W0 S HG.out (HT.out.keep C0.out (fun _ _ _=>id) (fun _ _ h=>h))).mono ?_
 rintro e W1 ⟨rfl,hc⟩
 have C1:=hid (C0.out.trans hc (fun _ _ h=>h))
 have B1:=hid (hc.blk B0.out id)
 clear hc B0 C0
 have r0:W1.cell? ⟨w.heap.size,0,none⟩=some (.int .u64 0):=B1.out.cell 0
 have r1:W1.cell? ⟨w.heap.size,1,none⟩=some (.int .i64 (Int.ofNat t.ht)):=B1.out.cell 1
 have r2:W1.cell? ⟨w.heap.size,2,none⟩=some (.int .i64 0):=B1.out.cell 2
 have r3:W1.cell? ⟨w.heap.size,3,none⟩=some (.int .i64 0):=B1.out.cell 3
 have r4:W1.cell? ⟨w.heap.size,4,none⟩=some (.int .i64 0):=B1.out.cell 4
 have r5:W1.cell? ⟨w.heap.size,5,none⟩=some (.string s):=B1.out.cell 5
 have r6:W1.cell? ⟨w.heap.size,6,none⟩=some (.slice a n c):=B1.out.cell 6
 go_wp2_with fail
 refine (checkF_any (some ⟨ab,0,none⟩) t [.int .u64 0,.int .i64 (Int.ofNat t.ht),.int .i64 0,.int .i64 0,.int .i64 0,.string s,.slice a n c] W1 S HG.out (HT.out.keep C1.out (fun _ _ _=>id) (fun _ _ h=>h))).mono ?_
 rintro e W2 ⟨rfl,hc⟩
 have C2:=hid (C1.out.trans hc (fun _ _ h=>h))
 have B2:=hid (hc.blk B1.out id)
 clear hc B1 C1 r0 r1 r2 r3 r4 r5 r6
 have r0:W2.cell? ⟨w.heap.size,0,none⟩=some (.int .u64 0):=B2.out.cell 0
 have r1:W2.cell? ⟨w.heap.size,1,none⟩=some (.int .i64 (Int.ofNat t.ht)):=B2.out.cell 1
 have r2:W2.cell? ⟨w.heap.size,2,none⟩=some (.int .i64 0):=B2.out.cell 2
 have r3:W2.cell? ⟨w.heap.size,3,none⟩=some (.int .i64 0):=B2.out.cell 3
 have r4:W2.cell? ⟨w.heap.size,4,none⟩=some (.int .i64 0):=B2.out.cell 4
 have r5:W2.cell? ⟨w.heap.size,5,none⟩=some (.string s):=B2.out.cell 5
 have r6:W2.cell? ⟨w.heap.size,6,none⟩=some (.slice a n c):=B2.out.cell 6
 go_wp2_with fail
 refine (gbytes_any t [.int .u64 0,.int .i64 (Int.ofNat t.ht),.int .i64 0,.int .i64 0,.int .i64 0,.string s,.slice a n c] W2 S HG.out (HT.out.keep C2.out (fun _ _ _=>id) (fun _ _ h=>h)) hb).mono ?_
 rintro e W3 ⟨rfl,hc⟩
 go_wp2_with fail
 go_ret
 exact ⟨rfl,C2.out.trans hc (fun _ _ h=>h)⟩
end Go.Proofs.YtjcdknhejcbpiaaGreat
