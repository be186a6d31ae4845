/- Lemmas; no condition. -/
import Derived.Test.YtjcdknhejcbpiaaGreatSb24
import Derived.Test.YtjcdknhejcbpiaaGreatSb28
set_option maxRecDepth 100000
set_option maxHeartbeats 2000000
namespace Go.Proofs.YtjcdknhejcbpiaaGreat
open Go.RowKit
set_option linter.unusedVariables false
set_option linter.unusedSimpArgs false
set_option linter.unusedSectionVars false
section
variable {B:Nat} {w0 w w':World} {A R:List Res} {r s:Res}
theorem Mem.snoc (h:Mem B w0 (A++R) w) (r:Res) (c:Ch (fun _=>False) w w') (h':r.holds w') (hf:∀k,r.foot k->w.heap.size<=k):Mem B w0 (A++(R++[r])) w':=by
 rw [<-List.append_assoc]
 exact h.add r c h' hf
theorem Mem.lastB (h:Mem B w0 (A++(R++[r])) w):r.holds w:=by
 rw [<-List.append_assoc] at h
 exact h.each (A++R).length r (by simp)
theorem Mem.lastBlk {g:Nat} {t:TypeId} {cs:Array Value} (h:Mem B w0 (A++(R++[blkR g t cs])) w):Blk w g t cs:=h.lastB
theorem Mem.drop1 (h:Mem B w0 (A++(R++[r])) w):Mem B w0 (A++R) w:=by
 rw [<-List.append_assoc] at h
 exact mem_drop h
theorem Mem.setLast {fp:Nat->Prop} (h:Mem B w0 (A++(R++[r])) w) (r':Res) (c:Ch fp w w') (hfp:∀k,k < w.heap.size->fp k->r.foot k) (h':r'.holds w') (hf:∀k,r'.foot k->r.foot k\/w.heap.size<=k):Mem B w0 (A++(R++[r'])) w':=by
 rw [<-List.append_assoc] at h |-
 have t:=h.upd (i:=(A++R).length) r' (by simp) c hfp h' hf
 rw [List.set_append_right _ _ (Nat.le_refl _),Nat.sub_self] at t
 exact t
theorem Mem.putLast {g:Nat} {t:TypeId} {cs:Array Value} (h:Mem B w0 (A++(R++[blkR g t cs])) w) (o:Nat) (u:Value):Mem B w0 (A++(R++[blkR g t (cs.setIfInBounds o u)])) (w.setCell ⟨g,o,none⟩ u):=
 h.setLast _ ((Ch.refl (fun k=>k=g) w).set (fun _=>rfl) u) (fun _ _ e=>e) (Blk.put h.lastB o u) (fun _ e=>.inl e)
end
theorem nthP_all (p:Int->Bool):∀(l:List Int) (n:Nat),cntP p l<=n->nthP p l n=l.length
 | [],n,_=>rfl
 | x::l,n,h=>by
  rw [cntP_cons] at h
  simp only [nthP,List.length_cons]
  by_cases hx:p x=true
  ·rw [if_pos hx] at h |-
   rw [if_neg (by omega),nthP_all p l (n - 1) (by omega)]
   omega
  ·rw [if_neg hx] at h |-
   rw [nthP_all p l n (by omega)]
   omega
theorem lnth_r (s:ByteArray) (hs:s.size<=1000000) (n:Nat) (hn:n<=cntP begB (bs s)) (w:World):Calls Tryz.prog 57 #[.string s,.int .i64 (n:Int),.bool false] w fun e w'=>e=.returned (.int .i64 (nthP begB (bs s) n:Nat))/\w=w':=by
 have hcl:=cntP_le begB (bs s)
 rw [bs_length] at hcl
 have HN:=hid hn
 have hn1:n<=1000000:=by omega
 clear hn hcl
 go_enter Tryz.func57,Tryz.ntmps57
 go_wp2_with fail
 go_loopw [1,7] (fun x i W=>∃k d:Nat,k<=s.size/\i=.int .i64 (k:Int)/\x=.int .i64 (d:Int)/\n=cntP begB ((bs s).take k)+d/\W=w) (fun _ i _=>s.size - (intOf i).toNat)
 case atStart=>exact ⟨0,n,Nat.zero_le _,rfl,rfl,by simp [cntP],rfl⟩
 case round=>
  obtain ⟨k,d,hk,rfl,rfl,hnd,rfl⟩:=hrel
  by_cases hlt:k < s.size
  {
 have hg:=bs_get s k hlt
 have hct:=hid (cntP_take begB (bs s) k (by rw [bs_length];exact hlt))
 have hat:=hid (nthP_at begB (bs s) k n (by rw [bs_length];exact hlt))
 obtain ⟨c,hc⟩:∃c,c=cntP begB ((bs s).take k):=⟨_,rfl⟩
 rw [<-hc] at hct hat hnd
 clear hc
 obtain ⟨v,hv⟩:∃v,v=lk (bs s) k:=⟨_,rfl⟩
 rw [<-hv] at hct hat
 try rw [<-hv] at hg
 clear hv
 have HND:=hid hnd
 have hdb:d<=1000000:=by omega
 have e1:decide (k < s.size)=true:=decide_eq_true hlt
 have e2:decide ((k:Int) < (s.size:Int))=true:=decide_eq_true (by omega)
 clear hnd
 by_cases h1:v < 128
 ·have f1:decide (v < 128)=true:=decide_eq_true h1
  have hp:begB v=true:=by unfold begB;rw [f1];rfl
  cases d with
  | zero=>
   have hr:=hid (hat.out hp (by have:=HND.out;omega))
   go_wp2_with fail
   go_ret
   exact ⟨by rw [hr.out];rfl,rfl⟩
  | succ d=>
   have hct2:=hid (show cntP begB ((bs s).take (k+1))=c+1 from by have:=hct.out;rw [if_pos (by simpa using hp)] at this;exact this)
   have f9:((d:Int)+1 == 0)=false:=by rw [beq_eq_false_iff_ne];omega
   rw [show ((d+1:Nat):Int)=(d:Int)+1 from rfl]
   go_wp2_with fail
   go_roundw
   case rel=>exact ⟨k+1,d,by omega,by go_num,by go_num,by rw [hct2.out];have:=HND.out;omega,trivial⟩
   case measure=>simp [intOf];omega
 ·have f1:decide (v < 128)=false:=decide_eq_false h1
  by_cases h2:191 < v
  {
 have f2:decide (192<=v)=true:=decide_eq_true (by omega)
 have f3:decide (v≥192)=true:=f2
 have hp:begB v=true:=by unfold begB;rw [decide_eq_true h2];simp
 cases d with
 | zero=>
  have hr:=hid (hat.out hp (by have:=HND.out;omega))
  go_wp2_with fail
  go_ret
  exact ⟨by rw [hr.out];rfl,rfl⟩
 | succ d=>
  have hct2:=hid (show cntP begB ((bs s).take (k+1))=c+1 from by have:=hct.out;rw [if_pos (by simpa using hp)] at this;exact this)
  have f9:((d:Int)+1 == 0)=false:=by rw [beq_eq_false_iff_ne];omega
  rw [show ((d+1:Nat):Int)=(d:Int)+1 from rfl]
  go_wp2_with fail
  go_roundw
  case rel=>exact ⟨k+1,d,by omega,by go_num,by go_num,by rw [hct2.out];have:=HND.out;omega,trivial⟩
  case measure=>simp [intOf];omega
 }
  ·have f2:decide (192<=v)=false:=decide_eq_false (by omega)
   have f3:decide (v≥192)=false:=f2
   have hp:begB v=false:=by unfold begB;rw [f1,decide_eq_false h2];rfl
   have hct2:=hid (show cntP begB ((bs s).take (k+1))=c from by have:=hct.out;rw [if_neg (by rw [hp];decide)] at this;exact this)
   go_wp2_with fail
   go_roundw
   case rel=>exact ⟨k+1,d,by omega,by go_num,by first | rfl | go_num,by rw [hct2.out];exact HND.out,trivial⟩
   case measure=>simp [intOf];omega
 }
  ·obtain rfl:s.size=k:=by omega
   rw [List.take_of_length_le (by rw [bs_length];exact Nat.le_refl _)] at hnd
   have e1:decide (s.size < s.size)=false:=decide_eq_false (by omega)
   have e2:decide ((s.size:Int) < (s.size:Int))=false:=decide_eq_false (by omega)
   have hall:=hid (nthP_all begB (bs s) n (by omega))
   clear hnd
   go_wp2_with fail
   go_ret
   exact ⟨by rw [hall.out,bs_length];rfl,rfl⟩
theorem begin_e (A:ArA) (ns:List An) (st:Int) (hn:A.n<=16384) (w:World) (h:ArM A w ns st):Calls Tryz.prog 119 #[.pointer (some ⟨A.ab,0,none⟩),(.agg #[.int .u64 0,.int .i64 0,.int .i64 0,.int .i64 0,.int .i64 0,.string ⟨#[]⟩,.slice none 0 0])] w fun e w'=>∃pb rb,e=.returned (.tuple #[.pointer (some ⟨pb,0,none⟩),.int .i64 0])/\Blk w' pb 248 #[.pointer (some ⟨A.ab,0,none⟩),.slice none 0 0,.pointer (some ⟨rb,0,none⟩)]/\Blk w' rb 102 #[.int .u64 0,.int .i64 0,.int .i64 0,.int .i64 0,.int .i64 0]/\Ch (fun _=>False) w w':=by
 go_enter Tryz.func119,Tryz.ntmps119
 go_wp2_with fail
 refine calls_world fun W1 hW1=>?_
 have cW:Ch (fun _=>False) w W1:=by rw [hW1];exact (Ch.refl _ w).alloc _
 have bT:Blk W1 w.heap.size 183 #[.int .u64 0,.int .i64 0,.int .i64 0,.int .i64 0,.int .i64 0,.string ⟨#[]⟩,.slice none 0 0]:=by rw [hW1];exact Blk.new w _ _
 have HC:=hid cW
 have HB:=hid bT
 have HM:=hid (h.keep0 cW)
 clear hW1 cW bT h
 refine (planCheck0 A.ab W1).mono ?_
 rintro e w2 ⟨rfl,hc⟩
 have HC2:=hid (HC.out.trans hc (fun _ _ h=>h))
 have HB2:=hid (hc.blk HB.out id)
 have HM2:=hid (HM.out.keep0 hc)
 clear hc
 obtain ⟨r0,r1,r2,r3,r4,r5,r6⟩:=HB2.out.c7
 go_wp2_with fail
 clear r0 r1 r2 r3 r4 r5 r6
 refine (planNew0 w2).mono ?_
 rintro e w3 ⟨rfl,hc⟩
 have HC3:=hid (HC2.out.trans hc (fun _ _ h=>h))
 have HB3:=hid (hc.blk HB2.out id)
 have HM3:=hid (HM2.out.keep0 hc)
 clear hc
 go_wp2_with fail
 refine (statsM A ns st hn w3 HM3.out).mono ?_
 rintro e w4 ⟨rfl,hc⟩
 obtain ⟨fr,hfr⟩:∃fr,fr=A.n - ns.length:=⟨_,rfl⟩
 rw [<-hfr]
 clear hfr
 have HC4:=hid (HC3.out.trans hc (fun _ _ h=>h))
 have HB4:=hid (hc.blk HB3.out id)
 clear hc
 have hl4:=HB4.out.lt
 obtain ⟨r0,r1,r2,r3,r4,r5,r6⟩:=HB4.out.c7
 have hfd:∀W:World,(Instr.field 97 (.agg #[.int .i64 (A.n:Int),.int .i64 (fr:Int),.int .i64 (ns.length:Int),.int .i64 0,.int .i64 (ns.length:Int),.int .i64 0,.int .i64 st]) 1).run Tryz.prog W=.ok (.int .i64 (fr:Int)) W:=fun W=>by kernel_rfl
 go_wp2_with fail
 refine calls_world fun W5 hW5=>?_
 have c5:Ch (fun _=>False) w4 W5:=by rw [hW5];exact (Ch.refl _ w4).alloc _
 have b5:Blk W5 w4.heap.size 248 #[.pointer (some ⟨A.ab,0,none⟩),.slice none 0 0,.pointer none]:=by rw [hW5];exact Blk.new w4 _ _
 have HC5:=hid (HC4.out.trans c5 (fun _ _ h=>h))
 have HB5:=hid b5
 have z5:w.heap.size<=w4.heap.size:=HC4.out.size
 clear hW5 c5 b5 r0 r1 r2 r3 r4 r5 r6
 refine (add0 _ W5).mono ?_
 rintro e w6 ⟨rb,rfl,hrb,hc,hz⟩
 have HC6:=hid (HC5.out.trans hc (fun _ _ h=>h))
 have HB6:=hid (hc.blk HB5.out id)
 have HR6:=hid hrb
 clear hc hrb
 obtain ⟨r0,r1,r2⟩:=HB6.out.c3
 obtain ⟨s0,s1,s2⟩:=HB6.out.f3
 go_wp2_with fail
 go_ret2
 refine ⟨w4.heap.size,rb,rfl,HB6.out.put 2 _,HR6.out.far (Blk.ne HR6.out HB6.out (by decide)) _,HC6.out.set (fun ho=>absurd ho (by omega)) _⟩
theorem write_e (A:ArA) (ns:List An) (st:Int) (hn:A.n<=16384) (w:World) (h:ArM A w ns st):Calls Tryz.prog 81 #[.pointer (some ⟨A.ab,0,none⟩),(.agg #[.int .u64 0,.int .i64 0,.int .i64 0,.int .i64 0,.int .i64 0,.string ⟨#[]⟩,.slice none 0 0])] w fun e w'=>e=.returned (.tuple #[(.agg #[.int .u64 0,.int .i64 0,.int .i64 0,.int .i64 0,.int .i64 0]),.slice none 0 0,.int .i64 0])/\Ch (fun _=>False) w w':=by
 go_enter Tryz.func81,Tryz.ntmps81
 go_wp2_with fail
 refine calls_world fun W1 hW1=>?_
 have cW:Ch (fun _=>False) w W1:=by rw [hW1];exact ((Ch.refl _ w).alloc _).alloc _
 have bR:Blk W1 (w.heap.size+1) 102 #[.int .u64 0,.int .i64 0,.int .i64 0,.int .i64 0,.int .i64 0]:=by
  rw [hW1]
  have:=Blk.new (w.alloc (.cells #[.int .u64 0,.int .i64 0,.int .i64 0,.int .i64 0,.int .i64 0,.string ⟨#[]⟩,.slice none 0 0] 183)) 102 #[.int .u64 0,.int .i64 0,.int .i64 0,.int .i64 0,.int .i64 0]
  simpa using this
 have HC:=hid cW
 have HR:=hid bR
 have HM:=hid (h.keep0 cW)
 clear hW1 cW bR h
 refine (begin_e A ns st hn W1 HM.out).mono ?_
 rintro e w2 ⟨pb,rb,rfl,hp,hr,hc⟩
 have HC2:=hid (HC.out.trans hc (fun _ _ h=>h))
 have HR2:=hid (hc.blk HR.out id)
 have HP2:=hid hp
 have HRB2:=hid hr
 have hp1:w2.cell? ⟨pb,1,none⟩=some (.slice none 0 0):=hp.cell 1
 clear hc hp hr
 go_wp2_with fail
 go_loopw [5,6] (fun f e W=>f=.slice none 0 0/\e=.int .i64 0/\W=w2) (fun _ _ _=>0)
 case atStart=>exact ⟨rfl,rfl,rfl⟩
 case round=>
  obtain ⟨rfl,rfl,rfl⟩:=hrel
  go_wp2_with fail
  refine (root0 pb rb A.ab _ HP2.out HRB2.out).mono ?_
  rintro e w3 ⟨rfl,hc⟩
  have HC3:=hid (HC2.out.trans hc (fun _ _ h=>h))
  have HR3:=hid (hc.blk HR2.out id)
  clear hc
  obtain ⟨r0,r1,r2,r3,r4⟩:=HR3.out.c5
  obtain ⟨s0,s1,s2,s3,s4⟩:=HR3.out.f5
  go_wp2_with fail
  refine at_world fun W7 hW7=>?_
  have B7:Blk W7 (w.heap.size+1) 102 #[.int .u64 0,.int .i64 0,.int .i64 0,.int .i64 0,.int .i64 0]:=by rw [hW7];exact ((((((((((HR3.out.put 0 _).put 1 _).put 2 _).put 3 _).put 4 _).put 0 _).put 1 _).put 2 _).put 3 _).put 4 _)
  have c7:Ch (fun k=>k=(w.heap.size+1)) w3 W7:=by rw [hW7];exact (((((((((((Ch.refl (fun k=>k=(w.heap.size+1)) w3).set (fun _=>rfl) _).set (fun _=>rfl) _).set (fun _=>rfl) _).set (fun _=>rfl) _).set (fun _=>rfl) _).set (fun _=>rfl) _).set (fun _=>rfl) _).set (fun _=>rfl) _).set (fun _=>rfl) _).set (fun _=>rfl) _)
  obtain ⟨t0,t1,t2,t3,t4⟩:=B7.c5
  refine bodyPost_ret (v:=.tuple #[(.agg #[.int .u64 0,.int .i64 0,.int .i64 0,.int .i64 0,.int .i64 0]),.slice none 0 0,.int .i64 0]) ?_ rfl ⟨rfl,HC3.out.trans c7 (fun i hi e=>absurd hi (by omega))⟩
  clear hW7 c7
  simp [results,Tryz.results81,go_sem,t0,t1,t2,t3,t4]
theorem rnew_e (A:ArA) (ns:List An) (st:Int) (hn:A.n<=16384) (w:World) (h:ArM A w ns st):Calls Tryz.prog 47 #[.pointer (some ⟨A.ab,0,none⟩),(.string ⟨#[]⟩)] w fun e w'=>e=.returned (.tuple #[(.agg #[.int .u64 0,.int .i64 0,.int .i64 0,.int .i64 0,.int .i64 0]),.int .i64 0])/\Ch (fun _=>False) w w':=by
 go_enter Tryz.func47,Tryz.ntmps47
 go_wp2_with fail
 refine calls_world fun W1 hW1=>?_
 have cW:Ch (fun _=>False) w W1:=by rw [hW1];exact (Ch.refl _ w).alloc _
 have bR:Blk W1 w.heap.size 102 #[.int .u64 0,.int .i64 0,.int .i64 0,.int .i64 0,.int .i64 0]:=by rw [hW1];exact Blk.new w _ _
 have HC:=hid cW
 have HR:=hid bR
 have HM:=hid (h.keep0 cW)
 clear hW1 cW bR h
 refine (build0 W1).mono ?_
 rintro e w2 ⟨rfl,hc⟩
 have HC2:=hid (HC.out.trans hc (fun _ _ h=>h))
 have HR2:=hid (hc.blk HR.out id)
 have HM2:=hid (HM.out.keep0 hc)
 clear hc
 go_wp2_with fail
 refine calls_world fun W3 hW3=>?_
 have c3:Ch (fun _=>False) w2 W3:=by rw [hW3];exact (Ch.refl _ w2).alloc _
 have HC3:=hid (HC2.out.trans c3 (fun _ _ h=>h))
 have HR3:=hid (c3.blk HR2.out id)
 have HM3:=hid (HM2.out.keep0 c3)
 clear hW3 c3
 refine (write_e A ns st hn W3 HM3.out).mono ?_
 rintro e w4 ⟨rfl,hc⟩
 have HC4:=hid (HC3.out.trans hc (fun _ _ h=>h))
 have HR4:=hid (hc.blk HR3.out id)
 have l4:=HR4.out.lt
 have l5:w.heap.size≠w4.heap.size:=Nat.ne_of_lt l4
 have l6:w4.heap.size≠w.heap.size:=Ne.symm l5
 clear hc
 obtain ⟨r0,r1,r2,r3,r4⟩:=HR4.out.c5
 obtain ⟨s0,s1,s2,s3,s4⟩:=HR4.out.f5
 go_wp2_with fail
 refine at_world fun W7 hW7=>?_
 have B7:Blk W7 w.heap.size 102 #[.int .u64 0,.int .i64 0,.int .i64 0,.int .i64 0,.int .i64 0]:=by rw [hW7];exact (((((HR4.out.put 0 _).put 1 _).put 2 _).put 3 _).put 4 _).alloc _
 have c7:Ch (fun k=>k=w.heap.size) w4 W7:=by rw [hW7];exact ((((((Ch.refl (fun k=>k=w.heap.size) w4).set (fun _=>rfl) _).set (fun _=>rfl) _).set (fun _=>rfl) _).set (fun _=>rfl) _).set (fun _=>rfl) _).alloc _
 obtain ⟨t0,t1,t2,t3,t4⟩:=B7.c5
 refine bodyPost_ret (v:=.tuple #[(.agg #[.int .u64 0,.int .i64 0,.int .i64 0,.int .i64 0,.int .i64 0]),.int .i64 0]) ?_ rfl ⟨rfl,HC4.out.trans c7 (fun i hi e=>absurd hi (by omega))⟩
 clear hW7 c7
 simp [results,Tryz.results47,go_sem,t0,t1,t2,t3,t4]
theorem tmod_pos {a b:Int} (hb:0 < b) (hb2:b<=150):∃k:Nat,(wrap64 (a.tmod b+b)).tmod b=(k:Int)/\(k:Int) < b:=by
 have h1:a.tmod b < b:=Int.tmod_lt_of_pos a hb
 have h2:-b < a.tmod b:=by
  have:=Int.tmod_lt_of_pos (-a) hb
  rw [Int.neg_tmod] at this
  omega
 have hw:wrap64 (a.tmod b+b)=a.tmod b+b:=by unfold wrap64;omega
 rw [hw]
 have h3:0<=a.tmod b+b:=by omega
 have h4:=Int.tmod_nonneg b h3
 have h5:=Int.tmod_lt_of_pos (a.tmod b+b) hb
 exact ⟨((a.tmod b+b).tmod b).toNat,by omega,by omega⟩
def ClnOut (rd:Nat) (w:World) (e:Ending) (w':World):Prop:=
 ∃(op':OpV) (b:Bool),e=.returned (.tuple #[op'.v,.bool b])/\Ch (fun _=>False) w w'/\((b=true/\∃c:Cop,op'=c.op/\c.small rd)\/(b=false/\rd=0))
theorem lclean_5 (k:Int) (h0:0<=k) (h3:k < 256) (hk:k=5\/(decide (k < 5)=true/\5+k % 9=5)\/(13 < k/\decide (k < 5)=false/\decide (13 < k)=true/\IntKind.u8.wrap (5+k % 9)=5+k % 9/\5+k % 9=5)) (sl pos num id' gr:Int) (s:ByteArray) (hid':0<=id'/\id' < 4294967296) (rd:Nat) (hr:rd<=4) (w:World):Calls Tryz.prog 10 #[OpV.v ⟨k,sl,pos,num,id',gr,s⟩,.int .i64 rd] w (ClnOut rd w):=by
 rcases hk with rfl | ⟨d3,h2⟩ | ⟨h1,d3,d4,w8,h2⟩
 all_goals
  simp only [OpV.v]
  go_enter Tryz.func10,Tryz.ntmps10
  go_wp2_with fail
  refine bodyPost_ret (v:=.tuple #[OpV.v (Cop.op (.acq)),.bool true]) (by simp [results,Tryz.results10,go_sem,OpV.v,Cop.op,acqOp]) rfl ⟨_,true,rfl,?_,.inl ⟨rfl,.acq,rfl,trivial⟩⟩
  repeat (refine Ch.alloc ?_ _)
  exact Ch.refl _ w
theorem lclean_6 (k:Int) (h0:0<=k) (h3:k < 256) (hk:k=6\/(decide (k < 5)=true/\5+k % 9=6)\/(13 < k/\decide (k < 5)=false/\decide (13 < k)=true/\IntKind.u8.wrap (5+k % 9)=5+k % 9/\5+k % 9=6)) (sl pos num id' gr:Int) (s:ByteArray) (hid':0<=id'/\id' < 4294967296) (rd:Nat) (hr:rd<=4) (w:World):Calls Tryz.prog 10 #[OpV.v ⟨k,sl,pos,num,id',gr,s⟩,.int .i64 rd] w (ClnOut rd w):=by
 rcases hk with rfl | ⟨d3,h2⟩ | ⟨h1,d3,d4,w8,h2⟩
 all_goals
  rcases Nat.eq_zero_or_pos rd with h9 | h9
  ·subst h9
   simp only [OpV.v]
   go_enter Tryz.func10,Tryz.ntmps10
   go_wp2_with fail
   refine bodyPost_ret (v:=.tuple #[OpV.v ⟨6,0,0,0,0,0,⟨#[]⟩⟩,.bool false]) (by simp [results,Tryz.results10,go_sem,OpV.v]) rfl ⟨_,false,rfl,?_,.inr ⟨rfl,rfl⟩⟩
   repeat (refine Ch.alloc ?_ _)
   exact Ch.refl _ w
  ·have hr1:(rd:Int)≠0:=by omega
   have d1:decide ((rd:Int) < 1)=false:=decide_eq_false (by omega)
   have d2:decide (rd < 1)=false:=decide_eq_false (by omega)
   obtain ⟨sk,eS,hsk⟩:=tmod_pos (a:=sl) (b:=(rd:Int)) (by omega) (by omega)
   have hsk:sk < rd:=by omega
   simp only [OpV.v]
   go_enter Tryz.func10,Tryz.ntmps10
   go_wp2_with fail
   refine bodyPost_ret (v:=.tuple #[OpV.v (Cop.op (.len sk)),.bool true]) (by simp [results,Tryz.results10,go_sem,OpV.v,Cop.op,acqOp]) rfl ⟨_,true,rfl,?_,.inl ⟨rfl,.len sk,rfl,hsk⟩⟩
   repeat (refine Ch.alloc ?_ _)
   exact Ch.refl _ w
theorem lclean_7 (k:Int) (h0:0<=k) (h3:k < 256) (hk:k=7\/(decide (k < 5)=true/\5+k % 9=7)\/(13 < k/\decide (k < 5)=false/\decide (13 < k)=true/\IntKind.u8.wrap (5+k % 9)=5+k % 9/\5+k % 9=7)) (sl pos num id' gr:Int) (s:ByteArray) (hid':0<=id'/\id' < 4294967296) (rd:Nat) (hr:rd<=4) (w:World):Calls Tryz.prog 10 #[OpV.v ⟨k,sl,pos,num,id',gr,s⟩,.int .i64 rd] w (ClnOut rd w):=by
 rcases hk with rfl | ⟨d3,h2⟩ | ⟨h1,d3,d4,w8,h2⟩
 all_goals
  rcases Nat.eq_zero_or_pos rd with h9 | h9
  ·subst h9
   simp only [OpV.v]
   go_enter Tryz.func10,Tryz.ntmps10
   go_wp2_with fail
   refine bodyPost_ret (v:=.tuple #[OpV.v ⟨7,0,0,0,0,0,⟨#[]⟩⟩,.bool false]) (by simp [results,Tryz.results10,go_sem,OpV.v]) rfl ⟨_,false,rfl,?_,.inr ⟨rfl,rfl⟩⟩
   repeat (refine Ch.alloc ?_ _)
   exact Ch.refl _ w
  {
 have hr1:(rd:Int)≠0:=by omega
 have d1:decide ((rd:Int) < 1)=false:=decide_eq_false (by omega)
 have d2:decide (rd < 1)=false:=decide_eq_false (by omega)
 obtain ⟨sk,eS,hsk⟩:=tmod_pos (a:=sl) (b:=(rd:Int)) (by omega) (by omega)
 have hsk:sk < rd:=by omega
 obtain ⟨sa,eA,hsa⟩:=tmod_pos (a:=pos) (b:=150) (by decide) (by decide)
 have hsa:sa < 150:=by omega
 obtain ⟨sb,eB,hsb⟩:=tmod_pos (a:=num) (b:=150) (by decide) (by decide)
 have hsb:sb < 150:=by omega
 simp only [OpV.v]
 go_enter Tryz.func10,Tryz.ntmps10
 go_wp2_with fail
 refine bodyPost_ret (v:=.tuple #[OpV.v (Cop.op (.read sk sa sb)),.bool true]) (by simp [results,Tryz.results10,go_sem,OpV.v,Cop.op,acqOp]) rfl ⟨_,true,rfl,?_,.inl ⟨rfl,.read sk sa sb,rfl,⟨hsk,hsa,hsb⟩⟩⟩
 repeat (refine Ch.alloc ?_ _)
 exact Ch.refl _ w
 }
theorem lclean_8 (k:Int) (h0:0<=k) (h3:k < 256) (hk:k=8\/(decide (k < 5)=true/\5+k % 9=8)\/(13 < k/\decide (k < 5)=false/\decide (13 < k)=true/\IntKind.u8.wrap (5+k % 9)=5+k % 9/\5+k % 9=8)) (sl pos num id' gr:Int) (s:ByteArray) (hid':0<=id'/\id' < 4294967296) (rd:Nat) (hr:rd<=4) (w:World):Calls Tryz.prog 10 #[OpV.v ⟨k,sl,pos,num,id',gr,s⟩,.int .i64 rd] w (ClnOut rd w):=by
 rcases hk with rfl | ⟨d3,h2⟩ | ⟨h1,d3,d4,w8,h2⟩
 all_goals
  rcases Nat.eq_zero_or_pos rd with h9 | h9
  ·subst h9
   simp only [OpV.v]
   go_enter Tryz.func10,Tryz.ntmps10
   go_wp2_with fail
   refine bodyPost_ret (v:=.tuple #[OpV.v ⟨8,0,0,0,0,0,⟨#[]⟩⟩,.bool false]) (by simp [results,Tryz.results10,go_sem,OpV.v]) rfl ⟨_,false,rfl,?_,.inr ⟨rfl,rfl⟩⟩
   repeat (refine Ch.alloc ?_ _)
   exact Ch.refl _ w
  ·have hr1:(rd:Int)≠0:=by omega
   have d1:decide ((rd:Int) < 1)=false:=decide_eq_false (by omega)
   have d2:decide (rd < 1)=false:=decide_eq_false (by omega)
   obtain ⟨sk,eS,hsk⟩:=tmod_pos (a:=sl) (b:=(rd:Int)) (by omega) (by omega)
   have hsk:sk < rd:=by omega
   obtain ⟨sb,eB,hsb⟩:=tmod_pos (a:=num) (b:=150) (by decide) (by decide)
   have hsb:sb < 150:=by omega
   simp only [OpV.v]
   go_enter Tryz.func10,Tryz.ntmps10
   go_wp2_with fail
   refine bodyPost_ret (v:=.tuple #[OpV.v (Cop.op (.rune sk sb)),.bool true]) (by simp [results,Tryz.results10,go_sem,OpV.v,Cop.op,acqOp]) rfl ⟨_,true,rfl,?_,.inl ⟨rfl,.rune sk sb,rfl,⟨hsk,hsb⟩⟩⟩
   repeat (refine Ch.alloc ?_ _)
   exact Ch.refl _ w
theorem lclean_9 (k:Int) (h0:0<=k) (h3:k < 256) (hk:k=9\/(decide (k < 5)=true/\5+k % 9=9)\/(13 < k/\decide (k < 5)=false/\decide (13 < k)=true/\IntKind.u8.wrap (5+k % 9)=5+k % 9/\5+k % 9=9)) (sl pos num id' gr:Int) (s:ByteArray) (hid':0<=id'/\id' < 4294967296) (rd:Nat) (hr:rd<=4) (w:World):Calls Tryz.prog 10 #[OpV.v ⟨k,sl,pos,num,id',gr,s⟩,.int .i64 rd] w (ClnOut rd w):=by
 rcases hk with rfl | ⟨d3,h2⟩ | ⟨h1,d3,d4,w8,h2⟩
 all_goals
  rcases Nat.eq_zero_or_pos rd with h9 | h9
  ·subst h9
   simp only [OpV.v]
   go_enter Tryz.func10,Tryz.ntmps10
   go_wp2_with fail
   refine bodyPost_ret (v:=.tuple #[OpV.v ⟨9,0,0,0,0,0,⟨#[]⟩⟩,.bool false]) (by simp [results,Tryz.results10,go_sem,OpV.v]) rfl ⟨_,false,rfl,?_,.inr ⟨rfl,rfl⟩⟩
   repeat (refine Ch.alloc ?_ _)
   exact Ch.refl _ w
  ·have hr1:(rd:Int)≠0:=by omega
   have d1:decide ((rd:Int) < 1)=false:=decide_eq_false (by omega)
   have d2:decide (rd < 1)=false:=decide_eq_false (by omega)
   obtain ⟨sk,eS,hsk⟩:=tmod_pos (a:=sl) (b:=(rd:Int)) (by omega) (by omega)
   have hsk:sk < rd:=by omega
   obtain ⟨sb,eB,hsb⟩:=tmod_pos (a:=num) (b:=150) (by decide) (by decide)
   have hsb:sb < 150:=by omega
   simp only [OpV.v]
   go_enter Tryz.func10,Tryz.ntmps10
   go_wp2_with fail
   refine bodyPost_ret (v:=.tuple #[OpV.v (Cop.op (.line sk sb)),.bool true]) (by simp [results,Tryz.results10,go_sem,OpV.v,Cop.op,acqOp]) rfl ⟨_,true,rfl,?_,.inl ⟨rfl,.line sk sb,rfl,⟨hsk,hsb⟩⟩⟩
   repeat (refine Ch.alloc ?_ _)
   exact Ch.refl _ w
theorem lclean_10 (k:Int) (h0:0<=k) (h3:k < 256) (hk:k=10\/(13 < k/\decide (k < 5)=false/\decide (13 < k)=true/\IntKind.u8.wrap (5+k % 9)=5+k % 9/\5+k % 9=10)) (sl pos num id' gr:Int) (s:ByteArray) (hid':0<=id'/\id' < 4294967296) (rd:Nat) (hr:rd<=4) (w:World):Calls Tryz.prog 10 #[OpV.v ⟨k,sl,pos,num,id',gr,s⟩,.int .i64 rd] w (ClnOut rd w):=by
 rcases hk with rfl | ⟨h1,d3,d4,w8,h2⟩
 all_goals
  rcases Nat.eq_zero_or_pos rd with h9 | h9
  ·subst h9
   simp only [OpV.v]
   go_enter Tryz.func10,Tryz.ntmps10
   go_wp2_with fail
   refine bodyPost_ret (v:=.tuple #[OpV.v ⟨10,0,0,0,0,0,⟨#[]⟩⟩,.bool false]) (by simp [results,Tryz.results10,go_sem,OpV.v]) rfl ⟨_,false,rfl,?_,.inr ⟨rfl,rfl⟩⟩
   repeat (refine Ch.alloc ?_ _)
   exact Ch.refl _ w
  ·have hr1:(rd:Int)≠0:=by omega
   have d1:decide ((rd:Int) < 1)=false:=decide_eq_false (by omega)
   have d2:decide (rd < 1)=false:=decide_eq_false (by omega)
   obtain ⟨sk,eS,hsk⟩:=tmod_pos (a:=sl) (b:=(rd:Int)) (by omega) (by omega)
   have hsk:sk < rd:=by omega
   have w32:IntKind.u32.wrap (id' % 6+1)=id' % 6+1:=by simp [IntKind.wrap,IntKind.signed,IntKind.bits];omega
   simp only [OpV.v]
   go_enter Tryz.func10,Tryz.ntmps10
   go_wp2_with fail
   refine bodyPost_ret (v:=.tuple #[OpV.v (Cop.op (.mark sk (id' % 6+1))),.bool true]) (by simp [results,Tryz.results10,go_sem,OpV.v,Cop.op,acqOp]) rfl ⟨_,true,rfl,?_,.inl ⟨rfl,.mark sk (id' % 6+1),rfl,⟨hsk,by omega,by omega⟩⟩⟩
   repeat (refine Ch.alloc ?_ _)
   exact Ch.refl _ w
theorem lclean_11 (k:Int) (h0:0<=k) (h3:k < 256) (hk:k=11\/(13 < k/\decide (k < 5)=false/\decide (13 < k)=true/\IntKind.u8.wrap (5+k % 9)=5+k % 9/\5+k % 9=11)) (sl pos num id' gr:Int) (s:ByteArray) (hid':0<=id'/\id' < 4294967296) (rd:Nat) (hr:rd<=4) (w:World):Calls Tryz.prog 10 #[OpV.v ⟨k,sl,pos,num,id',gr,s⟩,.int .i64 rd] w (ClnOut rd w):=by
 rcases hk with rfl | ⟨h1,d3,d4,w8,h2⟩
 all_goals
  rcases Nat.eq_zero_or_pos rd with h9 | h9
  ·subst h9
   simp only [OpV.v]
   go_enter Tryz.func10,Tryz.ntmps10
   go_wp2_with fail
   refine bodyPost_ret (v:=.tuple #[OpV.v ⟨11,0,0,0,0,0,⟨#[]⟩⟩,.bool false]) (by simp [results,Tryz.results10,go_sem,OpV.v]) rfl ⟨_,false,rfl,?_,.inr ⟨rfl,rfl⟩⟩
   repeat (refine Ch.alloc ?_ _)
   exact Ch.refl _ w
  ·have hr1:(rd:Int)≠0:=by omega
   have d1:decide ((rd:Int) < 1)=false:=decide_eq_false (by omega)
   have d2:decide (rd < 1)=false:=decide_eq_false (by omega)
   obtain ⟨sk,eS,hsk⟩:=tmod_pos (a:=sl) (b:=(rd:Int)) (by omega) (by omega)
   have hsk:sk < rd:=by omega
   obtain ⟨sa,eA,hsa⟩:=tmod_pos (a:=pos) (b:=150) (by decide) (by decide)
   have hsa:sa < 150:=by omega
   simp only [OpV.v]
   go_enter Tryz.func10,Tryz.ntmps10
   go_wp2_with fail
   refine bodyPost_ret (v:=.tuple #[OpV.v (Cop.op (.seek sk sa)),.bool true]) (by simp [results,Tryz.results10,go_sem,OpV.v,Cop.op,acqOp]) rfl ⟨_,true,rfl,?_,.inl ⟨rfl,.seek sk sa,rfl,⟨hsk,hsa⟩⟩⟩
   repeat (refine Ch.alloc ?_ _)
   exact Ch.refl _ w
theorem lclean_12 (k:Int) (h0:0<=k) (h3:k < 256) (hk:k=12\/(13 < k/\decide (k < 5)=false/\decide (13 < k)=true/\IntKind.u8.wrap (5+k % 9)=5+k % 9/\5+k % 9=12)) (sl pos num id' gr:Int) (s:ByteArray) (hid':0<=id'/\id' < 4294967296) (rd:Nat) (hr:rd<=4) (w:World):Calls Tryz.prog 10 #[OpV.v ⟨k,sl,pos,num,id',gr,s⟩,.int .i64 rd] w (ClnOut rd w):=by
 rcases hk with rfl | ⟨h1,d3,d4,w8,h2⟩
 all_goals
  rcases Nat.eq_zero_or_pos rd with h9 | h9
  ·subst h9
   simp only [OpV.v]
   go_enter Tryz.func10,Tryz.ntmps10
   go_wp2_with fail
   refine bodyPost_ret (v:=.tuple #[OpV.v ⟨12,0,0,0,0,0,⟨#[]⟩⟩,.bool false]) (by simp [results,Tryz.results10,go_sem,OpV.v]) rfl ⟨_,false,rfl,?_,.inr ⟨rfl,rfl⟩⟩
   repeat (refine Ch.alloc ?_ _)
   exact Ch.refl _ w
  ·have hr1:(rd:Int)≠0:=by omega
   have d1:decide ((rd:Int) < 1)=false:=decide_eq_false (by omega)
   have d2:decide (rd < 1)=false:=decide_eq_false (by omega)
   obtain ⟨sk,eS,hsk⟩:=tmod_pos (a:=sl) (b:=(rd:Int)) (by omega) (by omega)
   have hsk:sk < rd:=by omega
   obtain ⟨sb,eB,hsb⟩:=tmod_pos (a:=num) (b:=150) (by decide) (by decide)
   have hsb:sb < 150:=by omega
   simp only [OpV.v]
   go_enter Tryz.func10,Tryz.ntmps10
   go_wp2_with fail
   refine bodyPost_ret (v:=.tuple #[OpV.v (Cop.op (.next sk sb)),.bool true]) (by simp [results,Tryz.results10,go_sem,OpV.v,Cop.op,acqOp]) rfl ⟨_,true,rfl,?_,.inl ⟨rfl,.next sk sb,rfl,⟨hsk,hsb⟩⟩⟩
   repeat (refine Ch.alloc ?_ _)
   exact Ch.refl _ w
theorem lclean_13 (k:Int) (h0:0<=k) (h3:k < 256) (hk:k=13\/(13 < k/\decide (k < 5)=false/\decide (13 < k)=true/\IntKind.u8.wrap (5+k % 9)=5+k % 9/\5+k % 9=13)) (sl pos num id' gr:Int) (s:ByteArray) (hid':0<=id'/\id' < 4294967296) (rd:Nat) (hr:rd<=4) (w:World):Calls Tryz.prog 10 #[OpV.v ⟨k,sl,pos,num,id',gr,s⟩,.int .i64 rd] w (ClnOut rd w):=by
 rcases hk with rfl | ⟨h1,d3,d4,w8,h2⟩
 all_goals
  rcases Nat.eq_zero_or_pos rd with h9 | h9
  ·subst h9
   simp only [OpV.v]
   go_enter Tryz.func10,Tryz.ntmps10
   go_wp2_with fail
   refine bodyPost_ret (v:=.tuple #[OpV.v ⟨13,0,0,0,0,0,⟨#[]⟩⟩,.bool false]) (by simp [results,Tryz.results10,go_sem,OpV.v]) rfl ⟨_,false,rfl,?_,.inr ⟨rfl,rfl⟩⟩
   repeat (refine Ch.alloc ?_ _)
   exact Ch.refl _ w
  ·have hr1:(rd:Int)≠0:=by omega
   have d1:decide ((rd:Int) < 1)=false:=decide_eq_false (by omega)
   have d2:decide (rd < 1)=false:=decide_eq_false (by omega)
   obtain ⟨sk,eS,hsk⟩:=tmod_pos (a:=sl) (b:=(rd:Int)) (by omega) (by omega)
   have hsk:sk < rd:=by omega
   simp only [OpV.v]
   go_enter Tryz.func10,Tryz.ntmps10
   go_wp2_with fail
   refine bodyPost_ret (v:=.tuple #[OpV.v (Cop.op (.rel sk)),.bool true]) (by simp [results,Tryz.results10,go_sem,OpV.v,Cop.op,acqOp]) rfl ⟨_,true,rfl,?_,.inl ⟨rfl,.rel sk,rfl,hsk⟩⟩
   repeat (refine Ch.alloc ?_ _)
   exact Ch.refl _ w
theorem lclean_any (x:OpV) (hx:x.ok) (rd:Nat) (hr:rd<=4) (w:World):Calls Tryz.prog 10 #[x.v,.int .i64 rd] w (ClnOut rd w):=by
 obtain ⟨k,sl,pos,num,id',gr,s⟩:=x
 have hk:=hx.k
 have hi:=hx.id
 simp only at hk hi
 clear hx
 have W8:13 < k->IntKind.u8.wrap (5+k % 9)=5+k % 9:=fun _=>by simp [IntKind.wrap,IntKind.signed,IntKind.bits];omega
 rcases Int.lt_or_le k 5 with h1 | h1
 ·have:5+k % 9=5\/5+k % 9=6\/5+k % 9=7\/5+k % 9=8\/5+k % 9=9:=by omega
  rcases this with h | h | h | h | h
  ·exact lclean_5 k hk.1 hk.2 (.inr (.inl ⟨decide_eq_true h1,h⟩)) sl pos num id' gr s hi rd hr w
  ·exact lclean_6 k hk.1 hk.2 (.inr (.inl ⟨decide_eq_true h1,h⟩)) sl pos num id' gr s hi rd hr w
  ·exact lclean_7 k hk.1 hk.2 (.inr (.inl ⟨decide_eq_true h1,h⟩)) sl pos num id' gr s hi rd hr w
  ·exact lclean_8 k hk.1 hk.2 (.inr (.inl ⟨decide_eq_true h1,h⟩)) sl pos num id' gr s hi rd hr w
  ·exact lclean_9 k hk.1 hk.2 (.inr (.inl ⟨decide_eq_true h1,h⟩)) sl pos num id' gr s hi rd hr w
 ·rcases Int.lt_or_le 13 k with h2 | h2
  ·have:5+k % 9=5\/5+k % 9=6\/5+k % 9=7\/5+k % 9=8\/5+k % 9=9\/5+k % 9=10\/5+k % 9=11\/5+k % 9=12\/5+k % 9=13:=by omega
   rcases this with h | h | h | h | h | h | h | h | h
   ·exact lclean_5 k hk.1 hk.2 (.inr (.inr ⟨h2,decide_eq_false (by omega),decide_eq_true h2,W8 h2,h⟩)) sl pos num id' gr s hi rd hr w
   ·exact lclean_6 k hk.1 hk.2 (.inr (.inr ⟨h2,decide_eq_false (by omega),decide_eq_true h2,W8 h2,h⟩)) sl pos num id' gr s hi rd hr w
   ·exact lclean_7 k hk.1 hk.2 (.inr (.inr ⟨h2,decide_eq_false (by omega),decide_eq_true h2,W8 h2,h⟩)) sl pos num id' gr s hi rd hr w
   ·exact lclean_8 k hk.1 hk.2 (.inr (.inr ⟨h2,decide_eq_false (by omega),decide_eq_true h2,W8 h2,h⟩)) sl pos num id' gr s hi rd hr w
   ·exact lclean_9 k hk.1 hk.2 (.inr (.inr ⟨h2,decide_eq_false (by omega),decide_eq_true h2,W8 h2,h⟩)) sl pos num id' gr s hi rd hr w
   ·exact lclean_10 k hk.1 hk.2 (.inr (⟨h2,decide_eq_false (by omega),decide_eq_true h2,W8 h2,h⟩)) sl pos num id' gr s hi rd hr w
   ·exact lclean_11 k hk.1 hk.2 (.inr (⟨h2,decide_eq_false (by omega),decide_eq_true h2,W8 h2,h⟩)) sl pos num id' gr s hi rd hr w
   ·exact lclean_12 k hk.1 hk.2 (.inr (⟨h2,decide_eq_false (by omega),decide_eq_true h2,W8 h2,h⟩)) sl pos num id' gr s hi rd hr w
   ·exact lclean_13 k hk.1 hk.2 (.inr (⟨h2,decide_eq_false (by omega),decide_eq_true h2,W8 h2,h⟩)) sl pos num id' gr s hi rd hr w
  ·have:k=5\/k=6\/k=7\/k=8\/k=9\/k=10\/k=11\/k=12\/k=13:=by omega
   rcases this with rfl | rfl | rfl | rfl | rfl | rfl | rfl | rfl | rfl
   ·exact lclean_5 _ hk.1 hk.2 (.inl rfl) sl pos num id' gr s hi rd hr w
   ·exact lclean_6 _ hk.1 hk.2 (.inl rfl) sl pos num id' gr s hi rd hr w
   ·exact lclean_7 _ hk.1 hk.2 (.inl rfl) sl pos num id' gr s hi rd hr w
   ·exact lclean_8 _ hk.1 hk.2 (.inl rfl) sl pos num id' gr s hi rd hr w
   ·exact lclean_9 _ hk.1 hk.2 (.inl rfl) sl pos num id' gr s hi rd hr w
   ·exact lclean_10 _ hk.1 hk.2 (.inl rfl) sl pos num id' gr s hi rd hr w
   ·exact lclean_11 _ hk.1 hk.2 (.inl rfl) sl pos num id' gr s hi rd hr w
   ·exact lclean_12 _ hk.1 hk.2 (.inl rfl) sl pos num id' gr s hi rd hr w
   ·exact lclean_13 _ hk.1 hk.2 (.inl rfl) sl pos num id' gr s hi rd hr w
def cnt6 (l:List EvR):Nat:=(l.filter fun x=>x.d.tmod 8 == 6).length
def ShortP (s:ByteArray) (rd:Int) (n:Nat) (l:List EvR):Prop:=s.size<=120/\vdB (bs s)=true/\0<=rd/\rd<=4/\n<=150/\(∀x ∈ l,x.s.size<=120/\x.mn<=4)/\cnt6 l<=6
theorem lshort_any (s:ByteArray) (rd:Int) (a:Option Addr) (n c:Nat) (l:List EvR) (w:World) (h:InEvR w a n l) (hs:s.size<=maxLen) :
  Calls Tryz.prog 8 #[.string s,.int .i64 rd,.slice a n c] w fun e w'=>∃b,e=.returned (.bool b)/\Below w.heap.size w w'/\(b=true->ShortP s rd n l):=by
 have HE:=hid h
 clear h
 by_cases h1:120 < s.size
 ·have d1:decide (120 < s.size)=true:=decide_eq_true h1
  have d1':decide ((120:Int) < (s.size:Int))=true:=decide_eq_true (by omega)
  go_enter Tryz.func8,Tryz.ntmps8
  go_wp2_with fail
  go_ret
  exact ⟨false,rfl,Below.refl _ _,fun h=>by cases h⟩
 ·have d1:decide (120 < s.size)=false:=decide_eq_false h1
  have d1':decide ((120:Int) < (s.size:Int))=false:=decide_eq_false (by omega)
  have h1:s.size<=120:=by omega
  go_enter Tryz.func8,Tryz.ntmps8
  go_wp2_with fail
  refine (rvalid_any s w (by omega)).mono ?_
  rintro e w1 ⟨rfl,hb1⟩
  have HB1:=hid hb1
  clear hb1
  cases hvd:vdB (bs s) with
  | false=>
   go_wp2_with fail
   go_ret
   exact ⟨false,rfl,HB1.out,fun h=>by cases h⟩
  | true=>
   have HVD:=hid hvd
   clear hvd
   by_cases h2:rd < 0
   ·have d2:decide (rd < 0)=true:=decide_eq_true h2
    go_wp2_with fail
    go_ret
    exact ⟨false,rfl,HB1.out,fun h=>by cases h⟩
   have d2:decide (rd < 0)=false:=decide_eq_false h2
   by_cases h3:4 < rd
   ·have d3:decide (4 < rd)=true:=decide_eq_true h3
    go_wp2_with fail
    go_ret
    exact ⟨false,rfl,HB1.out,fun h=>by cases h⟩
   have d3:decide (4 < rd)=false:=decide_eq_false h3
   by_cases h4:150 < n
   ·have d4:decide (150 < n)=true:=decide_eq_true h4
    have d4':decide ((150:Int) < (n:Int))=true:=decide_eq_true (by omega)
    go_wp2_with fail
    go_ret
    exact ⟨false,rfl,HB1.out,fun h=>by cases h⟩
   have d4:decide (150 < n)=false:=decide_eq_false h4
   have d4':decide ((150:Int) < (n:Int))=false:=decide_eq_false (by omega)
   have hn150:n<=150:=by omega
   have HR1:=hid (show 0<=rd/\rd<=4 by omega)
   go_wp2_with fail
   clear h2 h3 h4 d2 d3 d4 d4'
   go_loopw [7,8] (fun q i W=>∃k:Nat,k<=n/\i=.int .i64 (k:Int)/\q=.int .i64 (cnt6 (l.take k):Int)/\(∀x ∈ l.take k,x.s.size<=120/\x.mn<=4)/\w1=W) (fun _ i _=>n - (intOf i).toNat)
   case atStart=>exact ⟨0,Nat.zero_le _,rfl,rfl,by simp,rfl⟩
   case round=>
    (
 obtain ⟨k,hk,rfl,rfl,hall,rfl⟩:=hrel
 have HALL:=hid hall
 have hcl:cnt6 (l.take k)<=k:=by
  unfold cnt6
  have:=List.length_filter_le (fun x:EvR=>x.d.tmod 8 == 6) (l.take k)
  rw [List.length_take] at this
  omega
 obtain ⟨cn,hcn⟩:∃cn,cn=cnt6 (l.take k):=⟨_,rfl⟩
 have HCN:=hid hcn
 rw [<-hcn] at hcl |-
 clear hall hcn
 by_cases hlt:k < n
 ·have e1:decide (k < n)=true:=decide_eq_true hlt
  have e2:decide ((k:Int) < (n:Int))=true:=decide_eq_true (by omega)
  obtain ⟨x,hx⟩:∃x,l[k]?=some x:=⟨_,List.getElem?_eq_getElem (by rw [HE.out.1];exact hlt)⟩
  obtain ⟨b,off,hab,hbl,hcc⟩:=HE.out.2.2 (by omega)
  subst hab
  have hcell:∀j v,x.cells[j]?=some v->w1.cell? ⟨b,off+(k * 10+j),none⟩=some v:=fun j v hj=>(below_cell HB1.out (p:=⟨b,_,none⟩) hbl).trans (hcc k j x v hx hj)
  have c0:w1.cell? ⟨b,off+k * 10,none⟩=some (.int .u8 x.d):=hcell 0 _ rfl
  have c8:w1.cell? ⟨b,off+k * 10+8,none⟩=some (.string x.s):=hcell 8 _ rfl
  have c9:w1.cell? ⟨b,off+k * 10+9,none⟩=some (.slice x.ma x.mn x.mc):=hcell 9 _ rfl
  have htk:l.take (k+1)=l.take k++[x]:=by
   have hkl:=List.getElem?_eq_some_iff.1 hx
   rw [List.take_succ_eq_append_getElem hkl.1,hkl.2]
  have HTK:=hid htk
  clear hcc hcell hx htk
  by_cases h5:120 < x.s.size
  ·have d5:decide (120 < x.s.size)=true:=decide_eq_true h5
   have d5':decide ((120:Int) < (x.s.size:Int))=true:=decide_eq_true (by omega)
   go_wp2_with fail
   go_ret
   exact ⟨false,rfl,HB1.out,fun h=>by cases h⟩
  have d5:decide (120 < x.s.size)=false:=decide_eq_false h5
  have d5':decide ((120:Int) < (x.s.size:Int))=false:=decide_eq_false (by omega)
  by_cases h6:4 < x.mn
  ·have d6:decide (4 < x.mn)=true:=decide_eq_true h6
   have d6':decide ((4:Int) < (x.mn:Int))=true:=decide_eq_true (by omega)
   go_wp2_with fail
   go_ret
   exact ⟨false,rfl,HB1.out,fun h=>by cases h⟩
  have d6:decide (4 < x.mn)=false:=decide_eq_false h6
  have d6':decide ((4:Int) < (x.mn:Int))=false:=decide_eq_false (by omega)
  have HALL':=hid (show ∀z ∈ l.take (k+1),z.s.size<=120/\z.mn<=4 from fun z hz=>by
   rw [HTK.out] at hz
   rcases List.mem_append.1 hz with hz | hz
   ·exact HALL.out z hz
   ·rw [List.mem_singleton.1 hz]
    omega)
  clear h5 h6
  by_cases h7:x.d.tmod 8=6
  ·have d7:(x.d.tmod 8 == 6)=true:=by rw [beq_iff_eq];exact h7
   have HC7:=hid (show cnt6 (l.take (k+1))=cn+1 from by rw [HTK.out,HCN.out];unfold cnt6;rw [List.filter_append,List.length_append];simp [h7])
   clear h7
   go_wp2_with fail
   go_roundw
   case rel=>exact ⟨k+1,hlt,by go_num,by rw [HC7.out];go_num,HALL'.out,by first | rfl | trivial⟩
   case measure=>simp [intOf];omega
  ·have d7:(x.d.tmod 8 == 6)=false:=by rw [beq_eq_false_iff_ne];exact h7
   have HC7:=hid (show cnt6 (l.take (k+1))=cn from by rw [HTK.out,HCN.out];unfold cnt6;rw [List.filter_append,List.length_append];simp [h7])
   clear h7
   go_wp2_with fail
   go_roundw
   case rel=>exact ⟨k+1,hlt,by go_num,by rw [HC7.out],HALL'.out,by first | rfl | trivial⟩
   case measure=>simp [intOf];omega
 ·obtain rfl:k=n:=by omega
  obtain ⟨e1,e2⟩:=dc_ltF (a:=k) (b:=k) (by omega)
  go_wp2_with fail
  go_ret
  refine ⟨_,rfl,HB1.out,fun hb=>?_⟩
  have htl:l.take k=l:=List.take_of_length_le (by rw [HE.out.1];exact Nat.le_refl _)
  have hc6:cn<=6:=by
   have:=of_decide_eq_true hb
   omega
  rw [HCN.out,htl] at hc6
  have hal:=HALL.out
  rw [htl] at hal
  exact ⟨h1,HVD.out,HR1.out.1,HR1.out.2,hn150,hal,hc6⟩
 )
theorem cnt6_take {l:List EvR} {k:Nat} {x:EvR} (h:l[k]?=some x):cnt6 (l.take (k+1))=cnt6 (l.take k)+(if x.d.tmod 8=6 then 1 else 0):=by
 have hkl:=List.getElem?_eq_some_iff.1 h
 rw [List.take_succ_eq_append_getElem hkl.1,hkl.2]
 unfold cnt6
 rw [List.filter_append,List.length_append]
 by_cases h6:x.d.tmod 8=6 <;> simp [h6]
theorem cnt6_le (l:List EvR) (k:Nat):cnt6 (l.take k)<=cnt6 l:=by
 unfold cnt6
 exact List.Sublist.length_le ((List.take_sublist k l).filter _)
end Go.Proofs.YtjcdknhejcbpiaaGreat
