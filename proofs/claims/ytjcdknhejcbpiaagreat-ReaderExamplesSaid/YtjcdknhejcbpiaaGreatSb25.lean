/- Lemmas; no condition. -/
import Derived.Test.YtjcdknhejcbpiaaGreatSb20
set_option maxRecDepth 100000
set_option maxHeartbeats 4000000
namespace Go.Proofs.YtjcdknhejcbpiaaGreat
open Go.RowKit
set_option linter.unusedVariables false
set_option linter.unusedSimpArgs false
set_option linter.unusedSectionVars false
theorem qerr_newG {q cN:Nat} (h1:1<=q) (h2:q<=64) (h3:5+q<=cN) (h4:cN<=4096):qerr (List.replicate cN 0) 3 4 5 q=0:=by
 unfold qerr
 rw [List.length_replicate,if_neg (by omega),if_neg (fun e=>e ⟨⟨by omega,by omega⟩,⟨by omega,by omega⟩,by omega,by omega⟩),if_neg (by omega),if_neg]
 rintro ⟨j,_,hj,_⟩
 exact hj (lk_rep _ j)
theorem eerr_newG {q cN r:Nat} (h1:1<=q) (h2:q<=64) (h3:5+q+r<=cN) (h4:r<=64):eerr (List.replicate cN 0) 2 (5+(q:Int)) (r:Int)=0:=by
 unfold eerr
 rw [List.length_replicate,if_neg (by omega),if_neg (fun e=>e ⟨⟨by omega,by omega⟩,by omega⟩),if_neg (by omega),if_neg]
 rintro (e | ⟨j,_,_,hj⟩)
 ·exact e (lk_rep _ _)
 ·exact hj (lk_rep _ j)
theorem mem_appG {α:Type} {L:List α} {j:Nat} {r s:α} (h:(L++[r])[j]?=some s):(j=L.length/\s=r)\/L[j]?=some s:=by
 rw [List.getElem?_append] at h
 split at h
 ·exact .inr h
 ·have hj:j - L.length=0:=by
   have:=(List.getElem?_eq_some_iff.1 h).1
   simp at this
   omega
  rw [hj] at h
  simp at h
  exact .inl ⟨by omega,h.symm⟩
theorem RopeRes.n {n m:Nat} {s:ByteArray} {x:Rt} {en:Int} {ns:List An} (h:RopeRes n s x en ns) (e:n=m):RopeRes m s x en ns:=e ▸ h
def SnwOut (n q cl:Nat) (ge re ba fe:Int) (s:ByteArray) (w:World) (e:Ending) (w':World):Prop:=
 (∃x ns,RopeRes n s x 6 ns/\e=.returned (.tuple #[.pointer none,.int .i64 6])/\Below w.heap.size w w')\/
 (∃(x:Rt) (ns:List An) (sb p cb:Nat) (A:ArA) (qb eb pb rvb rN cN:Nat) (fv:Value) (fds:List (Nat × Array Value)),RopeRes n s x 0 ns/\ArP ns/\e=.returned (.tuple #[.pointer (some ⟨sb,0,none⟩),.int .i64 0])/\A.n=n/\fds.length=cl/\(cl:Int) * re=rN/\(cN:Int)=5+(q:Int)+(cl:Int) * re+cl+cl * (4+fe)/\(∀(j:Nat) (x:Nat × Array Value),fds[j]?=some x->x.2=fzero p (5+(q:Int)+(cl:Int) * re+cl+(j:Int) * (4+fe)).toNat fe.toNat)/\Mem w.heap.size w ([blkR sb 125 (stoCells [.int .i64 (n:Int),.int .u64 ge,.int .i64 (cl:Int),.int .i64 re,.int .i64 (q:Int),.int .i64 ba,.int .i64 fe,.string s,.int .i64 0,.int .i64 1,.int .i64 2,.int .i64 3,.int .i64 4,.int .i64 5,.int .i64 (5+(q:Int)),.int .i64 (5+(q:Int)+(cl:Int) * re),.int .i64 (5+(q:Int)+(cl:Int) * re+cl),.int .i64 (cN:Int)] (.pointer (some ⟨p,0,none⟩)) (.pointer (some ⟨A.ab,0,none⟩)) (.pointer (some ⟨qb,0,none⟩)) (.pointer (some ⟨eb,0,none⟩)) (fv) (.slice (some ⟨rvb,0,none⟩) 1 1) (List.replicate 8 OpV.zero) (List.replicate 8 (RsV.zero,.slice none 0 0))).toArray,bankR w.heap.size p cb (.slice none 0 0) (List.replicate cN 0) [],arR A ns 0,rowR w.heap.size 104 8 1 (.slice (some ⟨rvb,0,none⟩) 1 1) [.int .i64 0,.int .u64 x.a,.int .i64 x.h,.int .i64 x.b,.int .i64 x.r,.int .i64 x.l,.slice none 0 0,.slice none 0 0],blkR qb 194 #[.pointer (some ⟨p,0,none⟩),.int .i64 3,.int .i64 4,.int .i64 5,.int .u64 (q:Int),.pointer none],blkR eb 200 #[.pointer (some ⟨p,0,none⟩),.int .i64 2,.int .i64 (5+(q:Int)),.int .i64 (rN:Int),.slice (some ⟨pb,0,none⟩) rN rN,.pointer none],blkR pb 109 (madeX #[.pointer none] rN),rowR w.heap.size 136 1 cl (fv) (fdsV fds)]++fdsR fds) w')
theorem ferr_newG {cN:Nat} {first fe:Int} (h1:1<=fe) (h2:fe<=64) (h3:0<=first) (h4:first+4+fe<=cN):ferr (List.replicate cN 0) first fe=0:=by
 unfold ferr
 rw [List.length_replicate,if_neg (by omega),if_neg (by omega),if_neg]
 rintro ⟨j,_,hj⟩
 exact hj (lk_rep _ _)
theorem not_fpG {B:Nat} {w:World} {p cb g:Nat} {lv:Value} {vs:List Int} {lg:List Acc} {t:TypeId} {cs:Array Value} (h:Bank B w p cb lv vs lg) (hg:Blk w g t cs) (h1:t≠147) (h2:t≠152) (h3:t≠89):¬FP p cb lv g:=by
 rintro (e | e | e)
 ·exact hg.ne h.hp h1 e
 ·exact hg.ne h.hc h2 e
 ·exact hg.own h.hl h3 e
theorem rev_row {B:Nat} {w:World} {rvb:Nat} {a b c d e f:Value} (h:Blk w rvb 104 #[a,b,c,d,e,f,.slice none 0 0,.slice none 0 0]) (hb:B<=rvb):w.ownsRow B 104 8 (.slice (some ⟨rvb,0,none⟩) 1 1) 1 [a,b,c,d,e,f,.slice none 0 0,.slice none 0 0]:=
 ⟨rfl,.inr ⟨rvb,1,_,rfl,hb,h,Nat.le_refl _,by decide,rfl,rfl⟩⟩
theorem snew (n q cl:Nat) (ge re ba fe:Int) (s:ByteArray) (hok:ckE ⟨n,ge,(cl:Int),re,q,ba,fe,s⟩=0) (w:World):Calls Tryz.prog 18 #[(Cf.mk n ge cl re q ba fe s).v] w (SnwOut n q cl ge re ba fe s w):=by
 obtain ⟨⟨n1,n2⟩,⟨g1,g2⟩,⟨k1,k2⟩,⟨r1,r2⟩,⟨q1,q2⟩,⟨b1,b2⟩,⟨f1,f2⟩⟩:=ck_nums hok
 simp only at n1 n2 g1 g2 k1 k2 r1 r2 q1 q2 b1 b2 f1 f2
 have htx:s.size<=65536:=by
  have h:=hok
  unfold ckE at h
  split at h
  ·cases h
  ·split at h
   ·cases h
   ·rename_i h5;simp only at h5;omega
 obtain ⟨m1,m2⟩:=mul_bd (a:=(cl:Int)) (b:=re) (by omega) k2 (by omega) r2
 obtain ⟨m3,m4⟩:=mul_bd (a:=(cl:Int)) (b:=4+fe) (n:=100) (by omega) k2 (by omega) (by omega)
 obtain ⟨l7,hl7⟩:∃x:Int,x=5+(q:Int)+(cl:Int) * re:=⟨_,rfl⟩
 obtain ⟨l8,hl8⟩:∃x:Int,x=5+(q:Int)+(cl:Int) * re+cl:=⟨_,rfl⟩
 obtain ⟨cN,hcN⟩:∃x:Nat,(x:Int)=5+(q:Int)+(cl:Int) * re+cl+cl * (4+fe):=⟨(5+(q:Int)+(cl:Int) * re+cl+cl * (4+fe)).toNat,by omega⟩
 obtain ⟨rN,hrN⟩:∃x:Nat,(cl:Int) * re=(x:Int):=⟨((cl:Int) * re).toNat,by omega⟩
 have rN64:rN<=64:=by omega
 have c56:5+q+rN<=cN:=by omega
 have HRN:=hid hrN
 have HL7:=hid hl7
 have HL8:=hid hl8
 have HCN:=hid hcN
 have c5:5<=cN:=by omega
 have c55:5+q<=cN:=by omega
 have c6:cN<=4096:=by omega
 have hlay:layV (Cf.l6 ⟨n,ge,(cl:Int),re,q,ba,fe,s⟩) (Cf.l7 ⟨n,ge,(cl:Int),re,q,ba,fe,s⟩) (Cf.l8 ⟨n,ge,(cl:Int),re,q,ba,fe,s⟩) (Cf.l9 ⟨n,ge,(cl:Int),re,q,ba,fe,s⟩)=.agg #[.int .i64 0,.int .i64 1,.int .i64 2,.int .i64 3,.int .i64 4,.int .i64 5,.int .i64 (5+(q:Int)),.int .i64 l7,.int .i64 l8,.int .i64 (cN:Int)]:=by simp [layV,Cf.l6,Cf.l7,Cf.l8,Cf.l9,hl7,hl8,hcN]
 have HLAY:=hid hlay
 clear hl7 hl8 hcN m1 m2 m3 m4 hlay hrN
 have hpl:=fun W=>place_ok ⟨n,ge,(cl:Int),re,q,ba,fe,s⟩ W (by show s.size<=1000000;omega) hok
 have HPL:=hid hpl
 clear hpl hok
 simp only [Cf.v]
 go_enter Tryz.func18,Tryz.ntmps18
 go_wp2_with fail
 refine calls_world fun W1 hW1=>?_
 have C1:=hid (show Ch (fun _=>False) w W1 from by rw [hW1];exact (Ch.refl _ w).alloc _)
 have F1:=hid (show Blk W1 w.heap.size 66 #[.int .i64 (n:Int),.int .u64 ge,.int .i64 (cl:Int),.int .i64 re,.int .i64 (q:Int),.int .i64 ba,.int .i64 fe,.string s] from by rw [hW1];exact Blk.new w _ _)
 clear hW1
 refine (HPL.out W1).mono ?_
 rintro e w2 ⟨rfl,hbel⟩
 have hc:=below_ch hbel
 have C2:=hid (C1.out.trans hc (fun _ _ h=>h))
 have F2:=hid (hc.blk F1.out id)
 have l2:=F2.out.lt
 clear hc hbel
 rw [HLAY.out]
 obtain ⟨r0,r1,r2,r3,r4,r5,r6,r7⟩:=F2.out.c8
 go_wp2_with fail
 obtain ⟨BIG,hBIG⟩:∃A,A=(((((((((((((((((((Tryz.zeroCells125).setIfInBounds 0 (.int .i64 (n:Int))).setIfInBounds 1 (.int .u64 ge)).setIfInBounds 2 (.int .i64 (cl:Int))).setIfInBounds 3 (.int .i64 re)).setIfInBounds 4 (.int .i64 (q:Int))).setIfInBounds 5 (.int .i64 ba)).setIfInBounds 6 (.int .i64 fe)).setIfInBounds 7 (.string s)).setIfInBounds 8 (.int .i64 0)).setIfInBounds 9 (.int .i64 1)).setIfInBounds 10 (.int .i64 2)).setIfInBounds 11 (.int .i64 3)).setIfInBounds 12 (.int .i64 4)).setIfInBounds 13 (.int .i64 5)).setIfInBounds 14 (.int .i64 (5+(q:Int)))).setIfInBounds 15 (.int .i64 l7)).setIfInBounds 16 (.int .i64 l8)).setIfInBounds 17 (.int .i64 (cN:Int))):=⟨_,rfl⟩
 rw [<-hBIG]
 refine calls_world fun W3 hW3=>?_
 have C3:=hid (show Ch (fun _=>False) w W3 from by rw [hW3];exact (C2.out.alloc _).alloc _)
 have F3:=hid (show Blk W3 w.heap.size 66 #[.int .i64 (n:Int),.int .u64 ge,.int .i64 (cl:Int),.int .i64 re,.int .i64 (q:Int),.int .i64 ba,.int .i64 fe,.string s] from by rw [hW3];exact (F2.out.alloc _).alloc _)
 obtain ⟨lb0,hlb0⟩:∃x,x=w2.heap.size:=⟨_,rfl⟩
 have L3:=hid (show Blk W3 lb0 83 #[.int .i64 0,.int .i64 1,.int .i64 2,.int .i64 3,.int .i64 4,.int .i64 5,.int .i64 (5+(q:Int)),.int .i64 l7,.int .i64 l8,.int .i64 (cN:Int)] from by rw [hW3,hlb0];exact (Blk.new w2 _ _).alloc _)
 obtain ⟨sb,hsb⟩:∃x,x=w2.heap.size+1:=⟨_,rfl⟩
 have S3:=hid (show StC W3 sb [.int .i64 (n:Int),.int .u64 ge,.int .i64 (cl:Int),.int .i64 re,.int .i64 (q:Int),.int .i64 ba,.int .i64 fe,.string s,.int .i64 0,.int .i64 1,.int .i64 2,.int .i64 3,.int .i64 4,.int .i64 5,.int .i64 (5+(q:Int)),.int .i64 l7,.int .i64 l8,.int .i64 (cN:Int)] (.pointer none) (.pointer none) (.pointer none) (.pointer none) (.slice none 0 0) (.slice none 0 0) BIG from by
  rw [hBIG]
  refine st_new sb W3 (.int .i64 (n:Int)) (.int .u64 ge) (.int .i64 (cl:Int)) (.int .i64 re) (.int .i64 (q:Int)) (.int .i64 ba) (.int .i64 fe) (.string s) (.int .i64 0) (.int .i64 1) (.int .i64 2) (.int .i64 3) (.int .i64 4) (.int .i64 5) (.int .i64 (5+(q:Int))) (.int .i64 l7) (.int .i64 l8) (.int .i64 (cN:Int)) ?_
  rw [hsb,hW3,hBIG]
  have:=Blk.new (w2.alloc (.cells #[.int .i64 0,.int .i64 1,.int .i64 2,.int .i64 3,.int .i64 4,.int .i64 5,.int .i64 (5+(q:Int)),.int .i64 l7,.int .i64 l8,.int .i64 (cN:Int)] 83)) 125 (((((((((((((((((((Tryz.zeroCells125).setIfInBounds 0 (.int .i64 (n:Int))).setIfInBounds 1 (.int .u64 ge)).setIfInBounds 2 (.int .i64 (cl:Int))).setIfInBounds 3 (.int .i64 re)).setIfInBounds 4 (.int .i64 (q:Int))).setIfInBounds 5 (.int .i64 ba)).setIfInBounds 6 (.int .i64 fe)).setIfInBounds 7 (.string s)).setIfInBounds 8 (.int .i64 0)).setIfInBounds 9 (.int .i64 1)).setIfInBounds 10 (.int .i64 2)).setIfInBounds 11 (.int .i64 3)).setIfInBounds 12 (.int .i64 4)).setIfInBounds 13 (.int .i64 5)).setIfInBounds 14 (.int .i64 (5+(q:Int)))).setIfInBounds 15 (.int .i64 l7)).setIfInBounds 16 (.int .i64 l8)).setIfInBounds 17 (.int .i64 (cN:Int)))
  simpa [stArr] using this)
 have zs:w.heap.size < sb:=by have:=C2.out.size;omega
 have nl1:lb0≠sb:=by omega
 rw [<-hsb,<-hlb0]
 clear hW3 hBIG hsb hlb0
 have S3:=hid (⟨_,S3.out⟩:∃cs,StC W3 sb [.int .i64 (n:Int),.int .u64 ge,.int .i64 (cl:Int),.int .i64 re,.int .i64 (q:Int),.int .i64 ba,.int .i64 fe,.string s,.int .i64 0,.int .i64 1,.int .i64 2,.int .i64 3,.int .i64 4,.int .i64 5,.int .i64 (5+(q:Int)),.int .i64 l7,.int .i64 l8,.int .i64 (cN:Int)] (.pointer none) (.pointer none) (.pointer none) (.pointer none) (.slice none 0 0) (.slice none 0 0) cs)
 have nf1:w.heap.size≠sb:=Nat.ne_of_lt zs
 have nf2:sb≠w.heap.size:=Ne.symm nf1
 have nl2:sb≠lb0:=Ne.symm nl1
 have hcn:=new_ok w.heap.size cN (by omega) (by omega) W3 C3.out.size
 refine hcn.mono ?_
 rintro e w4 ⟨p,cb,rfl,hB,hc,_,_⟩
 clear hcn
 have F4:=hid (show Blk w4 w.heap.size 66 #[.int .i64 (n:Int),.int .u64 ge,.int .i64 (cl:Int),.int .i64 re,.int .i64 (q:Int),.int .i64 ba,.int .i64 fe,.string s] from hc.blk F3.out id)
 have L4:=hid (show Blk w4 lb0 83 #[.int .i64 0,.int .i64 1,.int .i64 2,.int .i64 3,.int .i64 4,.int .i64 5,.int .i64 (5+(q:Int)),.int .i64 l7,.int .i64 l8,.int .i64 (cN:Int)] from hc.blk L3.out id)
 have S4:=hid (show ∃cs,StC w4 sb [.int .i64 (n:Int),.int .u64 ge,.int .i64 (cl:Int),.int .i64 re,.int .i64 (q:Int),.int .i64 ba,.int .i64 fe,.string s,.int .i64 0,.int .i64 1,.int .i64 2,.int .i64 3,.int .i64 4,.int .i64 5,.int .i64 (5+(q:Int)),.int .i64 l7,.int .i64 l8,.int .i64 (cN:Int)] (.pointer none) (.pointer none) (.pointer none) (.pointer none) (.slice none 0 0) (.slice none 0 0) cs from by obtain ⟨cs,h⟩:=S3.out;exact ⟨cs,h.keep hc id⟩)
 have C4:=hid (C3.out.trans hc (fun _ _ h=>h))
 have B4:=hid hB
 clear hB hc
 obtain ⟨xc0,xc1⟩:=F4.out.c2
 have xs18:w4.cell? ⟨sb,18,none⟩=some (.pointer none):=by obtain ⟨cs,h⟩:=S4.out;exact (h.blk.cell 18).trans h.c18
 have xf18:w4.frozen? ⟨sb,18,none⟩=false:=by obtain ⟨cs,h⟩:=S4.out;exact h.blk.free 18
 go_wp2_with fail
 refine calls_world fun W5 hW5=>?_
 clear xc0 xc1 xs18 xf18
 have ch5:Ch (fun j=>j=sb) w4 W5:=by rw [hW5];exact (Ch.refl (fun j=>j=sb) w4).set (fun _=>rfl) _
 have hs4:∃cs,Blk w4 sb 125 cs:=by obtain ⟨cs,h⟩:=S4.out;exact ⟨cs,h.blk⟩
 obtain ⟨cs4,hb4⟩:=hs4
 have F5:=hid (show Blk W5 w.heap.size 66 #[.int .i64 (n:Int),.int .u64 ge,.int .i64 (cl:Int),.int .i64 re,.int .i64 (q:Int),.int .i64 ba,.int .i64 fe,.string s] from ch5.blk F4.out (fun e=>Blk.ne F4.out hb4 (by decide) e))
 have L5:=hid (show Blk W5 lb0 83 #[.int .i64 0,.int .i64 1,.int .i64 2,.int .i64 3,.int .i64 4,.int .i64 5,.int .i64 (5+(q:Int)),.int .i64 l7,.int .i64 l8,.int .i64 (cN:Int)] from ch5.blk L4.out (fun e=>Blk.ne L4.out hb4 (by decide) e))
 have S5:=hid (show ∃cs,StC W5 sb [.int .i64 (n:Int),.int .u64 ge,.int .i64 (cl:Int),.int .i64 re,.int .i64 (q:Int),.int .i64 ba,.int .i64 fe,.string s,.int .i64 0,.int .i64 1,.int .i64 2,.int .i64 3,.int .i64 4,.int .i64 5,.int .i64 (5+(q:Int)),.int .i64 l7,.int .i64 l8,.int .i64 (cN:Int)] (.pointer (some ⟨p,0,none⟩)) (.pointer none) (.pointer none) (.pointer none) (.slice none 0 0) (.slice none 0 0) cs from by obtain ⟨cs,h⟩:=S4.out;exact ⟨_,by rw [hW5];exact h.put18 _⟩)
 have B5:=hid (show Bank w.heap.size W5 p cb (.slice none 0 0) (List.replicate cN 0) [] from B4.out.ch ch5 (fun e=>Blk.ne B4.out.hp hb4 (by decide) e) (fun e=>Blk.ne B4.out.hc hb4 (by decide) e) (fun k hk=>by simp [Value.ownBlock] at hk))
 have C5:=hid (C4.out.trans ch5 (fun i hi e=>absurd hi (by omega)))
 clear ch5 hb4
 clear hW5
 refine (arena_new n ge (by omega) (by omega) g1 g2 W5).mono ?_
 rintro e w6 ⟨A,hAn,hAg,rfl,hA,hc,hlow⟩
 have HLOW:=hid (show ∀k,A.foot [] k->w.heap.size<=k from fun k hk=>Nat.le_trans C5.out.size (hlow k hk))
 clear hlow
 have F6:=hid (show Blk w6 w.heap.size 66 #[.int .i64 (n:Int),.int .u64 ge,.int .i64 (cl:Int),.int .i64 re,.int .i64 (q:Int),.int .i64 ba,.int .i64 fe,.string s] from hc.blk F5.out id)
 have L6:=hid (show Blk w6 lb0 83 #[.int .i64 0,.int .i64 1,.int .i64 2,.int .i64 3,.int .i64 4,.int .i64 5,.int .i64 (5+(q:Int)),.int .i64 l7,.int .i64 l8,.int .i64 (cN:Int)] from hc.blk L5.out id)
 have S6:=hid (show ∃cs,StC w6 sb [.int .i64 (n:Int),.int .u64 ge,.int .i64 (cl:Int),.int .i64 re,.int .i64 (q:Int),.int .i64 ba,.int .i64 fe,.string s,.int .i64 0,.int .i64 1,.int .i64 2,.int .i64 3,.int .i64 4,.int .i64 5,.int .i64 (5+(q:Int)),.int .i64 l7,.int .i64 l8,.int .i64 (cN:Int)] (.pointer (some ⟨p,0,none⟩)) (.pointer none) (.pointer none) (.pointer none) (.slice none 0 0) (.slice none 0 0) cs from by obtain ⟨cs,h⟩:=S5.out;exact ⟨cs,h.keep hc id⟩)
 have B6:=hid (show Bank w.heap.size w6 p cb (.slice none 0 0) (List.replicate cN 0) [] from B5.out.ch hc id id (fun _ _=>id))
 have C6:=hid (C5.out.trans hc (fun _ _ h=>h))
 have A6:=hid hA
 clear hA hc
 have xs19:w6.cell? ⟨sb,19,none⟩=some (.pointer none):=by obtain ⟨cs,h⟩:=S6.out;exact (h.blk.cell 19).trans h.c19
 have xf19:w6.frozen? ⟨sb,19,none⟩=false:=by obtain ⟨cs,h⟩:=S6.out;exact h.blk.free 19
 go_wp2_with fail
 refine at_world fun W7 hW7=>?_
 clear xs19 xf19
 have ch7:Ch (fun j=>j=sb) w6 W7:=by rw [hW7];exact (Ch.refl (fun j=>j=sb) w6).set (fun _=>rfl) _
 have hs6:∃cs,Blk w6 sb 125 cs:=by obtain ⟨cs,h⟩:=S6.out;exact ⟨cs,h.blk⟩
 obtain ⟨cs6,hb6⟩:=hs6
 have F7:=hid (show Blk W7 w.heap.size 66 #[.int .i64 (n:Int),.int .u64 ge,.int .i64 (cl:Int),.int .i64 re,.int .i64 (q:Int),.int .i64 ba,.int .i64 fe,.string s] from ch7.blk F6.out (fun e=>Blk.ne F6.out hb6 (by decide) e))
 have L7:=hid (show Blk W7 lb0 83 #[.int .i64 0,.int .i64 1,.int .i64 2,.int .i64 3,.int .i64 4,.int .i64 5,.int .i64 (5+(q:Int)),.int .i64 l7,.int .i64 l8,.int .i64 (cN:Int)] from ch7.blk L6.out (fun e=>Blk.ne L6.out hb6 (by decide) e))
 have S7:=hid (show ∃cs,StC W7 sb [.int .i64 (n:Int),.int .u64 ge,.int .i64 (cl:Int),.int .i64 re,.int .i64 (q:Int),.int .i64 ba,.int .i64 fe,.string s,.int .i64 0,.int .i64 1,.int .i64 2,.int .i64 3,.int .i64 4,.int .i64 5,.int .i64 (5+(q:Int)),.int .i64 l7,.int .i64 l8,.int .i64 (cN:Int)] (.pointer (some ⟨p,0,none⟩)) (.pointer (some ⟨A.ab,0,none⟩)) (.pointer none) (.pointer none) (.slice none 0 0) (.slice none 0 0) cs from by obtain ⟨cs,h⟩:=S6.out;exact ⟨_,by rw [hW7];exact h.put19 _⟩)
 have B7:=hid (show Bank w.heap.size W7 p cb (.slice none 0 0) (List.replicate cN 0) [] from B6.out.ch ch7 (fun e=>Blk.ne B6.out.hp hb6 (by decide) e) (fun e=>Blk.ne B6.out.hc hb6 (by decide) e) (fun k hk=>by simp [Value.ownBlock] at hk))
 have A7:=hid (show ArM A W7 [] 0 from A6.out.keep ch7 (fun b _ hf e=>(by subst e;rcases hf with hf | hf | hf | ⟨z,hz,_⟩;exact A6.out.off hb6 (by decide) (by decide) (by decide) hf;exact Blk.ne hb6 A6.out.b0 (by decide) hf;exact Blk.ne hb6 A6.out.b2 (by decide) hf;simp at hz)))
 have C7:=hid (C6.out.trans ch7 (fun i hi e=>absurd hi (by omega)))
 clear ch7 hb6
 clear hW7
 have xc7:W7.cell? ⟨w.heap.size,7,none⟩=some (.string s):=F7.out.cell 7
 have xs19:W7.cell? ⟨sb,19,none⟩=some (.pointer (some ⟨A.ab,0,none⟩)):=by obtain ⟨cs,h⟩:=S7.out;exact (h.blk.cell 19).trans h.c19
 obtain ⟨SS,hSS⟩:∃S:Nat->Prop,∀k,S k↔(k=sb\/k=w.heap.size):=⟨_,fun _=>Iff.rfl⟩
 have HS:=hid hSS
 have hS1:Mix.Has SS sb:=(hSS _).2 (.inl rfl)
 have hS2:Mix.Has SS w.heap.size:=(hSS _).2 (.inr rfl)
 clear hSS
 have nmsb:=hid (show ¬A.mut sb from by obtain ⟨cs,h⟩:=S7.out;exact A7.out.off h.blk (by decide) (by decide) (by decide))
 have nmcf:=hid (A7.out.off F7.out (by decide) (by decide) (by decide))
 have lsb:sb < W7.heap.size:=by obtain ⟨cs,h⟩:=S7.out;exact h.blk.lt
 have lcf:w.heap.size < W7.heap.size:=F7.out.lt
 have CC:=hid (Ch.refl (fun _=>False) W7)
 refine Mix.wp_region_XJ SS (fun i=>([1,1,1,4,1,4,3,1,1,1,3,2,0]:List Nat).getD i 0) (fun a0 a' w'=>∃rb x en,a'=((((((((((((a0.put (some 50) (.pointer (some ⟨sb,0,none⟩))).put (some 51) (.pointer (some ⟨sb,0,none⟩))).put (some 52) (.pointer (some ⟨sb,19,none⟩))).put (some 53) (.pointer (some ⟨A.ab,0,none⟩))).put (some 54) (.pointer (some ⟨w.heap.size,7,none⟩))).put (some 55) (.string s)).put (some 56) (.tuple #[(.agg #[.int .u64 x.a,.int .i64 x.h,.int .i64 x.b,.int .i64 x.r,.int .i64 x.l]),.int .i64 en])).put (some 49) (.tuple #[(.agg #[.int .u64 x.a,.int .i64 x.h,.int .i64 x.b,.int .i64 x.r,.int .i64 x.l]),.int .i64 en])).put (some 57) (.agg #[.int .u64 x.a,.int .i64 x.h,.int .i64 x.b,.int .i64 x.r,.int .i64 x.l])).put (some 58) (.int .i64 en)).put (some 7) (.pointer (some ⟨rb,0,none⟩))).put (some 5) (.int .i64 en))/\Blk w' rb 102 #[.int .u64 x.a,.int .i64 x.h,.int .i64 x.b,.int .i64 x.r,.int .i64 x.l]/\RopeMem A s x en W7 w'/\W7.heap.size<=rb) (by kernel_rfl) ?_ ?_
 ·refine Mix.wpX_prefix (fuel:=7) (by kernel_rfl) [0,1,2,3,4,5] _ _ _ (by kernel_rfl) ?_
  repeat (first | (refine Mix.zp ?_;go_big_quiet_step (fail);refine wpQuiet_nil ?_) | (refine Mix.zs ?_;go_big_quiet_step (fail);refine wpQuiet_nil ?_))
  intro m0
  refine Mix.wpX_world fun V0 hV0=>?_
  have C0:=hid (show Ch (fun _=>False) W7 V0 from hV0 ▸ CC.out.drewN m0)
  clear hV0 xc7 xs19
  refine Mix.wpX_two 6 10 (by kernel_rfl) ?_ ?_
  {
 refine Mix.za fun Y1 hY1=>?_
 obtain ⟨y1,rfl⟩:=hY1
 go_wp2_with fail
 refine (rope_mem A s (V0.drewN y1) (A7.out.keep0 (C0.out.drewN y1)) htx (by omega)).mono ?_
 rintro e V1 ⟨x,en,rfl,hR⟩
 simp only [Rt.v]
 have MR:=hid hR
 have DK:=hid (((Ch.refl (fun _=>False) V0).drewN y1).mono (fp':=A.mut) (fun _ _ e=>e.elim) |>.trans hR.ch (fun _ _ h=>h))
 clear hR
 have z0:=C0.out.size
 have z1:=DK.out.size
 go_wp2_with fail
 refine ⟨fun j' hj'=>DK.out.block j' (by rcases (HS.out j').1 hj' with rfl | rfl <;> omega) (by rcases (HS.out j').1 hj' with rfl | rfl;exact nmsb.out;exact nmcf.out),?_⟩
 intro m1
 refine Mix.wpX_world fun V2 hV2=>?_
 have D2:=hid (show Ch (fun _=>False) V1 V2 from hV2 ▸ (Ch.refl (fun _=>False) V1).drewN m1)
 clear hV2
 refine Mix.wpX_prefix (fuel:=0) (by kernel_rfl) [7,8,9,10,11,12] _ _ _ (by kernel_rfl) ?_
 repeat (refine Mix.zp ?_;go_big_quiet_step (fail);refine wpQuiet_nil ?_)
 refine Mix.za fun Y2 hY2=>?_
 obtain ⟨y2,rfl⟩:=hY2
 go_wp2_with fail
 have zz1:=D2.out.size
 refine ⟨fun j' hj'=>(((Ch.refl (fun _=>False) V2).drewN y2).alloc _).block j' (by rcases (HS.out j').1 hj' with rfl | rfl <;> omega) id,?_⟩
 refine Mix.mix_world fun V3 hV3=>?_
 have D3:=hid (show Ch (fun _=>False) V1 V3 from by rw [hV3];exact (D2.out.drewN y2).alloc _)
 have G3:=hid (show Blk V3 V2.heap.size 102 #[.int .u64 0,.int .i64 0,.int .i64 0,.int .i64 0,.int .i64 0] from by rw [hV3];exact Blk.new (V2.drewN y2) 102 #[.int .u64 0,.int .i64 0,.int .i64 0,.int .i64 0,.int .i64 0])
 clear hV3
 have R1:=G3.out
 obtain ⟨rr0,rr1,rr2,rr3,rr4⟩:=R1.c5
 obtain ⟨rf0,rf1,rf2,rf3,rf4⟩:=R1.f5
 refine Mix.ze fun X1 hX1=>?_
 obtain ⟨o1,rfl⟩:=hX1
 go_wp2_with fail
 (refine Mix.zq ?_;go_big_quiet_step (fail);refine wpQuiet_nil ?_)
 intro m1
 refine Mix.wpX_done (by kernel_rfl) ?_
 intro u1
 refine ⟨V2.heap.size,x,en,?_,?_,?_,?_⟩
 ·simp only [Act.put,List.setIfInBounds_toArray,List.set_cons_succ,List.set_cons_zero]
 ·exact (((((((((R1.drewN o1).put 0 _).put 1 _).put 2 _).put 3 _).put 4 _)).drewN m1).drewN u1)
 ·exact MR.out.shift (C0.out.drewN y1) (D3.out.trans (((((((((Ch.refl (fun k=>k=V2.heap.size) V3).drewN o1).set (fun _=>rfl) _).set (fun _=>rfl) _).set (fun _=>rfl) _).set (fun _=>rfl) _).set (fun _=>rfl) _).drewN m1).drewN u1) (fun i hi e=>by omega)) (fun _ _ _=>id) (fun _ e=>e.elim) (fun _ _=>id)
 ·omega
 }
  {
 refine Mix.za fun Y1 hY1=>?_
 obtain ⟨y1,rfl⟩:=hY1
 go_wp2_with fail
 have z0:=C0.out.size
 refine ⟨fun j' hj'=>(((Ch.refl (fun _=>False) V0).drewN y1).alloc _).block j' (by rcases (HS.out j').1 hj' with rfl | rfl <;> omega) id,?_⟩
 intro m1
 refine Mix.wpX_world fun V2 hV2=>?_
 have D2:=hid (show Ch (fun _=>False) W7 V2 from by rw [hV2];exact ((C0.out.drewN y1).alloc _).drewN m1)
 have G2:=hid (show Blk V2 V0.heap.size 102 #[.int .u64 0,.int .i64 0,.int .i64 0,.int .i64 0,.int .i64 0] from by rw [hV2];exact (Blk.new (V0.drewN y1) 102 #[.int .u64 0,.int .i64 0,.int .i64 0,.int .i64 0,.int .i64 0]).drewN m1)
 have z2:=D2.out.size
 clear hV2
 refine Mix.wpX_prefix (fuel:=0) (by kernel_rfl) [6,7,8,9,11,12] _ _ _ (by kernel_rfl) ?_
 refine Mix.za fun Y2 hY2=>?_
 obtain ⟨y2,rfl⟩:=hY2
 go_wp2_with fail
 refine (rope_mem A s (V2.drewN y2) (A7.out.keep0 (D2.out.drewN y2)) htx (by omega)).mono ?_
 rintro e V3 ⟨x,en,rfl,hR⟩
 simp only [Rt.v]
 have MR:=hid hR
 have DK:=hid (((Ch.refl (fun _=>False) V2).drewN y2).mono (fp':=A.mut) (fun _ _ e=>e.elim) |>.trans hR.ch (fun _ _ h=>h))
 have A2:=hid (A7.out.keep0 D2.out)
 have G3:=hid (DK.out.blk G2.out (A2.out.off G2.out (by decide) (by decide) (by decide)))
 have g2l:=G2.out.lt
 clear hR
 go_wp2_with fail
 refine ⟨fun j' hj'=>DK.out.block j' (by rcases (HS.out j').1 hj' with rfl | rfl <;> omega) (by rcases (HS.out j').1 hj' with rfl | rfl;exact nmsb.out;exact nmcf.out),?_⟩
 repeat (refine Mix.zp ?_;go_big_quiet_step (fail);refine wpQuiet_nil ?_)
 have R2:=G3.out
 obtain ⟨rr0,rr1,rr2,rr3,rr4⟩:=R2.c5
 obtain ⟨rf0,rf1,rf2,rf3,rf4⟩:=R2.f5
 refine Mix.ze fun X2 hX2=>?_
 obtain ⟨o2,rfl⟩:=hX2
 go_wp2_with fail
 (refine Mix.zq ?_;go_big_quiet_step (fail);refine wpQuiet_nil ?_)
 intro m2
 refine Mix.wpX_done (by kernel_rfl) ?_
 intro u2
 refine ⟨V0.heap.size,x,en,?_,?_,?_,?_⟩
 ·simp only [Act.put,List.setIfInBounds_toArray,List.set_cons_succ,List.set_cons_zero]
 ·exact (((((((((R2.drewN o2).put 0 _).put 1 _).put 2 _).put 3 _).put 4 _)).drewN m2).drewN u2)
 ·exact MR.out.shift (D2.out.drewN y2) (((((((((Ch.refl (fun k=>k=V0.heap.size) V3).drewN o2).set (fun _=>rfl) _).set (fun _=>rfl) _).set (fun _=>rfl) _).set (fun _=>rfl) _).set (fun _=>rfl) _).drewN m2).drewN u2) (fun k _ hf e=>by subst e;rcases hf with hf | hf | hf | ⟨z,hz,_⟩;exact A2.out.off G2.out (by decide) (by decide) (by decide) hf;exact Blk.ne G2.out A2.out.b0 (by decide) hf;exact Blk.ne G2.out A2.out.b2 (by decide) hf;simp at hz) (fun k e=>.inl (by subst e;exact g2l)) (fun k hk e=>by omega)
 ·omega
 }
 ·clear hS1 hS2 HS CC xc7 xs19
  rintro a' w8 ⟨rb,x,en,rfl,hR,hM,hrb⟩
  simp only [Act.put,List.setIfInBounds_toArray,List.set_cons_succ,List.set_cons_zero]
  have hc:=hM.ch
  have F8:=hid (show Blk w8 w.heap.size 66 #[.int .i64 (n:Int),.int .u64 ge,.int .i64 (cl:Int),.int .i64 re,.int .i64 (q:Int),.int .i64 ba,.int .i64 fe,.string s] from hc.blk F7.out nmcf.out)
  have L8:=hid (show Blk w8 lb0 83 #[.int .i64 0,.int .i64 1,.int .i64 2,.int .i64 3,.int .i64 4,.int .i64 5,.int .i64 (5+(q:Int)),.int .i64 l7,.int .i64 l8,.int .i64 (cN:Int)] from hc.blk L7.out (A7.out.off L7.out (by decide) (by decide) (by decide)))
  have S8:=hid (show ∃cs,StC w8 sb [.int .i64 (n:Int),.int .u64 ge,.int .i64 (cl:Int),.int .i64 re,.int .i64 (q:Int),.int .i64 ba,.int .i64 fe,.string s,.int .i64 0,.int .i64 1,.int .i64 2,.int .i64 3,.int .i64 4,.int .i64 5,.int .i64 (5+(q:Int)),.int .i64 l7,.int .i64 l8,.int .i64 (cN:Int)] (.pointer (some ⟨p,0,none⟩)) (.pointer (some ⟨A.ab,0,none⟩)) (.pointer none) (.pointer none) (.slice none 0 0) (.slice none 0 0) cs from by obtain ⟨cs,h⟩:=S7.out;exact ⟨cs,h.keep hc nmsb.out⟩)
  have B8:=hid (show Bank w.heap.size w8 p cb (.slice none 0 0) (List.replicate cN 0) [] from B7.out.ch hc (A7.out.off B7.out.hp (by decide) (by decide) (by decide)) (A7.out.off B7.out.hc (by decide) (by decide) (by decide)) (fun k hk=>by simp [Value.ownBlock] at hk))
  have MEM:=hid hM
  have RB:=hid hR
  have z8:=hc.size
  have en06:en=0\/en=6:=by
   obtain ⟨ns,h,_⟩:=hM
   rcases h with ⟨_,_,h,_⟩ | ⟨_,t,_,_,_,⟨_,_,h,_⟩ | ⟨_,_,h,_⟩⟩
   ·exact .inl h
   ·exact .inl h
   ·exact .inr h
  have C8:=hid ((C7.out.mono (fp':=A.mut) (fun _ _ e=>e.elim)).trans hc (fun _ _ e=>e))
  clear hc hM hR
  rcases en06 with rfl | rfl
  {
 obtain ⟨ns,hres,hAM,hAP,_,hkb⟩:=MEM.out
 have A8:=hid hAM
 have RES:=hid hres
 have AP:=hid hAP
 have KB:=hid hkb
 have NSB:=hid (show ∀k,A.foot ns k->¬k=sb from fun k hf e=>by
  subst e
  obtain ⟨cs,h⟩:=S8.out
  rcases hf with hf | hf | hf | ⟨z,hz,hf⟩
  ·exact nmsb.out hf
  ·exact Blk.ne h.blk hAM.b0 (by decide) hf
  ·exact Blk.ne h.blk hAM.b2 (by decide) hf
  ·have:=hkb z hz _ hf;omega)
 have FL8:=hid (show ∀k,A.foot ns k->k < w8.heap.size from fun k hk=>hAM.foot_lt hk)
 have LOW8:=hid (show ∀k,A.foot ns k->w.heap.size<=k from fun k hf=>by
  rcases hf with hf | hf | hf | ⟨z,hz,hf⟩
  ·exact HLOW.out k (.inl hf)
  ·exact HLOW.out k (.inr (.inl hf))
  ·exact HLOW.out k (.inr (.inr (.inl hf)))
  ·exact Nat.le_trans C7.out.size (hkb z hz _ hf))
 have NBA:=hid (show ∀k,FP p cb (.slice none 0 0) k->¬A.foot ns k from fun k hk hf=>by
  rcases hk with rfl | rfl | hk
  ·exact hAM.noblk B8.out.hp (by decide) (by decide) (by decide) (by decide) (by decide) (fun y hy hb=>by have t1:=hkb y hy _ hb;have t2:=B7.out.hp.lt;omega) hf
  ·exact hAM.noblk B8.out.hc (by decide) (by decide) (by decide) (by decide) (by decide) (fun y hy hb=>by have t1:=hkb y hy _ hb;have t2:=B7.out.hc.lt;omega) hf
  ·simp [Value.ownBlock] at hk)
 clear hres hAM hAP hkb
 have xs23:w8.cell? ⟨sb,23,none⟩=some (.slice none 0 0):=by obtain ⟨cs,h⟩:=S8.out;exact (h.blk.cell 23).trans h.c23
 have xf23:w8.frozen? ⟨sb,23,none⟩=false:=by obtain ⟨cs,h⟩:=S8.out;exact h.blk.free 23
 obtain ⟨rr0,rr1,rr2,rr3,rr4⟩:=RB.out.c5
 have lsb8:sb < w8.heap.size:=by obtain ⟨cs,h⟩:=S8.out;exact h.blk.lt
 go_wp2_with fail
 refine at_world fun W9 hW9=>?_
 clear xs23 xf23
 clear rr0 rr1 rr2 rr3 rr4
 obtain ⟨rvb,hrvb⟩:∃x,x=w8.heap.size:=⟨_,rfl⟩
 rw [<-hrvb] at hW9
 have ch9:Ch (fun j=>j=sb) w8 W9:=by rw [hW9];exact ((Ch.refl (fun j=>j=sb) w8).set (fun _=>rfl) _).alloc _
 have hs8:∃cs,Blk w8 sb 125 cs:=by obtain ⟨cs,h⟩:=S8.out;exact ⟨cs,h.blk⟩
 obtain ⟨cs8,hb8⟩:=hs8
 have F9:=hid (show Blk W9 w.heap.size 66 #[.int .i64 (n:Int),.int .u64 ge,.int .i64 (cl:Int),.int .i64 re,.int .i64 (q:Int),.int .i64 ba,.int .i64 fe,.string s] from ch9.blk F8.out (fun e=>Blk.ne F8.out hb8 (by decide) e))
 have L9:=hid (show Blk W9 lb0 83 #[.int .i64 0,.int .i64 1,.int .i64 2,.int .i64 3,.int .i64 4,.int .i64 5,.int .i64 (5+(q:Int)),.int .i64 l7,.int .i64 l8,.int .i64 (cN:Int)] from ch9.blk L8.out (fun e=>Blk.ne L8.out hb8 (by decide) e))
 have S9:=hid (show ∃cs,StC W9 sb [.int .i64 (n:Int),.int .u64 ge,.int .i64 (cl:Int),.int .i64 re,.int .i64 (q:Int),.int .i64 ba,.int .i64 fe,.string s,.int .i64 0,.int .i64 1,.int .i64 2,.int .i64 3,.int .i64 4,.int .i64 5,.int .i64 (5+(q:Int)),.int .i64 l7,.int .i64 l8,.int .i64 (cN:Int)] (.pointer (some ⟨p,0,none⟩)) (.pointer (some ⟨A.ab,0,none⟩)) (.pointer none) (.pointer none) (.slice none 0 0) (.slice (some ⟨rvb,0,none⟩) 1 1) cs from by obtain ⟨cs,h⟩:=S8.out;exact ⟨_,by rw [hW9];exact (h.put23 _).keep ((Ch.refl (fun _=>False) _).alloc _) id⟩)
 have B9:=hid (show Bank w.heap.size W9 p cb (.slice none 0 0) (List.replicate cN 0) [] from B8.out.ch ch9 (fun e=>Blk.ne B8.out.hp hb8 (by decide) e) (fun e=>Blk.ne B8.out.hc hb8 (by decide) e) (fun k hk=>by simp [Value.ownBlock] at hk))
 have A9:=hid (show ArM A W9 ns 0 from A8.out.keep ch9 (fun b _ hf=>NSB.out b hf))
 have C9:=hid (C8.out.trans ch9 (fun i hi e=>absurd hi (by omega)))
 clear ch9 hb8
 have R9:=hid (show Blk W9 rvb 104 #[.int .i64 0,.int .u64 x.a,.int .i64 x.h,.int .i64 x.b,.int .i64 x.r,.int .i64 x.l,.slice none 0 0,.slice none 0 0] from by
  rw [hW9,hrvb]
  have:=Blk.new (w8.setCell ⟨sb,23,none⟩ (.slice (some ⟨w8.heap.size,0,none⟩) 1 1)) 104 #[.int .i64 0,.int .u64 x.a,.int .i64 x.h,.int .i64 x.b,.int .i64 x.r,.int .i64 x.l,.slice none 0 0,.slice none 0 0]
  simpa using this)
 rw [<-hrvb]
 have hrz:w.heap.size<=rvb:=by rw [hrvb];have:=C7.out.size;omega
 have hrz8:w8.heap.size<=rvb:=by omega
 clear hW9 hrvb RB
 have xc4:W9.cell? ⟨w.heap.size,4,none⟩=some (.int .i64 (q:Int)):=F9.out.cell 4
 obtain ⟨-,-,-,xl3,xl4,xl5⟩:=L9.out.c6
 have xs18:W9.cell? ⟨sb,18,none⟩=some (.pointer (some ⟨p,0,none⟩)):=by obtain ⟨cs,h⟩:=S9.out;exact (h.blk.cell 18).trans h.c18
 refine Mix.rt [1,0,0,0,0,0,0,0,0,0,0,0,0,2,0,0,1,0,0,2,0] [0,1,2,3,4,5,6,7,8,9,10,11,12,13,14,15,16,17,18,19,20] ?_
 repeat (first | (refine Mix.zq ?_;go_big_quiet_step (fail);refine wpQuiet_nil ?_) | (refine Mix.zp ?_;go_big_quiet_step (fail);refine wpQuiet_nil ?_))
 refine Mix.ze fun X3 hX3=>?_
 obtain ⟨k3,rfl⟩:=hX3
 go_wp2_with fail
 clear xc4 xl3 xl4 xl5 xs18
 refine (qnew_any w.heap.size p cb (.slice none 0 0) ⟨List.replicate cN 0,[]⟩ 3 4 5 (q:Int) (W9.drewN k3) (B9.out.ch ((Ch.refl (fun _=>False) W9).drewN k3) id id (fun _ _=>id)) (by show (List.replicate cN (0:Int)).length<=4096;rw [List.length_replicate];omega)).mono ?_
 rintro e w10 ⟨hc',hr⟩
 rw [show (⟨List.replicate cN 0,[]⟩:BS).vs=List.replicate cN 0 from rfl,qerr_newG (by omega) (by omega) (by omega) (by omega)] at hr
 rcases hr with ⟨h,_⟩ | ⟨_,qb,zq,rfl,hq⟩
 ·exact absurd rfl h
 have hc:=((Ch.refl (fun _=>False) W9).drewN k3).trans hc' (fun _ _ h=>h)
 have F10:=hid (show Blk w10 w.heap.size 66 #[.int .i64 (n:Int),.int .u64 ge,.int .i64 (cl:Int),.int .i64 re,.int .i64 (q:Int),.int .i64 ba,.int .i64 fe,.string s] from hc.blk F9.out id)
 have L10:=hid (show Blk w10 lb0 83 #[.int .i64 0,.int .i64 1,.int .i64 2,.int .i64 3,.int .i64 4,.int .i64 5,.int .i64 (5+(q:Int)),.int .i64 l7,.int .i64 l8,.int .i64 (cN:Int)] from hc.blk L9.out id)
 have S10:=hid (show ∃cs,StC w10 sb [.int .i64 (n:Int),.int .u64 ge,.int .i64 (cl:Int),.int .i64 re,.int .i64 (q:Int),.int .i64 ba,.int .i64 fe,.string s,.int .i64 0,.int .i64 1,.int .i64 2,.int .i64 3,.int .i64 4,.int .i64 5,.int .i64 (5+(q:Int)),.int .i64 l7,.int .i64 l8,.int .i64 (cN:Int)] (.pointer (some ⟨p,0,none⟩)) (.pointer (some ⟨A.ab,0,none⟩)) (.pointer none) (.pointer none) (.slice none 0 0) (.slice (some ⟨rvb,0,none⟩) 1 1) cs from by obtain ⟨cs,h⟩:=S9.out;exact ⟨cs,h.keep hc id⟩)
 have B10:=hid (show Bank w.heap.size w10 p cb (.slice none 0 0) (List.replicate cN 0) [] from B9.out.ch hc id id (fun _ _=>id))
 have A10:=hid (show ArM A w10 ns 0 from A9.out.keep0 hc)
 have R10:=hid (show Blk w10 rvb 104 #[.int .i64 0,.int .u64 x.a,.int .i64 x.h,.int .i64 x.b,.int .i64 x.r,.int .i64 x.l,.slice none 0 0,.slice none 0 0] from hc.blk R9.out id)
 have C10:=hid (C9.out.trans hc (fun _ _ h=>h.elim))
 have Q10:=hid hq
 clear hc hc' hq
 have xs20:w10.cell? ⟨sb,20,none⟩=some (.pointer none):=by obtain ⟨cs,h⟩:=S10.out;exact (h.blk.cell 20).trans h.c20
 have xf20:w10.frozen? ⟨sb,20,none⟩=false:=by obtain ⟨cs,h⟩:=S10.out;exact h.blk.free 20
 go_wp2_with fail
 repeat (first | (refine Mix.zq ?_;go_big_quiet_step (fail);refine wpQuiet_nil ?_) | (refine Mix.zp ?_;go_big_quiet_step (fail);refine wpQuiet_nil ?_))
 refine Mix.ze fun Z3 hZ3=>?_
 obtain ⟨j3,rfl⟩:=hZ3
 go_wp2_with fail
 clear xs20 xf20
 (refine Mix.zq ?_;go_big_quiet_step (fail);refine wpQuiet_nil ?_)
 intro i3
 go_wp2_with fail
 refine at_world fun W11 hW11=>?_
 have ch11:Ch (fun j=>j=sb) w10 W11:=by rw [hW11];exact (((Ch.refl (fun j=>j=sb) w10).drewN j3).set (fun _=>rfl) _).drewN i3
 have hs10:∃cs,Blk w10 sb 125 cs:=by obtain ⟨cs,h⟩:=S10.out;exact ⟨cs,h.blk⟩
 obtain ⟨cs10,hb10⟩:=hs10
 have F11:=hid (show Blk W11 w.heap.size 66 #[.int .i64 (n:Int),.int .u64 ge,.int .i64 (cl:Int),.int .i64 re,.int .i64 (q:Int),.int .i64 ba,.int .i64 fe,.string s] from ch11.blk F10.out (fun e=>Blk.ne F10.out hb10 (by decide) e))
 have L11:=hid (show Blk W11 lb0 83 #[.int .i64 0,.int .i64 1,.int .i64 2,.int .i64 3,.int .i64 4,.int .i64 5,.int .i64 (5+(q:Int)),.int .i64 l7,.int .i64 l8,.int .i64 (cN:Int)] from ch11.blk L10.out (fun e=>Blk.ne L10.out hb10 (by decide) e))
 have S11:=hid (show ∃cs,StC W11 sb [.int .i64 (n:Int),.int .u64 ge,.int .i64 (cl:Int),.int .i64 re,.int .i64 (q:Int),.int .i64 ba,.int .i64 fe,.string s,.int .i64 0,.int .i64 1,.int .i64 2,.int .i64 3,.int .i64 4,.int .i64 5,.int .i64 (5+(q:Int)),.int .i64 l7,.int .i64 l8,.int .i64 (cN:Int)] (.pointer (some ⟨p,0,none⟩)) (.pointer (some ⟨A.ab,0,none⟩)) (.pointer (some ⟨qb,0,none⟩)) (.pointer none) (.slice none 0 0) (.slice (some ⟨rvb,0,none⟩) 1 1) cs from by obtain ⟨cs,h⟩:=S10.out;exact ⟨_,by rw [hW11];exact ((h.drewN j3).put20 _).drewN i3⟩)
 have B11:=hid (show Bank w.heap.size W11 p cb (.slice none 0 0) (List.replicate cN 0) [] from B10.out.ch ch11 (fun e=>Blk.ne B10.out.hp hb10 (by decide) e) (fun e=>Blk.ne B10.out.hc hb10 (by decide) e) (fun k hk=>by simp [Value.ownBlock] at hk))
 have A11:=hid (show ArM A W11 ns 0 from A10.out.keep ch11 (fun b _ hf=>NSB.out b hf))
 have R11:=hid (show Blk W11 rvb 104 #[.int .i64 0,.int .u64 x.a,.int .i64 x.h,.int .i64 x.b,.int .i64 x.r,.int .i64 x.l,.slice none 0 0,.slice none 0 0] from ch11.blk R10.out (fun e=>Blk.ne R10.out hb10 (by decide) e))
 have Q11:=hid (show Blk W11 qb 194 #[.pointer (some ⟨p,0,none⟩),.int .i64 3,.int .i64 4,.int .i64 5,.int .u64 (q:Int),.pointer none] from ch11.blk Q10.out (fun e=>Blk.ne Q10.out hb10 (by decide) e))
 have C11:=hid (C10.out.trans ch11 (fun i hi e=>absurd hi (by omega)))
 clear ch11 hb10
 clear hW11
 have hmul:(cl:Int) * re=(rN:Int):=HRN.out
 obtain ⟨-,-,xc2,xc3⟩:=F11.out.c4
 obtain ⟨-,-,xl2,-,-,-,xl6⟩:=L11.out.c7
 have xs18:W11.cell? ⟨sb,18,none⟩=some (.pointer (some ⟨p,0,none⟩)):=by obtain ⟨cs,h⟩:=S11.out;exact (h.blk.cell 18).trans h.c18
 refine Mix.rt [1,0,0,0,0,0,0,0,0,0,0,0,0,0,2,0,0,1,0,0,2,0] [0,1,2,3,4,5,6,7,8,9,10,11,12,13,14,15,16,17,18,19,20,21] ?_
 repeat (first | (refine Mix.zq ?_;go_big_quiet_step (fail);refine wpQuiet_nil ?_) | (refine Mix.zp ?_;go_big_quiet_step (fail);refine wpQuiet_nil ?_))
 refine Mix.ze fun X4 hX4=>?_
 obtain ⟨k4,rfl⟩:=hX4
 go_wp2_with fail
 clear xc2 xc3 xl2 xl6 xs18
 refine (enew_any w.heap.size p cb (.slice none 0 0) ⟨List.replicate cN 0,[]⟩ 2 (5+(q:Int)) (rN:Int) (W11.drewN k4) (B11.out.ch ((Ch.refl (fun _=>False) W11).drewN k4) id id (fun _ _=>id)) (by show (List.replicate cN (0:Int)).length<=4096;rw [List.length_replicate];omega)).mono ?_
 rintro e w12 ⟨hc',hr⟩
 rw [show (⟨List.replicate cN 0,[]⟩:BS).vs=List.replicate cN 0 from rfl,eerr_newG (by omega) (by omega) (by omega) (by omega),Int.toNat_natCast] at hr
 rcases hr with ⟨h,_⟩ | ⟨_,eb,pb,ze,zp,rfl,he,hp⟩
 ·exact absurd rfl h
 have hc:=((Ch.refl (fun _=>False) W11).drewN k4).trans hc' (fun _ _ h=>h)
 have F12:=hid (show Blk w12 w.heap.size 66 #[.int .i64 (n:Int),.int .u64 ge,.int .i64 (cl:Int),.int .i64 re,.int .i64 (q:Int),.int .i64 ba,.int .i64 fe,.string s] from hc.blk F11.out id)
 have L12:=hid (show Blk w12 lb0 83 #[.int .i64 0,.int .i64 1,.int .i64 2,.int .i64 3,.int .i64 4,.int .i64 5,.int .i64 (5+(q:Int)),.int .i64 l7,.int .i64 l8,.int .i64 (cN:Int)] from hc.blk L11.out id)
 have S12:=hid (show ∃cs,StC w12 sb [.int .i64 (n:Int),.int .u64 ge,.int .i64 (cl:Int),.int .i64 re,.int .i64 (q:Int),.int .i64 ba,.int .i64 fe,.string s,.int .i64 0,.int .i64 1,.int .i64 2,.int .i64 3,.int .i64 4,.int .i64 5,.int .i64 (5+(q:Int)),.int .i64 l7,.int .i64 l8,.int .i64 (cN:Int)] (.pointer (some ⟨p,0,none⟩)) (.pointer (some ⟨A.ab,0,none⟩)) (.pointer (some ⟨qb,0,none⟩)) (.pointer none) (.slice none 0 0) (.slice (some ⟨rvb,0,none⟩) 1 1) cs from by obtain ⟨cs,h⟩:=S11.out;exact ⟨cs,h.keep hc id⟩)
 have B12:=hid (show Bank w.heap.size w12 p cb (.slice none 0 0) (List.replicate cN 0) [] from B11.out.ch hc id id (fun _ _=>id))
 have A12:=hid (show ArM A w12 ns 0 from A11.out.keep0 hc)
 have R12:=hid (show Blk w12 rvb 104 #[.int .i64 0,.int .u64 x.a,.int .i64 x.h,.int .i64 x.b,.int .i64 x.r,.int .i64 x.l,.slice none 0 0,.slice none 0 0] from hc.blk R11.out id)
 have Q12:=hid (show Blk w12 qb 194 #[.pointer (some ⟨p,0,none⟩),.int .i64 3,.int .i64 4,.int .i64 5,.int .u64 (q:Int),.pointer none] from hc.blk Q11.out id)
 have C12:=hid (C11.out.trans hc (fun _ _ h=>h.elim))
 have E12:=hid he
 have P12:=hid hp
 clear hc hc' he hp
 have xc2:w12.cell? ⟨w.heap.size,2,none⟩=some (.int .i64 (cl:Int)):=F12.out.cell 2
 have xs21:w12.cell? ⟨sb,21,none⟩=some (.pointer none):=by obtain ⟨cs,h⟩:=S12.out;exact (h.blk.cell 21).trans h.c21
 have xf21:w12.frozen? ⟨sb,21,none⟩=false:=by obtain ⟨cs,h⟩:=S12.out;exact h.blk.free 21
 go_wp2_with fail
 repeat (first | (refine Mix.zq ?_;go_big_quiet_step (fail);refine wpQuiet_nil ?_) | (refine Mix.zp ?_;go_big_quiet_step (fail);refine wpQuiet_nil ?_))
 refine Mix.ze fun Z4 hZ4=>?_
 obtain ⟨j4,rfl⟩:=hZ4
 go_wp2_with fail
 clear xs21 xf21
 (refine Mix.zq ?_;go_big_quiet_step (fail);refine wpQuiet_nil ?_)
 intro i4
 go_wp2_with fail
 refine at_world fun W13 hW13=>?_
 have ch13:Ch (fun j=>j=sb) w12 W13:=by rw [hW13];exact (((Ch.refl (fun j=>j=sb) w12).drewN j4).set (fun _=>rfl) _).drewN i4
 have hs12:∃cs,Blk w12 sb 125 cs:=by obtain ⟨cs,h⟩:=S12.out;exact ⟨cs,h.blk⟩
 obtain ⟨cs12,hb12⟩:=hs12
 have F13:=hid (show Blk W13 w.heap.size 66 #[.int .i64 (n:Int),.int .u64 ge,.int .i64 (cl:Int),.int .i64 re,.int .i64 (q:Int),.int .i64 ba,.int .i64 fe,.string s] from ch13.blk F12.out (fun e=>Blk.ne F12.out hb12 (by decide) e))
 have L13:=hid (show Blk W13 lb0 83 #[.int .i64 0,.int .i64 1,.int .i64 2,.int .i64 3,.int .i64 4,.int .i64 5,.int .i64 (5+(q:Int)),.int .i64 l7,.int .i64 l8,.int .i64 (cN:Int)] from ch13.blk L12.out (fun e=>Blk.ne L12.out hb12 (by decide) e))
 have S13:=hid (show ∃cs,StC W13 sb [.int .i64 (n:Int),.int .u64 ge,.int .i64 (cl:Int),.int .i64 re,.int .i64 (q:Int),.int .i64 ba,.int .i64 fe,.string s,.int .i64 0,.int .i64 1,.int .i64 2,.int .i64 3,.int .i64 4,.int .i64 5,.int .i64 (5+(q:Int)),.int .i64 l7,.int .i64 l8,.int .i64 (cN:Int)] (.pointer (some ⟨p,0,none⟩)) (.pointer (some ⟨A.ab,0,none⟩)) (.pointer (some ⟨qb,0,none⟩)) (.pointer (some ⟨eb,0,none⟩)) (.slice none 0 0) (.slice (some ⟨rvb,0,none⟩) 1 1) cs from by obtain ⟨cs,h⟩:=S12.out;exact ⟨_,by rw [hW13];exact ((h.drewN j4).put21 _).drewN i4⟩)
 have B13:=hid (show Bank w.heap.size W13 p cb (.slice none 0 0) (List.replicate cN 0) [] from B12.out.ch ch13 (fun e=>Blk.ne B12.out.hp hb12 (by decide) e) (fun e=>Blk.ne B12.out.hc hb12 (by decide) e) (fun k hk=>by simp [Value.ownBlock] at hk))
 have A13:=hid (show ArM A W13 ns 0 from A12.out.keep ch13 (fun b _ hf=>NSB.out b hf))
 have R13:=hid (show Blk W13 rvb 104 #[.int .i64 0,.int .u64 x.a,.int .i64 x.h,.int .i64 x.b,.int .i64 x.r,.int .i64 x.l,.slice none 0 0,.slice none 0 0] from ch13.blk R12.out (fun e=>Blk.ne R12.out hb12 (by decide) e))
 have Q13:=hid (show Blk W13 qb 194 #[.pointer (some ⟨p,0,none⟩),.int .i64 3,.int .i64 4,.int .i64 5,.int .u64 (q:Int),.pointer none] from ch13.blk Q12.out (fun e=>Blk.ne Q12.out hb12 (by decide) e))
 have E13:=hid (show Blk W13 eb 200 #[.pointer (some ⟨p,0,none⟩),.int .i64 2,.int .i64 (5+(q:Int)),.int .i64 (rN:Int),.slice (some ⟨pb,0,none⟩) rN rN,.pointer none] from ch13.blk E12.out (fun e=>Blk.ne E12.out hb12 (by decide) e))
 have P13:=hid (show Blk W13 pb 109 (madeX #[.pointer none] rN) from ch13.blk P12.out (fun e=>Blk.ne P12.out hb12 (by decide) e))
 have C13:=hid (C12.out.trans ch13 (fun i hi e=>absurd hi (by omega)))
 clear ch13 hb12
 clear hW13
 have HB0:=B13.out
 obtain ⟨cs0,hS0⟩:=S13.out
 have HS0:=hS0.sto rfl
 have HR0:=R13.out
 have HQ0:=Q13.out
 have HE0:=E13.out
 have HP0:=P13.out
 have oq:rvb < qb:=Nat.lt_of_lt_of_le R9.out.lt zq
 have oe:qb < eb:=Nat.lt_of_lt_of_le Q11.out.lt ze
 have op:qb < pb:=Nat.lt_of_lt_of_le Q11.out.lt zp
 have M0:=hid (show Mem w.heap.size w ([blkR sb 125 (stoCells [.int .i64 (n:Int),.int .u64 ge,.int .i64 (cl:Int),.int .i64 re,.int .i64 (q:Int),.int .i64 ba,.int .i64 fe,.string s,.int .i64 0,.int .i64 1,.int .i64 2,.int .i64 3,.int .i64 4,.int .i64 5,.int .i64 (5+(q:Int)),.int .i64 l7,.int .i64 l8,.int .i64 (cN:Int)] (.pointer (some ⟨p,0,none⟩)) (.pointer (some ⟨A.ab,0,none⟩)) (.pointer (some ⟨qb,0,none⟩)) (.pointer (some ⟨eb,0,none⟩)) (.slice none 0 0) (.slice (some ⟨rvb,0,none⟩) 1 1) (List.replicate 8 OpV.zero) (List.replicate 8 (RsV.zero,.slice none 0 0))).toArray,bankR w.heap.size p cb (.slice none 0 0) (List.replicate cN 0) [],arR A ns 0,rowR w.heap.size 104 8 1 (.slice (some ⟨rvb,0,none⟩) 1 1) [.int .i64 0,.int .u64 x.a,.int .i64 x.h,.int .i64 x.b,.int .i64 x.r,.int .i64 x.l,.slice none 0 0,.slice none 0 0],blkR qb 194 #[.pointer (some ⟨p,0,none⟩),.int .i64 3,.int .i64 4,.int .i64 5,.int .u64 (q:Int),.pointer none],blkR eb 200 #[.pointer (some ⟨p,0,none⟩),.int .i64 2,.int .i64 (5+(q:Int)),.int .i64 (rN:Int),.slice (some ⟨pb,0,none⟩) rN rN,.pointer none],blkR pb 109 (madeX #[.pointer none] rN),rowR w.heap.size 136 1 0 (.slice none 0 0) (fdsV [])]++fdsR []) W13 from by
  refine Mem.of (fun r hr=>?_) ?_ (fun r hr k hk=>?_) ((C13.out).belowB (Nat.le_refl _) (fun k _ hm=>LOW8.out k (.inl hm))) C13.out.size
  ·simp only [fdsR,List.map_nil,List.append_nil,List.mem_cons,List.not_mem_nil,or_false] at hr
   rcases hr with rfl | rfl | rfl | rfl | rfl | rfl | rfl | rfl
   ·exact HS0
   ·exact HB0
   ·exact A13.out
   ·exact rev_row HR0 hrz
   ·exact HQ0
   ·exact HE0
   ·exact HP0
   ·exact World.ownsRow_nil _ _ _ _
  ·simp only [fdsR,List.map_nil,List.append_nil]
   exact (List.Pairwise.cons (List.forall_mem_cons.2 ⟨(fun k e h=>by have e:k=sb:=e;subst e;exact not_fpG HB0 HS0 (by decide) (by decide) (by decide) h),(List.forall_mem_cons.2 ⟨(fun k e h=>NSB.out k h e),(List.forall_mem_cons.2 ⟨(fun k e1 e2=>by have e1:k=sb:=e1;have e2:some rvb=some k:=e2;subst e1;cases e2;exact Blk.ne HS0 HR0 (by decide) rfl),(List.forall_mem_cons.2 ⟨(fun k e1 e2=>by have e1:k=sb:=e1;have e2:k=qb:=e2;subst e1;exact Blk.ne HS0 HQ0 (by decide) e2),(List.forall_mem_cons.2 ⟨(fun k e1 e2=>by have e1:k=sb:=e1;have e2:k=eb:=e2;subst e1;exact Blk.ne HS0 HE0 (by decide) e2),(List.forall_mem_cons.2 ⟨(fun k e1 e2=>by have e1:k=sb:=e1;have e2:k=pb:=e2;subst e1;exact Blk.ne HS0 HP0 (by decide) e2),(List.forall_mem_cons.2 ⟨(fun k _ e=>by simp [rowR,Value.ownBlock] at e),(fun _ h=>absurd h (List.not_mem_nil))⟩)⟩)⟩)⟩)⟩)⟩)⟩) (List.Pairwise.cons (List.forall_mem_cons.2 ⟨(fun k e h=>NBA.out k e h),(List.forall_mem_cons.2 ⟨(fun k h e=>by have e:some rvb=some k:=e;cases e;exact not_fpG HB0 HR0 (by decide) (by decide) (by decide) h),(List.forall_mem_cons.2 ⟨(fun k h e=>by have e:k=qb:=e;subst e;exact not_fpG HB0 HQ0 (by decide) (by decide) (by decide) h),(List.forall_mem_cons.2 ⟨(fun k h e=>by have e:k=eb:=e;subst e;exact not_fpG HB0 HE0 (by decide) (by decide) (by decide) h),(List.forall_mem_cons.2 ⟨(fun k h e=>by have e:k=pb:=e;subst e;exact not_fpG HB0 HP0 (by decide) (by decide) (by decide) h),(List.forall_mem_cons.2 ⟨(fun k _ e=>by simp [rowR,Value.ownBlock] at e),(fun _ h=>absurd h (List.not_mem_nil))⟩)⟩)⟩)⟩)⟩)⟩) (List.Pairwise.cons (List.forall_mem_cons.2 ⟨(fun k h e=>by have e:some rvb=some k:=e;cases e;have:=FL8.out _ h;omega),(List.forall_mem_cons.2 ⟨(fun k h e=>by have e:k=qb:=e;subst e;have:=FL8.out _ h;omega),(List.forall_mem_cons.2 ⟨(fun k h e=>by have e:k=eb:=e;subst e;have:=FL8.out _ h;omega),(List.forall_mem_cons.2 ⟨(fun k h e=>by have e:k=pb:=e;subst e;have:=FL8.out _ h;omega),(List.forall_mem_cons.2 ⟨(fun k _ e=>by simp [rowR,Value.ownBlock] at e),(fun _ h=>absurd h (List.not_mem_nil))⟩)⟩)⟩)⟩)⟩) (List.Pairwise.cons (List.forall_mem_cons.2 ⟨(fun k e1 e2=>by have e1:some rvb=some k:=e1;have e2:k=qb:=e2;cases e1;exact Blk.ne HR0 HQ0 (by decide) e2),(List.forall_mem_cons.2 ⟨(fun k e1 e2=>by have e1:some rvb=some k:=e1;have e2:k=eb:=e2;cases e1;exact Blk.ne HR0 HE0 (by decide) e2),(List.forall_mem_cons.2 ⟨(fun k e1 e2=>by have e1:some rvb=some k:=e1;have e2:k=pb:=e2;cases e1;exact Blk.ne HR0 HP0 (by decide) e2),(List.forall_mem_cons.2 ⟨(fun k _ e=>by simp [rowR,Value.ownBlock] at e),(fun _ h=>absurd h (List.not_mem_nil))⟩)⟩)⟩)⟩) (List.Pairwise.cons (List.forall_mem_cons.2 ⟨(fun k e1 e2=>by have e1:k=qb:=e1;have e2:k=eb:=e2;subst e1;exact Blk.ne HQ0 HE0 (by decide) e2),(List.forall_mem_cons.2 ⟨(fun k e1 e2=>by have e1:k=qb:=e1;have e2:k=pb:=e2;subst e1;exact Blk.ne HQ0 HP0 (by decide) e2),(List.forall_mem_cons.2 ⟨(fun k _ e=>by simp [rowR,Value.ownBlock] at e),(fun _ h=>absurd h (List.not_mem_nil))⟩)⟩)⟩) (List.Pairwise.cons (List.forall_mem_cons.2 ⟨(fun k e1 e2=>by have e1:k=eb:=e1;have e2:k=pb:=e2;subst e1;exact Blk.ne HE0 HP0 (by decide) e2),(List.forall_mem_cons.2 ⟨(fun k _ e=>by simp [rowR,Value.ownBlock] at e),(fun _ h=>absurd h (List.not_mem_nil))⟩)⟩) (List.Pairwise.cons (List.forall_mem_cons.2 ⟨(fun k _ e=>by simp [rowR,Value.ownBlock] at e),(fun _ h=>absurd h (List.not_mem_nil))⟩) (List.Pairwise.cons (fun _ h=>absurd h (List.not_mem_nil)) List.Pairwise.nil))))))))
  ·simp only [fdsR,List.map_nil,List.append_nil,List.mem_cons,List.not_mem_nil,or_false] at hr
   rcases hr with rfl | rfl | rfl | rfl | rfl | rfl | rfl | rfl
   ·have e:k=sb:=hk;omega
   ·rcases hk with e | e | e
    ·rw [e];exact HB0.bp
    ·rw [e];exact HB0.bc
    ·simp [Value.ownBlock] at e
   ·exact LOW8.out k hk
   ·have e:some rvb=some k:=hk
    cases e;omega
   ·have e:k=qb:=hk;omega
   ·have e:k=eb:=hk;omega
   ·have e:k=pb:=hk;omega
   ·simp [rowR,Value.ownBlock] at hk)
 have FC:=hid (show Blk W13 w.heap.size 66 #[.int .i64 (n:Int),.int .u64 ge,.int .i64 (cl:Int),.int .i64 re,.int .i64 (q:Int),.int .i64 ba,.int .i64 fe,.string s] from F13.out)
 have LC:=hid (show Blk W13 lb0 83 #[.int .i64 0,.int .i64 1,.int .i64 2,.int .i64 3,.int .i64 4,.int .i64 5,.int .i64 (5+(q:Int)),.int .i64 l7,.int .i64 l8,.int .i64 (cN:Int)] from L13.out)
 have FDS:∀(j:Nat) (x:Nat × Array Value),([]:List (Nat × Array Value))[j]?=some x->x.2=fzero p (l8+(j:Int) * (4+fe)).toNat fe.toNat:=fun j x h=>by simp at h
 have HFDS:=hid FDS
 have LOWR:=hid (⟨zs,LOW8.out⟩:w.heap.size < sb/\∀k,A.foot ns k->w.heap.size<=k)
 clear oq oe op zq ze zp hrz hrz8 HS0 HB0 hS0 HR0 HQ0 HE0 HP0 FDS
 obtain ⟨i0,hi,hz0',hz1',hz2'⟩:=info_parts (show (Tryz.prog.info? 136).map (fun i=>(i.zero,i.size,i.bytes))=some (some (Value.pointer none),1,8) by kernel_rfl)
 go_loopw [115] (fun i W=>∃(k:Nat) (fv:Value) (fds:List (Nat × Array Value)),k<=cl/\i=.int .i64 (k:Int)/\fds.length=k/\(∀(j:Nat) (x:Nat × Array Value),fds[j]?=some x->x.2=fzero p (l8+(j:Int) * (4+fe)).toNat fe.toNat)/\Mem w.heap.size w ([blkR sb 125 (stoCells [.int .i64 (n:Int),.int .u64 ge,.int .i64 (cl:Int),.int .i64 re,.int .i64 (q:Int),.int .i64 ba,.int .i64 fe,.string s,.int .i64 0,.int .i64 1,.int .i64 2,.int .i64 3,.int .i64 4,.int .i64 5,.int .i64 (5+(q:Int)),.int .i64 l7,.int .i64 l8,.int .i64 (cN:Int)] (.pointer (some ⟨p,0,none⟩)) (.pointer (some ⟨A.ab,0,none⟩)) (.pointer (some ⟨qb,0,none⟩)) (.pointer (some ⟨eb,0,none⟩)) (fv) (.slice (some ⟨rvb,0,none⟩) 1 1) (List.replicate 8 OpV.zero) (List.replicate 8 (RsV.zero,.slice none 0 0))).toArray,bankR w.heap.size p cb (.slice none 0 0) (List.replicate cN 0) [],arR A ns 0,rowR w.heap.size 104 8 1 (.slice (some ⟨rvb,0,none⟩) 1 1) [.int .i64 0,.int .u64 x.a,.int .i64 x.h,.int .i64 x.b,.int .i64 x.r,.int .i64 x.l,.slice none 0 0,.slice none 0 0],blkR qb 194 #[.pointer (some ⟨p,0,none⟩),.int .i64 3,.int .i64 4,.int .i64 5,.int .u64 (q:Int),.pointer none],blkR eb 200 #[.pointer (some ⟨p,0,none⟩),.int .i64 2,.int .i64 (5+(q:Int)),.int .i64 (rN:Int),.slice (some ⟨pb,0,none⟩) rN rN,.pointer none],blkR pb 109 (madeX #[.pointer none] rN),rowR w.heap.size 136 1 k (fv) (fdsV fds)]++fdsR fds) W/\Blk W w.heap.size 66 #[.int .i64 (n:Int),.int .u64 ge,.int .i64 (cl:Int),.int .i64 re,.int .i64 (q:Int),.int .i64 ba,.int .i64 fe,.string s]/\Blk W lb0 83 #[.int .i64 0,.int .i64 1,.int .i64 2,.int .i64 3,.int .i64 4,.int .i64 5,.int .i64 (5+(q:Int)),.int .i64 l7,.int .i64 l8,.int .i64 (cN:Int)]) (fun i _=>cl - (intOf i).toNat)
 case atStart=>exact ⟨0,_,[],Nat.zero_le _,rfl,rfl,HFDS.out,M0.out,FC.out,LC.out⟩
 case round=>
  obtain ⟨k,fv,fds,hk,rfl,hfl,hfd,hM,hF,hL⟩:=hrel
  have HM:=hid hM
  have HF:=hid hF
  have HL:=hid hL
  have HFD:=hid hfd
  have HFL:=hid hfl
  clear hM hF hL hfd hfl
  by_cases hlt:k < cl
  {
 have d1:decide ((k:Int) < (cl:Int))=true:=decide_eq_true (by omega)
 have d2:decide (k < cl)=true:=decide_eq_true hlt
 have hk1:((k:Int)+1) * (4+fe)<=(cl:Int) * (4+fe):=Int.mul_le_mul_of_nonneg_right (by omega) (by omega)
 have hk0:0<=(k:Int) * (4+fe):=Int.mul_nonneg (by omega) (by omega)
 rw [Int.add_mul,Int.one_mul] at hk1
 obtain ⟨P,hP⟩:∃P:Nat,(k:Int) * (4+fe)=(P:Int):=⟨((k:Int) * (4+fe)).toNat,by omega⟩
 have e8:=HL8.out
 have e9:=HCN.out
 have e10:=HRN.out
 rw [hP] at hk1 hk0
 have r1:0<=l8:=by omega
 have r2:l8+(P:Int)+4+fe<=(cN:Int):=by omega
 have r3:l8<=4096:=by omega
 have r4:(P:Int)<=4096:=by omega
 have HP:=hid hP
 clear e8 e9 e10 hk1 hk0
 have x18:wr.cell? ⟨sb,2+16,none⟩=some (.pointer (some ⟨p,0,none⟩)):=Blk.cell (HM.out.each 0 _ rfl) 18
 have y8:wr.cell? ⟨lb0,8,none⟩=some (.int .i64 l8):=HL.out.cell 8
 have y6:wr.cell? ⟨w.heap.size,6,none⟩=some (.int .i64 fe):=HF.out.cell 6
 go_wp2_with fail
 refine Mix.rt [0,0,0,0,0,0,0,0,0,0,0,0,0,0,2,0,0,0,0,0] [0,1,2,3,4,5,6,7,8,9,10,11,12,13,14,15,16,17,18,19] ?_
 repeat (first | (refine Mix.zq ?_;go_big_quiet_step (fail);refine wpQuiet_nil ?_) | (refine Mix.zp ?_;go_big_quiet_step (fail);refine wpQuiet_nil ?_))
 refine Mix.ze fun X9 hX9=>?_
 obtain ⟨k9,rfl⟩:=hX9
 go_wp2_with fail
 clear x18 y8 y6
 refine (fnew_any w.heap.size p cb (.slice none 0 0) ⟨List.replicate cN 0,[]⟩ (wr.drewN k9) (l8+(P:Int)) fe ((HM.out.drewN k9).each 1 _ rfl) (by show (List.replicate cN (0:Int)).length<=4096;rw [List.length_replicate];omega)).mono ?_
 rintro e w1 ⟨hc',hr⟩
 rw [show (⟨List.replicate cN 0,[]⟩:BS).vs=List.replicate cN 0 from rfl,ferr_newG f1 f2 (by omega) (by omega)] at hr
 rcases hr with ⟨h,_⟩ | ⟨_,fb,zf,rfl,hfb⟩
 ·exact absurd rfl h
 have M1:=hid ((HM.out.drewN k9).add (blkR fb 202 (fzero p (l8+(P:Int)).toNat fe.toNat)) hc' hfb (fun j hj=>by have e:j=fb:=hj;omega))
 have F1':=hid (hc'.blk (HF.out.drewN k9) id)
 have L1':=hid (hc'.blk (HL.out.drewN k9) id)
 obtain ⟨Af,cf,hfv,hcf⟩:=own_slice (show w1.ownsRow w.heap.size 136 1 fv k (fdsV fds) from M1.out.each 7 _ rfl)
 subst hfv
 have x22:w1.cell? ⟨sb,6+16,none⟩=some (.slice Af k cf):=Blk.cell (M1.out.each 0 _ rfl) 22
 have s22:w1.frozen? ⟨sb,6+16,none⟩=false:=Blk.free (M1.out.each 0 _ rfl) 22
 have lsb:sb < w1.heap.size:=Blk.lt (M1.out.each 0 _ rfl)
 clear hfb hc'
 go_wp2_with fail
 repeat (first | (refine Mix.zq ?_;go_big_quiet_step (fail);refine wpQuiet_nil ?_) | (refine Mix.zp ?_;go_big_quiet_step (fail);refine wpQuiet_nil ?_))
 intro i9
 go_wp2_with (at_builtin;refine wpList_app _ rfl (.tmp 143) (.tmp 145) 120 rfl w.heap.size 136 i0 _ 1 8 Tryz.underlying120 hi hz0' hz1' hz2' rfl (by decide) _ _ _ rfl (((M1.out.drewN i9).alloc _).each 7 _ rfl) ⟨w1.heap.size,0,none⟩ 1 1 [.pointer (some ⟨fb,0,none⟩)] rfl rfl ?c1 ?c2 (by decide) ?c3 ?c4 ?c5 ?c6)
 case c1=>intro j u hu;rw [addr_add0];exact (Blk.cell (Blk.new (w1.drewN i9) 136 #[.pointer (some ⟨fb,0,none⟩)]) j).trans (by simpa using hu)
 case c2=>intro u hu;rw [List.mem_singleton.1 hu];rfl
 case c3=>unfold maxLen;omega
 case c4=>omega
 case c5=>exact Nat.le_trans M1.out.bz (by simp)
 case c6=>
  intro v' w3 hown' hgrow hfresh
  obtain ⟨Ag,cg,hgv,hcg⟩:=own_slice hown'
  subst hgv
  have M3:=hid (((M1.out.drewN i9).alloc (.cells #[.pointer (some ⟨fb,0,none⟩)] 136)).app (i:=7) rfl hown' hgrow hfresh)
  have hne:∀j,j=w.heap.size\/j=lb0->∀j',(Value.slice Af k cf).ownBlock=some j'->j'≠j:=by
   intro j hj j' hj' e
   have t1:=((M1.out.drewN i9).alloc (.cells #[.pointer (some ⟨fb,0,none⟩)] 136)).each 7 _ rfl
   subst e
   rcases hj with e | e
   ·subst e;exact Blk.own ((F1'.out.drewN i9).alloc (.cells #[.pointer (some ⟨fb,0,none⟩)] 136)) t1 (by decide) hj'
   ·subst e;exact Blk.own ((L1'.out.drewN i9).alloc (.cells #[.pointer (some ⟨fb,0,none⟩)] 136)) t1 (by decide) hj'
  have F3':=hid (((F1'.out.drewN i9).alloc (.cells #[.pointer (some ⟨fb,0,none⟩)] 136)).grown hgrow (fun e=>hne _ (.inl rfl) _ e rfl))
  have L3':=hid (((L1'.out.drewN i9).alloc (.cells #[.pointer (some ⟨fb,0,none⟩)] 136)).grown hgrow (fun e=>hne _ (.inr rfl) _ e rfl))
  have s22:w3.frozen? ⟨sb,6+16,none⟩=false:=Blk.free (M3.out.each 0 _ rfl) 22
  have x22':w3.cell? ⟨sb,6+16,none⟩=some (.slice Af k cf):=Blk.cell (M3.out.each 0 _ rfl) 22
  clear hown' hgrow hfresh x22 hne
  have PUT:=hid (M3.out.put (i:=0) rfl 22 (.slice Ag (k+1) cg))
  have FS:=hid (F3'.out.far (p:=⟨sb,22,none⟩) nf1 (.slice Ag (k+1) cg))
  have LS:=hid (L3'.out.far (p:=⟨sb,22,none⟩) nl1 (.slice Ag (k+1) cg))
  go_wp2_with fail
  go_roundw
  case rel=>
   refine ⟨k+1,.slice Ag (k+1) cg,fds++[(fb,fzero p (l8+(P:Int)).toNat fe.toNat)],hlt,by go_num,by rw [List.length_append,HFL.out];rfl,fun j x hx=>?_,?_,FS.out,LS.out⟩
   ·rcases mem_appG hx with ⟨rfl,rfl⟩ | hx
    ·rw [HFL.out,HP.out]
    ·exact HFD.out j x hx
   ·have t:=PUT.out
    rw [sto_put22 _ _ _ _ _ _ _ _ _ rfl] at t
    simp only [fdsR,fdsV,List.map_append,List.map_cons,List.map_nil,<-List.append_assoc] at t |-
    exact t
  case measure=>simp [intOf];omega
 }
  ·obtain rfl:k=cl:=by omega
   have d1:decide ((k:Int) < (k:Int))=false:=decide_eq_false (by omega)
   go_wp2_with fail
   go_ret2
   exact .inr ⟨_,ns,sb,p,cb,A,qb,eb,pb,rvb,rN,cN,fv,fds,RES.out.n hAn,AP.out,rfl,hAn,HFL.out,HRN.out,HCN.out,fun j x hj=>by rw [<-HL8.out];exact HFD.out j x hj,by rw [HL7.out,HL8.out] at HM;exact HM.out⟩
 }
  ·obtain ⟨ns,hres,_,_,hch,_⟩:=MEM.out
   have BEL:=hid ((C8.out).belowB (Nat.le_refl _) (fun k _ hm=>HLOW.out k (.inl hm)))
   have RES:=hid hres
   clear hres hch
   go_wp2_with fail
   go_ret2
   exact .inl ⟨x,ns,RES.out.n hAn,rfl,BEL.out⟩
end Go.Proofs.YtjcdknhejcbpiaaGreat
