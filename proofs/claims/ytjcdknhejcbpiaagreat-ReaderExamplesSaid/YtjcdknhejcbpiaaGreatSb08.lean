/- Lemmas; no condition. -/
import Derived.Test.YtjcdknhejcbpiaaGreatSb06
import Derived.Test.YtjcdknhejcbpiaaGreatSb07
set_option maxRecDepth 100000
set_option maxHeartbeats 8000000
namespace Go.Proofs.YtjcdknhejcbpiaaGreat
open Go.RowKit
set_option linter.unusedVariables false
set_option linter.unusedSimpArgs false
set_option linter.unusedSectionVars false
theorem add0 (p:Option Addr) (w:World):Calls Tryz.prog 145 #[.pointer p,(.agg #[.int .u64 0,.int .i64 0,.int .i64 0,.int .i64 0,.int .i64 0,.string ⟨#[]⟩,.slice none 0 0])] w fun e w'=>∃rb,e=.returned (.pointer (some ⟨rb,0,none⟩))/\Blk w' rb 102 #[.int .u64 0,.int .i64 0,.int .i64 0,.int .i64 0,.int .i64 0]/\Ch (fun _=>False) w w'/\w.heap.size<=rb:=by
 go_enter Tryz.func145,Tryz.ntmps145
 go_wp2_with fail
 go_ret
 refine ⟨w.heap.size+1,rfl,?_,((Ch.refl (fun _=>False) w).alloc _).alloc _,Nat.le_succ _⟩
 have:=Blk.new (w.alloc (.cells #[.int .u64 0,.int .i64 0,.int .i64 0,.int .i64 0,.int .i64 0,.string ⟨#[]⟩,.slice none 0 0] 183)) 102 #[.int .u64 0,.int .i64 0,.int .i64 0,.int .i64 0,.int .i64 0]
 simpa using this
theorem root0 (pb rb:Nat) (ab:Nat) (w:World) (hp:Blk w pb 248 #[.pointer (some ⟨ab,0,none⟩),.slice none 0 0,.pointer (some ⟨rb,0,none⟩)]) (hr:Blk w rb 102 #[.int .u64 0,.int .i64 0,.int .i64 0,.int .i64 0,.int .i64 0]):Calls Tryz.prog 121 #[.pointer (some ⟨pb,0,none⟩)] w fun e w'=>e=.returned (.tuple #[(.agg #[.int .u64 0,.int .i64 0,.int .i64 0,.int .i64 0,.int .i64 0]),.int .i64 0])/\Ch (fun _=>False) w w':=by
 go_enter Tryz.func121,Tryz.ntmps121
 have l1:=hp.lt
 have l2:=hr.lt
 obtain ⟨-,p1,p2⟩:=hp.c3
 obtain ⟨r0,r1,r2,r3,r4⟩:=hr.c5
 go_wp2_with fail
 refine bodyPost_ret (v:=.tuple #[(.agg #[.int .u64 0,.int .i64 0,.int .i64 0,.int .i64 0,.int .i64 0]),.int .i64 0]) (by simp [results,Tryz.results121,go_sem]) rfl ⟨rfl,(Ch.refl (fun _=>False) w).alloc _⟩
theorem begin0 (ab n lb mb g0 g1:Nat) (xs:List Int) (hn:n<=16384) (w:World) (h:StM w ab n lb mb g0 g1 xs):Calls Tryz.prog 119 #[.pointer (some ⟨ab,0,none⟩),(.agg #[.int .u64 0,.int .i64 0,.int .i64 0,.int .i64 0,.int .i64 0,.string ⟨#[]⟩,.slice none 0 0])] w fun e w'=>∃pb rb,e=.returned (.tuple #[.pointer (some ⟨pb,0,none⟩),.int .i64 0])/\Blk w' pb 248 #[.pointer (some ⟨ab,0,none⟩),.slice none 0 0,.pointer (some ⟨rb,0,none⟩)]/\Blk w' rb 102 #[.int .u64 0,.int .i64 0,.int .i64 0,.int .i64 0,.int .i64 0]/\Ch (fun _=>False) w w':=by
 go_enter Tryz.func119,Tryz.ntmps119
 go_wp2_with fail
 refine calls_world fun W1 hW1=>?_
 have cW:Ch (fun _=>False) w W1:=by rw [hW1];exact (Ch.refl _ w).alloc _
 have bT:Blk W1 w.heap.size 183 #[.int .u64 0,.int .i64 0,.int .i64 0,.int .i64 0,.int .i64 0,.string ⟨#[]⟩,.slice none 0 0]:=by rw [hW1];exact Blk.new w _ _
 have HC:=hid cW
 have HB:=hid bT
 have HM:=hid (h.keep cW)
 clear hW1 cW bT h
 refine (planCheck0 ab W1).mono ?_
 rintro e w2 ⟨rfl,hc⟩
 have HC2:=hid (HC.out.trans hc (fun _ _ h=>h))
 have HB2:=hid (hc.blk HB.out id)
 have HM2:=hid (HM.out.keep hc)
 clear hc
 obtain ⟨r0,r1,r2,r3,r4,r5,r6⟩:=HB2.out.c7
 go_wp2_with fail
 clear r0 r1 r2 r3 r4 r5 r6
 refine (planNew0 w2).mono ?_
 rintro e w3 ⟨rfl,hc⟩
 have HC3:=hid (HC2.out.trans hc (fun _ _ h=>h))
 have HB3:=hid (hc.blk HB2.out id)
 have HM3:=hid (HM2.out.keep hc)
 clear hc
 go_wp2_with fail
 refine (stats_ok ab n lb mb g0 g1 xs hn w3 HM3.out).mono ?_
 rintro e w4 ⟨rfl,hc⟩
 have HC4:=hid (HC3.out.trans hc (fun _ _ h=>h))
 have HB4:=hid (hc.blk HB3.out id)
 clear hc
 have hl4:=HB4.out.lt
 obtain ⟨r0,r1,r2,r3,r4,r5,r6⟩:=HB4.out.c7
 have hfd:∀W:World,(Instr.field 97 (.agg #[.int .i64 n,.int .i64 n,.int .i64 0,.int .i64 0,.int .i64 0,.int .i64 0,.int .i64 0]) 1).run Tryz.prog W=.ok (.int .i64 n) W:=fun W=>by kernel_rfl
 go_wp2_with fail
 refine calls_world fun W5 hW5=>?_
 have c5:Ch (fun _=>False) w4 W5:=by rw [hW5];exact (Ch.refl _ w4).alloc _
 have b5:Blk W5 w4.heap.size 248 #[.pointer (some ⟨ab,0,none⟩),.slice none 0 0,.pointer none]:=by rw [hW5];exact Blk.new w4 _ _
 have HC5:=hid (HC4.out.trans c5 (fun _ _ h=>h))
 have HB5:=hid b5
 have z5:w.heap.size<=w4.heap.size:=HC4.out.size
 clear hW5 c5 b5 r0 r1 r2 r3 r4 r5 r6
 refine (add0 _ W5).mono ?_
 rintro e w6 ⟨rb,rfl,hrb,hc,hz⟩
 have HC6:=hid (HC5.out.trans hc (fun _ _ h=>h))
 have HB6:=hid (hc.blk HB5.out id)
 have HR6:=hid hrb
 clear hc hrb
 obtain ⟨r0,r1,r2⟩:=HB6.out.c3
 obtain ⟨s0,s1,s2⟩:=HB6.out.f3
 go_wp2_with fail
 go_ret2
 refine ⟨w4.heap.size,rb,rfl,HB6.out.put 2 _,HR6.out.far (Blk.ne HR6.out HB6.out (by decide)) _,HC6.out.set (fun ho=>absurd ho (by omega)) _⟩
theorem write0 (ab n lb mb g0 g1:Nat) (xs:List Int) (hn:n<=16384) (w:World) (h:StM w ab n lb mb g0 g1 xs):Calls Tryz.prog 81 #[.pointer (some ⟨ab,0,none⟩),(.agg #[.int .u64 0,.int .i64 0,.int .i64 0,.int .i64 0,.int .i64 0,.string ⟨#[]⟩,.slice none 0 0])] w fun e w'=>e=.returned (.tuple #[(.agg #[.int .u64 0,.int .i64 0,.int .i64 0,.int .i64 0,.int .i64 0]),.slice none 0 0,.int .i64 0])/\Ch (fun _=>False) w w':=by
 go_enter Tryz.func81,Tryz.ntmps81
 go_wp2_with fail
 refine calls_world fun W1 hW1=>?_
 have cW:Ch (fun _=>False) w W1:=by rw [hW1];exact ((Ch.refl _ w).alloc _).alloc _
 have bR:Blk W1 (w.heap.size+1) 102 #[.int .u64 0,.int .i64 0,.int .i64 0,.int .i64 0,.int .i64 0]:=by
  rw [hW1]
  have:=Blk.new (w.alloc (.cells #[.int .u64 0,.int .i64 0,.int .i64 0,.int .i64 0,.int .i64 0,.string ⟨#[]⟩,.slice none 0 0] 183)) 102 #[.int .u64 0,.int .i64 0,.int .i64 0,.int .i64 0,.int .i64 0]
  simpa using this
 have HC:=hid cW
 have HR:=hid bR
 have HM:=hid (h.keep cW)
 clear hW1 cW bR h
 refine (begin0 ab n lb mb g0 g1 xs hn W1 HM.out).mono ?_
 rintro e w2 ⟨pb,rb,rfl,hp,hr,hc⟩
 have HC2:=hid (HC.out.trans hc (fun _ _ h=>h))
 have HR2:=hid (hc.blk HR.out id)
 have HP2:=hid hp
 have HRB2:=hid hr
 have hp1:w2.cell? ⟨pb,1,none⟩=some (.slice none 0 0):=hp.cell 1
 clear hc hp hr
 go_wp2_with fail
 go_loopw [5,6] (fun f e W=>f=.slice none 0 0/\e=.int .i64 0/\W=w2) (fun _ _ _=>0)
 case atStart=>exact ⟨rfl,rfl,rfl⟩
 case round=>
  obtain ⟨rfl,rfl,rfl⟩:=hrel
  go_wp2_with fail
  refine (root0 pb rb ab _ HP2.out HRB2.out).mono ?_
  rintro e w3 ⟨rfl,hc⟩
  have HC3:=hid (HC2.out.trans hc (fun _ _ h=>h))
  have HR3:=hid (hc.blk HR2.out id)
  clear hc
  obtain ⟨r0,r1,r2,r3,r4⟩:=HR3.out.c5
  obtain ⟨s0,s1,s2,s3,s4⟩:=HR3.out.f5
  go_wp2_with fail
  refine at_world fun W7 hW7=>?_
  have B7:Blk W7 (w.heap.size+1) 102 #[.int .u64 0,.int .i64 0,.int .i64 0,.int .i64 0,.int .i64 0]:=by rw [hW7];exact ((((((((((HR3.out.put 0 _).put 1 _).put 2 _).put 3 _).put 4 _).put 0 _).put 1 _).put 2 _).put 3 _).put 4 _)
  have c7:Ch (fun k=>k=(w.heap.size+1)) w3 W7:=by rw [hW7];exact (((((((((((Ch.refl (fun k=>k=(w.heap.size+1)) w3).set (fun _=>rfl) _).set (fun _=>rfl) _).set (fun _=>rfl) _).set (fun _=>rfl) _).set (fun _=>rfl) _).set (fun _=>rfl) _).set (fun _=>rfl) _).set (fun _=>rfl) _).set (fun _=>rfl) _).set (fun _=>rfl) _)
  obtain ⟨t0,t1,t2,t3,t4⟩:=B7.c5
  refine bodyPost_ret (v:=.tuple #[(.agg #[.int .u64 0,.int .i64 0,.int .i64 0,.int .i64 0,.int .i64 0]),.slice none 0 0,.int .i64 0]) ?_ rfl ⟨rfl,HC3.out.trans c7 (fun i hi e=>absurd hi (by omega))⟩
  clear hW7 c7
  simp [results,Tryz.results81,go_sem,t0,t1,t2,t3,t4]
theorem rnew0 (ab n lb mb g0 g1:Nat) (xs:List Int) (hn:n<=16384) (w:World) (h:StM w ab n lb mb g0 g1 xs):Calls Tryz.prog 47 #[.pointer (some ⟨ab,0,none⟩),(.string ⟨#[]⟩)] w fun e w'=>e=.returned (.tuple #[(.agg #[.int .u64 0,.int .i64 0,.int .i64 0,.int .i64 0,.int .i64 0]),.int .i64 0])/\Ch (fun _=>False) w w':=by
 go_enter Tryz.func47,Tryz.ntmps47
 go_wp2_with fail
 refine calls_world fun W1 hW1=>?_
 have cW:Ch (fun _=>False) w W1:=by rw [hW1];exact (Ch.refl _ w).alloc _
 have bR:Blk W1 w.heap.size 102 #[.int .u64 0,.int .i64 0,.int .i64 0,.int .i64 0,.int .i64 0]:=by rw [hW1];exact Blk.new w _ _
 have HC:=hid cW
 have HR:=hid bR
 have HM:=hid (h.keep cW)
 clear hW1 cW bR h
 refine (build0 W1).mono ?_
 rintro e w2 ⟨rfl,hc⟩
 have HC2:=hid (HC.out.trans hc (fun _ _ h=>h))
 have HR2:=hid (hc.blk HR.out id)
 have HM2:=hid (HM.out.keep hc)
 clear hc
 go_wp2_with fail
 refine calls_world fun W3 hW3=>?_
 have c3:Ch (fun _=>False) w2 W3:=by rw [hW3];exact (Ch.refl _ w2).alloc _
 have HC3:=hid (HC2.out.trans c3 (fun _ _ h=>h))
 have HR3:=hid (c3.blk HR2.out id)
 have HM3:=hid (HM2.out.keep c3)
 clear hW3 c3
 refine (write0 ab n lb mb g0 g1 xs hn W3 HM3.out).mono ?_
 rintro e w4 ⟨rfl,hc⟩
 have HC4:=hid (HC3.out.trans hc (fun _ _ h=>h))
 have HR4:=hid (hc.blk HR3.out id)
 have l4:=HR4.out.lt
 have l5:w.heap.size≠w4.heap.size:=Nat.ne_of_lt l4
 have l6:w4.heap.size≠w.heap.size:=Ne.symm l5
 clear hc
 obtain ⟨r0,r1,r2,r3,r4⟩:=HR4.out.c5
 obtain ⟨s0,s1,s2,s3,s4⟩:=HR4.out.f5
 go_wp2_with fail
 refine at_world fun W7 hW7=>?_
 have B7:Blk W7 w.heap.size 102 #[.int .u64 0,.int .i64 0,.int .i64 0,.int .i64 0,.int .i64 0]:=by rw [hW7];exact (((((HR4.out.put 0 _).put 1 _).put 2 _).put 3 _).put 4 _).alloc _
 have c7:Ch (fun k=>k=w.heap.size) w4 W7:=by rw [hW7];exact ((((((Ch.refl (fun k=>k=w.heap.size) w4).set (fun _=>rfl) _).set (fun _=>rfl) _).set (fun _=>rfl) _).set (fun _=>rfl) _).set (fun _=>rfl) _).alloc _
 obtain ⟨t0,t1,t2,t3,t4⟩:=B7.c5
 refine bodyPost_ret (v:=.tuple #[(.agg #[.int .u64 0,.int .i64 0,.int .i64 0,.int .i64 0,.int .i64 0]),.int .i64 0]) ?_ rfl ⟨rfl,HC4.out.trans c7 (fun i hi e=>absurd hi (by omega))⟩
 clear hW7 c7
 simp [results,Tryz.results47,go_sem,t0,t1,t2,t3,t4]
section


end
def exB (c:Int) (n:Nat):Bool:=decide (0<=c/\c < n)
theorem exists_any (c:Int) (g n cp:Nat) (a:Option Addr) (w:World) (h:w.cell? ⟨g,0,none⟩=some (.slice a n cp)) :
  Calls Tryz.prog 83 #[.int .i64 c,.pointer (some ⟨g,0,none⟩)] w fun e w'=>e=.returned (.bool (exB c n))/\w=w':=by
 unfold exB
 by_cases h0:0<=c
 ·obtain ⟨c,rfl⟩:=Int.eq_ofNat_of_zero_le h0
  by_cases h1:c < n
  ·go_enter Tryz.func83,Tryz.ntmps83
   go_wp2_with fail
   go_ret
   exact ⟨by simp [h1],rfl⟩
  ·go_enter Tryz.func83,Tryz.ntmps83
   go_wp2_with fail
   go_ret
   exact ⟨by simp [h1],rfl⟩
 ·go_enter Tryz.func83,Tryz.ntmps83
  go_wp2_with fail
  go_ret
  exact ⟨by simp;omega,rfl⟩
def wiB (r n c:Int):Bool:=decide (r<=c/\c < r+n)
theorem within_any (c:Int) (gr gn:Nat) (r n:Int) (w:World) (hr:w.cell? ⟨gr,0,none⟩=some (.int .i64 r)) (hn:w.cell? ⟨gn,0,none⟩=some (.int .i64 n)) (hb:0<=r/\r<=1000000) (hm:0<=n/\n<=1000000) :
  Calls Tryz.prog 84 #[.int .i64 c,.pointer (some ⟨gr,0,none⟩),.pointer (some ⟨gn,0,none⟩)] w fun e w'=>e=.returned (.bool (wiB r n c))/\w=w':=by
 unfold wiB
 by_cases h0:r<=c
 ·by_cases h1:c < r+n
  ·go_enter Tryz.func84,Tryz.ntmps84
   go_wp2_with fail
   go_ret
   exact ⟨by simp [h0,h1],rfl⟩
  ·go_enter Tryz.func84,Tryz.ntmps84
   go_wp2_with fail
   go_ret
   exact ⟨by simp [h1],rfl⟩
 ·go_enter Tryz.func84,Tryz.ntmps84
  go_wp2_with fail
  go_ret
  exact ⟨by simp;omega,rfl⟩
open Classical in
noncomputable def qerr (vs:List Int) (hd tl r n:Int):Int:=
 if n < 1\/64 < n then 2
 else if ¬((0<=hd/\hd < vs.length)/\(0<=tl/\tl < vs.length)/\(0<=r/\r<=vs.length - n)) then 3
 else if hd=tl\/(r<=hd/\hd < r+n)\/(r<=tl/\tl < r+n) then 9
 else if (∃j:Nat,j < vs.length/\lk vs j≠0/\((j:Int)=hd\/(j:Int)=tl\/(r<=j/\j < r+n))) then 8
 else 0
def QOut (k:Int) (w w':World) (t:TypeId) (cs:Array Value) (e:Ending):Prop:=
 Ch (fun _=>False) w w'/\((k≠0/\e=.returned (.tuple #[.pointer none,.int .i64 k]))\/(k=0/\∃q,w.heap.size<=q/\e=.returned (.tuple #[.pointer (some ⟨q,0,none⟩),.int .i64 0])/\Blk w' q t cs))
theorem qnew_any (B p cb:Nat) (lv:Value) (s:BS) (hd tl r n:Int) (w:World) (h:Bank B w p cb lv s.vs s.lg) (hLn:s.vs.length<=4096) :
  Calls Tryz.prog 48 #[.pointer (some ⟨p,0,none⟩),.int .i64 hd,.int .i64 tl,.int .i64 r,.int .i64 n] w fun e w'=>QOut (qerr s.vs hd tl r n) w w' 194 #[.pointer (some ⟨p,0,none⟩),.int .i64 hd,.int .i64 tl,.int .i64 r,.int .u64 n,.pointer none] e:=by
 by_cases g1:n < 1
 ·have hq:qerr s.vs hd tl r n=2:=by unfold qerr;rw [if_pos (.inl g1)]
  have HQ:=hid hq
  clear hq
  go_enter Tryz.func48,Tryz.ntmps48
  go_wp2_with fail
  go_ret2
  exact ⟨((Ch.refl _ w).alloc _).alloc _,.inl ⟨by rw [HQ.out];decide,by rw [HQ.out];rfl⟩⟩
 ·by_cases g2:64 < n
  ·have hq:qerr s.vs hd tl r n=2:=by unfold qerr;rw [if_pos (.inr g2)]
   have HQ:=hid hq
   clear hq
   go_enter Tryz.func48,Tryz.ntmps48
   go_wp2_with fail
   go_ret2
   exact ⟨((Ch.refl _ w).alloc _).alloc _,.inl ⟨by rw [HQ.out];decide,by rw [HQ.out];rfl⟩⟩
  {
 have hn1:1<=n:=by omega
 have hn2:n<=64:=by omega
 go_enter Tryz.func48,Tryz.ntmps48
 go_wp2_with fail
 refine calls_world fun W hW=>?_
 have cW:Ch (fun _=>False) w W:=by rw [hW];exact ((Ch.refl _ w).alloc _).alloc _
 have cr:W.cell? ⟨w.heap.size,0,none⟩=some (.int .i64 r):=by rw [hW];simp
 have cn:W.cell? ⟨w.heap.size+1,0,none⟩=some (.int .i64 n):=by rw [hW];simp
 have hs0:w.heap.size < W.heap.size:=by rw [hW];simp;omega
 have hs1:w.heap.size+1 < W.heap.size:=by rw [hW];simp
 clear hW
 refine (values_any B p cb lv s W (h.ch cW id id (fun _ _=>id))).mono ?_
 rintro e w1 ⟨gv,rfl,hval,hc1,hgv⟩
 have cr1:=(hc1.cell (p:=⟨w.heap.size,0,none⟩) hs0 id).trans cr
 have cn1:=(hc1.cell (p:=⟨w.heap.size+1,0,none⟩) hs1 id).trans cn
 have cw1:=cW.trans hc1 (fun _ _ h=>h)
 obtain ⟨L,hL⟩:∃L,L=s.vs.length:=⟨_,rfl⟩
 rw [<-hL]
 rw [<-hL] at hLn
 have HL:=hid hL
 clear hL cr cn cW hs0 hs1 hgv h hc1
 go_wp2_with fail
 refine calls_world fun W2 hW=>?_
 have c2:Ch (fun _=>False) w1 W2:=by rw [hW];exact (Ch.refl _ _).alloc _
 have e2:W2.cell? ⟨w1.heap.size,0,none⟩=some (.slice (some ⟨gv,0,none⟩) L L):=by rw [hW];simp
 have hv2:=c2.blk hval id
 have cr2:=(c2.cell (p:=⟨w.heap.size,0,none⟩) (World.block_lt_of_cell? w1 _ cr1) id).trans cr1
 have cn2:=(c2.cell (p:=⟨w.heap.size+1,0,none⟩) (World.block_lt_of_cell? w1 _ cn1) id).trans cn1
 have cw2:=cw1.trans c2 (fun _ _ h=>h)
 have Hv2:=hid hv2
 clear hW hval c2 cr1 cn1 cw1 hv2
 by_cases a1:exB hd L=true
 ·have E:=exists_any hd w1.heap.size L L _ W2 e2
  rw [a1] at E
  refine E.mono ?_
  clear E
  rintro e w3 ⟨rfl,rfl⟩
  go_wp2_with fail
  by_cases a2:exB tl L=true
  {
 have E:=exists_any tl w1.heap.size L L _ W2 e2
 rw [a2] at E
 refine E.mono ?_
 clear E
 rintro e w3 ⟨rfl,rfl⟩
 go_wp2_with fail
 by_cases a3:exB r L=true
 ·have E:=exists_any r w1.heap.size L L _ W2 e2
  rw [a3] at E
  refine E.mono ?_
  clear E
  rintro e w3 ⟨rfl,rfl⟩
  have hb1:0<=hd/\hd < L:=by simpa [exB] using a1
  have hb2:0<=tl/\tl < L:=by simpa [exB] using a2
  have hb3:0<=r/\r < L:=by simpa [exB] using a3
  by_cases a4:(L:Int) - r < n
  ·have d4:decide ((L:Int) - r < n)=true:=decide_eq_true a4
   have hwr:wrap64 ((L:Int) - r)=(L:Int) - r:=by unfold wrap64;omega
   have dw:decide (wrap64 ((L:Int) - r) < n)=true:=decide_eq_true (by rw [hwr];omega)
   have d4b:decide ((L:Int) < n+r)=true:=decide_eq_true (by omega)
   have d4c:decide ((L:Int) < r+n)=true:=decide_eq_true (by omega)
   have hq:qerr s.vs hd tl r n=3:=by
    unfold qerr
    rw [<-HL.out]
    rw [if_neg (by omega),if_pos (by omega)]
   have HQ:=hid hq
   clear hq
   go_wp2_with fail
   go_ret2
   exact ⟨cw2,.inl ⟨by rw [HQ.out];decide,by rw [HQ.out];rfl⟩⟩
  {
 have d4:decide ((L:Int) - r < n)=false:=decide_eq_false a4
 have hwr:wrap64 ((L:Int) - r)=(L:Int) - r:=by unfold wrap64;omega
 have dw:decide (wrap64 ((L:Int) - r) < n)=false:=decide_eq_false (by rw [hwr];omega)
 have d4b:decide ((L:Int) < n+r)=false:=decide_eq_false (by omega)
 have d4c:decide ((L:Int) < r+n)=false:=decide_eq_false (by omega)
 by_cases a5:hd=tl
 ·obtain rfl:=a5
  have d5:(hd == hd)=true:=by simp
  have hq:qerr s.vs hd hd r n=9:=by
   unfold qerr
   rw [<-HL.out]
   rw [if_neg (by omega),if_neg (by omega),if_pos (by omega)]
  have HQ:=hid hq
  clear hq
  go_wp2_with fail
  go_ret2
  exact ⟨cw2,.inl ⟨by rw [HQ.out];decide,by rw [HQ.out];rfl⟩⟩
 ·have d5:(hd == tl)=false:=by simpa using a5
  have d5b:decide (hd=tl)=false:=decide_eq_false a5
  go_wp2_with fail
  by_cases t1:wiB r n hd=true
  ·have E:=within_any hd w.heap.size (w.heap.size+1) r n W2 cr2 cn2 (by omega) (by omega)
   rw [t1] at E
   refine E.mono ?_
   clear E
   rintro e w3 ⟨rfl,rfl⟩
   have hq:qerr s.vs hd tl r n=9:=by
    unfold qerr
    rw [<-HL.out]
    rw [if_neg (by omega),if_neg (by omega),if_pos (by simp [wiB] at t1;omega)]
   have HQ:=hid hq
   clear hq
   go_wp2_with fail
   go_ret2
   exact ⟨cw2,.inl ⟨by rw [HQ.out];decide,by rw [HQ.out];rfl⟩⟩
  {
 have t1':wiB r n hd=false:=by simpa using t1
 have E:=within_any hd w.heap.size (w.heap.size+1) r n W2 cr2 cn2 (by omega) (by omega)
 rw [t1'] at E
 refine E.mono ?_
 clear E
 rintro e w3 ⟨rfl,rfl⟩
 go_wp2_with fail
 by_cases t2:wiB r n tl=true
 ·have E:=within_any tl w.heap.size (w.heap.size+1) r n W2 cr2 cn2 (by omega) (by omega)
  rw [t2] at E
  refine E.mono ?_
  clear E
  rintro e w3 ⟨rfl,rfl⟩
  have hq:qerr s.vs hd tl r n=9:=by
   unfold qerr
   rw [<-HL.out]
   rw [if_neg (by omega),if_neg (by omega),if_pos (by simp [wiB] at t2;omega)]
  have HQ:=hid hq
  clear hq
  go_wp2_with fail
  go_ret2
  exact ⟨cw2,.inl ⟨by rw [HQ.out];decide,by rw [HQ.out];rfl⟩⟩
 ·have t2':wiB r n tl=false:=by simpa using t2
  have E:=within_any tl w.heap.size (w.heap.size+1) r n W2 cr2 cn2 (by omega) (by omega)
  rw [t2'] at E
  refine E.mono ?_
  clear E
  rintro e w3 ⟨rfl,rfl⟩
  go_wp2_with fail
  have hnh:¬(r<=hd/\hd < r+n):=fun hc=>t1 (by simp [wiB,hc])
  have hnt:¬(r<=tl/\tl < r+n):=fun hc=>t2 (by simp [wiB,hc])
  clear t1 t2 t1' t2' a1 a2 a3
  go_loopw [68] (fun i wr=>∃k:Nat,k<=L/\i=.int .i64 k/\wr=W2/\∀j:Nat,j < k->¬(lk s.vs j≠0/\((j:Int)=hd\/(j:Int)=tl\/(r<=j/\j < r+n)))) (fun i _=>L - (intOf i).toNat)
  case atStart=>exact ⟨0,Nat.zero_le _,rfl,rfl,fun j hj=>by omega⟩
  case round=>
   (
 obtain ⟨k,hk,rfl,rfl,hinv⟩:=hrel
 have Hinv:=hid hinv
 clear hinv
 by_cases hlt:k < L
 ·have cv:=(Hv2.out.cell k).trans (u64s_getD s.vs k (by have:=HL.out;omega))
  obtain ⟨x,hx⟩:∃x,x=lk s.vs k:=⟨_,rfl⟩
  rw [<-hx] at cv
  have Hx:=hid hx
  clear hx
  by_cases hx0:x=0
  ·have hxb:(x != 0)=false:=by simpa using hx0
   go_wp2_with fail
   go_roundw
   case rel=>exact ⟨k+1,by omega,by go_num,by first | rfl | trivial,fun j hj=>by
    by_cases hjk:j < k
    ·exact Hinv.out j hjk
    ·have:j=k:=by omega
     subst this
     rw [<-Hx.out]
     exact fun hc=>hc.1 hx0⟩
   case measure=>simp [intOf];omega
  {
 have hxb:(x != 0)=true:=by simpa using hx0
 by_cases hkh:(k:Int)=hd
 ·subst hkh
  have hq:qerr s.vs (k:Int) tl r n=8:=by
   unfold qerr
   rw [<-HL.out]
   rw [if_neg (by omega),if_neg (by omega),if_neg (by omega),if_pos ⟨k,hlt,by rw [<-Hx.out];exact hx0,.inl rfl⟩]
  have HQ:=hid hq
  clear hq
  go_wp2_with fail
  go_ret2
  exact ⟨cw2,.inl ⟨by rw [HQ.out];decide,by rw [HQ.out];rfl⟩⟩
 ·have hkb:((k:Int) == hd)=false:=by simpa using hkh
  have hkbd:decide ((k:Int)=hd)=false:=decide_eq_false hkh
  by_cases hkt:(k:Int)=tl
  ·subst hkt
   have hq:qerr s.vs hd (k:Int) r n=8:=by
    unfold qerr
    rw [<-HL.out]
    rw [if_neg (by omega),if_neg (by omega),if_neg (by omega),if_pos ⟨k,hlt,by rw [<-Hx.out];exact hx0,.inr (.inl rfl)⟩]
   have HQ:=hid hq
   clear hq
   go_wp2_with fail
   go_ret2
   exact ⟨cw2,.inl ⟨by rw [HQ.out];decide,by rw [HQ.out];rfl⟩⟩
  {
 have hkb2:((k:Int) == tl)=false:=by simpa using hkt
 have hkb2d:decide ((k:Int)=tl)=false:=decide_eq_false hkt
 go_wp2_with fail
 by_cases hkw:wiB r n k=true
 ·have E:=within_any k w.heap.size (w.heap.size+1) r n wr cr2 cn2 (by omega) (by omega)
  rw [hkw] at E
  refine E.mono ?_
  clear E
  rintro e w3 ⟨rfl,rfl⟩
  have hq:qerr s.vs hd tl r n=8:=by
   unfold qerr
   rw [<-HL.out]
   rw [if_neg (by omega),if_neg (by omega),if_neg (by omega),if_pos ⟨k,hlt,by rw [<-Hx.out];exact hx0,.inr (.inr (by simpa [wiB] using hkw))⟩]
  have HQ:=hid hq
  clear hq
  go_wp2_with fail
  go_ret2
  exact ⟨cw2,.inl ⟨by rw [HQ.out];decide,by rw [HQ.out];rfl⟩⟩
 ·have hkw':wiB r n k=false:=by simpa using hkw
  have E:=within_any k w.heap.size (w.heap.size+1) r n wr cr2 cn2 (by omega) (by omega)
  rw [hkw'] at E
  refine E.mono ?_
  clear E
  rintro e w3 ⟨rfl,rfl⟩
  go_wp2_with fail
  go_roundw
  case rel=>exact ⟨k+1,by omega,by go_num,by first | rfl | trivial,fun j hj=>by
   by_cases hjk:j < k
   ·exact Hinv.out j hjk
   ·have:j=k:=by omega
    subst this
    rintro ⟨_,hc | hc | hc⟩
    ·exact hkh hc
    ·exact hkt hc
    ·exact hkw (by simp [wiB,hc])⟩
  case measure=>simp [intOf];omega
 }
 }
 ·have hkn:k=L:=by omega
  subst hkn
  have hq:qerr s.vs hd tl r n=0:=by
   unfold qerr
   rw [<-HL.out,if_neg (by omega),if_neg (by omega),if_neg (by omega),if_neg]
   rintro ⟨j,hj,hb⟩
   exact Hinv.out j hj hb
  go_wp2_with fail
  go_ret2
  refine ⟨cw2.alloc _,.inr ⟨hq,_,cw2.size,rfl,Blk.new _ _ _⟩⟩
 )
 }
 }
 ·have a3':exB r L=false:=by simpa using a3
  have E:=exists_any r w1.heap.size L L _ W2 e2
  rw [a3'] at E
  refine E.mono ?_
  clear E
  rintro e w3 ⟨rfl,rfl⟩
  have hq:qerr s.vs hd tl r n=3:=by
   unfold qerr
   rw [<-HL.out]
   rw [if_neg (by omega),if_pos (fun hc=>a3 (by simp [exB];omega))]
  have HQ:=hid hq
  clear hq
  go_wp2_with fail
  go_ret2
  exact ⟨cw2,.inl ⟨by rw [HQ.out];decide,by rw [HQ.out];rfl⟩⟩
 }
  {
 have a2':exB tl L=false:=by simpa using a2
 have E:=exists_any tl w1.heap.size L L _ W2 e2
 rw [a2'] at E
 refine E.mono ?_
 clear E
 rintro e w3 ⟨rfl,rfl⟩
 have hq:qerr s.vs hd tl r n=3:=by
  unfold qerr
  rw [<-HL.out]
  rw [if_neg (by omega),if_pos (fun hc=>a2 (by simp [exB];omega))]
 have HQ:=hid hq
 clear hq
 go_wp2_with fail
 go_ret2
 exact ⟨cw2,.inl ⟨by rw [HQ.out];decide,by rw [HQ.out];rfl⟩⟩
 }
 ·have a1':exB hd L=false:=by simpa using a1
  have E:=exists_any hd w1.heap.size L L _ W2 e2
  rw [a1'] at E
  refine E.mono ?_
  clear E
  rintro e w3 ⟨rfl,rfl⟩
  have hq:qerr s.vs hd tl r n=3:=by
   unfold qerr
   rw [<-HL.out]
   rw [if_neg (by omega),if_pos (fun hc=>a1 (by simp [exB];omega))]
  have HQ:=hid hq
  clear hq
  go_wp2_with fail
  go_ret2
  exact ⟨cw2,.inl ⟨by rw [HQ.out];decide,by rw [HQ.out];rfl⟩⟩
 }
theorem blk_new2 (w:World) (o:Obj) (t:TypeId) (cs:Array Value):Blk ((w.alloc o).alloc (.cells cs t)) (w.heap.size+1) t cs:=by
 have h:=Blk.new (w.alloc o) t cs
 simpa using h
theorem nz_any (v:Int) (w:World):Calls Tryz.prog 86 #[.int .u64 v] w fun e w'=>e=.returned (.bool (v != 0))/\w=w':=by
 go_enter Tryz.func86,Tryz.ntmps86
 go_wp2_with fail
 go_ret
 exact ⟨rfl,rfl⟩
theorem idxf_any (g off n c:Nat) (f:Nat->Int) (w:World) (h:∀i,i < n->w.cell? ⟨g,off+i,none⟩=some (.int .u64 (f i))) (hn:n<=1000000) :
  Calls Tryz.prog 122 #[.slice (some ⟨g,off,none⟩) n c,.func (.func 86) #[] #[]] w fun e w'=>∃r:Int,e=.returned (.int .i64 r)/\((∀i,i < n->f i=0)/\r = -1\/(∃i,i < n/\f i≠0)/\0<=r)/\w=w':=by
 have H:=hid h
 clear h
 go_enter Tryz.func122,Tryz.ntmps122
 go_wp2_with fail
 go_loopw [8] (fun i wr=>∃k:Nat,k<=n/\i=.int .i64 k/\wr=w/\∀j:Nat,j < k->f j=0) (fun i _=>n - (intOf i).toNat)
 case atStart=>exact ⟨0,Nat.zero_le _,rfl,rfl,fun j hj=>absurd hj (Nat.not_lt_zero j)⟩
 case round=>
  obtain ⟨k,hk,rfl,rfl,hinv⟩:=hrel
  have Hinv:=hid hinv
  clear hinv
  by_cases hlt:k < n
  {
 have cv:=H.out k hlt
 obtain ⟨d1,d1'⟩:=dc_ltT (a:=k) (b:=n) (by omega)
 obtain ⟨x,hx⟩:∃x,x=f k:=⟨_,rfl⟩
 rw [<-hx] at cv
 have Hx:=hid hx
 clear hx
 by_cases hx0:x=0
 ·have hxb:(x != 0)=false:=by simpa using hx0
  have HX0:=hid hx0
  clear hx0
  go_wp2_with (go_at_call 86;refine (nz_any _ _).mono ?_;rintro e w2 ⟨rfl,rfl⟩)
  go_roundw
  case rel=>exact ⟨k+1,by omega,by go_num,by first | rfl | trivial,fun j hj=>by
   by_cases hjk:j < k
   ·exact Hinv.out j hjk
   ·have:j=k:=by omega
    subst this
    rw [<-Hx.out]
    exact HX0.out⟩
  case measure=>simp [intOf];omega
 ·have hxb:(x != 0)=true:=by simpa using hx0
  have HX0:=hid hx0
  clear hx0
  go_wp2_with (go_at_call 86;refine (nz_any _ _).mono ?_;rintro e w2 ⟨rfl,rfl⟩)
  go_ret
  exact ⟨_,rfl,.inr ⟨⟨k,hlt,by rw [<-Hx.out];exact HX0.out⟩,by omega⟩,rfl⟩
 }
  ·obtain rfl:k=n:=by omega
   have d1:decide (k < k)=false:=decide_eq_false (by omega)
   go_wp2_with fail
   go_ret
   exact ⟨_,rfl,.inl ⟨Hinv.out,rfl⟩,rfl⟩
theorem contf_any (g off n c:Nat) (f:Nat->Int) (w:World) (h:∀i,i < n->w.cell? ⟨g,off+i,none⟩=some (.int .u64 (f i))) (hn:n<=1000000) :
  Calls Tryz.prog 85 #[.slice (some ⟨g,off,none⟩) n c,.func (.func 86) #[] #[]] w fun e w'=>∃b:Bool,e=.returned (.bool b)/\(b=true↔∃i,i < n/\f i≠0)/\w=w':=by
 go_enter Tryz.func85,Tryz.ntmps85
 go_wp2_with fail
 refine (idxf_any g off n c f w h hn).mono ?_
 rintro e w2 ⟨r,rfl,hr,rfl⟩
 have HR:=hid hr
 by_cases h0:0<=r
 ·have d0:decide (0<=r)=true:=decide_eq_true h0
  clear hr
  go_wp2_with fail
  go_ret
  refine ⟨true,rfl,⟨fun _=>?_,fun _=>rfl⟩,rfl⟩
  rcases HR.out with ⟨_,e⟩ | ⟨e,_⟩
  ·omega
  ·exact e
 ·have d0:decide (0<=r)=false:=decide_eq_false h0
  clear hr
  go_wp2_with fail
  go_ret
  refine ⟨false,rfl,⟨fun e=>(by cases e),fun ⟨i,hi,hf⟩=>?_⟩,rfl⟩
  rcases HR.out with ⟨e,_⟩ | ⟨_,e⟩
  ·exact absurd (e i hi) hf
  ·omega
open Classical in
noncomputable def eerr (vs:List Int) (ep sl n:Int):Int:=
 if n < 0\/64 < n then 2
 else if ¬((0<=ep/\ep < vs.length)/\(n=0\/(0<=sl/\sl<=vs.length - n))) then 3
 else if 0 < n/\sl<=ep/\ep < sl+n then 9
 else if lk vs ep.toNat≠0\/(∃j:Nat,sl<=j/\(j:Int) < sl+n/\lk vs j≠0) then 8
 else 0
def EOut (k:Int) (w w':World) (t te:TypeId) (cs:Nat->Array Value) (z:Array Value) (e:Ending):Prop:=
 Ch (fun _=>False) w w'/\((k≠0/\e=.returned (.tuple #[.pointer none,.int .i64 k]))\/(k=0/\∃q pb,w.heap.size<=q/\w.heap.size<=pb/\e=.returned (.tuple #[.pointer (some ⟨q,0,none⟩),.int .i64 0])/\Blk w' q t (cs pb)/\Blk w' pb te z))
theorem enew_any (B p cb:Nat) (lv:Value) (s:BS) (ep sl n:Int) (w:World) (h:Bank B w p cb lv s.vs s.lg) (hLn:s.vs.length<=4096) :
  Calls Tryz.prog 49 #[.pointer (some ⟨p,0,none⟩),.int .i64 ep,.int .i64 sl,.int .i64 n] w fun e w'=>EOut (eerr s.vs ep sl n) w w' 200 109 (fun pb=>#[.pointer (some ⟨p,0,none⟩),.int .i64 ep,.int .i64 sl,.int .i64 n,.slice (some ⟨pb,0,none⟩) n.toNat n.toNat,.pointer none]) (madeX #[.pointer none] n.toNat) e:=by
 obtain ⟨L,hL⟩:∃L,L=s.vs.length:=⟨_,rfl⟩
 rw [<-hL] at hLn
 go_enter Tryz.func49,Tryz.ntmps49
 by_cases g1:n < 0
 ·have dn:decide (n < 0)=true:=decide_eq_true (by omega)
  have hq:eerr s.vs ep sl n=2:=by
   unfold eerr
   rw [<-hL]
   rw [if_pos (by omega)]
  have HQ:=hid hq
  clear hq
  go_wp2_with fail
  go_ret2
  exact ⟨Ch.refl _ _,.inl ⟨by rw [HQ.out];decide,by rw [HQ.out];rfl⟩⟩
 ·have dn:decide (n < 0)=false:=decide_eq_false (by omega)
  by_cases g2:64 < n
  ·have dn2:decide (64 < n)=true:=decide_eq_true (by omega)
   have hq:eerr s.vs ep sl n=2:=by
    unfold eerr
    rw [<-hL]
    rw [if_pos (by omega)]
   have HQ:=hid hq
   clear hq
   go_wp2_with fail
   go_ret2
   exact ⟨Ch.refl _ _,.inl ⟨by rw [HQ.out];decide,by rw [HQ.out];rfl⟩⟩
  {
 have dn2:decide (64 < n)=false:=decide_eq_false (by omega)
 obtain ⟨n,rfl⟩:=Int.eq_ofNat_of_zero_le (by omega:0<=n)
 go_wp2_with fail
 refine (values_any B p cb lv s w h).mono ?_
 rintro e w1 ⟨gv,rfl,hval,cw,hgv⟩
 have Hval:=hid hval
 rw [<-hL]
 have HL:=hid hL
 clear hL hval h
 by_cases e1:ep < 0
 ·have d3:decide (ep < 0)=true:=decide_eq_true (by omega)
  have hq:eerr s.vs ep sl n=3:=by
   unfold eerr
   rw [<-HL.out]
   rw [if_neg (by omega),if_pos (by omega)]
  have HQ:=hid hq
  clear hq
  go_wp2_with fail
  go_ret2
  exact ⟨cw,.inl ⟨by rw [HQ.out];decide,by rw [HQ.out];rfl⟩⟩
 ·obtain ⟨ep,rfl⟩:=Int.eq_ofNat_of_zero_le (by omega:0<=ep)
  by_cases e2:L<=ep
  ·have d4:decide (L<=ep)=true:=decide_eq_true (by omega)
   have d4i:decide ((L:Int)<=ep)=true:=decide_eq_true (by omega)
   have hq:eerr s.vs ep sl n=3:=by
    unfold eerr
    rw [<-HL.out]
    rw [if_neg (by omega),if_pos (by omega)]
   have HQ:=hid hq
   clear hq
   go_wp2_with fail
   go_ret2
   exact ⟨cw,.inl ⟨by rw [HQ.out];decide,by rw [HQ.out];rfl⟩⟩
  {
 have d4:decide (L<=ep)=false:=decide_eq_false (by omega)
 have d4i:decide ((L:Int)<=ep)=false:=decide_eq_false (by omega)
 by_cases n0:n=0
 ·have d0:decide (0 < n)=false:=decide_eq_false (by omega)
  have d0i:decide ((0:Int) < (n:Int))=false:=decide_eq_false (by omega)
  have hn0:n<=0:=by omega
  clear n0
  obtain ⟨ze,hze⟩:∃z,z=lk s.vs ep:=⟨_,rfl⟩
  have cve:=(Hval.out.cell ep).trans (u64s_getD s.vs ep (by have:=HL.out;omega))
  rw [<-hze] at cve
  have Hze:=hid hze
  clear hze
  by_cases ze0:ze=0
  ·subst ze0
   have hq:eerr s.vs ep sl n=0:=by
    unfold eerr
    rw [<-HL.out]
    rw [if_neg (by omega),if_neg (by omega),if_neg (by omega),if_neg (fun hc=>hc.elim (fun e=>e (by rw [Int.toNat_natCast];exact Hze.out.symm)) (fun ⟨j,h1,h2,_⟩=>by omega))]
   have HQ:=hid hq
   clear hq
   have hmk:∀W:World,(Instr.makeSlice 197 (.int .i64 (n:Int)) (.int .i64 (n:Int))).run Tryz.prog W=.ok (.slice (some ⟨W.heap.size,0,none⟩) n n) (W.alloc (.cells (madeX (Value.cells (.pointer none)) (n * 1)) 109)):=fun W=>run_make_x (P:=Tryz.prog) 197 109 (.pointer none) 1 8 Tryz.underlying197 (by kernel_rfl) (by decide) n (by omega) W
   go_wp2_with fail
   go_ret2
   exact ⟨(cw.alloc _).alloc _,.inr ⟨HQ.out,_,_,Nat.le_trans cw.size (by simp),cw.size,rfl,(by first | exact blk_new2 _ _ _ _ | (simp only [Int.toNat_natCast];exact blk_new2 _ _ _ _)),(by first | exact (Blk.new w1 _ _).alloc _ | (simp only [Int.toNat_natCast];exact (Blk.new w1 _ _).alloc _))⟩⟩
  ·have hxb:(ze != 0)=true:=by simpa using ze0
   have hq:eerr s.vs ep sl n=8:=by
    unfold eerr
    rw [<-HL.out]
    rw [if_neg (by omega),if_neg (by omega),if_neg (by omega),if_pos (.inl (by rw [Int.toNat_natCast,<-Hze.out];exact ze0))]
   have HQ:=hid hq
   clear hq
   go_wp2_with fail
   go_ret2
   exact ⟨cw,.inl ⟨by rw [HQ.out];decide,by rw [HQ.out];rfl⟩⟩
 ·have d0:decide (0 < n)=true:=decide_eq_true (by omega)
  have d0i:decide ((0:Int) < (n:Int))=true:=decide_eq_true (by omega)
  by_cases u1:sl < 0
  ·have d5:decide (sl < 0)=true:=decide_eq_true (by omega)
   have hq:eerr s.vs ep sl n=3:=by
    unfold eerr
    rw [<-HL.out]
    rw [if_neg (by omega),if_pos (by omega)]
   have HQ:=hid hq
   clear hq
   go_wp2_with fail
   go_ret2
   exact ⟨cw,.inl ⟨by rw [HQ.out];decide,by rw [HQ.out];rfl⟩⟩
  {
 obtain ⟨sl,rfl⟩:=Int.eq_ofNat_of_zero_le (by omega:0<=sl)
 by_cases u2:L<=sl
 ·have d6:decide (L<=sl)=true:=decide_eq_true (by omega)
  have d6i:decide ((L:Int)<=sl)=true:=decide_eq_true (by omega)
  have hq:eerr s.vs ep sl n=3:=by
   unfold eerr
   rw [<-HL.out]
   rw [if_neg (by omega),if_pos (by omega)]
  have HQ:=hid hq
  clear hq
  go_wp2_with fail
  go_ret2
  exact ⟨cw,.inl ⟨by rw [HQ.out];decide,by rw [HQ.out];rfl⟩⟩
 ·have d6:decide (L<=sl)=false:=decide_eq_false (by omega)
  have d6i:decide ((L:Int)<=sl)=false:=decide_eq_false (by omega)
  by_cases t0:L - sl < n
  {
 have d7:decide ((L:Int) - sl < n)=true:=decide_eq_true (by omega)
 have hwl:wrap64 ((L:Int) - sl)=(L:Int) - sl:=by unfold wrap64;omega
 have d7w:decide (wrap64 ((L:Int) - sl) < n)=true:=decide_eq_true (by rw [hwl];omega)
 have d7b:decide ((L:Int) < n+sl)=true:=decide_eq_true (by omega)
 have d7c:decide ((L:Int) < sl+n)=true:=decide_eq_true (by omega)
 have d7n:decide (L < n+sl)=true:=decide_eq_true (by omega)
 have d7m:decide (L < sl+n)=true:=decide_eq_true (by omega)
 have hq:eerr s.vs ep sl n=3:=by
  unfold eerr
  rw [<-HL.out]
  rw [if_neg (by omega),if_pos (by omega)]
 have HQ:=hid hq
 clear hq
 go_wp2_with fail
 go_ret2
 exact ⟨cw,.inl ⟨by rw [HQ.out];decide,by rw [HQ.out];rfl⟩⟩
 }
  {
 have d7:decide ((L:Int) - sl < n)=false:=decide_eq_false (by omega)
 have hwl:wrap64 ((L:Int) - sl)=(L:Int) - sl:=by unfold wrap64;omega
 have d7w:decide (wrap64 ((L:Int) - sl) < n)=false:=decide_eq_false (by rw [hwl];omega)
 have d7b:decide ((L:Int) < n+sl)=false:=decide_eq_false (by omega)
 have d7c:decide ((L:Int) < sl+n)=false:=decide_eq_false (by omega)
 have d7n:decide (L < n+sl)=false:=decide_eq_false (by omega)
 have d7m:decide (L < sl+n)=false:=decide_eq_false (by omega)
 by_cases t1:sl<=ep
 ·have d9:decide (sl<=ep)=true:=decide_eq_true (by omega)
  have d9i:decide ((sl:Int)<=ep)=true:=decide_eq_true (by omega)
  have hws:wrap64 ((sl:Int)+n)=(sl:Int)+n:=by unfold wrap64;omega
  by_cases t2:ep < sl+n
  ·have d10:decide (ep < sl+n)=true:=decide_eq_true (by omega)
   have d10i:decide ((ep:Int) < sl+n)=true:=decide_eq_true (by omega)
   have hq:eerr s.vs ep sl n=9:=by
    unfold eerr
    rw [<-HL.out]
    rw [if_neg (by omega),if_neg (by omega),if_pos (by omega)]
   have HQ:=hid hq
   clear hq
   go_wp2_with fail
   go_ret2
   exact ⟨cw,.inl ⟨by rw [HQ.out];decide,by rw [HQ.out];rfl⟩⟩
  {
 have d10:decide (ep < sl+n)=false:=decide_eq_false (by omega)
 have d10i:decide ((ep:Int) < sl+n)=false:=decide_eq_false (by omega)
 obtain ⟨ze,hze⟩:∃z,z=lk s.vs ep:=⟨_,rfl⟩
 have cve:=(Hval.out.cell ep).trans (u64s_getD s.vs ep (by have:=HL.out;omega))
 rw [<-hze] at cve
 have Hze:=hid hze
 clear hze
 by_cases ze0:ze=0
 ·subst ze0
  go_wp2_with fail
  refine (contf_any gv sl n (L - sl) (fun i=>lk s.vs (sl+i)) w1 (fun i hi=>(Hval.out.cell (sl+i)).trans (u64s_getD s.vs (sl+i) (by have:=HL.out;omega))) (by omega)).mono ?_
  rintro e w2 ⟨bb,rfl,hbb,rfl⟩
  have Hbb:=hid hbb
  clear hbb
  cases bb
  ·have hq:eerr s.vs ep sl n=0:=by
    unfold eerr
    rw [<-HL.out]
    rw [if_neg (by omega),if_neg (by omega),if_neg (by omega),if_neg (fun hc=>hc.elim (fun e=>e (by rw [Int.toNat_natCast];exact Hze.out.symm)) (fun ⟨j,h1,h2,h3⟩=>h3 (by have:=((fun k hk=>Classical.byContradiction fun hne=>by have:=Hbb.out.2 ⟨k,hk,hne⟩;cases this)) (j - sl) (by omega);rwa [show sl+(j - sl)=j by omega] at this)))]
   have HQ:=hid hq
   clear hq
   have hmk:∀W:World,(Instr.makeSlice 197 (.int .i64 (n:Int)) (.int .i64 (n:Int))).run Tryz.prog W=.ok (.slice (some ⟨W.heap.size,0,none⟩) n n) (W.alloc (.cells (madeX (Value.cells (.pointer none)) (n * 1)) 109)):=fun W=>run_make_x (P:=Tryz.prog) 197 109 (.pointer none) 1 8 Tryz.underlying197 (by kernel_rfl) (by decide) n (by omega) W
   go_wp2_with fail
   go_ret2
   exact ⟨(cw.alloc _).alloc _,.inr ⟨HQ.out,_,_,Nat.le_trans cw.size (by simp),cw.size,rfl,(by first | exact blk_new2 _ _ _ _ | (simp only [Int.toNat_natCast];exact blk_new2 _ _ _ _)),(by first | exact (Blk.new w1 _ _).alloc _ | (simp only [Int.toNat_natCast];exact (Blk.new w1 _ _).alloc _))⟩⟩
  ·have hq:eerr s.vs ep sl n=8:=by
    unfold eerr
    rw [<-HL.out]
    rw [if_neg (by omega),if_neg (by omega),if_neg (by omega),if_pos (.inr (by obtain ⟨k,h1,h2⟩:=Hbb.out.1 rfl;exact ⟨sl+k,by omega,by omega,h2⟩))]
   have HQ:=hid hq
   clear hq
   go_wp2_with fail
   go_ret2
   exact ⟨cw,.inl ⟨by rw [HQ.out];decide,by rw [HQ.out];rfl⟩⟩
 ·have hxb:(ze != 0)=true:=by simpa using ze0
  have hq:eerr s.vs ep sl n=8:=by
   unfold eerr
   rw [<-HL.out]
   rw [if_neg (by omega),if_neg (by omega),if_neg (by omega),if_pos (.inl (by rw [Int.toNat_natCast,<-Hze.out];exact ze0))]
  have HQ:=hid hq
  clear hq
  go_wp2_with fail
  go_ret2
  exact ⟨cw,.inl ⟨by rw [HQ.out];decide,by rw [HQ.out];rfl⟩⟩
 }
 ·have d9:decide (sl<=ep)=false:=decide_eq_false (by omega)
  have d9i:decide ((sl:Int)<=ep)=false:=decide_eq_false (by omega)
  obtain ⟨ze,hze⟩:∃z,z=lk s.vs ep:=⟨_,rfl⟩
  have cve:=(Hval.out.cell ep).trans (u64s_getD s.vs ep (by have:=HL.out;omega))
  rw [<-hze] at cve
  have Hze:=hid hze
  clear hze
  by_cases ze0:ze=0
  {
 subst ze0
 go_wp2_with fail
 refine (contf_any gv sl n (L - sl) (fun i=>lk s.vs (sl+i)) w1 (fun i hi=>(Hval.out.cell (sl+i)).trans (u64s_getD s.vs (sl+i) (by have:=HL.out;omega))) (by omega)).mono ?_
 rintro e w2 ⟨bb,rfl,hbb,rfl⟩
 have Hbb:=hid hbb
 clear hbb
 cases bb
 ·have hq:eerr s.vs ep sl n=0:=by
   unfold eerr
   rw [<-HL.out]
   rw [if_neg (by omega),if_neg (by omega),if_neg (by omega),if_neg (fun hc=>hc.elim (fun e=>e (by rw [Int.toNat_natCast];exact Hze.out.symm)) (fun ⟨j,h1,h2,h3⟩=>h3 (by have:=((fun k hk=>Classical.byContradiction fun hne=>by have:=Hbb.out.2 ⟨k,hk,hne⟩;cases this)) (j - sl) (by omega);rwa [show sl+(j - sl)=j by omega] at this)))]
  have HQ:=hid hq
  clear hq
  have hmk:∀W:World,(Instr.makeSlice 197 (.int .i64 (n:Int)) (.int .i64 (n:Int))).run Tryz.prog W=.ok (.slice (some ⟨W.heap.size,0,none⟩) n n) (W.alloc (.cells (madeX (Value.cells (.pointer none)) (n * 1)) 109)):=fun W=>run_make_x (P:=Tryz.prog) 197 109 (.pointer none) 1 8 Tryz.underlying197 (by kernel_rfl) (by decide) n (by omega) W
  go_wp2_with fail
  go_ret2
  exact ⟨(cw.alloc _).alloc _,.inr ⟨HQ.out,_,_,Nat.le_trans cw.size (by simp),cw.size,rfl,(by first | exact blk_new2 _ _ _ _ | (simp only [Int.toNat_natCast];exact blk_new2 _ _ _ _)),(by first | exact (Blk.new w1 _ _).alloc _ | (simp only [Int.toNat_natCast];exact (Blk.new w1 _ _).alloc _))⟩⟩
 ·have hq:eerr s.vs ep sl n=8:=by
   unfold eerr
   rw [<-HL.out]
   rw [if_neg (by omega),if_neg (by omega),if_neg (by omega),if_pos (.inr (by obtain ⟨k,h1,h2⟩:=Hbb.out.1 rfl;exact ⟨sl+k,by omega,by omega,h2⟩))]
  have HQ:=hid hq
  clear hq
  go_wp2_with fail
  go_ret2
  exact ⟨cw,.inl ⟨by rw [HQ.out];decide,by rw [HQ.out];rfl⟩⟩
 }
  ·have hxb:(ze != 0)=true:=by simpa using ze0
   have hq:eerr s.vs ep sl n=8:=by
    unfold eerr
    rw [<-HL.out]
    rw [if_neg (by omega),if_neg (by omega),if_neg (by omega),if_pos (.inl (by rw [Int.toNat_natCast,<-Hze.out];exact ze0))]
   have HQ:=hid hq
   clear hq
   go_wp2_with fail
   go_ret2
   exact ⟨cw,.inl ⟨by rw [HQ.out];decide,by rw [HQ.out];rfl⟩⟩
 }
 }
 }
 }
end Go.Proofs.YtjcdknhejcbpiaaGreat
