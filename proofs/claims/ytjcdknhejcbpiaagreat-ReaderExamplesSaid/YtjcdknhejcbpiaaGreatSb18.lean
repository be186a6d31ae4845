/- Lemmas; no condition. -/
import Derived.Test.YtjcdknhejcbpiaaGreatSb15
import Derived.Test.YtjcdknhejcbpiaaGreatSb17
set_option maxRecDepth 100000
set_option maxHeartbeats 4000000
namespace Go.Proofs.YtjcdknhejcbpiaaGreat
open Go.RowKit
set_option linter.unusedVariables false
set_option linter.unusedSimpArgs false
set_option linter.unusedSectionVars false
theorem ArM.off {A:ArA} {w:World} {ns:List An} {st:Int} (h:ArM A w ns st) {k:Nat} {t:TypeId} {cs:Array Value} (hb:Blk w k t cs) (h1:t≠164) (h2:t≠211) (h3:t≠213):¬A.mut k:=by
 rintro (rfl | rfl | rfl | rfl)
 ·exact Blk.ne hb h.a h1 rfl
 ·exact Blk.ne hb h.l h2 rfl
 ·obtain ⟨bs,_,hm⟩:=h.m
  have t:w.heap[A.mb]?=some (.cells cs t (0,0)):=hb
  rw [hm] at t
  cases t
 ·exact Blk.ne hb h.b1 h3 rfl
theorem callF_enter {F : FuncId} {fn : Func} {c : Code} (hf : Tryz.prog.funcs[F]? = some fn) (hname : (fn.name == "runtime.NumGoroutine") = false) (hb : fn.body = some c) (args : Array Value) (w : World) : (callFunc F args).run Tryz.prog w = .ok (.enter F args) w := by
 have h1 : fn.name ≠ "runtime.NumGoroutine" := by simpa using hname
 simp [callFunc,hf,h1,hb]
def ConOut (x:Nd) (w:World) (e:Ending) (w':World):Prop:=∃a n c,e=.returned (x.v a n c)/\InP Kd.cells 4 w' (fun k=>w.heap.size<=k) a n x.ks/\(x.ks=[]->a=none/\c=0)/\Ch (fun _=>False) w w'
theorem put1_any (A:ArA) (ns:List An) (st:Int) (x:Nd) (bp bc br pb rb:Nat) (F:FuncId) (caps:Array Value) (todo rv r1 r2 r3 r4:Value) (w:World) (h:ArM A w ns st) (hP:ArP ns) (hx:x.ok)
  (hp:Blk w bp 242 #[.pointer (some ⟨pb,0,none⟩)]) (hc:Blk w bc 292 #[.func (.func F) #[] caps]) (hr:Blk w br 246 #[.pointer (some ⟨rb,0,none⟩)]) (hpen:Blk w pb 248 #[.pointer (some ⟨A.ab,0,none⟩),todo,rv]) (hrb:Blk w rb 102 #[.int .u64 0,r1,r2,r3,r4])
  (hkids:∀k ∈ x.ks,∃z,ns[k.at']?=some z/\z.x.h+1=x.h/\z.x.ms=k.m) (hroom:ns.length < A.n) (hn:A.n<=16384) (hrk:∀y ∈ ns,¬y.kb rb)
  (hcon:∀w',Ch (fun _=>False) w w'->Calls Tryz.prog F caps w' (ConOut x w')) (hin:∀w',(callFunc F caps).run Tryz.prog w'=.ok (.enter F caps) w') :
  Calls Tryz.prog 167 #[.pointer (some ⟨bp,0,none⟩),.pointer (some ⟨bc,0,none⟩),.pointer (some ⟨br,0,none⟩)] w fun e w'=>∃y:An,y.x=x/\e=.returned (.tuple #[.int .u64 (hdl ns.length),.int .i64 0])/\ArM A w' (ns++[y]) st/\Ch (fun k=>A.mut k\/k=rb) w w'/\(∀k,y.kb k->w.heap.size<=k)/\Blk w' rb 102 #[.int .u64 (hdl ns.length),r1,r2,r3,r4]:=by
 have H:=hid h
 have HP:=hid hP
 have HX:=hid hx
 have HBP:=hid hp
 have HBC:=hid hc
 have HBR:=hid hr
 have HPEN:=hid hpen
 have HRB:=hid hrb
 have HK:=hid hkids
 have HRK:=hid hrk
 have HCON:=hid hcon
 clear h hP hx hp hc hr hpen hrb hkids hrk hcon
 obtain ⟨SS,hSS⟩:∃S:Nat->Prop,∀j,S j↔(j=bp\/j=pb\/j=bc):=⟨_,fun _=>Iff.rfl⟩
 have hS1:Mix.Has SS bp:=(hSS _).2 (.inl rfl)
 have hS2:Mix.Has SS pb:=(hSS _).2 (.inr (.inl rfl))
 have hS3:Mix.Has SS bc:=(hSS _).2 (.inr (.inr rfl))
 have HSS:=hid hSS
 clear hSS
 have c0:w.cell? ⟨bp,0,none⟩=some (.pointer (some ⟨pb,0,none⟩)):=HBP.out.cell 0
 have c1:w.cell? ⟨pb,0,none⟩=some (.pointer (some ⟨A.ab,0,none⟩)):=HPEN.out.cell 0
 have c2:w.cell? ⟨bc,0,none⟩=some (.func (.func F) #[] caps):=HBC.out.cell 0
 go_enter Tryz.func167,Tryz.ntmps167
 go_wp2_with fail
 refine Mix.rg SS [4,1,1,4,4,3,2,0,0,0,0,0] [0,1,2,3,4,5,6,7,8,9,10,11] ?_
 repeat ((first | refine Mix.zq ?_ | refine Mix.zp ?_ | refine Mix.zs ?_);go_big_quiet_step (fail);refine wpQuiet_nil ?_)
 refine Mix.za fun W2 hW2=>?_
 obtain ⟨y2,rfl⟩:=hW2
 go_wp2_with fail
 refine (HCON.out (w.drewN y2) ((Ch.refl _ w).drewN y2)).mono ?_
 rintro e w3 ⟨ca,cn,cc,rfl,hI,hca,hC⟩
 have HI:=hid hI
 have HCA:=hid hca
 have C3:=hid (((Ch.refl (fun _=>False) w).drewN y2).trans hC (fun _ _ e=>e))
 clear hI hca hC c0 c1 c2
 go_wp2_with fail
 refine ⟨fun j hj=>C3.out.block j (by
  rcases (HSS.out j).1 hj with rfl | rfl | rfl
  ·exact HBP.out.lt
  ·exact HPEN.out.lt
  ·exact HBC.out.lt) id,?_⟩
 refine Mix.ze fun W4 hW4=>?_
 obtain ⟨y4,rfl⟩:=hW4
 go_wp2_with fail
 have HM:=hid (H.out.keep0 (C3.out.drewN y4))
 refine (alloc_any (fun k=>w.heap.size<=k) A ns st x ca cn cc (w3.drewN y4) HM.out HP.out HX.out (HI.out.keep ((Ch.refl (fun _=>False) w3).drewN y4) (fun _ _ _=>id) (fun k _ h=>h)) HCA.out HK.out hroom hn (fun k hk hm=>by have:=H.out.foot_lt (.inl hm);omega)).mono ?_
 rintro e w5 ⟨y,hy,rfl,hM5,hC5,hyk⟩
 have HM5:=hid hM5
 have C5:=hid ((C3.out.drewN y4).mono (fp':=A.mut) (fun _ _ e=>e.elim) |>.trans hC5 (fun _ _ e=>e))
 have hsz3:=C3.out.size
 have HYK:=hid (show ∀k,y.kb k->w.heap.size<=k from fun k hk=>Nat.le_trans hsz3 (hyk k hk))
 clear hM5 hC5 hyk hsz3
 go_wp2_with fail
 repeat ((first | refine Mix.zq ?_ | refine Mix.zp ?_ | refine Mix.zs ?_);go_big_quiet_step (fail);refine wpQuiet_nil ?_)
 intro y5
 have R5:=hid ((C5.out.blk HBR.out (H.out.off HBR.out (by decide) (by decide) (by decide))).drewN y5)
 have B5:=hid ((C5.out.blk HRB.out (H.out.off HRB.out (by decide) (by decide) (by decide))).drewN y5)
 have c0:(w5.drewN y5).cell? ⟨br,0,none⟩=some (.pointer (some ⟨rb,0,none⟩)):=R5.out.cell 0
 have c1:(w5.drewN y5).cell? ⟨rb,0,none⟩=some (.int .u64 0):=B5.out.cell 0
 have f1:=B5.out.free 0
 go_wp2_with fail
 go_ret2
 have CF:Ch (fun k=>k=rb) w5 ((w5.drewN y5).setCell ⟨rb,0,none⟩ (.int .u64 (hdl ns.length))):=((Ch.refl (fun k=>k=rb) w5).drewN y5).set (fun _=>rfl) _
 refine ⟨y,hy,rfl,HM5.out.keep CF (fun k hk hf e=>?_),(C5.out.mono (fun _ _ e=>.inl e)).trans CF (fun _ _ e=>.inr e),HYK.out,B5.out.put 0 _⟩
 subst e
 rcases hf with hf | hf | hf | ⟨z,hz,hf⟩
 ·exact H.out.off HRB.out (by decide) (by decide) (by decide) hf
 ·exact Blk.ne HRB.out H.out.b0 (by decide) hf
 ·exact Blk.ne HRB.out H.out.b2 (by decide) hf
 ·rcases List.mem_append.1 hz with hz | hz
  ·exact HRK.out z hz hf
  ·simp at hz
   subst hz
   have:=HYK.out _ hf
   have:=HRB.out.lt
   omega
theorem step_any (A:ArA) (ns:List An) (st:Int) (x:Nd) (bp bc br pb rb g off n c:Nat) (F:FuncId) (caps:Array Value) (rv r1 r2 r3 r4:Value) (w:World) (h:ArM A w ns st) (hP:ArP ns) (hx:x.ok)
  (hp:Blk w bp 242 #[.pointer (some ⟨pb,0,none⟩)]) (hc:Blk w bc 292 #[.func (.func F) #[] caps]) (hr:Blk w br 246 #[.pointer (some ⟨rb,0,none⟩)]) (hpen:Blk w pb 248 #[.pointer (some ⟨A.ab,0,none⟩),.slice (some ⟨g,off,none⟩) (n+1) c,rv]) (hrb:Blk w rb 102 #[.int .u64 0,r1,r2,r3,r4])
  (hkids:∀k ∈ x.ks,∃z,ns[k.at']?=some z/\z.x.h+1=x.h/\z.x.ms=k.m) (hroom:ns.length < A.n) (hn:A.n<=16384) (hrk:∀y ∈ ns,¬y.kb rb) (hpk:∀y ∈ ns,¬y.kb pb) (hcn:n+1<=c)
  (hcon:∀w',Ch (fun _=>False) w w'->Calls Tryz.prog F caps w' (ConOut x w')) (hin:∀w',(callFunc F caps).run Tryz.prog w'=.ok (.enter F caps) w')
  (hit:w.cell? ⟨g,off,none⟩=some (.func (.func 167) #[] #[.pointer (some ⟨bp,0,none⟩),.pointer (some ⟨bc,0,none⟩),.pointer (some ⟨br,0,none⟩)])) :
  Calls Tryz.prog 120 #[.pointer (some ⟨pb,0,none⟩)] w fun e w'=>∃(y:An) (A':Option Addr),(0 < n->A'=some ⟨g,off+1,none⟩)/\y.x=x/\e=.returned (.tuple #[.int .u64 (hdl ns.length),.bool ((n:Int) == 0),.int .i64 0])/\ArM A w' (ns++[y]) st/\Ch (fun k=>A.mut k\/k=rb\/k=pb) w w'/\(∀k,y.kb k->w.heap.size<=k)/\Blk w' rb 102 #[.int .u64 (hdl ns.length),r1,r2,r3,r4]/\Blk w' pb 248 #[.pointer (some ⟨A.ab,0,none⟩),.slice A' n (c - 1),rv]:=by
 have H:=hid h
 have HP:=hid hP
 have HX:=hid hx
 have HBP:=hid hp
 have HBC:=hid hc
 have HBR:=hid hr
 have HPEN:=hid hpen
 have HRB:=hid hrb
 have HK:=hid hkids
 have HRK:=hid hrk
 have HCON:=hid hcon
 have HIN:=hid hin
 have HPK:=hid hpk
 clear h hP hx hp hc hr hpen hrb hkids hrk hcon hin hpk
 have c1:w.cell? ⟨pb,1,none⟩=some (.slice (some ⟨g,off,none⟩) (n+1) c):=HPEN.out.cell 1
 have d1:(((n+1:Nat):Int) == 0)=false:=by rw [beq_eq_false_iff_ne];omega
 have d2:(n+1 == 0)=false:=by simp
 obtain ⟨A',hA'⟩:∃A':Option Addr,A'=if c=1 then some ⟨g,off,none⟩ else some ⟨g,off+1,none⟩:=⟨_,rfl⟩
 have hsl:∀W,(Instr.sliceAt 245 (.slice (some ⟨g,off,none⟩) (n+1) c) (some (.int .i64 1)) none none).run Tryz.prog W=.ok (.slice A' n (c - 1)) W:=fun W=>by
  have t:=run_slice_low (P:=Tryz.prog) 245 276 1 Tryz.underlying245 (by kernel_rfl) (some ⟨g,off,none⟩) (n+1) c 1 (by omega) hcn W
  rw [hA']
  simpa [Addr.add] using t
 have hA1:0 < n->A'=some ⟨g,off+1,none⟩:=fun h0=>by rw [hA',if_neg (by omega)]
 have HA:=hid hA1
 clear hA' hA1
 go_enter Tryz.func120,Tryz.ntmps120
 go_wp2_with fail
 refine (put1_any A ns st x bp bc br pb rb F caps _ rv r1 r2 r3 r4 w H.out HP.out HX.out HBP.out HBC.out HBR.out HPEN.out HRB.out HK.out hroom hn HRK.out HCON.out HIN.out).mono ?_
 rintro e w2 ⟨y,hy,rfl,hM,hC,hyk,hB⟩
 have HM:=hid hM
 have HC:=hid hC
 have HY:=hid hyk
 have HB:=hid hB
 have hnp:¬(A.mut pb\/pb=rb):=fun e=>by
  rcases e with e | e
  ·exact H.out.off HPEN.out (by decide) (by decide) (by decide) e
  ·exact Blk.ne HPEN.out HRB.out (by decide) e
 have HNP:=hid hnp
 have P2:=hid (HC.out.blk HPEN.out hnp)
 clear hM hC hyk hB hnp c1 hit
 have c1:w2.cell? ⟨pb,1,none⟩=some (.slice (some ⟨g,off,none⟩) (n+1) c):=P2.out.cell 1
 have s1:=P2.out.free 1
 go_wp2_with fail
 refine at_world fun W3 hW3=>?_
 have P3:=hid (show Blk W3 pb 248 #[.pointer (some ⟨A.ab,0,none⟩),.slice A' n (c - 1),rv] from by rw [hW3];exact P2.out.put 1 _)
 have C3:=hid (show Ch (fun k=>k=pb) w2 W3 from by rw [hW3];exact (Ch.refl (fun k=>k=pb) w2).set (fun _=>rfl) _)
 clear hW3 c1 s1 hsl
 have c1:W3.cell? ⟨pb,1,none⟩=some (.slice A' n (c - 1)):=P3.out.cell 1
 refine Mix.rt [0,0,0,0,0,0,0,0,0,0] [0,1,2,3,4,5,6,7,8,9] ?_
 repeat ((first | refine Mix.zq ?_ | refine Mix.zp ?_ | refine Mix.zs ?_);go_big_quiet_step (fail);refine wpQuiet_nil ?_)
 intro y5
 go_wp2_with fail
 refine bodyPost_ret (v:=.tuple #[.int .u64 (hdl ns.length),.bool ((n:Int) == 0),.int .i64 0]) (by simp [results,Tryz.results120,go_sem]) rfl ⟨y,A',HA.out,hy,rfl,HM.out.keep (C3.out.drewN y5) (fun k hk hf e=>?_),(HC.out.mono (fp':=fun k=>A.mut k\/k=rb\/k=pb) (fun _ _ e=>e.elim .inl (fun e=>.inr (.inl e)))).trans (C3.out.drewN y5) (fun _ _ e=>.inr (.inr e)),HY.out,(C3.out.blk HB.out (fun e=>HNP.out (.inr e.symm))).drewN y5,P3.out.drewN y5⟩
 subst e
 rcases hf with hf | hf | hf | ⟨z,hz,hf⟩
 ·exact H.out.off HPEN.out (by decide) (by decide) (by decide) hf
 ·exact Blk.ne HPEN.out H.out.b0 (by decide) hf
 ·exact Blk.ne HPEN.out H.out.b2 (by decide) hf
 ·rcases List.mem_append.1 hz with hz | hz
  ·exact HPK.out z hz hf
  ·simp at hz
   subst hz
   have:=HY.out _ hf
   have:=HPEN.out.lt
   omega
structure PenM (A:ArA) (w:World) (W0:Nat) (ns:List An) (st:Int) (pb g rl:Nat) (sps:List Sp) (its:List It) (k:Nat) (ys:List An):Prop where
 len:its.length=sps.length
 yl:ys.length=k
 kle:k<=sps.length
 ok:PostOK 0 sps
 ar:ArM A w (ns++ys) st
 ap:ArP (ns++ys)
 yx:∀(j:Nat) (y:An),ys[j]?=some y->∃sp,sps[j]?=some sp/\y.x=sp.nd ns.length sps
 pen:∃(a:Option Addr) (c:Nat),Blk w pb 248 #[.pointer (some ⟨A.ab,0,none⟩),.slice a (sps.length - k) c,.pointer (some ⟨rl,0,none⟩)]/\(k < sps.length->a=some ⟨g,k,none⟩/\sps.length - k<=c)
 todo:∃cs:Array Value,Blk w g 276 cs/\∀(j:Nat) (it:It),its[j]?=some it->cs[j]?=some it.v
 item:∀(i:Nat) (sp:Sp) (it:It),sps[i]?=some sp->its[i]?=some it->ItemM w (fun _=>True) pb (fOf 0 its) sp it
 root:∀(i:Nat) (sp:Sp) (it:It),sps[i]?=some sp->its[i]?=some it->RootM w sp it (if i < k then hdl (ns.length+i) else 0)
 diff:∀(i j:Nat) (it it':It),its[i]?=some it->its[j]?=some it'->i≠j->it.rb≠it'.rb
 off:∀y ∈ ns++ys,∀b,y.kb b->b≠pb/\∀it ∈ its,b≠it.rb
 rlast:∃it,its[sps.length - 1]?=some it/\it.rb=rl
 old:W0<=pb/\W0<=g/\∀it ∈ its,W0<=it.rb
theorem begin_any (A:ArA) (ns:List An) (st:Int) (t:T) (cs:List Value) (S:Nat->Prop) (w:World) (h:ArM A w ns st) (hP:ArP ns) (hg:t.good) (hT:TreeAt w S t cs) (hb:t.bytes<=65536) (hc:t.cnt<=60000) (hroom:t.cnt<=A.n - ns.length) (hn:A.n<=16384) :
  Calls Tryz.prog 119 #[.pointer (some ⟨A.ab,0,none⟩),.agg cs.toArray] w fun e w'=>∃pb g rl its,e=.returned (.tuple #[.pointer (some ⟨pb,0,none⟩),.int .i64 0])/\PenM A w' w.heap.size ns st pb g rl (T.post 0 t) its 0 []/\Ch (fun _=>False) w w':=by
 obtain ⟨s,a,n,c,rfl⟩:=hT.form
 have d1:decide (A.n - ns.length < t.cnt)=false:=decide_eq_false (by omega)
 have d2:decide (((A.n - ns.length:Nat):Int) < (t.cnt:Int))=false:=decide_eq_false (by omega)
 obtain ⟨F,hF⟩:∃F,F=A.n - ns.length:=⟨_,rfl⟩
 rw [<-hF] at d1 d2
 obtain ⟨TC,hTC⟩:∃x,x=t.cnt:=⟨_,rfl⟩
 rw [<-hTC] at d1 d2
 have H:=hid h
 have HP:=hid hP
 have HG:=hid hg
 have HT:=hid hT
 have HF:=hid hF
 have HTC:=hid hTC
 have HB:=hid hb
 have HC:=hid hc
 clear h hP hT hg hF hTC hroom hb hc
 go_enter Tryz.func119,Tryz.ntmps119
 go_wp2_with fail
 refine calls_world fun W1 hW1=>?_
 have C1:=hid (show Ch (fun _=>False) w W1 from by rw [hW1];exact (Ch.refl _ w).alloc _)
 have T1:=hid (HT.out.keep C1.out (fun _ _ _=>id) (fun _ _ h=>h) (S':=S))
 have K1:=hid (show Blk W1 w.heap.size 183 #[.int .u64 0,.int .i64 (Int.ofNat t.ht),.int .i64 0,.int .i64 0,.int .i64 0,.string s,.slice a n c] from by rw [hW1];exact Blk.new w _ _)
 clear hW1
 refine (pcheck_any A.ab t _ W1 S HG.out T1.out HB.out).mono ?_
 rintro e W2 ⟨rfl,hc2⟩
 have C2:=hid (C1.out.trans hc2 (fun _ _ e=>e))
 have K2:=hid (hc2.blk K1.out id)
 have T2:=hid (T1.out.keep hc2 (fun _ _ _=>id) (fun _ _ h=>h) (S':=S))
 clear hc2 C1 T1 K1
 obtain ⟨k0,k1,k2,k3,k4,k5,k6⟩:=K2.out.c7
 go_wp2_with fail
 refine (gnew_any t _ W2 S HG.out T2.out (by have:=HC.out;omega)).mono ?_
 rintro e W3 ⟨rfl,hc3⟩
 have C3:=hid (C2.out.trans hc3 (fun _ _ e=>e))
 have K3:=hid (hc3.blk K2.out id)
 have T3:=hid (T2.out.keep hc3 (fun _ _ _=>id) (fun _ _ h=>h) (S':=S))
 clear hc3 C2 T2 K2 k0 k1 k2 k3 k4 k5 k6
 rw [<-HTC.out]
 go_wp2_with fail
 refine (statsM A ns st hn W3 (H.out.keep0 C3.out)).mono ?_
 rintro e W4 ⟨rfl,hc4⟩
 rw [<-HF.out]
 have C4:=hid (C3.out.trans hc4 (fun _ _ e=>e))
 have K4:=hid (hc4.blk K3.out id)
 have T4:=hid (T3.out.keep hc4 (fun _ _ _=>id) (fun _ _ h=>h) (S':=S))
 clear hc4 C3 T3 K3
 obtain ⟨k0,k1,k2,k3,k4,k5,k6⟩:=K4.out.c7
 have hwl:w.heap.size < W4.heap.size:=K4.out.lt
 have hfd:∀W,(Instr.field 97 (.agg #[.int .i64 (A.n:Int),.int .i64 (F:Int),.int .i64 (ns.length:Int),.int .i64 0,.int .i64 (ns.length:Int),.int .i64 0,.int .i64 st]) 1).run Tryz.prog W=.ok (.int .i64 (F:Int)) W:=fun W=>by kernel_rfl
 go_wp2_with fail
 refine calls_world fun W5 hW5=>?_
 obtain ⟨pb,hpb⟩:∃x,x=W4.heap.size:=⟨_,rfl⟩
 rw [<-hpb]
 have C5:=hid (show Ch (fun _=>False) w W5 from by rw [hW5];exact C4.out.alloc _)
 have P5:=hid (show Blk W5 pb 248 #[.pointer (some ⟨A.ab,0,none⟩),.slice none 0 0,.pointer none] from by rw [hW5,hpb];exact Blk.new W4 _ _)
 have T5:=hid (show TreeAt W5 (fun k=>S k/\k < W4.heap.size) t [.int .u64 0,.int .i64 (Int.ofNat t.ht),.int .i64 0,.int .i64 0,.int .i64 0,.string s,.slice a n c] from by rw [hW5];exact T4.out.keep ((Ch.refl (fun _=>False) W4).alloc _) (fun _ _ _=>id) (fun k hk h=>⟨h,hk⟩))
 clear hW5 k0 k1 k2 k3 k4 k5 k6 hfd
 have HPB:=hid hpb
 have hwpb:w.heap.size<=pb:=by omega
 have hsz5:=C5.out.size
 refine (gadd_any t HG.out _ w.heap.size pb (.pointer (some ⟨A.ab,0,none⟩)) (.pointer none) W5 (fun k=>S k/\k < W4.heap.size) 0 (.slice none 0 0) [] T5.out P5.out (World.ownsRow_nil _ _ _ _) hsz5 (by have:=HC.out;omega) (fun k hk e=>by
  rcases e with e | e
  ·have:=hk.2;omega
  ·simp [Value.ownBlock] at e) HB.out).mono ?_
 rintro e W6 ⟨its,it0,todo',rfl,hl,hp6,ho6,hI6,hr6,hc6,hf6⟩
 have P6:=hid hp6
 have O6:=hid ho6
 have I6:=hid hI6
 have R6:=hid hr6
 have C6:=hid hc6
 have L6:=hid hl
 clear hp6 ho6 hI6 hr6 hc6 hf6 hl
 have c2:W6.cell? ⟨pb,2,none⟩=some (.pointer none):=P6.out.cell 2
 have s2:=P6.out.free 2
 rw [HPB.out] at c2 s2
 go_wp2_with fail
 refine at_world fun W7 hW7=>?_
 have P7:=hid (show Blk W7 pb 248 #[.pointer (some ⟨A.ab,0,none⟩),todo',.pointer (some ⟨it0.rb,0,none⟩)] from by rw [hW7,<-HPB.out];exact P6.out.put 2 _)
 have C7:=hid (show Ch (fun k=>k=pb) W6 W7 from by rw [hW7,<-HPB.out];exact (Ch.refl (fun k=>k=pb) W6).set (fun _=>rfl) _)
 clear hW7 c2 s2
 have htc:=HTC.out
 have hcp:=cnt_pos t
 obtain ⟨_,hO⟩:=O6.out
 obtain ⟨g,cap,cur,rfl,hgB,hgb,hcap,_,_,hcur⟩:=hO.resolve_left (fun e=>by have:=e.2;omega)
 have hgb':Blk W6 g 276 cur:=hgb
 rw [List.nil_append] at hcur
 have hsl:(T.post 0 t).length=t.cnt:=post_len t 0
 have hilen:its.length=t.cnt:=by rw [I6.out.len,hsl]
 have I7:=I6.out.keep (S':=fun _=>True) C7.out (fun j u cs hb hq hs e=>Blk.ne hb P6.out (fun e=>absurd (e ▸ hq) (by unfold QT;decide)) e) (fun _ _ _=>trivial) (fun it hit e=>by
  obtain ⟨cs,hb⟩:=I6.out.rblk it hit
  exact Blk.ne hb P6.out (by decide) e)
 have C56:=C6.out
 have hsz6:=C6.out.size
 have C07:Ch (fun _=>False) w W7:=(C5.out.trans C6.out (fun i hi e=>by
  rcases e with e | e
  ·omega
  ·simp [Value.ownBlock] at e)).trans C7.out (fun i hi e=>by omega)
 have hM:=H.out.keep0 C07
 refine bodyPost_ret (v:=.tuple #[.pointer (some ⟨W4.heap.size,0,none⟩),.int .i64 0]) (by simp [results,Tryz.results119,go_sem]) rfl ⟨pb,g,it0.rb,its,by rw [HPB.out],⟨by rw [hilen,hsl],rfl,Nat.zero_le _,gpost_ok t HG.out HB.out 0,by simpa using hM,by simpa using HP.out,fun j y hj=>by simp at hj,⟨_,cap,?_,fun _=>⟨rfl,?_⟩⟩,⟨cur,C7.out.blk hgb' (fun e=>Blk.ne hgb' P6.out (by decide) e),fun j it hj=>?_⟩,I7.item,fun i sp it h1 h2=>?_,I7.diff,fun y hy b hyb=>?_,⟨it0,by rw [hsl];exact L6.out,rfl⟩,hwpb,hgB,fun it hit=>?_⟩,C07⟩
 ·have t:=P7.out
  rw [hsl]
  simpa using t
 ·rw [hsl];simpa using hcap
 ·rw [Nat.zero_add,Nat.mul_one] at hcur
  have hj':(its.map It.v)[j]?=some it.v:=by rw [List.getElem?_map,hj];rfl
  rw [<-hcur,List.getElem?_take] at hj'
  split at hj'
  ·rw [<-Array.getElem?_toList];exact hj'
  ·cases hj'
 ·rw [if_neg (by omega)]
  exact I7.root i sp it h1 h2
 ·have hlt:b < w.heap.size:=H.out.foot_lt (.inr (.inr (.inr ⟨y,by simpa using hy,hyb⟩)))
  refine ⟨by omega,fun it hit=>?_⟩
  have:=R6.out it hit
  omega
 ·have:=R6.out it hit
  omega
end Go.Proofs.YtjcdknhejcbpiaaGreat
