/- Lemmas; no condition. -/
import Derived.Test.YtjcdknhejcbpiaaGreatSb24
import Derived.Test.YtjcdknhejcbpiaaGreatSb25
set_option maxRecDepth 100000
set_option maxHeartbeats 4000000
namespace Go.Proofs.YtjcdknhejcbpiaaGreat
open Go.RowKit
set_option linter.unusedVariables false
set_option linter.unusedSimpArgs false
set_option linter.unusedSectionVars false
theorem rresult_any (g:Nat) (r:Rd) (w:World) (h:Blk w g 111 r.cells):Calls Tryz.prog 17 #[.pointer (some ⟨g,0,none⟩)] w fun e w'=>e=.returned r.rs.v/\Ch (fun _=>False) w w':=by
 have hl:=h.lt
 have n1:g≠w.heap.size:=Nat.ne_of_lt hl
 have n2:w.heap.size≠g:=Ne.symm n1
 have x0:w.cell? ⟨g,14,none⟩=some (.int .i64 r.rs.er):=h.cell 14
 have x1:w.cell? ⟨g,15,none⟩=some (.int .i64 r.rs.rev):=h.cell 15
 have x2:w.cell? ⟨g,16,none⟩=some (.int .i64 r.rs.sl):=h.cell 16
 have x3:w.cell? ⟨g,17,none⟩=some (.int .i64 r.rs.at'):=h.cell 17
 have x4:w.cell? ⟨g,18,none⟩=some (.int .u8 r.rs.g):=h.cell 18
 have x5:w.cell? ⟨g,19,none⟩=some (.string r.rs.s):=h.cell 19
 have x6:w.cell? ⟨g,20,none⟩=some (.int .i64 r.rs.b):=h.cell 20
 have x7:w.cell? ⟨g,21,none⟩=some (.int .i64 r.rs.r):=h.cell 21
 have x8:w.cell? ⟨g,22,none⟩=some (.int .i64 r.rs.l):=h.cell 22
 have x9:w.cell? ⟨g,23,none⟩=some (.int .u8 r.rs.ik):=h.cell 23
 have x10:w.cell? ⟨g,24,none⟩=some (.int .i64 r.rs.fr):=h.cell 24
 have x11:w.cell? ⟨g,25,none⟩=some (.int .i64 r.rs.to):=h.cell 25
 have x12:w.cell? ⟨g,26,none⟩=some (.slice none 0 0):=h.cell 26
 clear h
 simp only [RsV.v]
 go_enter Tryz.func17,Tryz.ntmps17
 go_wp2_with fail
 refine bodyPost_ret (v:=.agg #[.int .i64 r.rs.er,.int .i64 r.rs.rev,.int .i64 r.rs.sl,.int .i64 r.rs.at',.int .u8 r.rs.g,.string r.rs.s,.int .i64 r.rs.b,.int .i64 r.rs.r,.int .i64 r.rs.l,.int .u8 r.rs.ik,.int .i64 r.rs.fr,.int .i64 r.rs.to,.slice none 0 0]) ?_ rfl ⟨rfl,below_ch ?_⟩
 ·simp [results,Tryz.results17,go_sem]
 ·repeat (refine Below.setCell ?_ (by simp) _)
  exact (Below.refl _ _).alloc (Nat.le_refl _) _
def Cf.arr (c:Cf):Array Value:=#[.int .i64 c.sl,.int .u64 c.ge,.int .i64 c.cl,.int .i64 c.re,.int .i64 c.qu,.int .i64 c.ba,.int .i64 c.fe,.string c.tx]
theorem sconfig_any (sb:Nat) (cs:Array Value) (c:Cf) (w:World) (hS:Blk w sb 125 cs) (hc:∀(j:Nat) (v:Value),c.arr[j]?=some v->cs[j]?=some v):Calls Tryz.prog 51 #[.pointer (some ⟨sb,0,none⟩)] w fun e w'=>e=.returned (.agg c.arr)/\Ch (fun _=>False) w w':=by
 have hl:=hS.lt
 have n1:sb≠w.heap.size:=Nat.ne_of_lt hl
 have n2:w.heap.size≠sb:=Ne.symm n1
 have b0:w.cell? ⟨sb,0,none⟩=some (.int .i64 c.sl):=(hS.cell 0).trans (hc 0 _ rfl)
 have b1:w.cell? ⟨sb,1,none⟩=some (.int .u64 c.ge):=(hS.cell 1).trans (hc 1 _ rfl)
 have b2:w.cell? ⟨sb,2,none⟩=some (.int .i64 c.cl):=(hS.cell 2).trans (hc 2 _ rfl)
 have b3:w.cell? ⟨sb,3,none⟩=some (.int .i64 c.re):=(hS.cell 3).trans (hc 3 _ rfl)
 have b4:w.cell? ⟨sb,4,none⟩=some (.int .i64 c.qu):=(hS.cell 4).trans (hc 4 _ rfl)
 have b5:w.cell? ⟨sb,5,none⟩=some (.int .i64 c.ba):=(hS.cell 5).trans (hc 5 _ rfl)
 have b6:w.cell? ⟨sb,6,none⟩=some (.int .i64 c.fe):=(hS.cell 6).trans (hc 6 _ rfl)
 have b7:w.cell? ⟨sb,7,none⟩=some (.string c.tx):=(hS.cell 7).trans (hc 7 _ rfl)
 clear hS hc
 go_enter Tryz.func51,Tryz.ntmps51
 go_wp2_with fail
 refine bodyPost_ret (v:=.agg c.arr) ?_ rfl ⟨rfl,below_ch ?_⟩
 ·simp [results,Tryz.results51,go_sem,Cf.arr]
 ·repeat (refine Below.setCell ?_ (by simp) _)
  exact (Below.refl _ _).alloc (Nat.le_refl _) _
theorem madeX_repR (v:Value) (n:Nat):madeX #[v] n=(List.replicate n v).toArray:=by
 unfold madeX madeCells
 apply Array.ext (by simp)
 intro i h1 h2
 simp [Nat.mod_one]
theorem pins_none (n:Nat):madeX #[.pointer none] n=pinsA (List.replicate n none):=by
 rw [madeX_repR]
 unfold pinsA
 rw [List.map_replicate]
 rfl
theorem blk_new3R (w:World) (A B:Obj) (t:TypeId) (cs:Array Value):Blk (((w.alloc A).alloc B).alloc (.cells cs t)) (w.heap.size+1+1) t cs:=by
 have h:=Blk.new ((w.alloc A).alloc B) t cs
 simpa using h
theorem blk_new2R (w:World) (A:Obj) (t:TypeId) (cs:Array Value):Blk ((w.alloc A).alloc (.cells cs t)) (w.heap.size+1) t cs:=by
 have h:=Blk.new (w.alloc A) t cs
 simpa using h
def Rd.new (sb lb n:Nat) (cl:Int):Rd:=⟨sb,cl,.slice (some ⟨lb,0,none⟩) n n,OpV.zero,false,0,.nilFunc,false,RsV.zero,0,.pointer none,0,0,⟨0,0,0⟩,.slice none 0 0,0,0⟩
theorem rnew_any (sb n:Nat) (cs:Array Value) (c:Cf) (cl:Int) (w:World) (hS:Blk w sb 125 cs) (hc:∀(j:Nat) (v:Value),c.arr[j]?=some v->cs[j]?=some v) (hcl:0<=cl/\cl < c.cl) (hn:c.re=(n:Int)) (hn8:n<=8) :
  Calls Tryz.prog 20 #[.pointer (some ⟨sb,0,none⟩),.int .i64 cl] w fun e w'=>∃g lb,e=.returned (.tuple #[.pointer (some ⟨g,0,none⟩),.int .i64 0])/\Blk w' g 111 (Rd.cells (Rd.new sb lb n cl))/\Blk w' lb 140 (pinsA (List.replicate n none))/\Ch (fun _=>False) w w'/\w.heap.size<=lb/\lb < g:=by
 have HC:=hid (fun W (hW:Blk W sb 125 cs)=>sconfig_any sb cs c W hW hc)
 have HS:=hid hS
 obtain ⟨c0,c1,c2,c3,c4,c5,c6,c7⟩:=c
 simp only at hcl hn
 subst hn
 simp only [Cf.arr] at HC
 have d1:decide (cl < 0)=false:=decide_eq_false (by omega)
 have d2:decide (c2<=cl)=false:=decide_eq_false (by omega)
 have hmk:∀W:World,(Instr.makeSlice 107 (.int .i64 (n:Int)) (.int .i64 (n:Int))).run Tryz.prog W=.ok (.slice (some ⟨W.heap.size,0,none⟩) n n) (W.alloc (.cells (madeX (Value.cells (.pointer none)) (n * 1)) 140)):=fun W=>run_make_x (P:=Tryz.prog) 107 140 (.pointer none) 1 8 Tryz.underlying107 (by kernel_rfl) (by decide) n (by omega) W
 clear hS hc hcl
 go_enter Tryz.func20,Tryz.ntmps20
 go_wp2_with fail
 refine (HC.out w HS.out).mono ?_
 rintro e w1 ⟨rfl,hc⟩
 have C1:=hid hc
 clear hc
 have hn0:decide ((n:Int) < 0)=false:=decide_eq_false (by omega)
 go_wp2_with fail
 go_ret2
 refine ⟨w1.heap.size+1+1,w1.heap.size+1,rfl,?_,?_,((C1.out.alloc _).alloc _).alloc _,by have:=C1.out.size;omega,by omega⟩
 ·exact Blk.as (blk_new3R _ _ _ _ _) (by simp [Rd.cells,Rd.new,OpV.zero,RsV.zero])
 ·exact Blk.as ((blk_new2R _ _ _ _).alloc _) (pins_none n)
section
variable {B:Nat} {w0 w:World} {R:List Res} {σ:RS} {y:Ly} {n m:Nat}
theorem own_apartR {w:World} {B B' e e' s s' n m:Nat} {u v:Value} {xs ys:List Value} (h:w.ownsRow B e s u n xs) (h':w.ownsRow B' e' s' v m ys) (ht:e≠e') (k:Nat) (hu:u.ownBlock=some k):¬v.ownBlock=some k:=by
 intro hv
 rcases h.2 with ⟨rfl,_⟩ | ⟨g,cap,cur,rfl,_,hg,_⟩
 ·simp [Value.ownBlock] at hu
 ·rcases h'.2 with ⟨rfl,_⟩ | ⟨g',cap',cur',rfl,_,hg',_⟩
  ·simp [Value.ownBlock] at hv
  ·simp [Value.ownBlock] at hu hv
   subst hu
   subst hv
   rw [hg] at hg'
   injection hg' with hg'
   injection hg' with _ h2
   exact ht h2
theorem publish_m (M:Mem B w0 (σ.L B++R) w) (h23:σ.cs[23]?=some σ.rv) {k:Nat} (hl:σ.rs.length=k+1) (hk:k < 900) {r0:RvS} (hr:σ.rs[k]?=some r0) (x:Rv) (hx:r0.x.num < x.num) {am ad:Option Addr} {n1 c1 n2 c2:Nat} {ms:List Mk} {ds:List Pc} (hm:InMk w am n1 ms) (hd:InPc w ad n2 ds) (zm:am=none->c1=0) (zd:ad=none->c2=0) (h1:n1 < 1000) (h2:n2 < 1000) :
  Calls Tryz.prog 73 #[.pointer (some ⟨σ.r.sb,0,none⟩),.agg #[.int .i64 x.num,.int .u64 x.at',.int .i64 x.h,.int .i64 x.b,.int .i64 x.r,.int .i64 x.l,.slice am n1 c1,.slice ad n2 c2]] w fun e w'=>e=.returned (.tuple #[.int .i64 ((k+1:Nat):Int),.int .i64 0])/\∃rv' mv dv,Mem B w0 (RS.L B { σ with cs:=σ.cs.setIfInBounds 23 rv',rv:=rv',rs:=σ.rs++[RvS.mk x mv ms dv ds] }++R) w':=by
 have hR:=m_rv M
 have hS:=m_st M
 obtain ⟨A,cap,hrv,_⟩:=own_slice hR.b
 have hb:=hR.b
 rw [hrv,hl] at hb
 have h23':=h23
 rw [hrv,hl] at h23'
 have hlast:(σ.rs.flatMap RvS.cells)[k * 8]?=some (.int .i64 r0.x.num):=by
  have t:=flat_getH RvS.cells 8 (fun _=>rfl) σ.rs k r0 hr 0 _ rfl
  rwa [Nat.add_zero] at t
 refine (publish_any B σ.r.sb σ.cs A cap k (σ.rs.flatMap RvS.cells) r0.x.num x am ad n1 c1 n2 c2 ms ds w hS h23' hb hlast hx hk M.bz hm hd zm zd h1 h2).mono ?_
 rintro e w4 ⟨rfl,mv,dv,rv',p1,p2,p3,p4,p5,p6⟩
 refine ⟨rfl,rv',mv,dv,?_⟩
 rw [<-hl,<-hrv] at p5 p6
 have hfp:∀{e s n B':Nat} {u:Value} {xs:List Value},w.ownsRow B' e s u n xs->e≠125->e≠104->w4.ownsRow B' e s u n xs:=fun ho e1 e2=>p5.own ho (fun q hq hf=>by
  rcases hf with rfl | hf
  ·exact hS.own ho (Ne.symm e1) hq
  ·exact own_apartR ho hR.b e2 q hq hf)
 have hnew:RevsM B rv' (σ.rs++[RvS.mk x mv ms dv ds]) w4:=⟨by
  rw [List.length_append,hl,List.flatMap_append]
  simpa [RvS.cells] using p2,fun r hr'=>by
  rcases List.mem_append.1 hr' with hr' | hr'
  ·exact ⟨hfp (hR.s r hr').1 (by decide) (by decide),hfp (hR.s r hr').2 (by decide) (by decide)⟩
  ·simp at hr'
   subst hr'
   exact ⟨own_mono p3 M.bz,own_mono p4 M.bz⟩⟩
 have t:=M.upd2 (i:=6) (j:=2) (revsR B rv' (σ.rs++[RvS.mk x mv ms dv ds])) (blkR σ.r.sb 125 (σ.cs.setIfInBounds 23 rv')) rfl rfl (by decide) p5 (fun i _ e=>by
  rcases e with e | e
  ·exact .inr e
  ·exact .inl (.inl e)) hnew p1 (fun i e=>by
  rcases e with e | ⟨r,hr',e⟩
  ·rcases p6 with h | h
   ·rw [h] at e;exact .inl (.inl e)
   ·exact .inr (h i e)
  ·rcases List.mem_append.1 hr' with hr' | hr'
   ·exact .inl (.inr ⟨r,hr',e⟩)
   ·simp at hr'
    subst hr'
    rcases e with e | e
    ·exact .inr (p3.lt i e).1
    ·exact .inr (p4.lt i e).1) (fun i e=>e)
 exact t
theorem m_rope (M:Mem B w0 (σ.L B++R) w) {w':World} {ys:List An} (h:ArM σ.A w' (σ.ns++ys) σ.st) (hc:Ch σ.A.mut w w') (hy:∀z ∈ ys,∀b,z.kb b->w.heap.size<=b):Mem B w0 (RS.L B { σ with ns:=σ.ns++ys }++R) w':=
 M.upd (i:=7) (arR σ.A (σ.ns++ys) σ.st) rfl hc (fun i _ e=>.inl e) h (fun i e=>by
  rcases e with e | e | e | ⟨z,hz,e⟩
  ·exact .inl (.inl e)
  ·exact .inl (.inr (.inl e))
  ·exact .inl (.inr (.inr (.inl e)))
  ·rcases List.mem_append.1 hz with hz | hz
   ·exact .inl (.inr (.inr (.inr ⟨z,hz,e⟩)))
   ·exact .inr (hy z hz i e))
end
section
variable {B:Nat} {w0 w:World} {R:List Res} {σ:RS} {y:Ly} {n m:Nat}
theorem visit_m (M:Mem B w0 (σ.L B++R) w) (O:σ.Ok y n m) {i:Nat} {z:An} (hi:σ.r.at'=hdl i) (hz:σ.ns[i]?=some z) (hk:z.x.ks.length<=1000) :
  Calls Tryz.prog 107 #[.pointer (some ⟨σ.g,0,none⟩)] w fun e w'=>∃a c,z.x.ks.length<=c/\e=.returned (.tuple #[z.x.v a z.x.ks.length c,.int .u64 (hdl i),.bool true])/\InP Kd.cells 4 w' (fun b=>w.heap.size<=b) a z.x.ks.length z.x.ks/\Ch (fun _=>False) w w':=by
 have HM:=hid M
 have HO:=hid O
 have HG:=hid (fun W (hW:ArM σ.A W σ.ns σ.st)=>get_any σ.A σ.ns σ.st i z W hW hz hk)
 have lg:=(m_rd M).lt
 have a29:w.cell? ⟨σ.g,29,none⟩=some (.int .u64 (hdl i)):=((m_rd M).cell 29).trans (by rw [<-hi];rfl)
 have a0:w.cell? ⟨σ.g,0,none⟩=some (.pointer (some ⟨σ.r.sb,0,none⟩)):=(m_rd M).cell 0
 obtain ⟨⟨hh,s,ks⟩,za,zc⟩:=z
 simp only [Nd.v] at HG |-
 obtain ⟨kn,hkn⟩:∃x,x=ks.length:=⟨_,rfl⟩
 rw [<-hkn] at HG |-
 clear M O hi hz hk hkn
 go_enter Tryz.func107,Tryz.ntmps107
 go_wp2_with fail
 refine calls_world fun W1 hW1=>?_
 have C1:=hid (show Ch (fun _=>False) w W1 from by rw [hW1];exact (Ch.refl _ w).alloc _)
 have Z1:=hid (show Blk W1 w.heap.size 229 #[.int .i64 0,.string ⟨#[]⟩,.slice none 0 0] from by rw [hW1];exact Blk.new w _ _)
 clear hW1 a29 a0
 have M1:=hid (HM.out.keep C1.out)
 refine (sarena_any W1 (m_st M1.out) HO.out.stf).mono ?_
 rintro e w' ⟨rfl,rfl⟩
 go_wp2_with fail
 refine (HG.out W1 (m_ar M1.out)).mono ?_
 rintro e w2 ⟨a,c,hcl,rfl,hin,hc⟩
 have HCL:=hid hcl
 clear hcl
 have HIN:=hid hin
 have C2:=hid (C1.out.trans hc (fun _ _ h=>h))
 have Z2:=hid (hc.blk Z1.out id)
 have L1:=hid C1.out.size
 clear hin hc
 obtain ⟨r0,r1,r2⟩:=Z2.out.c3
 obtain ⟨s0,s1,s2⟩:=Z2.out.f3
 go_wp2_with fail
 refine at_world fun WZ hWZ=>?_
 have CZ:=hid (show Ch (fun k=>k=w.heap.size) w2 WZ from by
  rw [hWZ]
  exact (((((((Ch.refl (fun k=>k=w.heap.size) w2).set (fun _=>rfl) _).set (fun _=>rfl) _).set (fun _=>rfl) _).set (fun _=>rfl) _).set (fun _=>rfl) _).set (fun _=>rfl) _))
 have BZ:=hid (show Blk WZ w.heap.size 229 #[.int .i64 hh,.string s,.slice a kn c] from by
  rw [hWZ]
  exact ((((((Z2.out.put 0 _).put 1 _).put 2 _).put 0 _).put 1 _).put 2 _))
 obtain ⟨t0,t1,t2⟩:=BZ.out.c3
 clear hWZ r0 r1 r2 s0 s1 s2
 have hin2:=HIN.out.keep (S':=fun k=>w.heap.size<=k) CZ.out (fun k _ h e=>by have h':W1.heap.size<=k:=h;have m1:=Z1.out.lt;omega) (fun k _ h=>Nat.le_trans L1.out h)
 exact bodyPost_ret (v:=.tuple #[.agg #[.int .i64 hh,.string s,.slice a kn c],.int .u64 (hdl i),.bool true]) (by simp [results,Tryz.results107,go_sem,t0,t1,t2]) rfl ⟨a,c,HCL.out,rfl,hin2,C2.out.trans CZ.out (fun j hj e=>by omega)⟩
end
theorem run_slice_to {P:Program} (t e:TypeId) (size:Nat) (ht:P.underlying t=some (.slice e)) (hz:(P.info? e).map (·.size)=some size) (b off n cap i:Nat) (hi:i<=n) (hc:n<=cap) (w:World) :
  (Instr.sliceAt t (.slice (some ⟨b,off,none⟩) n cap) none (some (.int .i64 (i:Int))) none).run P w=.ok (.slice (some ⟨b,off,none⟩) i cap) w:=by
 cases hq:P.info? e with
 | none=>simp [hq] at hz
 | some inf=>
  have hsz:inf.size=size:=by simpa [hq] using hz
  have h1:(0:Int)<=(i:Int)/\(i:Int)<=(cap:Int):=by omega
  simp only [Instr.sliceAt,Sem.run_bind,run_underlying ht,Result.andThen_ok,Instr.slice,Instr.sliceBounds,Instr.sliceBound,asIntOf,Sem.run_pure,h1,and_self,if_true,Int.toNat_natCast,sizeOf,typeInfo,hq]
  simp [program,Sem.run,hq,hsz,Addr.add]
def bsK (m:Ms) (ks:List Kd) (j:Nat):Ms:=((ks.take j).map Kd.m).foldl Ms.add m
theorem bsK_succ (m:Ms) (ks:List Kd) (j:Nat) (k:Kd) (h:ks[j]?=some k):bsK m ks (j+1)=(bsK m ks j).add k.m:=by
 have hkl:=List.getElem?_eq_some_iff.1 h
 unfold bsK
 rw [List.take_succ_eq_append_getElem hkl.1,hkl.2,List.map_append,List.foldl_append]
 rfl
theorem msum_two (a b:Ms):msum [a,b]=a.add b:=by simp [msum,Ms.add]
theorem down_any (g:Nat) (r:Rd) (S:Nat->Prop) (hS:¬S g) (hh:Int) (s:ByteArray) (ks:List Kd) (a:Option Addr) (n c i:Nat) (hc:n<=c) (rest:Int) (k0:Kd) (hk0:ks[i]?=some k0) (hn:n<=1000) (hm:∀k ∈ ks,k.m.ok) (hb:∀j,j<=i->(bsK r.base ks j).ok) (w:World) (h:Blk w g 111 r.cells) (hin:InP Kd.cells 4 w S a n ks) :
  Calls Tryz.prog 109 #[.pointer (some ⟨g,0,none⟩),.agg #[.int .i64 hh,.string s,.slice a n c],.int .i64 (i:Int),.int .i64 rest] w (RdSet g { r with at':=hdl k0.at',rest:=rest,base:=bsK r.base ks i } w (.tuple #[])):=by
 obtain ⟨hi0,hi1⟩:=List.getElem?_eq_some_iff.1 hk0
 have hln:=hin.1
 obtain ⟨b,off,rfl⟩:=hin.some (by omega)
 have hbl:=hin.lt (by omega)
 have hsl:=run_slice_to (P:=Tryz.prog) 227 266 4 Tryz.underlying227 (by kernel_rfl) b off n c i (by omega) hc
 have hgl:=h.lt
 have H:=hid h
 have HIN:=hid hin
 have HM:=hid hm
 have HB:=hid hb
 have HK0:=hid hk0
 have HSG:=hid hS
 clear h hin hm hb hk0 hi1 hS
 go_enter Tryz.func109,Tryz.ntmps109
 go_wp2_with fail
 refine at_world fun W0 hW0=>?_
 have C0:=hid (show Ch (fun b=>b=g) w W0 from by rw [hW0];exact (Ch.refl _ w).alloc _)
 have B0:=hid (show Blk W0 g 111 r.cells from by rw [hW0];exact H.out.alloc _)
 have Z0:=hid (show Blk W0 w.heap.size 229 #[.int .i64 hh,.string s,.slice (some ⟨b,off,none⟩) n c] from by rw [hW0];exact Blk.new w _ _)
 have HI0:=hid (HIN.out.keep (S':=S) C0.out (fun k _ h e=>HSG.out (e ▸ h)) (fun k _ h=>h))
 have n1:w.heap.size≠g:=Ne.symm (Nat.ne_of_lt hgl)
 have nb:b≠g:=fun e=>HSG.out (e ▸ hbl.2)
 have hb0:b < W0.heap.size:=Nat.lt_of_lt_of_le hbl.1 C0.out.size
 have hz0':=Z0.out.lt
 clear hW0 H HIN hbl
 go_loopw [15] (fun i1 W=>∃k:Nat,k<=i/\i1=.int .i64 (k:Int)/\Blk W g 111 (Rd.cells { r with base:=bsK r.base ks k })/\Ch (fun b=>b=g) W0 W) (fun i1 _=>i - (intOf i1).toNat)
 case atStart=>exact ⟨0,Nat.zero_le _,rfl,B0.out,Ch.refl _ _⟩
 case round=>
  clear B0
  obtain ⟨k,hk,rfl,hB,hCh⟩:=hrel
  have HBK:=hid hB
  have HCH:=hid hCh
  clear hB hCh
  have hI:=HI0.out.keep (S':=S) HCH.out (fun k _ h e=>HSG.out (e ▸ h)) (fun k _ h=>h)
  by_cases hlt:k < i
  {
 obtain ⟨x,hx⟩:∃x,ks[k]?=some x:=⟨_,List.getElem?_eq_getElem (by omega)⟩
 have c0:wr.cell? ⟨b,off+k * 4,none⟩=some (.int .u64 (hdl x.at')):=hI.at k x hx 0 _ rfl
 have c1:wr.cell? ⟨b,off+k * 4+1,none⟩=some (.int .i64 x.m.b):=hI.at k x hx 1 _ rfl
 have c2:wr.cell? ⟨b,off+k * 4+2,none⟩=some (.int .i64 x.m.r):=hI.at k x hx 2 _ rfl
 have c3:wr.cell? ⟨b,off+k * 4+3,none⟩=some (.int .i64 x.m.l):=hI.at k x hx 3 _ rfl
 have HBS:=hid (bsK_succ r.base ks k x hx)
 have HXO:=hid (HM.out x (List.mem_of_getElem? hx))
 have HQO:=hid (HB.out k hk)
 obtain ⟨q,hq⟩:∃q,q=bsK r.base ks k:=⟨_,rfl⟩
 rw [<-hq] at HBS HBK HQO
 obtain ⟨y1,y2⟩:=dc_ltT (a:=k) (b:=i) (by omega)
 clear hI hx hq
 go_wp2_with fail
 refine at_world fun W2 hW2=>?_
 have C2:=hid (show Ch (fun b=>b=g) W0 W2 from by rw [hW2];exact HCH.out.alloc _)
 have B2:=hid (show Blk W2 g 111 (Rd.cells { r with base:=q }) from by rw [hW2];exact HBK.out.alloc _)
 have K2:=hid (show Blk W2 wr.heap.size 266 #[.int .u64 (hdl x.at'),.int .i64 x.m.b,.int .i64 x.m.r,.int .i64 x.m.l] from by rw [hW2];exact Blk.new wr _ _)
 clear hW2 c0 c1 c2 c3
 have d31:W2.cell? ⟨g,31,none⟩=some (.int .i64 q.b):=B2.out.cell 31
 have d32:W2.cell? ⟨g,32,none⟩=some (.int .i64 q.r):=B2.out.cell 32
 have d33:W2.cell? ⟨g,33,none⟩=some (.int .i64 q.l):=B2.out.cell 33
 obtain ⟨-,e1,e2,e3⟩:=K2.out.c4
 have HLW:=hid HCH.out.size
 clear HBK HCH
 refine Mix.rt [1,0,0,0,0,0,0,2,2,0,0,2] [0,1,2,3,4,5,6,7,8,9,10,11] ?_
 repeat ((first | refine Mix.zq ?_ | refine Mix.zp ?_ | refine Mix.zs ?_);go_big_quiet_step (fail);refine wpQuiet_nil ?_)
 refine Mix.ze fun W3 hW3=>?_
 obtain ⟨k3,rfl⟩:=hW3
 go_wp2_with fail
 refine Mix.mix_world fun W4 hW4=>?_
 have B4:=hid (show Blk W4 g 111 (Rd.cells { r with base:=q }) from by rw [hW4];exact (B2.out.drewN k3).alloc _)
 have C4:=hid (show Ch (fun b=>b=g) W0 W4 from by rw [hW4];exact (C2.out.drewN k3).alloc _)
 have A4:=hid (show Blk W4 W2.heap.size 36 #[.int .i64 q.b,.int .i64 q.r,.int .i64 q.l,.int .i64 x.m.b,.int .i64 x.m.r,.int .i64 x.m.l] from by rw [hW4];have t:=Blk.new (W2.drewN k3) 36 #[.int .i64 q.b,.int .i64 q.r,.int .i64 q.l,.int .i64 x.m.b,.int .i64 x.m.r,.int .i64 x.m.l];simpa using t)
 have hin2:=hid (show InP Ms.cells 3 W4 (fun _=>True) (some ⟨W2.heap.size,0,none⟩) 2 [q,x.m] from ⟨rfl,fun _=>⟨W2.heap.size,0,rfl,trivial,A4.out.lt,fun i j y v hi hj=>by
  have t:=flatP (cells:=Ms.cells) (sz:=3) (fun _=>rfl) [q,x.m] i j y v hi hj
  rw [<-List.getElem?_toArray] at t
  rw [Nat.zero_add]
  exact (A4.out.cell _).trans t⟩⟩)
 clear hW4 d31 d32 d33 e1 e2 e3
 repeat ((first | refine Mix.zq ?_ | refine Mix.zp ?_ | refine Mix.zs ?_);go_big_quiet_step (fail);refine wpQuiet_nil ?_)
 refine Mix.ze fun W5 hW5=>?_
 obtain ⟨k5,rfl⟩:=hW5
 go_wp2_with fail
 refine calls_world fun W6 hW6=>?_
 have C46:=hid (show Ch (fun _=>False) W4 W6 from by rw [hW6];exact (Ch.refl _ W4).drewN k5)
 clear hW6
 refine (madd_any (fun _=>True) _ 2 2 [q,x.m] W6 (hin2.out.keep C46.out (fun _ _ _ h=>h) (fun _ _ h=>h)) (by
  intro m hm
  rcases List.mem_cons.1 hm with rfl | hm
  ·exact HQO.out
  ·rw [List.mem_singleton.1 hm];exact HXO.out) (by decide)).mono ?_
 rintro e w7 ⟨rfl,hc⟩
 rw [msum_two,<-HBS.out]
 obtain ⟨q',hq'⟩:∃q',q'=bsK r.base ks (k+1):=⟨_,rfl⟩
 rw [<-hq']
 have HQ':=hid hq'
 clear hq'
 simp only [Ms.v]
 have B7:=hid (hc.blk (C46.out.blk B4.out id) id)
 have C7:=hid (show Ch (fun b=>b=g) W0 w7 from C4.out.trans (C46.out.trans hc (fun _ _ h=>h)) (fun _ _ h=>h.elim))
 clear hc
 have d31:w7.cell? ⟨g,31,none⟩=some (.int .i64 q.b):=B7.out.cell 31
 have d32:w7.cell? ⟨g,32,none⟩=some (.int .i64 q.r):=B7.out.cell 32
 have d33:w7.cell? ⟨g,33,none⟩=some (.int .i64 q.l):=B7.out.cell 33
 have f31:=B7.out.free 31
 have f32:=B7.out.free 32
 have f33:=B7.out.free 33
 go_wp2_with fail
 repeat ((first | refine Mix.zq ?_ | refine Mix.zp ?_ | refine Mix.zs ?_);go_big_quiet_step (fail);refine wpQuiet_nil ?_)
 refine Mix.ze fun W8 hW8=>?_
 obtain ⟨k8,rfl⟩:=hW8
 go_wp2_with fail
 intro k9
 go_wp2_with fail
 go_roundw
 case rel=>exact ⟨k+1,by omega,by go_num,Blk.as (((((B7.out.drewN k8).put 31 _).put 32 _).put 33 _).drewN k9) (by rw [<-HQ'.out];kernel_rfl),(((((C7.out.drewN k8).set (fun _=>rfl) _).set (fun _=>rfl) _).set (fun _=>rfl) _).drewN k9)⟩
 case measure=>simp [intOf];omega
 }
  {
 obtain rfl:i=k:=by omega
 obtain ⟨y1,y2⟩:=dc_ltF (a:=i) (b:=i) (by omega)
 have Z2:=hid (HCH.out.blk Z0.out n1)
 have z2:wr.cell? ⟨w.heap.size,2,none⟩=some (.slice (some ⟨b,off,none⟩) n c):=Z2.out.cell 2
 have c0:wr.cell? ⟨b,off+i * 4,none⟩=some (.int .u64 (hdl k0.at')):=hI.at i k0 HK0.out 0 _ rfl
 have y3:decide ((i:Int) < (n:Int))=true:=decide_eq_true (by omega)
 have y4:decide (i < n)=true:=decide_eq_true (by omega)
 have d29:wr.cell? ⟨g,29,none⟩=some (.int .u64 r.at'):=HBK.out.cell 29
 have d30:wr.cell? ⟨g,30,none⟩=some (.int .i64 r.rest):=HBK.out.cell 30
 have f29:=HBK.out.free 29
 have f30:=HBK.out.free 30
 clear hI
 go_wp2_with fail
 go_end0
 exact ⟨rfl,Blk.as ((HBK.out.put 29 _).put 30 _) (by kernel_rfl),(C0.out.trans HCH.out (fun _ _ h=>h)).set (fun _=>rfl) _ |>.set (fun _=>rfl) _⟩
 }
end Go.Proofs.YtjcdknhejcbpiaaGreat
