/- Lemmas that the proof of the last text leans on; no condition. -/
import Derived.Test.YtjcdknhejcbpiaaGreatSb41
set_option maxRecDepth 100000
set_option maxHeartbeats 8000000
namespace Go.Proofs.YtjcdknhejcbpiaaGreat
open Go.RowKit
set_option linter.unusedVariables false
set_option linter.unusedSimpArgs false
set_option linter.unusedSectionVars false
theorem rnext_any (g:Nat) (r:Rd) (w:World) (h:Blk w g 111 r.cells):Calls Tryz.prog 24 #[.pointer (some ⟨g,0,none⟩)] w fun e w'=>e=.returned (.int .u8 r.ph)∧w=w':=by
 have a11:w.cell? ⟨g,11,none⟩=some (.int .u8 r.ph):=h.cell 11
 clear h
 go_enter Tryz.func24,Tryz.ntmps24
 go_wp2_with fail
 go_ret
 exact ⟨rfl,rfl⟩
theorem Same.trans {a b c:RS} (h:Same a b) (k:Same b c):Same a c:=
 ⟨k.g.trans h.g,k.sb.trans h.sb,k.cl.trans h.cl,k.lb.trans h.lb,k.cs.trans h.cs,k.p.trans h.p,k.cb.trans h.cb,k.eb.trans h.eb,k.f.trans h.f,k.sc.trans h.sc,k.pb.trans h.pb,k.rv.trans h.rv,k.rs.trans h.rs,k.A.trans h.A,k.ns.trans h.ns,k.st.trans h.st⟩
section
variable {B:Nat} {w0 w:World} {R:List Res} {σ σ':RS} {bs:List Bx} {y:Ly} {n m:Nat} {ts:List (List UInt8)} {hk hk':Option Nat}
end
section
variable {B:Nat} {w0 w w':World} {A R:List Res} {r s:Res}
theorem Mem.appLast {e size n n':Nat} {v v':Value} {xs xs':List Value} (h:Mem B w0 (A++(R++[rowR B e size n v xs])) w) (hr:w'.ownsRow B e size v' n' xs') (hg:w.grownBy w' v.ownBlock) (hf:Fresh w v v'):Mem B w0 (A++(R++[rowR B e size n' v' xs'])) w':=
 h.setLast _ ((Ch.refl (fun k=>v.ownBlock=some k) w).grown hg (fun k hk _=>hk)) (fun _ _ e=>e) hr (fun k hk=>by
  rcases hf with e | e
  ·exact .inl (by show v.ownBlock=some k;rw [←e];exact hk)
  ·exact .inr (e k hk))
theorem Mem.drop1c {b:Res} (h:Mem B w0 (A++(b::(R++[r]))) w):Mem B w0 (A++(b::R)) w:=Mem.drop1 (R:=b::R) h
theorem Mem.lastBc {b:Res} (h:Mem B w0 (A++(b::(R++[r]))) w):r.holds w:=Mem.lastB (R:=b::R) h
theorem Mem.dropMid {L L2:List Res} (h:Mem B w0 (L++(r::L2)) w):Mem B w0 (L++L2) w:=by
 have get:∀(i:Nat) (s:Res),(L++L2)[i]?=some s→(L++(r::L2))[if i < L.length then i else i+1]?=some s:=fun i s hs=>by
  by_cases hi:i < L.length
  ·rw [if_pos hi,List.getElem?_append_left hi]
   rwa [List.getElem?_append_left hi] at hs
  ·rw [if_neg hi,List.getElem?_append_right (by omega),show i+1 - L.length=(i - L.length)+1 by omega,List.getElem?_cons_succ]
   rwa [List.getElem?_append_right (by omega)] at hs
 refine ⟨fun i s hs=>h.each _ s (get i s hs),fun i j s s' hs hs' hne k hk=>h.apart _ _ s s' (get i s hs) (get j s' hs') (fun e=>hne ?_) k hk,fun i s hs=>h.low _ s (get i s hs),h.bel,h.bz⟩
 split at e <;> split at e <;> omega
theorem Mem.drop2c {b s:Res} (h:Mem B w0 (A++(b::((R++[r])++[s]))) w):Mem B w0 (A++(b::(R++[s]))) w:=by
 have h':Mem B w0 ((A++(b::R))++(r::[s])) w:=by
  rw [List.append_assoc] at h ⊢
  exact h
 have:=h'.dropMid
 rw [List.append_assoc] at this
 exact this
theorem Mem.last2c {b s:Res} (h:Mem B w0 (A++(b::((R++[r])++[s]))) w):r.holds w:=h.drop1c.lastBc
theorem Mem.put2c {b s:Res} {g:Nat} {t:TypeId} {cs:Array Value} (h:Mem B w0 (A++(b::((R++[blkR g t cs])++[s]))) w) (o:Nat) (u:Value):Mem B w0 (A++(b::((R++[blkR g t (cs.setIfInBounds o u)])++[s]))) (w.setCell ⟨g,o,none⟩ u):=by
 have e:∀x:Res,A++(b::((R++[x])++[s]))=(A++(b::R))++(x::[s]):=fun x=>by simp
 rw [e] at h ⊢
 have hi:((A++(b::R))++[blkR g t cs,s])[(A++(b::R)).length]?=some (blkR g t cs):=by rw [List.getElem?_append_right (Nat.le_refl _),Nat.sub_self];rfl
 have t:=h.put hi o u
 rw [List.set_append_right _ _ (Nat.le_refl _),Nat.sub_self] at t
 exact t
theorem Mem.appLastc {e size n n':Nat} {v v':Value} {xs xs':List Value} {b:Res} (h:Mem B w0 (A++(b::(R++[rowR B e size n v xs]))) w) (hr:w'.ownsRow B e size v' n' xs') (hg:w.grownBy w' v.ownBlock) (hf:Fresh w v v'):Mem B w0 (A++(b::(R++[rowR B e size n' v' xs']))) w':=Mem.appLast (R:=b::R) h hr hg hf
end
def phs8 (l:List Int):List Value:=l.map (.int .u8)
theorem phs8_snoc (l:List Int) (p:Int):phs8 (l++[p])=phs8 l++[.int .u8 p]:=by simp [phs8]
theorem infoU8:(Tryz.prog.info? 5).map (fun i=>(i.zero,i.size,i.bytes))=some (some (Value.int .u8 0),1,1):=by kernel_rfl
theorem rnext_q (g:Nat) (r:Rd) (w:World) (h:Blk w g 111 r.cells) (k:Nat):Calls Tryz.prog 24 #[.pointer (some ⟨g,0,none⟩)] (w.drewN k) fun e w''=>e=.returned (.int .u8 r.ph)∧∃m,w''=w.drewN m:=
 Calls.quiet_of_same ((rnext_any g r (w.drewN k) (h.drewN k)).mono fun e w' ⟨he,hw⟩=>⟨he,hw.symm⟩)
def FinTo (B:Nat) (w0:World) (R:List Res) (σ:RS) (y:Ly) (n m:Nat) (ts:List (List UInt8)) (Kend:List Int→RS→RsV→Prop) (e:Ending) (w':World):Prop:=
 ∃σ' bs' x v phs,e=.returned (.tuple #[v,x.v,.bool true])∧Mem B w0 (σ'.L B++(boxR bs'::(R++[rowR B 5 1 phs.length v (phs8 phs)]))) w'∧Same σ σ'∧RnOk σ' y n m ts none∧PgAt σ' bs' n m ts (.fin x)∧Kend phs σ' x∧σ'.s.lg.length≤σ.s.lg.length+200
section
variable {B:Nat} {w0 w:World} {R:List Res} {σ σ':RS} {bs':List Bx} {y:Ly} {n m:Nat} {ts:List (List UInt8)}
def BegOp (B:Nat) (w0:World) (R:List Res) (σ:RS) (y:Ly) (n m:Nat) (ts:List (List UInt8)) (op:OpV) (St:Pg→Prop) (e:Ending) (w':World):Prop:=
 e=.returned (.int .i64 0)∧∃σ' bs',Mem B w0 (σ'.L B++(boxR bs'::R)) w'∧Same σ σ'∧σ'.s=σ.s∧σ'.sl=σ.sl∧σ'.ps=σ.ps∧σ'.r.op=op∧RnOk σ' y n m ts none∧∃pg,PgAt σ' bs' n m ts pg∧pg.hk=none∧pg.ended=false∧St pg
theorem finish_op (op:OpV) (St:Pg→Prop) (Kst:Nat→List Int→RS→Pg→Prop) (Kend:List Int→RS→RsV→Prop) (M:Mem B w0 (σ.L B++(boxR bs'::R)) w) (hl:σ.s.lg.length < 700000)
  (hbeg:∀R W,Mem B w0 (σ.L B++(boxR bs'::R)) W→Calls Tryz.prog 13 #[.pointer (some ⟨σ.g,0,none⟩),op.v] W (BegOp B w0 R σ y n m ts op St))
  (h0:∀σ1 bs1 pg,Same σ σ1→σ1.s=σ.s→σ1.sl=σ.sl→RnOk σ1 y n m ts none→PgAt σ1 bs1 n m ts pg→St pg→∃f,f≤200∧Kst f [] σ1 pg)
  (h1:∀f phs σ1 σ2 hv pg pg',Kst f phs σ1 pg→(∃b,PgAt σ1 b n m ts pg)→RnOk σ1 y n m ts pg.hk→RnOk σ2 y n m ts pg'.hk→Same σ σ1→Same σ1 σ2→Nxt σ1 σ2 m hv pg' pg→(∃x,pg'=.fin x∧Kend (phs++[σ1.r.ph]) σ2 x)∨(pg'.ended=false∧∃f',f'+1≤f∧Kst f' (phs++[σ1.r.ph]) σ2 pg'))
  (hst:∀(R:List Res) (W:World) (f:Nat) (phs:List Int) (σ1:RS) (bs1:List Bx) (pg:Pg),Mem B w0 (σ1.L B++(boxR bs1::R)) W→RnOk σ1 y n m ts pg.hk→σ1.s.lg.length < 800000→PgAt σ1 bs1 n m ts pg→pg.ended=false→Kst f phs σ1 pg→Calls Tryz.prog 15 #[.pointer (some ⟨σ1.g,0,none⟩)] W (StepTo B w0 R σ1 bs1 y n m ts pg))
  (h2:∀f phs σ1 pg,Kst f phs σ1 pg→0 < f) :
  Calls Tryz.prog 12 #[.pointer (some ⟨σ.g,0,none⟩),op.v] w (FinTo B w0 R σ y n m ts Kend):=by
 obtain ⟨i0,hi,hz0,hz1,hz2⟩:=info_parts infoU8
 have HM:=hid M
 have HL:=hid hl
 have HB:=hid hbeg
 have H0:=hid h0
 have H1:=hid h1
 have H2:=hid h2
 have HS:=hid hst
 clear M hl hbeg h0 h1 h2 hst
 simp only [OpV.v]
 go_enter Tryz.func12,Tryz.ntmps12
 go_wp2_with fail
 refine calls_world fun W1 hW1=>?_
 obtain ⟨rb,hrb⟩:∃z,z=w.heap.size+1:=⟨_,rfl⟩
 have M1:=hid (show Mem B w0 (σ.L B++(boxR bs'::((R++[blkR rb 41 rzC])++[rowR B 5 1 0 (.slice none 0 0) []]))) W1 from by
  rw [hW1,hrb]
  have t1:=HM.out.alloc (.cells #[.int .u8 op.k,.int .i64 op.sl,.int .i64 op.at',.int .i64 op.n,.int .u32 op.id,.int .u8 op.g,.string op.s] 26)
  have e:(w.alloc (.cells #[.int .u8 op.k,.int .i64 op.sl,.int .i64 op.at',.int .i64 op.n,.int .u32 op.id,.int .u8 op.g,.string op.s] 26)).heap.size=w.heap.size+1:=by simp
  have t2:=t1.snoc (blkR (w.heap.size+1) 41 rzC) ((Ch.refl _ _).alloc (.cells rzC 41)) (by rw [←e];exact Blk.new _ _ _) (fun k hk=>by rw [show k=_ from hk,e];exact Nat.le_refl _)
  have t3:=t2.snoc (rowR B 5 1 0 (.slice none 0 0) []) (Ch.refl _ _) (World.ownsRow_nil _ _ _ _) (fun k hk=>by cases hk)
  exact t3)
 rw [←hrb]
 clear hW1 hrb
 refine (HB.out _ W1 M1.out).mono ?_
 rintro e w2 ⟨rfl,σ1,bs1,hM2,S1,hs1,hsl1,hps1,hop1,K1,pg,P1,hk1,he1,hst⟩
 obtain ⟨f,hf,hK⟩:=H0.out σ1 bs1 pg S1 hs1 hsl1 K1 P1 hst
 have M2:=hid hM2
 have G0:=hid (show ∃(f:Nat) (phs:List Int) (σ1:RS) (bs1:List Bx) (pg:Pg),(0:Nat)=phs.length∧Mem B w0 (σ1.L B++(boxR bs1::((R++[blkR rb 41 rzC])++[rowR B 5 1 phs.length (.slice none 0 0) (phs8 phs)]))) w2∧Same σ σ1∧RnOk σ1 y n m ts pg.hk∧PgAt σ1 bs1 n m ts pg∧pg.ended=false∧Kst f phs σ1 pg∧f+phs.length≤200∧σ1.s.lg.length≤σ.s.lg.length+phs.length from
  ⟨f,[],σ1,bs1,pg,rfl,M2.out,S1,by rw [hk1];exact K1,P1,he1,hK,by simpa using hf,by rw [hs1];simp⟩)
 clear hM2 S1 hs1 hsl1 hps1 hop1 K1 P1 hk1 he1 hst hf hK M2
 go_wp2_with fail
 go_loopw [7,8] (fun o i W=>∃(f:Nat) (phs:List Int) (σ1:RS) (bs1:List Bx) (pg:Pg),i=.int .i64 (phs.length:Int)∧Mem B w0 (σ1.L B++(boxR bs1::((R++[blkR rb 41 rzC])++[rowR B 5 1 phs.length o (phs8 phs)]))) W∧Same σ σ1∧RnOk σ1 y n m ts pg.hk∧PgAt σ1 bs1 n m ts pg∧pg.ended=false∧Kst f phs σ1 pg∧f+phs.length≤200∧σ1.s.lg.length≤σ.s.lg.length+phs.length) (fun _ i _=>200 - (intOf i).toNat)
 case atStart=>
  obtain ⟨f,phs,σ1,bs1,pg,h1,h2⟩:=G0.out
  exact ⟨f,phs,σ1,bs1,pg,by rw [←h1];rfl,h2⟩
 case round=>
  obtain ⟨f,phs,σ1,bs1,pg,rfl,hM,S1,K1,P1,he,hK,hf,hlg⟩:=hrel
  have hf0:=H2.out f phs σ1 pg hK
  obtain ⟨k,hk⟩:∃k:Nat,k=phs.length:=⟨_,rfl⟩
  have hk2:k < 200:=by omega
  have x1:decide (k < 200)=true:=decide_eq_true hk2
  have x2:decide ((k:Int) < 200)=true:=decide_eq_true (by omega)
  have hll:σ1.s.lg.length < 800000:=by have:=HL.out;omega
  rw [←hk]
  have M3:=hid hM
  have SS1:=hid S1
  have KK1:=hid K1
  have KS:=hid hK
  have HF:=hid hf
  have HG:=hid hlg
  have HK:=hid hk
  have PP1:=hid P1
  have HE:=hid he
  have HLL:=hid hll
  have hgs:σ.g=σ1.g:=S1.g.symm
  rw [hgs]
  clear hM S1 K1 hK hf hlg hk P1 he hll hgs hf0
  go_wp2_with fail
  refine (HS.out _ _ _ _ _ _ _ M3.out KK1.out HLL.out PP1.out HE.out KS.out).mono ?_
  rintro e w3 ⟨hv,σ2,pg2,rfl,hM4,S2,K2,P2,N2⟩
  have hnl:=nxt_len N2
  have M4:=hid hM4
  have SS2:=hid S2
  have KK2:=hid K2
  have PP2:=hid P2
  have HNL:=hid hnl
  have hst:=H1.out f phs σ1 σ2 hv pg pg2 KS.out ⟨_,PP1.out⟩ KK1.out K2 SS1.out S2 N2
  have hph:σ1.r.ph=σ1.r.ph:=rfl
  clear hM4 S2 K2 P2 N2 hnl hph
  simp only [stepV]
  have hrow:=M4.out.lastBc
  obtain ⟨A0,cap0,hv0,_⟩:=own_slice hrow
  subst hv0
  have hrow2:=hid hrow
  clear hrow
  obtain ⟨ed,hed⟩:∃b,b=pg2.ended:=⟨_,rfl⟩
  rw [←hed]
  have HED:=hid hed
  have HST:=hid hst
  have hlow:∀k,(Value.slice A0 phs.length cap0).ownBlock=some k→k < w3.heap.size:=fun k hk=>(hrow2.out.lt k hk).2
  have HLOW:=hid hlow
  clear hed hst hlow
  go_wp2_with (at_builtin;refine wpList_app _ rfl (.tmp 29) (.tmp 32) 27 rfl B 5 i0 _ 1 1 Tryz.underlying27 hi hz0 hz1 hz2 rfl (by decide) _ _ _ rfl ((hrow2.out.alloc _).alloc _) ⟨w3.heap.size+1,0,none⟩ 1 1 [.int .u8 σ1.r.ph] rfl rfl ?c1 ?c2 (by decide) ?c3 ?c4 ?c5 ?c6)
  case c1=>
   intro j u hu
   rw [addr_add0]
   have hb:Blk ((w3.alloc (.cells #[.int .i64 σ1.r.cl,.int .u8 σ1.r.ph,.bool (decide (σ1.s.lg.length < σ2.s.lg.length)),.int .u64 hv,.bool ed,.bool ed] 57)).alloc (.cells #[.int .u8 σ1.r.ph] 5)) (w3.heap.size+1) 5 #[.int .u8 σ1.r.ph]:=by
    have:=Blk.new (w3.alloc (.cells #[.int .i64 σ1.r.cl,.int .u8 σ1.r.ph,.bool (decide (σ1.s.lg.length < σ2.s.lg.length)),.int .u64 hv,.bool ed,.bool ed] 57)) 5 #[.int .u8 σ1.r.ph]
    simpa using this
   exact (hb.cell j).trans (by simpa using hu)
  case c2=>intro u hu;simp at hu;rw [hu];rfl
  case c3=>have:=HK.out;unfold maxLen;omega
  case c4=>have:=HK.out;omega
  case c5=>have:=M4.out.bz;simp;omega
  case c6=>
   intro v' w5 hown' hgrow hfresh
   have M5:=hid (((M4.out.alloc _).alloc _).appLastc hown' hgrow hfresh)
   rw [←phs8_snoc] at M5
   have Z5:=hid (Blk.grown ((Blk.new w3 57 #[.int .i64 σ1.r.cl,.int .u8 σ1.r.ph,.bool (decide (σ1.s.lg.length < σ2.s.lg.length)),.int .u64 hv,.bool ed,.bool ed]).alloc (.cells #[.int .u8 σ1.r.ph] 5)) hgrow (fun e=>by have:=HLOW.out _ e;omega))
   obtain ⟨A5,cap5,hv5,_⟩:=own_slice hown'
   subst hv5
   clear hown' hgrow hfresh
   have z1:w5.cell? ⟨w3.heap.size,1,none⟩=some (.int .u8 σ1.r.ph):=Z5.out.cell 1
   have z4:w5.cell? ⟨w3.heap.size,4,none⟩=some (.bool ed):=Z5.out.cell 4
   have z5:w5.cell? ⟨w3.heap.size,5,none⟩=some (.bool ed):=Z5.out.cell 5
   have lz:=Z5.out.lt
   rcases HST.out with ⟨x,hpx,hend⟩ | ⟨hne,f',hf',hK'⟩
   ·obtain rfl:ed=true:=by rw [HED.out,hpx];rfl
    subst hpx
    have HEND:=hid hend
    clear hend
    go_wp2_with fail
    obtain ⟨S,hS⟩:∃S:Nat→Prop,∀k,S k↔k=w3.heap.size:=⟨_,fun _=>Iff.rfl⟩
    have hSp:Mix.Has S w3.heap.size:=(hS _).2 rfl
    have HSS:=hid hS
    clear hS
    obtain ⟨hpb,hpp,hpr⟩:=PP2.out
    have HPP:=hid hpp
    have HPR:=hid hpr
    have hg2:σ2.g=σ1.g:=SS2.out.g
    have HG2:=hid hg2
    have RD5:=hid (show Blk w5 σ1.g 111 σ2.r.cells from by rw [←hg2];exact m_rd M5.out)
    clear hpb hpp hpr hg2 z1 z4
    have z4:w5.cell? ⟨w3.heap.size,4,none⟩=some (.bool true):=Z5.out.cell 4
    clear z5
    refine Mix.wp_region_mix S (fun i=>([1,0,3,1,4,0,0,0,1,1,0,2,0]:List Nat).getD i 0) [0,1,3,4,2,5,6,7,8,9,10,11,12] (by kernel_rfl) (by kernel_rfl) ?_
    repeat ((first | refine Mix.q1 rfl ?_ | refine Mix.p1 rfl rfl ?_ | refine Mix.s1 rfl rfl ?_);go_big_quiet_step (fail);refine wpQuiet_nil ?_)
    refine Mix.a1 rfl fun V1 hV1=>?_
    obtain ⟨k1,rfl⟩:=hV1
    go_wp2_with fail
    refine (rresult_any σ1.g σ2.r (w5.drewN k1) (RD5.out.drewN k1)).mono ?_
    rintro e w6 ⟨rfl,hc⟩
    rw [HPR.out]
    have M6:=hid ((M5.out.drewN k1).keep hc)
    have RD6:=hid (hc.blk (RD5.out.drewN k1) id)
    have HC6:=hid hc
    simp only [RsV.v]
    clear hc
    go_wp2_with fail
    refine ⟨fun k hk=>HC6.out.block k (by rw [(HSS.out k).1 hk];exact lz) id,?_⟩
    clear z4
    have BR:=hid (show Blk w6 rb 41 rzC from M6.out.last2c)
    have r0:w6.cell? ⟨rb,0,none⟩=some (.int .i64 0):=BR.out.cell 0
    have rf0:=BR.out.free 0
    have r1:w6.cell? ⟨rb,1,none⟩=some (.int .i64 0):=BR.out.cell 1
    have rf1:=BR.out.free 1
    have r2:w6.cell? ⟨rb,2,none⟩=some (.int .i64 0):=BR.out.cell 2
    have rf2:=BR.out.free 2
    have r3:w6.cell? ⟨rb,3,none⟩=some (.int .i64 0):=BR.out.cell 3
    have rf3:=BR.out.free 3
    have r4:w6.cell? ⟨rb,4,none⟩=some (.int .u8 0):=BR.out.cell 4
    have rf4:=BR.out.free 4
    have r5:w6.cell? ⟨rb,5,none⟩=some (.string ⟨#[]⟩):=BR.out.cell 5
    have rf5:=BR.out.free 5
    have r6:w6.cell? ⟨rb,6,none⟩=some (.int .i64 0):=BR.out.cell 6
    have rf6:=BR.out.free 6
    have r7:w6.cell? ⟨rb,7,none⟩=some (.int .i64 0):=BR.out.cell 7
    have rf7:=BR.out.free 7
    have r8:w6.cell? ⟨rb,8,none⟩=some (.int .i64 0):=BR.out.cell 8
    have rf8:=BR.out.free 8
    have r9:w6.cell? ⟨rb,9,none⟩=some (.int .u8 0):=BR.out.cell 9
    have rf9:=BR.out.free 9
    have r10:w6.cell? ⟨rb,10,none⟩=some (.int .i64 0):=BR.out.cell 10
    have rf10:=BR.out.free 10
    have r11:w6.cell? ⟨rb,11,none⟩=some (.int .i64 0):=BR.out.cell 11
    have rf11:=BR.out.free 11
    have r12:w6.cell? ⟨rb,12,none⟩=some (.slice none 0 0):=BR.out.cell 12
    have rf12:=BR.out.free 12
    repeat ((first | refine Mix.q1 rfl ?_ | refine Mix.p1 rfl rfl ?_ | refine Mix.s1 rfl rfl ?_);go_big_quiet_step (fail);refine wpQuiet_nil ?_)
    (refine Mix.q1 rfl ?_;go_big_quiet_step ((go_at_call 24;exact (by have t:=rnext_q σ1.g σ2.r w6 RD6.out;rw [HPP.out] at t;exact t _)));refine wpQuiet_nil ?_)
    repeat ((first | refine Mix.q1 rfl ?_ | refine Mix.p1 rfl rfl ?_ | refine Mix.s1 rfl rfl ?_);go_big_quiet_step (fail);refine wpQuiet_nil ?_)
    refine Mix.e1 rfl fun V2 hV2=>?_
    obtain ⟨k2,rfl⟩:=hV2
    go_wp2_with fail
    repeat ((first | refine Mix.q1 rfl ?_ | refine Mix.p1 rfl rfl ?_ | refine Mix.s1 rfl rfl ?_);go_big_quiet_step (fail);refine wpQuiet_nil ?_)
    intro k3
    refine at_world fun W7 hW7=>?_
    have M7:=hid (show Mem B w0 (σ2.L B++(boxR bs1::((R++[blkR rb 41 x.arr])++[rowR B 5 1 (phs++[σ1.r.ph]).length (.slice A5 (phs.length+1) cap5) (phs8 (phs++[σ1.r.ph]))]))) W7 from by
     rw [hW7,List.length_append,List.length_singleton]
     have hp:=(((((((((((((((M6.out.drewN k2).put2c 0 (.int .i64 x.er)).put2c 1 (.int .i64 x.rev)).put2c 2 (.int .i64 x.sl)).put2c 3 (.int .i64 x.at')).put2c 4 (.int .u8 x.g)).put2c 5 (.string x.s)).put2c 6 (.int .i64 x.b)).put2c 7 (.int .i64 x.r)).put2c 8 (.int .i64 x.l)).put2c 9 (.int .u8 x.ik)).put2c 10 (.int .i64 x.fr)).put2c 11 (.int .i64 x.to)).put2c 12 (.slice none 0 0)).drewN k3)
     rw [show (((((((((((((rzC.setIfInBounds 0 (.int .i64 x.er)).setIfInBounds 1 (.int .i64 x.rev)).setIfInBounds 2 (.int .i64 x.sl)).setIfInBounds 3 (.int .i64 x.at')).setIfInBounds 4 (.int .u8 x.g)).setIfInBounds 5 (.string x.s)).setIfInBounds 6 (.int .i64 x.b)).setIfInBounds 7 (.int .i64 x.r)).setIfInBounds 8 (.int .i64 x.l)).setIfInBounds 9 (.int .u8 x.ik)).setIfInBounds 10 (.int .i64 x.fr)).setIfInBounds 11 (.int .i64 x.to)).setIfInBounds 12 (.slice none 0 0))=x.arr from by kernel_rfl] at hp
     exact hp)
    clear hW7 r0 rf0 r1 rf1 r2 rf2 r3 rf3 r4 rf4 r5 rf5 r6 rf6 r7 rf7 r8 rf8 r9 rf9 r10 rf10 r11 rf11 r12 rf12
    have BX:=hid (show Blk W7 rb 41 x.arr from M7.out.last2c)
    go_wp2_with fail
    have t0:W7.cell? ⟨rb,0,none⟩=some (.int .i64 x.er):=BX.out.cell 0
    have t1:W7.cell? ⟨rb,1,none⟩=some (.int .i64 x.rev):=BX.out.cell 1
    have t2:W7.cell? ⟨rb,2,none⟩=some (.int .i64 x.sl):=BX.out.cell 2
    have t3:W7.cell? ⟨rb,3,none⟩=some (.int .i64 x.at'):=BX.out.cell 3
    have t4:W7.cell? ⟨rb,4,none⟩=some (.int .u8 x.g):=BX.out.cell 4
    have t5:W7.cell? ⟨rb,5,none⟩=some (.string x.s):=BX.out.cell 5
    have t6:W7.cell? ⟨rb,6,none⟩=some (.int .i64 x.b):=BX.out.cell 6
    have t7:W7.cell? ⟨rb,7,none⟩=some (.int .i64 x.r):=BX.out.cell 7
    have t8:W7.cell? ⟨rb,8,none⟩=some (.int .i64 x.l):=BX.out.cell 8
    have t9:W7.cell? ⟨rb,9,none⟩=some (.int .u8 x.ik):=BX.out.cell 9
    have t10:W7.cell? ⟨rb,10,none⟩=some (.int .i64 x.fr):=BX.out.cell 10
    have t11:W7.cell? ⟨rb,11,none⟩=some (.int .i64 x.to):=BX.out.cell 11
    have t12:W7.cell? ⟨rb,12,none⟩=some (.slice none 0 0):=BX.out.cell 12
    refine bodyPost_ret (v:=.tuple #[.slice A5 (phs.length+1) cap5,x.v,.bool true]) (by simp [results,Tryz.results12,go_sem,RsV.v,t0,t1,t2,t3,t4,t5,t6,t7,t8,t9,t10,t11,t12]) rfl ?_
    refine ⟨σ2,bs1,x,_,phs++[σ1.r.ph],rfl,M7.out.drop2c,SS1.out.trans SS2.out,KK2.out,PP2.out,HEND.out,?_⟩
    have:=HNL.out
    have:=HG.out
    have:=HK.out
    omega
   ·obtain rfl:ed=false:=by rw [HED.out,hne]
    have HK':=hid hK'
    have HNE:=hid hne
    clear hne hK'
    go_wp2_with fail
    go_roundw
    case rel=>
     refine ⟨f',phs++[σ1.r.ph],σ2,bs1,pg2,?_,?_,SS1.out.trans SS2.out,KK2.out,PP2.out,HNE.out,HK'.out,?_,?_⟩
     ·rw [List.length_append,List.length_singleton,←HK.out]
      go_num
     ·rw [List.length_append,List.length_singleton]
      exact M5.out
     ·rw [List.length_append,List.length_singleton]
      have:=HF.out
      omega
     ·rw [List.length_append,List.length_singleton]
      have:=HNL.out
      have:=HG.out
      omega
    case measure=>simp [intOf];omega
end
section
variable {B:Nat} {w0 w:World} {R:List Res} {σ:RS} {bs':List Bx} {y:Ly} {n m:Nat} {ts:List (List UInt8)}
theorem beg_mark {k:Nat} {i:Int} (M:Mem B w0 (σ.L B++(boxR bs'::R)) w) (K:RnOk σ y n m ts none) (hb:σ.r.busy=false) (hk:k < n) (hi:0 < i) :
  Calls Tryz.prog 13 #[.pointer (some ⟨σ.g,0,none⟩),(Cop.mark k i).op.v] w (BegTo B w0 R σ y n m ts (.mark k i)):=by
 rcases slot_case K hk with h | ⟨s,ix,tx,h,h1,h2,h3,h4,h5,h6,h7⟩
 ·exact begin_free M K hb (.mark k i) (fun e=>by cases e) hk rfl (by simp [Cop.op]) h (fm10 σ.g σ.lb n _ k i K.O.sl (by omega) (by omega) (by omega))
 ·have SN:∀W,Mem B w0 (RS.L B (σ.beg (Cop.mark k i).op)++(boxR bs'::R)) W→∃am c1,s.mv=.slice am s.ms.length c1∧InMk W am s.ms.length s.ms∧Blk W s.g 144 #[.int .i64 s.x.num,.int .u64 s.x.at',.int .i64 s.x.h,.int .i64 s.x.b,.int .i64 s.x.r,.int .i64 s.x.l,.slice am s.ms.length c1,s.dv,.int .i64 s.ix,.int .i64 s.cu]:=fun W M1=>by
   have hsn:=(m_sl M1).s k s h
   obtain ⟨am,c1,hv,_⟩:=own_slice hsn.m
   have hb:=hsn.b
   unfold Snp.cells at hb
   rw [hv] at hb
   exact ⟨am,c1,hv,(own_inMk (hv ▸ hsn.m) rfl).1,hb⟩
  by_cases hex:∃(k:Nat) (x:Mk),s.ms[k]?=some x∧x.id=i
  ·obtain ⟨mk0,hmk0⟩:∃z,z=s.ms:=⟨_,rfl⟩
   have T:∀W,Mem B w0 (RS.L B (σ.beg (Cop.mark k i).op)++(boxR bs'::R)) W→Calls Tryz.prog 38 #[.pointer (some ⟨σ.g,0,none⟩)] W fun e w'=>∃mk,(mk ∈ s.ms∧mk.id=i)∧∃rb xb,RdSet σ.g { (σ.beg (Cop.mark k i).op).r with ph:=1,dv:=locV rb xb } W (.tuple #[]) e w'∧Blk w' rb 45 #[.pointer (some ⟨σ.g,0,none⟩)]∧Blk w' xb 41 (RsV.arr { RsV.zero with at':=mk.at',g:=mk.g })∧W.heap.size≤rb∧rb < xb:=fun W M1=>by
    obtain ⟨am,c1,_,hin,hsb⟩:=SN W M1
    exact start_10 σ.g σ.lb n k s.g (σ.beg (Cop.mark k i).op).r _ s.x s.dv s.ix s.cu am _ c1 s.ms i W (m_rd M1) K.O.sl (m_sl M1).b rfl hk (sptr_at h) hsb hin (by omega) hex (by omega)
   refine begin_of M K hb (.mark k i) fun W M1 K1=>?_
   refine (T W M1).mono ?_
   rintro e w' ⟨mk,⟨hm1,hm2⟩,rb,xb,hset,b1,b2,h1',h2'⟩
   have M2:=m_setbox M1 hset rfl rfl [⟨rb,45,#[.pointer (some ⟨σ.g,0,none⟩)]⟩,⟨xb,41,RsV.arr { RsV.zero with at':=mk.at',g:=mk.g }⟩] (fun b hb=>by
    simp at hb
    rcases hb with rfl | rfl
    ·exact b1
    ·exact b2) (fun b hb=>by
    simp at hb
    rcases hb with rfl | rfl
    ·exact h1'
    ·exact Nat.le_trans h1' (Nat.le_of_lt h2'))
   obtain ⟨rfl,_,_⟩:=hset
   exact ⟨rfl,_,_,M2,⟨rfl,rfl,rfl,rfl,rfl,rfl,rfl,rfl,rfl,rfl,rfl,rfl,rfl,rfl,rfl,rfl⟩,rfl,rfl,rfl,rfl,K1.same ⟨rfl,rfl,rfl,rfl,rfl,rfl,rfl,rfl,rfl,rfl,rfl,rfl,rfl,rfl,rfl,rfl⟩ (K1.O.rd _ σ.tx rfl rfl) rfl rfl rfl,.loc { RsV.zero with at':=mk.at',g:=mk.g },⟨rfl,rfl,rfl,rb,xb,rfl,rfl⟩,rfl,rfl,.inr ⟨(fun e=>by cases e),.inr ⟨s,ix,tx,h,h1,h2,.inr ⟨mk,hm1,hm2,rfl⟩⟩⟩⟩
  ·refine begin_err M K hb (.mark k i) 7 (by decide) (.inr ⟨(fun e=>by cases e),.inr ⟨s,ix,tx,h,h1,h2,.inl ⟨(fun z hz he=>by
    obtain ⟨j,hj⟩:=List.getElem?_of_mem hz
    exact hex ⟨j,z,hj,he⟩),rfl⟩⟩⟩) fun W M1=>?_
   obtain ⟨am,c1,_,hin,hsb⟩:=SN W M1
   refine (check_10 σ.g σ.lb n k s.g (σ.beg (Cop.mark k i).op).r _ s.x am _ c1 s.ms s.dv i s.ix s.cu W (m_rd M1) K.O.sl (m_sl M1).b hk (sptr_at h) hsb hin (by omega) (fm10 σ.g σ.lb n _ k i K.O.sl (by omega) (by omega) (by omega))).mono ?_
   rintro e w' ⟨⟨h,_⟩ | ⟨_,hx⟩,c⟩
   ·exact ⟨h,c⟩
   ·exact absurd hx hex
theorem beg_any {c:Cop} (M:Mem B w0 (σ.L B++(boxR bs'::R)) w) (K:RnOk σ y n m ts none) (hb:σ.r.busy=false) (hs:c.small n) :
  Calls Tryz.prog 13 #[.pointer (some ⟨σ.g,0,none⟩),c.op.v] w (BegTo B w0 R σ y n m ts c):=by
 cases c with
 | acq=>exact beg_acq M K hb
 | len k=>exact beg_len M K hb hs
 | read k a b=>exact beg_read M K hb hs.1
 | rune k b=>exact beg_rune M K hb hs.1
 | line k b=>exact beg_line M K hb hs.1
 | mark k i=>exact beg_mark M K hb hs.1 hs.2.1
 | seek k a=>exact beg_seek M K hb hs.1
 | next k b=>exact beg_next M K hb hs.1
 | rel k=>exact beg_rel M K hb hs
end
section
variable {B:Nat} {w0 w:World} {R:List Res} {σ σ':RS} {bs':List Bx} {y:Ly} {n m:Nat} {ts:List (List UInt8)}
theorem begin_bad (M:Mem B w0 (σ.L B++(boxR bs'::R)) w) (K:RnOk σ y n m ts none) (hb:σ.r.busy=false) (op:OpV) (h5:5≤op.k) (h13:op.k≤13) (er:Int) (he:er≠0)
  (hck:∀W,Blk W σ.g 111 (RS.beg σ op).r.cells→Calls Tryz.prog 61 #[.pointer (some ⟨σ.g,0,none⟩),op.v] W fun e w'=>e=.returned (.int .i64 er)∧Ch (fun _=>False) W w') :
  Calls Tryz.prog 13 #[.pointer (some ⟨σ.g,0,none⟩),op.v] w (BegOp B w0 R σ y n m ts op (fun pg=>pg=errP er)):=by
 refine (rbegin_any σ.g σ.r op w (m_rd M) hb h5 h13 (fun W w'=>∃σ' bs',Mem B w0 (σ'.L B++(boxR bs'::R)) w'∧Same σ σ'∧σ'.s=σ.s∧σ'.sl=σ.sl∧σ'.ps=σ.ps∧σ'.r.op=op∧RnOk σ' y n m ts none∧∃pg,PgAt σ' bs' n m ts pg∧pg.hk=none∧pg.ended=false∧pg=errP er) fun W hW cW=>?_).mono ?_
 ·have M1:Mem B w0 (RS.L B (σ.beg op)++(boxR bs'::R)) W:=m_set M (v:=.tuple #[]) (e:=.returned (.tuple #[])) ⟨rfl,hW,cW⟩ rfl rfl
  have K1:RnOk (σ.beg op) y n m ts none:=K.same ⟨rfl,rfl,rfl,rfl,rfl,rfl,rfl,rfl,rfl,rfl,rfl,rfl,rfl,rfl,rfl,rfl⟩ (K.O.rd _ σ.tx rfl rfl) rfl rfl rfl
  refine (start_bad σ.g (σ.beg op).r er W (m_rd M1) he fun W' cW=>hck W' (cW.blk (m_rd M1) id)).mono ?_
  rintro e w' ⟨rb,xb,hset,b1,b2,h1,h2⟩
  have M2:=m_setbox M1 hset rfl rfl [⟨rb,45,#[.pointer (some ⟨σ.g,0,none⟩)]⟩,⟨xb,41,RsV.arr { RsV.zero with er:=er }⟩] (fun b hb=>by
   simp at hb
   rcases hb with rfl | rfl
   ·exact b1
   ·exact b2) (fun b hb=>by
   simp at hb
   rcases hb with rfl | rfl
   ·exact h1
   ·exact Nat.le_trans h1 (Nat.le_of_lt h2))
  obtain ⟨rfl,_,_⟩:=hset
  exact ⟨rfl,_,_,M2,⟨rfl,rfl,rfl,rfl,rfl,rfl,rfl,rfl,rfl,rfl,rfl,rfl,rfl,rfl,rfl,rfl⟩,rfl,rfl,rfl,rfl,K1.same ⟨rfl,rfl,rfl,rfl,rfl,rfl,rfl,rfl,rfl,rfl,rfl,rfl,rfl,rfl,rfl,rfl⟩ (K1.O.rd _ σ.tx rfl rfl) rfl rfl rfl,errP er,⟨rfl,rfl,rfl,rb,xb,rfl,rfl⟩,rfl,rfl,rfl⟩
 ·rintro e w' ⟨rfl,W,_,h⟩
  exact ⟨rfl,h⟩
theorem fin_seq (op:OpV) (St0:Pg→Prop) (P:List Int) (hp:0 < P.length) (hP:P.length≤200) (St:Nat→RS→Pg→Prop) (End:RS→RsV→Prop) (M:Mem B w0 (σ.L B++(boxR bs'::R)) w) (hl:σ.s.lg.length < 700000)
  (hbeg:∀R W,Mem B w0 (σ.L B++(boxR bs'::R)) W→Calls Tryz.prog 13 #[.pointer (some ⟨σ.g,0,none⟩),op.v] W (BegOp B w0 R σ y n m ts op St0))
  (h0:∀σ1 bs1 pg,Same σ σ1→σ1.s=σ.s→σ1.sl=σ.sl→RnOk σ1 y n m ts none→PgAt σ1 bs1 n m ts pg→St0 pg→St 0 σ1 pg)
  (h1:∀i σ1 σ2 hv pg pg' b,i < P.length→St i σ1 pg→PgAt σ1 b n m ts pg→RnOk σ1 y n m ts pg.hk→RnOk σ2 y n m ts pg'.hk→Same σ σ1→Same σ1 σ2→Nxt σ1 σ2 m hv pg' pg→P[i]?=some σ1.r.ph∧((i+1=P.length∧∃x,pg'=.fin x∧End σ2 x)∨(i+1 < P.length∧pg'.ended=false∧St (i+1) σ2 pg'))) :
  Calls Tryz.prog 12 #[.pointer (some ⟨σ.g,0,none⟩),op.v] w (FinTo B w0 R σ y n m ts (fun phs σ' x=>phs=P∧End σ' x)):=by
 refine finish_op op St0 (fun f phs σ1 pg=>∃i,i < P.length∧f=P.length - i∧phs=P.take i∧St i σ1 pg) _ M hl hbeg (fun σ1 bs1 pg S e1 e2 K G h=>?_) (fun f phs σ1 σ2 hv pg pg' hk hb K1 K2 S1 S2 hn=>?_) (fun _ _ _ _ _ _ _ M K hl hp he _=>step_all M K hl hp he) (fun f phs σ1 pg hk=>?_)
 ·exact ⟨P.length,hP,0,hp,rfl,rfl,h0 σ1 bs1 pg S e1 e2 K G h⟩
 ·obtain ⟨i,hi,rfl,rfl,hst⟩:=hk
  obtain ⟨b,hb⟩:=hb
  obtain ⟨hph,hc⟩:=h1 i σ1 σ2 hv pg pg' b hi hst hb K1 K2 S1 S2 hn
  have ht:P.take i++[σ1.r.ph]=P.take (i+1):=by
   rw [List.take_add_one,hph]
   rfl
  rcases hc with ⟨e,x,hx,he⟩ | ⟨e,he,hs⟩
  ·exact .inl ⟨x,hx,by rw [ht,e,List.take_length],he⟩
  ·exact .inr ⟨he,P.length - (i+1),by omega,i+1,e,rfl,ht,hs⟩
 ·obtain ⟨i,hi,rfl,_⟩:=hk
  omega
theorem fin_one (op:OpV) (x:RsV) (M:Mem B w0 (σ.L B++(boxR bs'::R)) w) (hl:σ.s.lg.length < 700000)
  (hbeg:∀R W,Mem B w0 (σ.L B++(boxR bs'::R)) W→Calls Tryz.prog 13 #[.pointer (some ⟨σ.g,0,none⟩),op.v] W (BegOp B w0 R σ y n m ts op (fun pg=>pg=.loc x))) :
  Calls Tryz.prog 12 #[.pointer (some ⟨σ.g,0,none⟩),op.v] w (FinTo B w0 R σ y n m ts (fun phs σ' z=>phs=[1]∧z=x∧σ'.s=σ.s∧σ'.sl=σ.sl)):=by
 refine fin_seq op _ [1] (by decide) (by decide) (fun i σ1 pg=>i=0∧pg=.loc x∧σ1.s=σ.s∧σ1.sl=σ.sl) (fun σ' z=>z=x∧σ'.s=σ.s∧σ'.sl=σ.sl) M hl hbeg (fun σ1 bs1 pg S e1 e2 K G h=>⟨rfl,h,e1,e2⟩) (fun i σ1 σ2 hv pg pg' b hi hst hb K1 K2 S1 S2 hn=>?_)
 obtain ⟨rfl,rfl,e1,e2⟩:=hst
 obtain ⟨_,g1,g2,rfl⟩:=hn
 exact ⟨by rw [hb.2.2.1];rfl,.inl ⟨rfl,x,rfl,rfl,by rw [g1,e1],by rw [g2,e2]⟩⟩
end
def exT:ByteArray:=⟨#[97,98,99,100,101,102,103,104,105,106,107,108,109,110,111,112,113,114,115,116]⟩
def exLa:ByteArray:=⟨#[97,98,99,100,101,102,103,104,105,106]⟩
def exLb:ByteArray:=⟨#[107,108,109,110,111,112,113,114,115,116]⟩
def exTr:T:=.node 1 [.leaf exLa,.leaf exLb]
theorem ex_build:buildT exT=[exTr]:=by kernel_rfl
theorem ex_cnt:cntP begB (u8s exT.data.toList)=20:=by decide +kernel
theorem ex_lf:cntP isLF (u8s exT.data.toList)=0:=by decide +kernel
theorem ex_nth:nthP begB (u8s exT.data.toList) 12=12:=by decide +kernel
theorem ex_mA:(T.leaf exLa).meas=⟨10,10,0⟩:=by rfl
theorem ex_mB:(T.leaf exLb).meas=⟨10,10,0⟩:=by rfl
section
variable {ns:List An}
theorem ex_down {f:Ms→Int} (hf:∀a b,f (a.add b)=f a+f b) (f0:f ⟨0,0,0⟩=0) (f1:f ⟨10,10,0⟩=10) {ix:Nat} (h:Nt ns ix exTr) {z:An} (hz:ns[ix]?=some z):z.x.h≠0∧∀(ci:Nat) (k':Kd) (q rest:Int),z.x.ks[ci]?=some k'→Chosen f (z.x.ks.map Kd.m) rest ci q→(rest < 10→q=rest∧Nt ns k'.at' (.leaf exLa))∧(10≤rest→q=rest - 10∧Nt ns k'.at' (.leaf exLb)):=by
 cases h with
 | @node _ _ _ y kd hi e hl hm hk=>
  rw [hz] at hi
  injection hi with hi;subst hi
  have hl2:kd.length=2:=hl
  match kd,hl2 with
  | [k0,k1],_=>
   have m0:k0.m=⟨10,10,0⟩:=by rw [hm 0 k0 _ rfl rfl];exact ex_mA
   have m1:k1.m=⟨10,10,0⟩:=by rw [hm 1 k1 _ rfl rfl];exact ex_mB
   refine ⟨by rw [e];exact Nat.one_ne_zero,fun ci k' q rest hci hc=>?_⟩
   rw [e] at hci hc
   obtain ⟨⟨mm,hm1,hm2⟩,hq,he⟩:=hc
   match ci,hci with
   | 0,hci=>
    injection hci with hci;subst hci
    have hm1:some k0.m=some mm:=hm1
    injection hm1 with hm1
    rw [←hm1,m0,f1] at hm2
    have he:rest=f ⟨0,0,0⟩+q:=he
    rw [f0] at he
    exact ⟨fun _=>⟨by omega,hk 0 k0 _ rfl rfl⟩,fun h=>by omega⟩
   | 1,hci=>
    injection hci with hci;subst hci
    have he:rest=f (msum [k0.m])+q:=he
    have e10:f (msum [k0.m])=10:=by
     rw [m0]
     show f ((⟨0,0,0⟩:Ms).add ⟨10,10,0⟩)=10
     rw [hf,f0,f1]
     rfl
    rw [e10] at he
    exact ⟨fun h=>by omega,fun _=>⟨by omega,hk 1 k1 _ rfl rfl⟩⟩
   | ci+2,hci=>simp at hci
theorem ex_leaf {ix:Nat} {s:ByteArray} (h:Nt ns ix (.leaf s)) {z:An} (hz:ns[ix]?=some z):z.x.h=0∧z.x.s=s:=by
 cases h with
 | leaf hi e=>
  rw [hz] at hi
  injection hi with hi;subst hi
  rw [e]
  exact ⟨rfl,rfl⟩
end
theorem ex_root {σ:RS} {y:Ly} {n m:Nat} {hk:Option Nat} {k:Nat} {s:Snp} (K:RnOk σ y n m [exT.data.toList] hk) (h:σ.sl[k]?=some (some s)):∃ix,s.x.at'=hdl ix∧Nt σ.ns ix exTr:=by
 obtain ⟨i,q,e1,e2,_⟩:=K.sn k s h
 have hi:i < σ.rs.length:=(List.getElem?_eq_some_iff.1 e1).1
 have hl:=K.nt
 obtain rfl:i=0:=by simp at hl;omega
 obtain ⟨g,_⟩:=K.rv 0 q _ e1 rfl
 rcases g.2.2.2 with ⟨h0,_⟩ | ⟨ix,t,a1,a2,a3,a4,a5,sb,a6⟩
 ·cases h0
 ·have hsb:sb=exT:=by
   refine ba_list ?_
   rw [←build_text a6,a3]
  rw [hsb,ex_build] at a6
  injection a6 with a6
  refine ⟨ix,?_,by rw [a6];exact a2⟩
  rw [e2]
  exact a1
def exL:List UInt8:=exT.data.toList
theorem exL_len:exL.length=20:=rfl
structure ExS (σ:RS) (o:Option Int):Prop where
 cl:lk σ.s.vs 0=0
 rt:lk σ.s.vs 1=0
 ms:∀r,σ.rs[0]?=some r→r.ms=[]
 sl:(o=none∧σ.sl=[none])∨∃s,o=some s.cu∧σ.sl=[some s]∧s.ms=[]
theorem ExS.free {σ:RS} (h:ExS σ none):σ.sl=[none]:=by
 rcases h.sl with ⟨_,h⟩ | ⟨s,h,_⟩
 ·exact h
 ·cases h
theorem ExS.held {σ:RS} {c:Int} (h:ExS σ (some c)):∃s,s.cu=c∧σ.sl=[some s]∧s.ms=[]:=by
 rcases h.sl with ⟨h,_⟩ | ⟨s,h,h1,h2⟩
 ·cases h
 ·injection h with h
  exact ⟨s,h.symm,h1,h2⟩
theorem ExS.mk' {σ σ':RS} {o o':Option Int} (h:ExS σ o) (S:Same σ σ') (e0:lk σ'.s.vs 0=lk σ.s.vs 0) (e1:lk σ'.s.vs 1=lk σ.s.vs 1) (hs:(o'=none∧σ'.sl=[none])∨∃s,o'=some s.cu∧σ'.sl=[some s]∧s.ms=[]):ExS σ' o':=
 ⟨e0.trans h.cl,e1.trans h.rt,by rw [S.rs];exact h.ms,hs⟩
theorem ExS.same {σ σ':RS} {o:Option Int} (h:ExS σ o) (S:Same σ σ') (e0:lk σ'.s.vs 0=lk σ.s.vs 0) (e1:lk σ'.s.vs 1=lk σ.s.vs 1) (e2:σ'.sl=σ.sl):ExS σ' o:=
 h.mk' S e0 e1 (by rw [e2];exact h.sl)
section
variable {B:Nat} {w0 w:World} {R:List Res} {σ σ':RS} {bs':List Bx} {y:Ly} {n m:Nat} {ts:List (List UInt8)}
theorem FinTo.mono {K1 K2:List Int→RS→RsV→Prop} {e:Ending} {w':World} (h:FinTo B w0 R σ y n m ts K1 e w') (hk:∀phs σ' x,Same σ σ'→K1 phs σ' x→K2 phs σ' x):FinTo B w0 R σ y n m ts K2 e w':=by
 obtain ⟨σ',bs',x,v,phs,h1,h2,h3,h4,h5,h6,h7⟩:=h
 exact ⟨σ',bs',x,v,phs,h1,h2,h3,h4,h5,hk phs σ' x h3 h6,h7⟩
theorem start_free {c:Cop} {pg:Pg} (h:StartP σ [exL] c pg) (hc:c≠.acq) (hk:c.slot=0) (hs:σ.sl=[none]):pg=errP 16:=by
 rcases h with ⟨h,_⟩ | ⟨_,⟨_,h⟩ | ⟨s,i,tx,h,_⟩⟩
 ·exact absurd h hc
 ·exact h
 ·rw [hk,hs] at h
  cases h
theorem start_held {c:Cop} {pg:Pg} {s:Snp} (h:StartP σ [exL] c pg) (hc:c≠.acq) (hk:c.slot=0) (hs:σ.sl=[some s]):RunP s exL pg c:=by
 rcases h with ⟨h,_⟩ | ⟨_,⟨h,_⟩ | ⟨s',i,tx,h,h1,h2,h3⟩⟩
 ·exact absurd h hc
 ·rw [hk,hs] at h
  cases h
 ·rw [hk,hs] at h
  have h:some (some s)=some (some s'):=h
  injection h with h
  injection h with h
  subst h
  cases i with
  | zero=>
   have h2:some exL=some tx:=h2
   injection h2 with h2
   subst h2
   exact h3
  | succ i=>simp at h2
def FinX (B:Nat) (w0:World) (σ:RS) (y:Ly) (op:OpV) (P:List Int) (X:RsV) (o':Option Int):Prop:=
 ∀(R:List Res) (bs':List Bx) (w:World),Mem B w0 (σ.L B++(boxR bs'::R)) w→Calls Tryz.prog 12 #[.pointer (some ⟨σ.g,0,none⟩),op.v] w (FinTo B w0 R σ y 1 0 [exL] (fun phs σ' x=>phs=P∧x=X∧ExS σ' o'))
variable {o o':Option Int} (E:ExS σ o) (K:RnOk σ y 1 0 [exL] none) (hb:σ.r.busy=false) (hl:σ.s.lg.length < 700000)
include E K hb hl
theorem x_loc (c:Cop) (X:RsV) (hs:c.small 1) (hp:∀pg,StartP σ [exL] c pg→pg=.loc X):FinX B w0 σ y c.op [1] X o:=by
 intro R bs' w M
 refine (fin_one c.op X M hl (fun R' W M'=>(beg_any M' K hb hs).mono ?_)).mono fun e w' h=>h.mono fun phs σ' x S ⟨h1,h2,h3,h4⟩=>⟨h1,h2,E.same S (by rw [h3]) (by rw [h3]) h4⟩
 rintro e w' ⟨he,σ',bs',h1,S,a,b,c',d,K',pg,G,hk,hen,hst⟩
 exact ⟨he,σ',bs',h1,S,a,b,c',d,K',pg,G,hk,hen,hp pg hst⟩
theorem x_seq (c:Cop) (P:List Int) (X:RsV) (hs:c.small 1) (hp:0 < P.length) (hP:P.length≤200) (St:Nat→RS→Pg→Prop)
  (h0:∀σ1 pg,Same σ σ1→σ1.s=σ.s→σ1.sl=σ.sl→RnOk σ1 y 1 0 [exL] none→StartP σ [exL] c pg→St 0 σ1 pg)
  (h1:∀i σ1 σ2 hv pg pg' b,i < P.length→St i σ1 pg→PgAt σ1 b 1 0 [exL] pg→RnOk σ1 y 1 0 [exL] pg.hk→RnOk σ2 y 1 0 [exL] pg'.hk→Same σ σ1→Same σ1 σ2→Nxt σ1 σ2 0 hv pg' pg→P[i]?=some σ1.r.ph∧((i+1=P.length∧pg'=.fin X∧ExS σ2 o')∨(i+1 < P.length∧pg'.ended=false∧St (i+1) σ2 pg'))):FinX B w0 σ y c.op P X o':=by
 intro R bs' w M
 refine (fin_seq c.op (StartP σ [exL] c) P hp hP St (fun σ' x=>x=X∧ExS σ' o') M hl (fun R' W M'=>(beg_any M' K hb hs).mono fun e w' h=>h) (fun σ1 bs1 pg S e1 e2 K1 _ h=>h0 σ1 pg S e1 e2 K1 h) (fun i σ1 σ2 hv pg pg' b hi hst hg K1 K2 S1 S2 hn=>?_))
 obtain ⟨hph,h⟩:=h1 i σ1 σ2 hv pg pg' b hi hst hg K1 K2 S1 S2 hn
 refine ⟨hph,h.imp (fun ⟨a,b,c⟩=>⟨a,X,b,rfl,c⟩) id⟩
theorem x_one (c:Cop) (PG:Pg) (ph:Int) (X:RsV) (hs:c.small 1) (hp:∀pg,StartP σ [exL] c pg→pg=PG) (hph:∀σ1 b,PgAt σ1 b 1 0 [exL] PG→σ1.r.ph=ph)
  (hn:∀σ1 σ2 hv pg',Same σ σ1→σ1.s=σ.s→σ1.sl=σ.sl→RnOk σ1 y 1 0 [exL] PG.hk→Same σ1 σ2→Nxt σ1 σ2 0 hv pg' PG→pg'=.fin X∧ExS σ2 o'):FinX B w0 σ y c.op [ph] X o':=by
 refine x_seq E K hb hl c [ph] X hs (by simp) (by simp) (fun i σ1 pg=>i=0∧pg=PG∧σ1.s=σ.s∧σ1.sl=σ.sl) (fun σ1 pg S e1 e2 _ h=>⟨rfl,hp pg h,e1,e2⟩) (fun i σ1 σ2 hv pg pg' b hi hst hg K1 K2 S1 S2 hnx=>?_)
 obtain ⟨rfl,rfl,e1,e2⟩:=hst
 exact ⟨by rw [hph σ1 b hg];rfl,.inl ⟨rfl,hn σ1 σ2 hv pg' S1 e1 e2 K1 S2 hnx⟩⟩
omit E in
theorem x_bad (op:OpV) (h5:5≤op.k) (h13:op.k≤13) (E:ExS σ o) (hck:∀W,Blk W σ.g 111 (RS.beg σ op).r.cells→Calls Tryz.prog 61 #[.pointer (some ⟨σ.g,0,none⟩),op.v] W fun e w'=>e=.returned (.int .i64 2)∧Ch (fun _=>False) W w'):FinX B w0 σ y op [1] { RsV.zero with er:=2 } o:=by
 intro R bs' w M
 exact (fin_one op { RsV.zero with er:=2 } M hl (fun R' W M'=>begin_bad M' K hb op h5 h13 2 (by decide) hck)).mono fun e w' h=>h.mono fun phs σ' x S ⟨h1,h2,h3,h4⟩=>⟨h1,h2,E.same S (by rw [h3]) (by rw [h3]) h4⟩
omit K hb hl in
theorem ExS.read {σ1 σ2:RS} {s:Snp} {a:Bool} {c:Int} (hS:σ.sl=[some s]) (hm:s.ms=[]) (S:Same σ σ2) (e1:σ1.s=σ.s) (e2:σ1.sl=σ.sl) (g1:σ2.s=σ1.s) (g2:if a then ∃s,σ1.sl[0]?=some (some s)∧σ2.sl=σ1.sl.set 0 (some { s with cu:=c }) else σ2.sl=σ1.sl):ExS σ2 (some (if a then c else s.cu)):=by
 refine E.mk' S (by rw [g1,e1]) (by rw [g1,e1]) (.inr ?_)
 cases a with
 | false=>
  have g2:σ2.sl=σ1.sl:=g2
  exact ⟨s,rfl,by rw [g2,e2,hS],hm⟩
 | true=>
  obtain ⟨s',h1,h2⟩:=g2
  rw [e2,hS] at h1 h2
  have h1:some (some s)=some (some s'):=h1
  injection h1 with h1
  injection h1 with h1
  subst h1
  exact ⟨{ s with cu:=c },rfl,h2,hm⟩
end
section
variable {σ1 σ2:RS} {hv:Int} {pg':Pg} {a:Bool} {tx:List UInt8} {p0 N d ix rn q:Nat} {rest:Int} {base:Ms} {s:ByteArray}
theorem b_root (hn:Nxt σ1 σ2 0 hv pg' (.byte 0 a tx p0 N d ix rest base)) (h:Nt σ1.ns ix exTr) :
  σ2.s=σ1.s∧σ2.sl=σ1.sl∧∃(ix':Nat) (q:Int) (b:Ms),pg'=.byte 0 a tx p0 N d ix' q b∧(rest < 10→q=rest∧Nt σ1.ns ix' (.leaf exLa))∧(10≤rest→q=rest - 10∧Nt σ1.ns ix' (.leaf exLb)):=by
 obtain ⟨_,e1,z,hz,hc⟩:=hn
 obtain ⟨hne,hd⟩:=ex_down (f:=fun m=>m.b) (fun _ _=>rfl) rfl rfl h hz
 rcases hc with ⟨_,e2,ci,k',q,h1,h2,h3⟩ | ⟨h0,_⟩
 ·exact ⟨e1,e2,k'.at',q,_,h3,hd ci k' q rest h1 h2⟩
 ·exact absurd h0 hne
theorem b_leaf (hn:Nxt σ1 σ2 0 hv pg' (.byte 0 a tx p0 N d ix (rn:Int) base)) (h:Nt σ1.ns ix (.leaf s)) :
  σ2.s=σ1.s∧∃c,c=min (N - d) (s.size - rn)∧
   ((d+c < N∧σ2.sl=σ1.sl∧∃jx,pg'=.byte 0 a tx p0 N (d+c) jx ((p0+(d+c):Nat):Int) ⟨0,0,0⟩∧∃s,σ1.sl[0]?=some (some s)∧s.x.at'=hdl jx)∨
    (d+c=N∧(if a then ∃s,σ1.sl[0]?=some (some s)∧σ2.sl=σ1.sl.set 0 (some { s with cu:=((p0+N:Nat):Int) }) else σ2.sl=σ1.sl)∧pg'=.fin { RsV.zero with s:=⟨((tx.drop p0).take N).toArray⟩,at':=if a then ((p0+N:Nat):Int) else 0 })):=by
 obtain ⟨_,e1,z,hz,hc⟩:=hn
 obtain ⟨h0,hs⟩:=ex_leaf h hz
 rcases hc with ⟨hne,_⟩ | ⟨_,c,rn',h1,h2,h3⟩
 ·exact absurd h0 hne
 ·obtain rfl:rn=rn':=by omega
  rw [hs] at h2
  exact ⟨e1,c,h2,h3⟩
theorem r_root (hn:Nxt σ1 σ2 0 hv pg' (.rune 0 tx q ix rest base)) (h:Nt σ1.ns ix exTr) :
  σ2.s=σ1.s∧σ2.sl=σ1.sl∧∃(ix':Nat) (r:Int) (b:Ms) (s:ByteArray),pg'=.rune 0 tx q ix' r b∧(rest < 20→Nt σ1.ns ix' (.leaf s)):=by
 obtain ⟨_,e1,e2,z,hz,hc⟩:=hn
 obtain ⟨hne,hd⟩:=ex_down (f:=fun m=>m.r) (fun _ _=>rfl) rfl rfl h hz
 rcases hc with ⟨_,ci,k',r,h1,h2,h3⟩ | ⟨h0,_⟩
 ·by_cases h10:rest < 10
  ·exact ⟨e1,e2,k'.at',r,_,exLa,h3,fun _=>((hd ci k' r rest h1 h2).1 h10).2⟩
  ·exact ⟨e1,e2,k'.at',r,_,exLb,h3,fun _=>((hd ci k' r rest h1 h2).2 (by omega)).2⟩
 ·exact absurd h0 hne
theorem r_leaf (hn:Nxt σ1 σ2 0 hv pg' (.rune 0 tx q ix rest base)) (h:Nt σ1.ns ix (.leaf s)):σ2.s=σ1.s∧σ2.sl=σ1.sl∧pg'=.fin { RsV.zero with at':=((nthP begB (u8s tx) q:Nat):Int) }:=by
 obtain ⟨_,e1,e2,z,hz,hc⟩:=hn
 obtain ⟨h0,_⟩:=ex_leaf h hz
 rcases hc with ⟨hne,_⟩ | ⟨_,h3⟩
 ·exact absurd h0 hne
 ·exact ⟨e1,e2,h3⟩
end
section
variable {B:Nat} {w0:World} {σ:RS} {y:Ly} {o:Option Int} (E:ExS σ o) (K:RnOk σ y 1 0 [exL] none) (hb:σ.r.busy=false) (hl:σ.s.lg.length < 700000)
def ByAt (σ:RS) (a:Bool) (p0 N i:Nat) (σ1:RS) (pg:Pg):Prop:=σ1.s=σ.s∧σ1.sl=σ.sl∧match i with
 | 0=>∃ix,pg=.byte 0 a exL p0 N 0 ix (p0:Int) ⟨0,0,0⟩∧Nt σ1.ns ix exTr
 | 1=>∃ix b,pg=.byte 0 a exL p0 N 0 ix (p0:Int) b∧Nt σ1.ns ix (.leaf exLa)
 | 2=>∃ix,pg=.byte 0 a exL p0 N (10 - p0) ix 10 ⟨0,0,0⟩∧Nt σ1.ns ix exTr
 | 3=>∃ix b,pg=.byte 0 a exL p0 N (10 - p0) ix 0 b∧Nt σ1.ns ix (.leaf exLb)
 | _=>False
theorem exLa_size:exLa.size=10:=rfl
theorem exLb_size:exLb.size=10:=rfl
include E K hb hl
theorem x_bytes (c:Cop) (a:Bool) (p0 N:Nat) {s:Snp} (hs:c.small 1) (hE:σ.sl=[some s]) (hm:s.ms=[]) (hst:∀pg,StartP σ [exL] c pg→∃jx,s.x.at'=hdl jx∧pg=.byte 0 a exL p0 N 0 jx (p0:Int) ⟨0,0,0⟩) (P:List Int) (hP:(P=[12,12]∧p0+N≤10∧0 < N)∨(P=[12,12,12,12]∧p0 < 10∧10 < p0+N∧p0+N≤20)) :
  FinX B w0 σ y c.op P { RsV.zero with s:=⟨((exL.drop p0).take N).toArray⟩,at':=if a then ((p0+N:Nat):Int) else 0 } (some (if a then ((p0+N:Nat):Int) else s.cu)):=by
 have hp0:p0 < 10:=by rcases hP with ⟨_,h1,h2⟩ | ⟨_,h1,_⟩ <;> omega
 have h10:P=[12,12]∨P=[12,12,12,12]:=by rcases hP with ⟨h,_⟩ | ⟨h,_⟩ <;> simp [h]
 refine x_seq E K hb hl c P _ hs (by rcases h10 with h | h <;> simp [h]) (by rcases h10 with h | h <;> simp [h]) (ByAt σ a p0 N) (fun σ1 pg S e1 e2 K1 h=>?_) (fun i σ1 σ2 hv pg pg' b hi hst hg K1 K2 S1 S2 hn=>?_)
 ·obtain ⟨jx,h1,h2⟩:=hst pg h
  obtain ⟨ix,g1,g2⟩:=ex_root (k:=0) (s:=s) K (by rw [hE];rfl)
  obtain rfl:jx=ix:=hdl_inj (h1.symm.trans g1)
  exact ⟨e1,e2,jx,h2,by rw [S.ns];exact g2⟩
 ·obtain ⟨e1,e2,hcase⟩:=hst
  have hph:∀i,i < P.length→P[i]?=some 12:=fun i hi=>by
   rcases h10 with h | h <;> subst h
   ·match i,hi with
    | 0,_=>rfl
    | 1,_=>rfl
   ·match i,hi with
    | 0,_=>rfl
    | 1,_=>rfl
    | 2,_=>rfl
    | 3,_=>rfl
  match i,hcase with
  | 0,⟨ix,hpg,hnt⟩=>
   subst hpg
   refine ⟨by rw [hph 0 hi,hg.2.2.1],.inr ?_⟩
   obtain ⟨f1,f2,ix',q,b',f3,f4,_⟩:=b_root hn hnt
   obtain ⟨rfl,f5⟩:=f4 (by omega)
   subst f3
   exact ⟨by rcases h10 with h | h <;> simp [h],rfl,f1.trans e1,f2.trans e2,ix',b',rfl,by rw [S2.ns];exact f5⟩
  | 1,⟨ix,b',hpg,hnt⟩=>
   subst hpg
   refine ⟨by rw [hph 1 hi,hg.2.2.1],?_⟩
   obtain ⟨f1,c0,hc0,hc⟩:=b_leaf hn hnt
   rw [exLa_size] at hc0
   rcases hP with ⟨rfl,g1,g2⟩ | ⟨rfl,g1,g2,g3⟩
   ·rcases hc with ⟨f2,_⟩ | ⟨_,f3,f4⟩
    ·omega
    ·exact .inl ⟨rfl,f4,E.read hE hm (S1.trans S2) e1 e2 f1 f3⟩
   ·rcases hc with ⟨f2,f3,jx,f4,s',f5,f6⟩ | ⟨f2,_⟩
    ·obtain ⟨ix2,a1,a2⟩:=ex_root (k:=0) (s:=s) K (by rw [hE];rfl)
     rw [e2,hE] at f5
     have f5:some (some s)=some (some s'):=f5
     injection f5 with f5
     injection f5 with f5
     subst f5
     obtain rfl:jx=ix2:=hdl_inj (f6.symm.trans a1)
     have hd:0+c0=10 - p0:=by omega
     have hd2:p0+(0+c0)=10:=by omega
     rw [hd2,hd] at f4
     subst f4
     exact .inr ⟨by simp,rfl,f1.trans e1,f3.trans e2,jx,rfl,by rw [S2.ns,S1.ns];exact a2⟩
    ·omega
  | 2,⟨ix,hpg,hnt⟩=>
   subst hpg
   refine ⟨by rw [hph 2 hi,hg.2.2.1],.inr ?_⟩
   obtain ⟨f1,f2,ix',q,b',f3,_,f4⟩:=b_root hn hnt
   obtain ⟨rfl,f5⟩:=f4 (by omega)
   subst f3
   exact ⟨by rcases h10 with h | h <;> subst h <;> simp at hi ⊢,rfl,f1.trans e1,f2.trans e2,ix',b',rfl,by rw [S2.ns];exact f5⟩
  | 3,⟨ix,b',hpg,hnt⟩=>
   subst hpg
   refine ⟨by rw [hph 3 hi,hg.2.2.1],.inl ?_⟩
   obtain ⟨f1,c0,hc0,hc⟩:=b_leaf (rn:=0) hn hnt
   rw [exLb_size] at hc0
   rcases hP with ⟨rfl,g1,g2⟩ | ⟨rfl,g1,g2,g3⟩
   ·simp at hi
   ·rcases hc with ⟨f2,_⟩ | ⟨_,f3,f4⟩
    ·omega
    ·exact ⟨rfl,f4,E.read hE hm (S1.trans S2) e1 e2 f1 f3⟩
  | i+4,h=>exact h.elim
theorem x_rune {s:Snp} (hE:σ.sl=[some s]):FinX B w0 σ y (Cop.rune 0 12).op [12,12] { RsV.zero with at':=12 } o:=by
 refine x_seq E K hb hl (.rune 0 12) [12,12] _ ⟨by decide,by decide⟩ (by decide) (by decide) (fun i σ1 pg=>σ1.s=σ.s∧σ1.sl=σ.sl∧match i with
  | 0=>∃ix,pg=.rune 0 exL 12 ix 12 ⟨0,0,0⟩∧Nt σ1.ns ix exTr
  | 1=>∃ix r b s,pg=.rune 0 exL 12 ix r b∧Nt σ1.ns ix (.leaf s)
  | _=>False) (fun σ1 pg S e1 e2 K1 h=>?_) (fun i σ1 σ2 hv pg pg' b hi hst hg K1 K2 S1 S2 hn=>?_)
 ·rcases start_held h (by nofun) rfl hE with ⟨h1,_⟩ | ⟨h1,_⟩ | ⟨_,jx,h1,h2⟩
  ·rw [show cntP begB (u8s exL)=20 from ex_cnt] at h1
   omega
  ·rw [show cntP begB (u8s exL)=20 from ex_cnt] at h1
   omega
  ·obtain ⟨ix,g1,g2⟩:=ex_root (k:=0) (s:=s) K (by rw [hE];rfl)
   obtain rfl:jx=ix:=hdl_inj (h1.symm.trans g1)
   exact ⟨e1,e2,jx,h2,by rw [S.ns];exact g2⟩
 ·obtain ⟨e1,e2,hcase⟩:=hst
  match i,hcase with
  | 0,⟨ix,hpg,hnt⟩=>
   subst hpg
   refine ⟨by rw [hg.2.2.1];rfl,.inr ?_⟩
   obtain ⟨f1,f2,ix',q,b',s',f3,f4⟩:=r_root hn hnt
   subst f3
   exact ⟨by decide,rfl,f1.trans e1,f2.trans e2,ix',q,b',s',rfl,by rw [S2.ns];exact f4 (by decide)⟩
  | 1,⟨ix,r,b',s',hpg,hnt⟩=>
   subst hpg
   refine ⟨by rw [hg.2.2.1];rfl,.inl ?_⟩
   obtain ⟨f1,f2,f3⟩:=r_leaf hn hnt
   refine ⟨rfl,?_,E.same (S1.trans S2) (by rw [f1,e1]) (by rw [f1,e1]) (f2.trans e2)⟩
   rw [f3,show nthP begB (u8s exL) 12=12 from ex_nth]
   rfl
  | i+2,h=>exact h.elim
theorem x_acq (hE:σ.sl=[none]):FinX B w0 σ y Cop.acq.op [2,9,10,11] RsV.zero (some 0):=by
 refine x_seq E K hb hl .acq [2,9,10,11] _ trivial (by decide) (by decide) (fun i σ1 pg=>lk σ1.s.vs 0=0∧lk σ1.s.vs 1=0∧σ1.sl=σ.sl∧match i with
  | 0=>pg=.clos
  | 1=>pg=.ep 0
  | 2=>∃v,pg=.ann 0 v
  | 3=>pg=.root 0
  | _=>False) (fun σ1 pg S e1 e2 K1 h=>?_) (fun i σ1 σ2 hv pg pg' b hi hst hg K1 K2 S1 S2 hn=>?_)
 ·rcases h with ⟨_,h⟩ | ⟨h,_⟩
  ·exact ⟨by rw [e1];exact E.cl,by rw [e1];exact E.rt,e2,h⟩
  ·exact absurd rfl h
 ·obtain ⟨e0,e1,e2,hcase⟩:=hst
  have hf:free1 (σ1.sl.map sptr) 0=0:=by rw [e2,hE];rfl
  match i,hcase with
  | 0,hpg=>
   subst hpg
   refine ⟨by rw [hg.2.2.1];rfl,.inr ?_⟩
   obtain ⟨_,g1,g2,h | h | h⟩:=hn
   ·exact absurd e0 h.1
   ·rw [hf] at h
    exact absurd h.2.1 (by decide)
   ·obtain ⟨_,k,h1,h2⟩:=h
    obtain rfl:k=0:=by omega
    subst h2
    exact ⟨by decide,rfl,by rw [g1];exact e0,by rw [g1];exact e1,by rw [g2];exact e2,rfl⟩
  | 1,hpg=>
   subst hpg
   refine ⟨by rw [hg.2.2.1];rfl,.inr ?_⟩
   obtain ⟨_,g1,g2,rfl⟩:=hn
   exact ⟨by decide,rfl,by rw [g1];exact e0,by rw [g1];exact e1,by rw [g2];exact e2,_,rfl⟩
  | 2,⟨v,hpg⟩=>
   subst hpg
   refine ⟨by rw [hg.2.2.1];rfl,.inr ?_⟩
   obtain ⟨_,g1,g2,rfl⟩:=hn
   obtain ⟨l0,l1⟩:=lk_slot (m:=0) K1 (k:=0) (by decide) σ1.r.cl (v+1)
   exact ⟨by decide,rfl,by rw [g1,l0];exact e0,by rw [g1,l1];exact e1,by rw [g2];exact e2,rfl⟩
  | 3,hpg=>
   subst hpg
   refine ⟨by rw [hg.2.2.1];rfl,.inl ?_⟩
   obtain ⟨_,g1,i,r,s,h1,h2,h3,h4,h5,h6,h7,h8⟩:=hn
   obtain rfl:i=0:=by omega
   have hr:σ.rs[0]?=some r:=by rw [←S1.rs];exact h2
   obtain ⟨_,hnum,_⟩:=K.rv 0 r exL hr rfl
   refine ⟨rfl,by rw [h8,hnum];rfl,E.mk' (S1.trans S2) ?_ ?_ (.inr ⟨s,by rw [h6],by rw [h7,e2,hE];rfl,by rw [h4];exact E.ms r hr⟩)⟩
   ·rw [E.cl,g1]
    exact e0
   ·rw [E.rt,g1]
    exact e1
  | i+4,h=>exact h.elim
end
theorem formed_7f (g lb n:Nat) (r:Rd) (sl pos num:Int) (w:World) (h:Blk w g 111 r.cells) (hs:r.sl=.slice (some ⟨lb,0,none⟩) n n) (h1:0≤sl) (h2:¬sl < (n:Int)) (h3:0≤pos) (h4:0≤num) :
  Calls Tryz.prog 93 #[.pointer (some ⟨g,0,none⟩),.agg #[.int .u8 7,.int .i64 sl,.int .i64 pos,.int .i64 num,.int .u32 0,.int .u8 0,.string ⟨#[]⟩]] w fun e w'=>e=.returned (.bool false)∧Ch (fun _=>False) w w':=by
 have d1:decide (0≤sl)=true:=decide_eq_true h1
 have d2:decide (sl < (n:Int))=false:=decide_eq_false h2
 have d3:decide (0≤pos)=true:=decide_eq_true h3
 have d4:decide (0≤num)=true:=decide_eq_true h4
 have H:=hid h
 have HS:=hid hs
 have lg:=h.lt
 clear h hs h1 h2 h3 h4
 go_enter Tryz.func93,Tryz.ntmps93
 go_wp2_with fail
 obtain ⟨xb,hxb⟩:∃x,x=w.heap.size+1:=⟨_,rfl⟩
 rw [←hxb]
 have nx:w.heap.size≠xb:=by omega
 have nx2:xb≠w.heap.size:=Ne.symm nx
 obtain ⟨S,hS⟩:∃S:Nat→Prop,∀k,S k↔k=w.heap.size:=⟨_,fun _=>Iff.rfl⟩
 have hSp:Mix.Has S w.heap.size:=(hS _).2 rfl
 have HSS:=hid hS
 have HXB:=hid hxb
 clear hS hxb
 refine Mix.wp_region_mix S (fun i=>([0,0,1,4,0,3,0,2]:List Nat).getD i 0) [0,1,2,3,4,5,6,7] (by kernel_rfl) (by kernel_rfl) ?_
 refine Mix.mix_world fun W1 hW1=>?_
 have T1:=hid (show Blk W1 w.heap.size 26 #[.int .u8 7,.int .i64 sl,.int .i64 pos,.int .i64 num,.int .u32 0,.int .u8 0,.string ⟨#[]⟩] from by rw [hW1];exact (Blk.new w _ _).alloc _)
 have X1:=hid (show Blk W1 xb 26 #[.int .u8 7,.int .i64 0,.int .i64 0,.int .i64 0,.int .u32 0,.int .u8 0,.string ⟨#[]⟩] from by rw [hW1,HXB.out];have t:=Blk.new (w.alloc (.cells #[.int .u8 7,.int .i64 sl,.int .i64 pos,.int .i64 num,.int .u32 0,.int .u8 0,.string ⟨#[]⟩] 26)) 26 #[.int .u8 7,.int .i64 0,.int .i64 0,.int .i64 0,.int .u32 0,.int .u8 0,.string ⟨#[]⟩];simpa using t)
 have C1:=hid (show Ch (fun _=>False) w W1 from by rw [hW1];exact ((Ch.refl _ w).alloc _).alloc _)
 clear hW1
 have t2:W1.cell? ⟨w.heap.size,2,none⟩=some (.int .i64 pos):=T1.out.cell 2
 have t3:W1.cell? ⟨w.heap.size,3,none⟩=some (.int .i64 num):=T1.out.cell 3
 have x2:W1.cell? ⟨xb,2,none⟩=some (.int .i64 0):=X1.out.cell 2
 have y2:=X1.out.free 2
 have x3:W1.cell? ⟨xb,3,none⟩=some (.int .i64 0):=X1.out.cell 3
 have y3:=X1.out.free 3
 repeat ((first | refine Mix.q1 rfl ?_ | refine Mix.p1 rfl rfl ?_ | refine Mix.s1 rfl rfl ?_);go_big_quiet_step (fail);refine wpQuiet_nil ?_)
 refine Mix.a1 rfl fun W2 hW2=>?_
 obtain ⟨k2,rfl⟩:=hW2
 go_wp2_with fail
 refine ⟨fun k hk=>by rw [(HSS.out k).1 hk];exact (((Ch.refl (fun b=>b=xb) W1).drewN k2).set (fun _=>rfl) _).block _ T1.out.lt nx,?_⟩
 repeat ((first | refine Mix.q1 rfl ?_ | refine Mix.p1 rfl rfl ?_ | refine Mix.s1 rfl rfl ?_);go_big_quiet_step (fail);refine wpQuiet_nil ?_)
 refine Mix.e1 rfl fun W3 hW3=>?_
 obtain ⟨k3,rfl⟩:=hW3
 go_wp2_with fail
 intro k4
 refine at_world fun W4 hW4=>?_
 have T4:=hid (show Blk W4 w.heap.size 26 #[.int .u8 7,.int .i64 sl,.int .i64 pos,.int .i64 num,.int .u32 0,.int .u8 0,.string ⟨#[]⟩] from by rw [hW4];exact ((((T1.out.drewN k2).far nx _).drewN k3).far nx _).drewN k4)
 have X4:=hid (show Blk W4 xb 26 #[.int .u8 7,.int .i64 0,.int .i64 pos,.int .i64 num,.int .u32 0,.int .u8 0,.string ⟨#[]⟩] from by rw [hW4];exact ((((X1.out.drewN k2).put 2 _).drewN k3).put 3 _).drewN k4)
 have C4:=hid (show Ch (fun _=>False) w W4 from by rw [hW4];exact ((((C1.out.drewN k2).set (fun h=>absurd h (by have:=HXB.out;omega)) _).drewN k3).set (fun h=>absurd h (by have:=HXB.out;omega)) _).drewN k4)
 clear hW4 t2 t3 x2 x3 y2 y3
 have t1:W4.cell? ⟨w.heap.size,1,none⟩=some (.int .i64 sl):=T4.out.cell 1
 have x1:W4.cell? ⟨xb,1,none⟩=some (.int .i64 0):=X4.out.cell 1
 have y1:=X4.out.free 1
 go_wp2_with fail
 refine at_world fun W5 hW5=>?_
 have T5:=hid (show Blk W5 w.heap.size 26 #[.int .u8 7,.int .i64 sl,.int .i64 pos,.int .i64 num,.int .u32 0,.int .u8 0,.string ⟨#[]⟩] from by rw [hW5];exact T4.out.far nx _)
 have X5:=hid (show Blk W5 xb 26 #[.int .u8 7,.int .i64 sl,.int .i64 pos,.int .i64 num,.int .u32 0,.int .u8 0,.string ⟨#[]⟩] from by rw [hW5];exact X4.out.put 1 _)
 have C5:=hid (show Ch (fun _=>False) w W5 from by rw [hW5];exact C4.out.set (fun h=>absurd h (by have:=HXB.out;omega)) _)
 clear hW5 t1 x1 y1
 have t0:W5.cell? ⟨w.heap.size,0,none⟩=some (.int .u8 7):=T5.out.cell 0
 have x0:W5.cell? ⟨xb,0,none⟩=some (.int .u8 7):=X5.out.cell 0
 have t1:W5.cell? ⟨w.heap.size,1,none⟩=some (.int .i64 sl):=T5.out.cell 1
 have x1:W5.cell? ⟨xb,1,none⟩=some (.int .i64 sl):=X5.out.cell 1
 have t2:W5.cell? ⟨w.heap.size,2,none⟩=some (.int .i64 pos):=T5.out.cell 2
 have x2:W5.cell? ⟨xb,2,none⟩=some (.int .i64 pos):=X5.out.cell 2
 have t3:W5.cell? ⟨w.heap.size,3,none⟩=some (.int .i64 num):=T5.out.cell 3
 have x3:W5.cell? ⟨xb,3,none⟩=some (.int .i64 num):=X5.out.cell 3
 have t4:W5.cell? ⟨w.heap.size,4,none⟩=some (.int .u32 0):=T5.out.cell 4
 have x4:W5.cell? ⟨xb,4,none⟩=some (.int .u32 0):=X5.out.cell 4
 have t5:W5.cell? ⟨w.heap.size,5,none⟩=some (.int .u8 0):=T5.out.cell 5
 have x5:W5.cell? ⟨xb,5,none⟩=some (.int .u8 0):=X5.out.cell 5
 have t6:W5.cell? ⟨w.heap.size,6,none⟩=some (.string ⟨#[]⟩):=T5.out.cell 6
 have x6:W5.cell? ⟨xb,6,none⟩=some (.string ⟨#[]⟩):=X5.out.cell 6
 have a2:W5.cell? ⟨g,2,none⟩=some (.slice (some ⟨lb,0,none⟩) n n):=((C5.out.blk H.out (fun e=>e)).cell 2).trans (by rw [←HS.out];rfl)
 refine Mix.wp_region_mix (fun _=>True) (fun i=>([0,0,0,0,0,0,0,0,0,0,0,0,0,0,0,0,0,0,0,0,0,0,0,0,0,0,0,0,0,0,0,0]:List Nat).getD i 0) [0,1,2,3,4,5,6,7,8,9,10,11,12,13,14,15,16,17,18,19,20,21,22,23,24,25,26,27,28,29,30,31] (by kernel_rfl) (by kernel_rfl) ?_
 repeat ((first | refine Mix.q1 rfl ?_ | refine Mix.p1 rfl rfl ?_ | refine Mix.s1 rfl rfl ?_);go_big_quiet_step (fail);refine wpQuiet_nil ?_)
 intro k6
 go_wp2_with fail
 go_ret
 exact ⟨rfl,C5.out.drewN k6⟩
theorem formed_10f (g lb n:Nat) (r:Rd) (sl id:Int) (w:World) (h:Blk w g 111 r.cells) (hs:r.sl=.slice (some ⟨lb,0,none⟩) n n) (h1:0≤sl) (h2:sl < (n:Int)) (h5:id=0) :
  Calls Tryz.prog 93 #[.pointer (some ⟨g,0,none⟩),.agg #[.int .u8 10,.int .i64 sl,.int .i64 0,.int .i64 0,.int .u32 id,.int .u8 0,.string ⟨#[]⟩]] w fun e w'=>e=.returned (.bool false)∧Ch (fun _=>False) w w':=by
 have d1:decide (0≤sl)=true:=decide_eq_true h1
 have d2:decide (sl < (n:Int))=true:=decide_eq_true h2
 have d5:(id != 0)=false:=by rw [h5];rfl
 have H:=hid h
 have HS:=hid hs
 have lg:=h.lt
 clear h hs h1 h2 h5
 go_enter Tryz.func93,Tryz.ntmps93
 go_wp2_with fail
 obtain ⟨xb,hxb⟩:∃x,x=w.heap.size+1:=⟨_,rfl⟩
 rw [←hxb]
 have nx:w.heap.size≠xb:=by omega
 have nx2:xb≠w.heap.size:=Ne.symm nx
 obtain ⟨S,hS⟩:∃S:Nat→Prop,∀k,S k↔k=w.heap.size:=⟨_,fun _=>Iff.rfl⟩
 have hSp:Mix.Has S w.heap.size:=(hS _).2 rfl
 have HSS:=hid hS
 have HXB:=hid hxb
 clear hS hxb
 refine Mix.wp_region_mix S (fun i=>([0,0,1,4,1,0,3,0]:List Nat).getD i 0) [0,1,2,3,4,5,6,7] (by kernel_rfl) (by kernel_rfl) ?_
 refine Mix.mix_world fun W1 hW1=>?_
 have T1:=hid (show Blk W1 w.heap.size 26 #[.int .u8 10,.int .i64 sl,.int .i64 0,.int .i64 0,.int .u32 id,.int .u8 0,.string ⟨#[]⟩] from by rw [hW1];exact (Blk.new w _ _).alloc _)
 have X1:=hid (show Blk W1 xb 26 #[.int .u8 10,.int .i64 0,.int .i64 0,.int .i64 0,.int .u32 0,.int .u8 0,.string ⟨#[]⟩] from by rw [hW1,HXB.out];have t:=Blk.new (w.alloc (.cells #[.int .u8 10,.int .i64 sl,.int .i64 0,.int .i64 0,.int .u32 id,.int .u8 0,.string ⟨#[]⟩] 26)) 26 #[.int .u8 10,.int .i64 0,.int .i64 0,.int .i64 0,.int .u32 0,.int .u8 0,.string ⟨#[]⟩];simpa using t)
 have C1:=hid (show Ch (fun _=>False) w W1 from by rw [hW1];exact ((Ch.refl _ w).alloc _).alloc _)
 clear hW1
 have t4:W1.cell? ⟨w.heap.size,4,none⟩=some (.int .u32 id):=T1.out.cell 4
 have x4:W1.cell? ⟨xb,4,none⟩=some (.int .u32 0):=X1.out.cell 4
 have y4:=X1.out.free 4
 repeat ((first | refine Mix.q1 rfl ?_ | refine Mix.p1 rfl rfl ?_ | refine Mix.s1 rfl rfl ?_);go_big_quiet_step (fail);refine wpQuiet_nil ?_)
 refine Mix.a1 rfl fun W2 hW2=>?_
 obtain ⟨k2,rfl⟩:=hW2
 go_wp2_with fail
 refine ⟨fun k hk=>by rw [(HSS.out k).1 hk];exact (((Ch.refl (fun b=>b=xb) W1).drewN k2).set (fun _=>rfl) _).block _ T1.out.lt nx,?_⟩
 repeat ((first | refine Mix.q1 rfl ?_ | refine Mix.p1 rfl rfl ?_ | refine Mix.s1 rfl rfl ?_);go_big_quiet_step (fail);refine wpQuiet_nil ?_)
 intro k4
 refine at_world fun W4 hW4=>?_
 have T4:=hid (show Blk W4 w.heap.size 26 #[.int .u8 10,.int .i64 sl,.int .i64 0,.int .i64 0,.int .u32 id,.int .u8 0,.string ⟨#[]⟩] from by rw [hW4];exact ((T1.out.drewN k2).far nx _).drewN k4)
 have X4:=hid (show Blk W4 xb 26 #[.int .u8 10,.int .i64 0,.int .i64 0,.int .i64 0,.int .u32 id,.int .u8 0,.string ⟨#[]⟩] from by rw [hW4];exact ((X1.out.drewN k2).put 4 _).drewN k4)
 have C4:=hid (show Ch (fun _=>False) w W4 from by rw [hW4];exact ((C1.out.drewN k2).set (fun h=>absurd h (by have:=HXB.out;omega)) _).drewN k4)
 clear hW4 t4 x4 y4
 have t1:W4.cell? ⟨w.heap.size,1,none⟩=some (.int .i64 sl):=T4.out.cell 1
 have x1:W4.cell? ⟨xb,1,none⟩=some (.int .i64 0):=X4.out.cell 1
 have y1:=X4.out.free 1
 go_wp2_with fail
 refine at_world fun W5 hW5=>?_
 have T5:=hid (show Blk W5 w.heap.size 26 #[.int .u8 10,.int .i64 sl,.int .i64 0,.int .i64 0,.int .u32 id,.int .u8 0,.string ⟨#[]⟩] from by rw [hW5];exact T4.out.far nx _)
 have X5:=hid (show Blk W5 xb 26 #[.int .u8 10,.int .i64 sl,.int .i64 0,.int .i64 0,.int .u32 id,.int .u8 0,.string ⟨#[]⟩] from by rw [hW5];exact X4.out.put 1 _)
 have C5:=hid (show Ch (fun _=>False) w W5 from by rw [hW5];exact C4.out.set (fun h=>absurd h (by have:=HXB.out;omega)) _)
 clear hW5 t1 x1 y1
 have t0:W5.cell? ⟨w.heap.size,0,none⟩=some (.int .u8 10):=T5.out.cell 0
 have x0:W5.cell? ⟨xb,0,none⟩=some (.int .u8 10):=X5.out.cell 0
 have t1:W5.cell? ⟨w.heap.size,1,none⟩=some (.int .i64 sl):=T5.out.cell 1
 have x1:W5.cell? ⟨xb,1,none⟩=some (.int .i64 sl):=X5.out.cell 1
 have t2:W5.cell? ⟨w.heap.size,2,none⟩=some (.int .i64 0):=T5.out.cell 2
 have x2:W5.cell? ⟨xb,2,none⟩=some (.int .i64 0):=X5.out.cell 2
 have t3:W5.cell? ⟨w.heap.size,3,none⟩=some (.int .i64 0):=T5.out.cell 3
 have x3:W5.cell? ⟨xb,3,none⟩=some (.int .i64 0):=X5.out.cell 3
 have t4:W5.cell? ⟨w.heap.size,4,none⟩=some (.int .u32 id):=T5.out.cell 4
 have x4:W5.cell? ⟨xb,4,none⟩=some (.int .u32 id):=X5.out.cell 4
 have t5:W5.cell? ⟨w.heap.size,5,none⟩=some (.int .u8 0):=T5.out.cell 5
 have x5:W5.cell? ⟨xb,5,none⟩=some (.int .u8 0):=X5.out.cell 5
 have t6:W5.cell? ⟨w.heap.size,6,none⟩=some (.string ⟨#[]⟩):=T5.out.cell 6
 have x6:W5.cell? ⟨xb,6,none⟩=some (.string ⟨#[]⟩):=X5.out.cell 6
 have a2:W5.cell? ⟨g,2,none⟩=some (.slice (some ⟨lb,0,none⟩) n n):=((C5.out.blk H.out (fun e=>e)).cell 2).trans (by rw [←HS.out];rfl)
 refine Mix.wp_region_mix (fun _=>True) (fun i=>([0,0,0,0,0,0,0,0,0,0,0,0,0,0,0,0,0,0,0,0,0,0,0,0,0,0,0,0,0,0,0,0]:List Nat).getD i 0) [0,1,2,3,4,5,6,7,8,9,10,11,12,13,14,15,16,17,18,19,20,21,22,23,24,25,26,27,28,29,30,31] (by kernel_rfl) (by kernel_rfl) ?_
 repeat ((first | refine Mix.q1 rfl ?_ | refine Mix.p1 rfl rfl ?_ | refine Mix.s1 rfl rfl ?_);go_big_quiet_step (fail);refine wpQuiet_nil ?_)
 intro k6
 go_wp2_with fail
 go_ret
 exact ⟨rfl,C5.out.drewN k6⟩
theorem formed_5f (g:Nat) (w:World):Calls Tryz.prog 93 #[.pointer (some ⟨g,0,none⟩),.agg #[.int .u8 5,.int .i64 0,.int .i64 0,.int .i64 1,.int .u32 0,.int .u8 0,.string ⟨#[]⟩]] w fun e w'=>e=.returned (.bool false)∧Ch (fun _=>False) w w':=by
 have hne:∀W:World,(binOp .eql 26 (.agg #[.int .u8 5,.int .i64 0,.int .i64 0,.int .i64 1,.int .u32 0,.int .u8 0,.string ⟨#[]⟩]) (.agg #[.int .u8 5,.int .i64 0,.int .i64 0,.int .i64 0,.int .u32 0,.int .u8 0,.string ⟨#[]⟩])).run Tryz.prog W=.ok (.bool false) W:=fun W=>by kernel_rfl
 go_enter Tryz.func93,Tryz.ntmps93
 go_wp2_with fail
 go_ret
 exact ⟨rfl,((Ch.refl _ w).alloc _).alloc _⟩
def FormedF (g:Nat) (r:Rd) (op:OpV):Prop:=∀W:World,Blk W g 111 r.cells→Calls Tryz.prog 93 #[.pointer (some ⟨g,0,none⟩),op.v] W fun e w'=>e=.returned (.bool false)∧Ch (fun _=>False) W w'
theorem check_bad (g:Nat) (r:Rd) (op:OpV) (w:World) (h:Blk w g 111 r.cells) (hF:FormedF g r op) :
  Calls Tryz.prog 61 #[.pointer (some ⟨g,0,none⟩),op.v] w fun e w'=>e=.returned (.int .i64 2)∧Ch (fun _=>False) w w':=by
 have HF:=hid hF
 have H:=hid h
 simp only [OpV.v] at HF ⊢
 clear h hF
 go_enter Tryz.func61,Tryz.ntmps61
 go_wp2_with fail
 refine calls_world fun W1 hW1=>?_
 have C1:=hid (show Ch (fun _=>False) w W1 from by rw [hW1];exact (Ch.refl _ w).alloc _)
 clear hW1
 refine (HF.out W1 (C1.out.blk H.out id)).mono ?_
 rintro e w2 ⟨rfl,hc⟩
 have C2:=hid (C1.out.trans hc (fun _ _ h=>h))
 clear hc
 go_wp2_with fail
 go_ret
 exact ⟨rfl,C2.out⟩
def exOp:Nat→OpV
 | 0=>⟨7,0,0,0,0,0,⟨#[]⟩⟩
 | 1=>⟨7,1,0,0,0,0,⟨#[]⟩⟩
 | 2=>⟨5,0,0,1,0,0,⟨#[]⟩⟩
 | 3=>⟨5,0,0,0,0,0,⟨#[]⟩⟩
 | 4=>⟨5,0,0,0,0,0,⟨#[]⟩⟩
 | 5=>⟨7,0,8,4,0,0,⟨#[]⟩⟩
 | 6=>⟨7,0,18,3,0,0,⟨#[]⟩⟩
 | 7=>⟨7,0,20,0,0,0,⟨#[]⟩⟩
 | 8=>⟨12,0,0,3,0,0,⟨#[]⟩⟩
 | 9=>⟨12,0,0,100,0,0,⟨#[]⟩⟩
 | 10=>⟨12,0,0,1,0,0,⟨#[]⟩⟩
 | 11=>⟨11,0,21,0,0,0,⟨#[]⟩⟩
 | 12=>⟨11,0,7,0,0,0,⟨#[]⟩⟩
 | 13=>⟨8,0,0,12,0,0,⟨#[]⟩⟩
 | 14=>⟨8,0,0,20,0,0,⟨#[]⟩⟩
 | 15=>⟨9,0,0,0,0,0,⟨#[]⟩⟩
 | 16=>⟨9,0,0,1,0,0,⟨#[]⟩⟩
 | 17=>⟨10,0,0,0,1,0,⟨#[]⟩⟩
 | 18=>⟨10,0,0,0,0,0,⟨#[]⟩⟩
 | 19=>⟨6,0,0,0,0,0,⟨#[]⟩⟩
 | 20=>⟨13,0,0,0,0,0,⟨#[]⟩⟩
 | _=>⟨6,0,0,0,0,0,⟨#[]⟩⟩
def exP:Nat→List Int
 | 3=>[2,9,10,11]
 | 4=>[2]
 | 5=>[12,12,12,12]
 | 8=>[12,12]
 | 9=>[12,12,12,12]
 | 13=>[12,12]
 | 20=>[10]
 | _=>[1]
def exX:Nat→RsV
 | 0=>{ RsV.zero with er:=16 }
 | 1=>{ RsV.zero with er:=2 }
 | 2=>{ RsV.zero with er:=2 }
 | 4=>{ RsV.zero with er:=15 }
 | 5=>{ RsV.zero with s:=⟨#[105,106,107,108]⟩ }
 | 6=>{ RsV.zero with er:=3 }
 | 8=>{ RsV.zero with s:=⟨#[97,98,99]⟩,at':=3 }
 | 9=>{ RsV.zero with s:=⟨#[100,101,102,103,104,105,106,107,108,109,110,111,112,113,114,115,116]⟩,at':=20 }
 | 10=>{ RsV.zero with at':=20 }
 | 11=>{ RsV.zero with er:=3 }
 | 12=>{ RsV.zero with at':=7 }
 | 13=>{ RsV.zero with at':=12 }
 | 14=>{ RsV.zero with at':=20 }
 | 16=>{ RsV.zero with er:=3 }
 | 17=>{ RsV.zero with er:=7 }
 | 18=>{ RsV.zero with er:=2 }
 | 19=>{ RsV.zero with b:=20,r:=20 }
 | 21=>{ RsV.zero with er:=16 }
 | _=>RsV.zero
def exO (k:Nat):Option Int:=if k≤3∨21≤k then none else some (if k≤8 then 0 else if k=9 then 3 else if k≤12 then 20 else 7)
theorem exX5:(⟨((exL.drop 8).take 4).toArray⟩:ByteArray)=⟨#[105,106,107,108]⟩:=rfl
theorem exX8:(⟨((exL.drop 0).take 3).toArray⟩:ByteArray)=⟨#[97,98,99]⟩:=rfl
theorem exX9:(⟨((exL.drop 3).take 17).toArray⟩:ByteArray)=⟨#[100,101,102,103,104,105,106,107,108,109,110,111,112,113,114,115,116]⟩:=rfl
section
variable {B:Nat} {w0:World} {σ:RS} {y:Ly} {k:Nat} (K:RnOk σ y 1 0 [exL] none) (hb:σ.r.busy=false) (hl:σ.s.lg.length < 700000)
theorem ex_nomark {s:Snp} (hm:s.ms=[]) (i:Int) (pg:Pg) (h:RunP s exL pg (.mark 0 i)):pg=errP 7:=by
 rcases h with ⟨_,h⟩ | ⟨x,hx,_⟩
 ·exact h
 ·rw [hm] at hx
  cases hx
theorem mL_ex:(mL exL).b=20∧(mL exL).r=20∧(mL exL).l=0:=by decide +kernel
theorem ck_bad (g lb:Nat) (r:Rd) (op:OpV) (hs:r.sl=.slice (some ⟨lb,0,none⟩) 1 1) (ho:op=exOp 1∨op=exOp 2∨op=exOp 18) (W:World) (H:Blk W g 111 r.cells) :
  Calls Tryz.prog 61 #[.pointer (some ⟨g,0,none⟩),op.v] W fun e w'=>e=.returned (.int .i64 2)∧Ch (fun _=>False) W w':=by
 rcases ho with rfl | rfl | rfl
 ·exact check_bad g r (exOp 1) W H (fun W h=>formed_7f g lb 1 r 1 0 0 W h hs (by decide) (by decide) (by decide) (by decide))
 ·exact check_bad g r (exOp 2) W H (fun W _=>formed_5f g W)
 ·exact check_bad g r (exOp 18) W H (fun W h=>formed_10f g lb 1 r 0 0 W h hs (by decide) (by decide) rfl)
include K hb hl
theorem fin_ex (hk:k < 22) (E:ExS σ (exO k)):FinX B w0 σ y (exOp k) (exP k) (exX k) (exO (k+1)):=by
 have hn20:=exL_len
 have hc1:cntP begB (u8s exL)=20:=ex_cnt
 have hc2:cntP isLF (u8s exL)=0:=ex_lf
 have hbad:∀j,(exOp j=exOp 1∨exOp j=exOp 2∨exOp j=exOp 18)→∀W,Blk W σ.g 111 (RS.beg σ (exOp j)).r.cells→Calls Tryz.prog 61 #[.pointer (some ⟨σ.g,0,none⟩),(exOp j).v] W fun e w'=>e=.returned (.int .i64 2)∧Ch (fun _=>False) W w':=fun j hj W h=>ck_bad σ.g σ.lb (RS.beg σ (exOp j)).r _ K.O.sl hj W h
 match k,hk with
 | 0,_=>exact x_loc E K hb hl (.read 0 0 0) _ ⟨by decide,by decide,by decide⟩ (fun pg h=>start_free h (by nofun) rfl E.free)
 | 1,_=>exact x_bad K hb hl (exOp 1) (by decide) (by decide) E (hbad 1 (.inl rfl))
 | 2,_=>exact x_bad K hb hl (exOp 2) (by decide) (by decide) E (hbad 2 (.inr (.inl rfl)))
 | 3,_=>exact x_acq E K hb hl E.free
 | 4,_=>
  obtain ⟨s,h1,h2,h3⟩:=E.held
  refine x_one (o':=exO 5) E K hb hl .acq .clos 2 _ trivial (fun pg h=>?_) (fun σ1 b h=>h.2.2.1) (fun σ1 σ2 hv pg' S1 e1 e2 K1 S2 hn=>?_)
  ·rcases h with ⟨_,h⟩ | ⟨h,_⟩
   ·exact h
   ·exact absurd rfl h
  ·have hf:free1 (σ1.sl.map sptr) 0 = -1:=by rw [e2,h2];rfl
   obtain ⟨_,g1,g2,h | h | h⟩:=hn
   ·rw [e1] at h
    exact absurd E.cl h.1
   ·exact ⟨h.2.2,E.same (S1.trans S2) (by rw [g1,e1];rfl) (by rw [g1,e1];rfl) (g2.trans e2)⟩
   ·obtain ⟨_,k,h4,_⟩:=h
    rw [hf] at h4
    omega
 | 5,_=>
  obtain ⟨s,h1,h2,h3⟩:=E.held
  have t:=x_bytes (B:=B) (w0:=w0) E K hb hl (.read 0 8 4) false 8 4 ⟨by decide,by decide,by decide⟩ h2 h3 (fun pg h=>by
   rcases start_held h (by nofun) rfl h2 with ⟨h,_⟩ | ⟨_,h,_⟩ | ⟨_,_,jx,g1,g2⟩
   ·omega
   ·omega
   ·exact ⟨jx,g1,g2⟩) [12,12,12,12] (.inr ⟨rfl,by decide,by decide,by decide⟩)
  rw [exX5] at t
  have e:s.cu=0:=h1
  rw [if_neg (by decide),e] at t
  exact t
 | 6,_=>
  obtain ⟨s,h1,h2,h3⟩:=E.held
  exact x_loc E K hb hl (.read 0 18 3) _ ⟨by decide,by decide,by decide⟩ (fun pg h=>by
   rcases start_held h (by nofun) rfl h2 with ⟨_,h⟩ | ⟨h,_⟩ | ⟨h,_⟩
   ·exact h
   ·omega
   ·omega)
 | 7,_=>
  obtain ⟨s,h1,h2,h3⟩:=E.held
  refine x_one (o':=exO 8) E K hb hl (.read 0 20 0) (.take 0 false 20) 1 _ ⟨by decide,by decide,by decide⟩ (fun pg h=>?_) (fun σ1 b h=>h.2.2.1) (fun σ1 σ2 hv pg' S1 e1 e2 K1 S2 hn=>?_)
  ·rcases start_held h (by nofun) rfl h2 with ⟨h,_⟩ | ⟨_,_,h⟩ | ⟨_,h,_⟩
   ·omega
   ·exact h
   ·omega
  ·obtain ⟨_,g1,g2,rfl⟩:=hn
   exact ⟨rfl,E.same (S1.trans S2) (by rw [g1,e1]) (by rw [g1,e1]) (Eq.trans g2 e2)⟩
 | 8,_=>
  obtain ⟨s,h1,h2,h3⟩:=E.held
  have e:s.cu=0:=h1
  have t:=x_bytes (B:=B) (w0:=w0) E K hb hl (.next 0 3) true 0 3 ⟨by decide,by decide⟩ h2 h3 (fun pg h=>by
   obtain ⟨c,hc,h | ⟨_,jx,g1,g2⟩⟩:=start_held h (by nofun) rfl h2
   ·obtain rfl:c=0:=by omega
    omega
   ·obtain rfl:c=0:=by omega
    exact ⟨jx,g1,by rw [g2,hn20];rfl⟩) [12,12] (.inl ⟨rfl,by decide,by decide⟩)
  rw [exX8] at t
  exact t
 | 9,_=>
  obtain ⟨s,h1,h2,h3⟩:=E.held
  have e:s.cu=3:=h1
  have t:=x_bytes (B:=B) (w0:=w0) E K hb hl (.next 0 100) true 3 17 ⟨by decide,by decide⟩ h2 h3 (fun pg h=>by
   obtain ⟨c,hc,h | ⟨_,jx,g1,g2⟩⟩:=start_held h (by nofun) rfl h2
   ·obtain rfl:c=3:=by omega
    omega
   ·obtain rfl:c=3:=by omega
    exact ⟨jx,g1,by rw [g2,hn20];rfl⟩) [12,12,12,12] (.inr ⟨rfl,by decide,by decide,by decide⟩)
  rw [exX9] at t
  exact t
 | 10,_=>
  obtain ⟨s,h1,h2,h3⟩:=E.held
  have e:s.cu=20:=h1
  refine x_one (o':=exO 11) E K hb hl (.next 0 1) (.take 0 true 20) 1 _ ⟨by decide,by decide⟩ (fun pg h=>?_) (fun σ1 b h=>h.2.2.1) (fun σ1 σ2 hv pg' S1 e1 e2 K1 S2 hn=>?_)
  ·obtain ⟨c,hc,⟨_,h⟩ | ⟨h,_⟩⟩:=start_held h (by nofun) rfl h2
   ·obtain rfl:c=20:=by omega
    exact h
   ·obtain rfl:c=20:=by omega
    omega
  ·obtain ⟨_,g1,g2,rfl⟩:=hn
   exact ⟨rfl,E.read h2 h3 (S1.trans S2) e1 e2 g1 (a:=true) (c:=20) g2⟩
 | 11,_=>
  obtain ⟨s,h1,h2,h3⟩:=E.held
  exact x_loc E K hb hl (.seek 0 21) _ ⟨by decide,by decide⟩ (fun pg h=>by
   rcases start_held h (by nofun) rfl h2 with ⟨_,h⟩ | ⟨h,_⟩
   ·exact h
   ·omega)
 | 12,_=>
  obtain ⟨s,h1,h2,h3⟩:=E.held
  refine x_one (o':=exO 13) E K hb hl (.seek 0 7) (.seek 0 7) 1 _ ⟨by decide,by decide⟩ (fun pg h=>?_) (fun σ1 b h=>h.2.2.1) (fun σ1 σ2 hv pg' S1 e1 e2 K1 S2 hn=>?_)
  ·rcases start_held h (by nofun) rfl h2 with ⟨h,_⟩ | ⟨_,h⟩
   ·omega
   ·exact h
  ·obtain ⟨_,g1,g2,rfl⟩:=hn
   exact ⟨rfl,E.read h2 h3 (S1.trans S2) e1 e2 g1 (a:=true) (c:=7) g2⟩
 | 13,_=>
  obtain ⟨s,h1,h2,h3⟩:=E.held
  exact x_rune E K hb hl h2
 | 14,_=>
  obtain ⟨s,h1,h2,h3⟩:=E.held
  exact x_loc E K hb hl (.rune 0 20) _ ⟨by decide,by decide⟩ (fun pg h=>by
   rcases start_held h (by nofun) rfl h2 with ⟨h,_⟩ | ⟨_,h⟩ | ⟨h,_⟩
   ·omega
   ·rw [h,hn20]
    rfl
   ·omega)
 | 15,_=>
  obtain ⟨s,h1,h2,h3⟩:=E.held
  exact x_loc E K hb hl (.line 0 0) _ ⟨by decide,by decide⟩ (fun pg h=>by
   rcases start_held h (by nofun) rfl h2 with ⟨h,_⟩ | ⟨_,h⟩ | ⟨_,h,_⟩
   ·omega
   ·exact h
   ·omega)
 | 16,_=>
  obtain ⟨s,h1,h2,h3⟩:=E.held
  exact x_loc E K hb hl (.line 0 1) _ ⟨by decide,by decide⟩ (fun pg h=>by
   rcases start_held h (by nofun) rfl h2 with ⟨_,h⟩ | ⟨h,_⟩ | ⟨h,_⟩
   ·exact h
   ·omega
   ·omega)
 | 17,_=>
  obtain ⟨s,h1,h2,h3⟩:=E.held
  exact x_loc E K hb hl (.mark 0 1) _ ⟨by decide,by decide,by decide⟩ (fun pg h=>ex_nomark h3 1 pg (start_held h (by nofun) rfl h2))
 | 18,_=>exact x_bad K hb hl (exOp 18) (by decide) (by decide) E (hbad 18 (.inr (.inr rfl)))
 | 19,_=>
  obtain ⟨s,h1,h2,h3⟩:=E.held
  exact x_loc E K hb hl (.len 0) _ Nat.zero_lt_one (fun pg h=>by
   have h:pg=_:=start_held h (by nofun) rfl h2
   rw [h,mL_ex.1,mL_ex.2.1,mL_ex.2.2]
   rfl)
 | 20,_=>
  obtain ⟨s,h1,h2,h3⟩:=E.held
  refine x_one (o':=exO 21) E K hb hl (.rel 0) (.rel 0) 10 _ Nat.zero_lt_one (fun pg h=>?_) (fun σ1 b h=>h.2.2.1) (fun σ1 σ2 hv pg' S1 e1 e2 K1 S2 hn=>?_)
  ·exact start_held h (by nofun) rfl h2
  ·obtain ⟨_,g1,g2,rfl⟩:=hn
   obtain ⟨l0,l1⟩:=lk_slot (m:=0) K1 (k:=0) (by decide) σ1.r.cl 0
   exact ⟨rfl,E.mk' (S1.trans S2) (by rw [g1,l0,e1]) (by rw [g1,l1,e1]) (.inl ⟨rfl,by rw [g2,e2,h2];rfl⟩)⟩
 | 21,_=>exact x_loc E K hb hl (.len 0) _ Nat.zero_lt_one (fun pg h=>start_free h (by nofun) rfl E.free)
 | k+22,h=>omega
end
theorem eqItem_same (k f t:Int) (w:World):Calls Tryz.prog 43 #[.agg #[.int .u8 k,.int .i64 f,.int .i64 t,.slice none 0 0],.agg #[.int .u8 k,.int .i64 f,.int .i64 t,.slice none 0 0]] w fun e w'=>e=.returned (.bool true)∧Ch (fun _=>False) w w':=by
 have b1:(k == k)=true:=beq_self_eq_true _
 have b2:(f == f)=true:=beq_self_eq_true _
 have b3:(t == t)=true:=beq_self_eq_true _
 go_enter Tryz.func43,Tryz.ntmps43
 go_wp2_with fail
 refine calls_world fun W hW=>?_
 have C:=hid (show Ch (fun _=>False) w W from by rw [hW];exact ((Ch.refl _ w).alloc _).alloc _)
 clear hW
 refine (eqPieces_any none none 0 0 0 [] W ⟨rfl,fun h=>absurd h (by decide)⟩ ⟨rfl,fun h=>absurd h (by decide)⟩ (by decide)).mono ?_
 rintro e w' ⟨rfl,k,rfl⟩
 go_wp2_with fail
 go_ret
 exact ⟨rfl,C.out.drewN k⟩
theorem eqResult_same (x:RsV) (w:World):Calls Tryz.prog 16 #[x.v,x.v] w fun e w'=>e=.returned (.bool true)∧Ch (fun _=>False) w w':=by
 have b1:(x.er == x.er)=true:=beq_self_eq_true _
 have b2:(x.rev == x.rev)=true:=beq_self_eq_true _
 have b3:(x.sl == x.sl)=true:=beq_self_eq_true _
 have b4:(x.at' == x.at')=true:=beq_self_eq_true _
 have b5:(x.g == x.g)=true:=beq_self_eq_true _
 have b6:(x.s.toList == x.s.toList)=true:=beq_self_eq_true _
 have b7:(x.b == x.b)=true:=beq_self_eq_true _
 have b8:(x.r == x.r)=true:=beq_self_eq_true _
 have b9:(x.l == x.l)=true:=beq_self_eq_true _
 simp only [RsV.v]
 go_enter Tryz.func16,Tryz.ntmps16
 go_wp2_with fail
 refine calls_world fun W hW=>?_
 have C:=hid (show Ch (fun _=>False) w W from by rw [hW];exact ((Ch.refl _ w).alloc _).alloc _)
 clear hW
 refine (eqItem_same x.ik x.fr x.to W).mono ?_
 rintro e w' ⟨rfl,c⟩
 go_wp2_with fail
 go_ret
 exact ⟨rfl,C.out.trans c (fun _ _ e=>e)⟩
def SameU8 (w:World) (a:Option Addr) (n:Nat) (xs:List Int):Prop:=xs.length=n∧(0 < n→∃b off,a=some ⟨b,off,none⟩∧∀i,i < n→w.cell? ⟨b,off+i,none⟩=some (.int .u8 (lk xs i)))
theorem eqBytes_any (a b:Option Addr) (n ca cb:Nat) (xs:List Int) (w:World) (ha:SameU8 w a n xs) (hb:SameU8 w b n xs) (hn:n < 1000000) :
  Calls Tryz.prog 22 #[.slice a n ca,.slice b n cb] w fun e w'=>e=.returned (.bool true)∧∃k,w'=w.drewN k:=by
 have hne:((n:Int) != (n:Int))=false:=by simp
 go_enter Tryz.func22,Tryz.ntmps22
 go_wp2_with fail
 go_loopw [5] (fun i wr=>∃k:Nat,k≤n∧i=.int .i64 k∧∃d,wr=w.drewN d) (fun i _=>n - (intOf i).toNat)
 case atStart=>exact ⟨0,Nat.zero_le _,rfl,0,rfl⟩
 case round=>
  obtain ⟨k,hk,rfl,d,rfl⟩:=hrel
  by_cases hlt:k < n
  ·obtain ⟨b1,o1,rfl,h1⟩:=ha.2 (by omega)
   obtain ⟨b2,o2,rfl,h2⟩:=hb.2 (by omega)
   have c1:=h1 k hlt
   have c2:=h2 k hlt
   clear h1 h2
   have he':(lk xs k != lk xs k)=false:=by simp
   go_wp2_with fail
   go_quiet (fail)
   go_wp2_with fail
   go_roundw
   case rel=>exact ⟨k+1,by omega,by go_num,_,rfl⟩
   case measure=>simp [intOf];omega
  ·obtain rfl:k=n:=by omega
   go_wp2_with fail
   go_ret
   exact ⟨rfl,_,rfl⟩
theorem u8_of_own {w:World} {B n c:Nat} {A:Option Addr} {xs:List Int} (h:w.ownsRow B 5 1 (.slice A n c) n (xs.map (Value.int .u8))):SameU8 w A n xs:=by
 have hl:xs.length=n:=by have:=h.1;simpa using this
 refine ⟨hl,fun h0=>?_⟩
 obtain ⟨g,cap,hv,_,_,_,hg⟩:=own_form h h0
 injection hv with hA _ _
 subst hA
 refine ⟨g,0,rfl,fun i hi=>?_⟩
 have hc:=h.cells (g:=g) rfl i (.int .u8 (lk xs i)) (by simp [lk,show i < xs.length by omega])
 rw [addr_add0] at hc
 rw [Nat.zero_add];exact hc
theorem u8_of_blk {w:World} {g n:Nat} {xs:List Int} (h:Blk w g 5 (xs.map (Value.int .u8)).toArray) (hl:xs.length=n):SameU8 w (some ⟨g,0,none⟩) n xs:=by
 refine ⟨hl,fun _=>⟨g,0,rfl,fun i hi=>?_⟩⟩
 have:=h.cell i
 rw [Nat.zero_add,this]
 simp [lk,show i < xs.length by omega]
theorem rnew_far (sb:Nat) (cs:Array Value) (c:Cf) (cl:Int) (w:World) (hS:Blk w sb 125 cs) (hc:∀(j:Nat) (v:Value),c.arr[j]?=some v→cs[j]?=some v) (hcl:0≤cl∧c.cl≤cl) :
  Calls Tryz.prog 20 #[.pointer (some ⟨sb,0,none⟩),.int .i64 cl] w fun e w'=>e=.returned (.tuple #[.pointer none,.int .i64 3])∧Ch (fun _=>False) w w':=by
 have HC:=hid (fun W (hW:Blk W sb 125 cs)=>sconfig_any sb cs c W hW hc)
 have HS:=hid hS
 obtain ⟨c0,c1,c2,c3,c4,c5,c6,c7⟩:=c
 simp only at hcl
 simp only [Cf.arr] at HC
 have d1:decide (cl < 0)=false:=decide_eq_false (by omega)
 have d2:decide (c2≤cl)=true:=decide_eq_true (by omega)
 clear hS hc hcl
 go_enter Tryz.func20,Tryz.ntmps20
 go_wp2_with fail
 refine (HC.out w HS.out).mono ?_
 rintro e w1 ⟨rfl,hc⟩
 have C1:=hid hc
 clear hc
 go_wp2_with fail
 go_ret2
 exact ⟨rfl,C1.out.alloc _⟩
theorem rnew_nil (cl:Int) (w:World):Calls Tryz.prog 20 #[.pointer none,.int .i64 cl] w fun e w'=>e=.returned (.tuple #[.pointer none,.int .i64 1])∧w=w':=by
 go_enter Tryz.func20,Tryz.ntmps20
 go_wp2_with fail
 go_ret2
 exact ⟨rfl,rfl⟩
theorem rstep_nil (w:World):Calls Tryz.prog 15 #[.pointer none] w fun e w'=>e=.returned (.tuple #[.agg #[.int .i64 0,.int .u8 0,.bool false,.int .u64 0,.bool false,.bool false],.int .i64 1])∧Ch (fun _=>False) w w':=by
 go_enter Tryz.func15,Tryz.ntmps15
 go_wp2_with fail
 refine at_world fun WZ hWZ=>?_
 have BZ:Blk WZ w.heap.size 57 #[.int .i64 0,.int .u8 0,.bool false,.int .u64 0,.bool false,.bool false]:=by rw [hWZ];exact Blk.new w _ _
 have CZ:Ch (fun _=>False) w WZ:=by rw [hWZ];exact (Ch.refl _ w).alloc _
 clear hWZ
 have t0:WZ.cell? ⟨w.heap.size,0,none⟩=some (.int .i64 0):=BZ.cell 0
 have t1:WZ.cell? ⟨w.heap.size,1,none⟩=some (.int .u8 0):=BZ.cell 1
 have t2:WZ.cell? ⟨w.heap.size,2,none⟩=some (.bool false):=BZ.cell 2
 have t3:WZ.cell? ⟨w.heap.size,3,none⟩=some (.int .u64 0):=BZ.cell 3
 have t4:WZ.cell? ⟨w.heap.size,4,none⟩=some (.bool false):=BZ.cell 4
 have t5:WZ.cell? ⟨w.heap.size,5,none⟩=some (.bool false):=BZ.cell 5
 refine bodyPost_ret (v:=.tuple #[.agg #[.int .i64 0,.int .u8 0,.bool false,.int .u64 0,.bool false,.bool false],.int .i64 1]) (by simp [results,Tryz.results15,go_sem,t0,t1,t2,t3,t4,t5]) rfl ⟨rfl,CZ⟩
theorem rsnap_nil (k:Int) (w:World):Calls Tryz.prog 52 #[.pointer none,.int .i64 k] w fun e w'=>e=.returned (.tuple #[.pointer none,.int .i64 1])∧w=w':=by
 go_enter Tryz.func52,Tryz.ntmps52
 go_wp2_with fail
 go_ret2
 exact ⟨rfl,rfl⟩
theorem rrev_nil (k:Int) (w:World):Calls Tryz.prog 23 #[.pointer none,.int .i64 k] w fun e w'=>e=.returned (.tuple #[.int .i64 0,.int .i64 1])∧w=w':=by
 go_enter Tryz.func23,Tryz.ntmps23
 go_wp2_with fail
 refine (rsnap_nil k w).mono ?_
 rintro e w' ⟨rfl,rfl⟩
 go_wp2_with fail
 go_ret2
 exact ⟨rfl,rfl⟩
theorem rcur_nil (k:Int) (w:World):Calls Tryz.prog 21 #[.pointer none,.int .i64 k] w fun e w'=>e=.returned (.tuple #[.int .i64 0,.int .i64 1])∧w=w':=by
 go_enter Tryz.func21,Tryz.ntmps21
 go_wp2_with fail
 refine (rsnap_nil k w).mono ?_
 rintro e w' ⟨rfl,rfl⟩
 go_wp2_with fail
 go_ret2
 exact ⟨rfl,rfl⟩
theorem rbegin_nil (op:OpV) (w:World):Calls Tryz.prog 13 #[.pointer none,op.v] w fun e w'=>e=.returned (.int .i64 1)∧Ch (fun _=>False) w w':=by
 simp only [OpV.v]
 go_enter Tryz.func13,Tryz.ntmps13
 go_wp2_with fail
 go_ret
 exact ⟨rfl,(Ch.refl _ w).alloc _⟩
theorem rnext_nil (w:World):Calls Tryz.prog 24 #[.pointer none] w fun e w'=>e=.returned (.int .u8 0)∧w=w':=by
 go_enter Tryz.func24,Tryz.ntmps24
 go_wp2_with fail
 go_ret
 exact ⟨rfl,rfl⟩
theorem rheld_nil (w:World):Calls Tryz.prog 25 #[.pointer none] w fun e w'=>e=.returned (.slice none 0 0)∧w=w':=by
 go_enter Tryz.func25,Tryz.ntmps25
 go_wp2_with fail
 go_ret
 exact ⟨rfl,rfl⟩
theorem rresult_nil (w:World):Calls Tryz.prog 17 #[.pointer none] w fun e w'=>e=.returned RsV.zero.v∧Ch (fun _=>False) w w':=by
 go_enter Tryz.func17,Tryz.ntmps17
 go_wp2_with fail
 refine at_world fun WZ hWZ=>?_
 have BZ:Blk WZ w.heap.size 41 #[.int .i64 0,.int .i64 0,.int .i64 0,.int .i64 0,.int .u8 0,.string ⟨#[]⟩,.int .i64 0,.int .i64 0,.int .i64 0,.int .u8 0,.int .i64 0,.int .i64 0,.slice none 0 0]:=by rw [hWZ];exact Blk.new w _ _
 have CZ:Ch (fun _=>False) w WZ:=by rw [hWZ];exact (Ch.refl _ w).alloc _
 clear hWZ
 have t0:WZ.cell? ⟨w.heap.size,0,none⟩=some (.int .i64 0):=BZ.cell 0
 have t1:WZ.cell? ⟨w.heap.size,1,none⟩=some (.int .i64 0):=BZ.cell 1
 have t2:WZ.cell? ⟨w.heap.size,2,none⟩=some (.int .i64 0):=BZ.cell 2
 have t3:WZ.cell? ⟨w.heap.size,3,none⟩=some (.int .i64 0):=BZ.cell 3
 have t4:WZ.cell? ⟨w.heap.size,4,none⟩=some (.int .u8 0):=BZ.cell 4
 have t5:WZ.cell? ⟨w.heap.size,5,none⟩=some (.string ⟨#[]⟩):=BZ.cell 5
 have t6:WZ.cell? ⟨w.heap.size,6,none⟩=some (.int .i64 0):=BZ.cell 6
 have t7:WZ.cell? ⟨w.heap.size,7,none⟩=some (.int .i64 0):=BZ.cell 7
 have t8:WZ.cell? ⟨w.heap.size,8,none⟩=some (.int .i64 0):=BZ.cell 8
 have t9:WZ.cell? ⟨w.heap.size,9,none⟩=some (.int .u8 0):=BZ.cell 9
 have t10:WZ.cell? ⟨w.heap.size,10,none⟩=some (.int .i64 0):=BZ.cell 10
 have t11:WZ.cell? ⟨w.heap.size,11,none⟩=some (.int .i64 0):=BZ.cell 11
 have t12:WZ.cell? ⟨w.heap.size,12,none⟩=some (.slice none 0 0):=BZ.cell 12
 refine bodyPost_ret (v:=.agg #[.int .i64 0,.int .i64 0,.int .i64 0,.int .i64 0,.int .u8 0,.string ⟨#[]⟩,.int .i64 0,.int .i64 0,.int .i64 0,.int .u8 0,.int .i64 0,.int .i64 0,.slice none 0 0]) (by simp [results,Tryz.results17,go_sem,t0,t1,t2,t3,t4,t5,t6,t7,t8,t9,t10,t11,t12]) rfl ⟨rfl,CZ⟩
theorem rbegin_kind (g:Nat) (r:Rd) (w:World) (h:Blk w g 111 r.cells) (hb:r.busy=false):Calls Tryz.prog 13 #[.pointer (some ⟨g,0,none⟩),OpV.v ⟨1,0,0,0,0,0,⟨#[]⟩⟩] w fun e w'=>e=.returned (.int .i64 2)∧Ch (fun _=>False) w w':=by
 have a10:w.cell? ⟨g,10,none⟩=some (.bool false):=(h.cell 10).trans (by rw [←hb];rfl)
 have lg:=h.lt
 clear h hb
 simp only [OpV.v]
 go_enter Tryz.func13,Tryz.ntmps13
 go_wp2_with fail
 go_ret
 exact ⟨rfl,(Ch.refl _ w).alloc _⟩
theorem rbegin_busy (g:Nat) (r:Rd) (op:OpV) (w:World) (h:Blk w g 111 r.cells) (hb:r.busy=true):Calls Tryz.prog 13 #[.pointer (some ⟨g,0,none⟩),op.v] w fun e w'=>e=.returned (.int .i64 8)∧Ch (fun _=>False) w w':=by
 have a10:w.cell? ⟨g,10,none⟩=some (.bool true):=(h.cell 10).trans (by rw [←hb];rfl)
 have lg:=h.lt
 clear h hb
 simp only [OpV.v]
 go_enter Tryz.func13,Tryz.ntmps13
 go_wp2_with fail
 go_ret
 exact ⟨rfl,(Ch.refl _ w).alloc _⟩
theorem rev_root {N:Nat} {s:ByteArray} {x:Rt} {ns:List An} (h:RopeRes N s x 0 ns):RevOk ns ⟨0,x.a,x.h,x.b,x.r,x.l⟩ s.data.toList:=by
 rcases h with ⟨h0,rfl,_,rfl⟩ | ⟨h0,t,hb,hg,hbt,⟨_,rfl,_,hl,hy⟩ | ⟨_,_,h,_⟩⟩
 ·have e:s.data.toList=[]:=List.eq_nil_of_length_eq_zero (by rw [dsize];exact h0)
  rw [e]
  exact ⟨rfl,rfl,rfl,.inl ⟨rfl,rfl⟩⟩
 ·have ht:=build_text hb
  have hm:t.meas=mL s.data.toList:=by rw [meas_text,ht]
  refine ⟨?_,?_,?_,.inr ⟨t.cnt - 1,t,rfl,?_,ht,rfl,hg,s,hb⟩⟩
  ·show t.meas.b=_
   rw [hm]
  ·show t.meas.r=_
   rw [hm]
  ·show t.meas.l=_
   rw [hm]
  ·have:=rope_nt (ns:=[]) hl (fun j y hj=>hy j y hj) (post_len t 0)
   simpa using this
 ·cases h
theorem Mem.recastB {B B':Nat} {w0 w0' w:World} {L:List Res} (h:Mem B w0 L w) (hB:B'≤B) (hb:Below B' w0' w0) (L':List Res) (f:Nat→Nat) (hf:∀(i:Nat) (r':Res),L'[i]?=some r'→∃r,L[f i]?=some r∧(r.holds w→r'.holds w)∧∀k,r'.foot k→r.foot k)
  (hi:∀i j,i < L'.length→j < L'.length→f i=f j→i=j):Mem B' w0' L' w:=by
 have hb2:Below B' w0' w:=hb.trans ⟨h.bel.os,h.bel.tape,h.bel.output,h.bel.size,fun k hk=>h.bel.block k (by omega)⟩
 refine ⟨fun i r' hr=>?_,fun i j r' s' hr hs hne k hk hk'=>?_,fun i r' hr k hk=>?_,hb2,Nat.le_trans hB h.bz⟩
 ·obtain ⟨r,h1,h2,_⟩:=hf i r' hr
  exact h2 (h.each _ r h1)
 ·obtain ⟨r,h1,_,h3⟩:=hf i r' hr
  obtain ⟨s,g1,_,g3⟩:=hf j s' hs
  refine h.apart (f i) (f j) r s h1 g1 (fun e=>hne (hi i j (List.getElem?_eq_some_iff.1 hr).1 (List.getElem?_eq_some_iff.1 hs).1 e)) k (h3 k hk) (g3 k hk')
 ·obtain ⟨r,h1,_,h3⟩:=hf i r' hr
  exact Nat.le_trans hB (h.low _ r h1 k (h3 k hk))
def stoNew (N q cl n cN:Nat) (ge ba fe:Int) (s:ByteArray) (p ab qb eb rvb:Nat) (fv:Value):Array Value:=(stoCells [.int .i64 (N:Int),.int .u64 ge,.int .i64 (cl:Int),.int .i64 (n:Int),.int .i64 (q:Int),.int .i64 ba,.int .i64 fe,.string s,.int .i64 0,.int .i64 1,.int .i64 2,.int .i64 3,.int .i64 4,.int .i64 5,.int .i64 (5+(q:Int)),.int .i64 (5+(q:Int)+(cl:Int) * n),.int .i64 (5+(q:Int)+(cl:Int) * n+cl),.int .i64 (cN:Int)] (.pointer (some ⟨p,0,none⟩)) (.pointer (some ⟨ab,0,none⟩)) (.pointer (some ⟨qb,0,none⟩)) (.pointer (some ⟨eb,0,none⟩)) fv (.slice (some ⟨rvb,0,none⟩) 1 1) (List.replicate 8 OpV.zero) (List.replicate 8 (RsV.zero,.slice none 0 0))).toArray
def RS.new (g lb n:Nat) (cl:Int) (sb p cb:Nat) (cs:Array Value) (cN eb rN q pb rvb:Nat) (x:Rt) (A:ArA) (ns:List An):RS:=
 { g:=g,r:=Rd.new sb lb n cl,lb:=lb,sl:=List.replicate n none,cs:=cs,p:=p,cb:=cb,lv:=.slice none 0 0,s:=⟨List.replicate cN 0,[]⟩,eb:=eb,f:=⟨2,5+(q:Int),rN⟩,sc:=.pointer none,pb:=pb,ps:=List.replicate rN none,rv:=.slice (some ⟨rvb,0,none⟩) 1 1,rs:=[⟨⟨0,x.a,x.h,x.b,x.r,x.l⟩,.slice none 0 0,[],.slice none 0 0,[]⟩],A:=A,ns:=ns,st:=0,tx:=[] }
theorem rep_none {α:Type} {n k:Nat} {s:α} (h:(List.replicate n (none:Option α))[k]?=some (some s)):False:=by
 rw [List.getElem?_replicate] at h
 split at h
 ·injection h with h
  cases h
 ·cases h
theorem rep_map {α β:Type} (n:Nat) (f:Option α→Option β) (h:f none=none):(List.replicate n (none:Option α)).map f=List.replicate n none:=by
 rw [List.map_replicate,h]
theorem run_new {w0 w w1:World} {N q cl:Nat} {ge re ba fe:Int} {s:ByteArray} {e:Ending} (hS:SnwOut N q cl ge re ba fe s w e w1) (hroom:∀x ns,¬RopeRes N s x 6 ns) (hbel:Below w0.heap.size w0 w) {n c m:Nat} (hre:re=(n:Int)) (hn:n≤8) (hc:c < cl) (hcl:cl≤8) (hq:1≤q) (hq2:q≤64) (hfe:1≤fe) (hm:c * n=m) (hs:s.size≤65536) (hB:w0.heap.size≤w.heap.size) :
  ∃(sb p cb eb pb rvb rN cN:Nat) (x:Rt) (A:ArA) (ns:List An) (cs:Array Value) (y:Ly),e=.returned (.tuple #[.pointer (some ⟨sb,0,none⟩),.int .i64 0])∧Blk w1 sb 125 cs∧(∀(j:Nat) (v:Value),(Cf.arr ⟨N,ge,cl,re,q,ba,fe,s⟩)[j]?=some v→cs[j]?=some v)∧RopeRes N s x 0 ns∧A.n=N∧cl * n=rN∧y=⟨0,1,2,3,4,5,5+q,5+q+cl * re,5+q+cl * re+cl,cN⟩∧Below w0.heap.size w0 w1∧w0.heap.size≤w1.heap.size∧w0.heap.size≤sb∧
   ∀(w':World) (g lb:Nat),Blk w' g 111 (Rd.cells (Rd.new sb lb n c))→Blk w' lb 140 (pinsA (List.replicate n none))→Ch (fun _=>False) w1 w'→w1.heap.size≤lb→lb < g→
    Mem w0.heap.size w0 ((RS.new g lb n c sb p cb cs cN eb rN q pb rvb x A ns).L w0.heap.size++[boxR []]) w'∧RnOk (RS.new g lb n c sb p cb cs cN eb rN q pb rvb x A ns) y n m [s.data.toList] none∧PgAt (RS.new g lb n c sb p cb cs cN eb rN q pb rvb x A ns) [] n m [s.data.toList] (.fin RsV.zero):=by
 rcases hS with ⟨x,ns,hr,_⟩ | ⟨x,ns,sb,p,cb,A,qb,eb,pb,rvb,rN,cN,fv,fds,hr,P,he,hAn,hfl,hrN,hcN,_,hM⟩
 ·exact absurd hr (hroom x ns)
 subst hre
 have hbl:Below w0.heap.size w0 w1:=hbel.trans ⟨hM.bel.os,hM.bel.tape,hM.bel.output,hM.bel.size,fun k hk=>hM.bel.block k (by omega)⟩
 have hsz:w0.heap.size≤w1.heap.size:=Nat.le_trans hB hM.bel.size
 have hnn:(c+1) * n≤cl * n:=Nat.mul_le_mul_right _ hc
 have hrN':cl * n=rN:=by
  have:((cl * n:Nat):Int)=rN:=by push_cast;exact hrN
  omega
 have hmn:m+n≤rN:=by rw [←hm,←hrN'];rw [Nat.add_mul,Nat.one_mul] at hnn;exact hnn
 have hcl8:cl * n≤8 * 8:=Nat.mul_le_mul hcl hn
 have hBk:=hM.each 1 _ rfl
 have hvn:cN≤4096:=by have:=hBk.hn;rwa [List.length_replicate] at this
 have hclfe:(0:Int)≤cl * (4+fe):=Int.mul_nonneg (by omega) (by omega)
 refine ⟨sb,p,cb,eb,pb,rvb,rN,cN,x,A,ns,stoNew N q cl n cN ge ba fe s p A.ab qb eb rvb fv,⟨0,1,2,3,4,5,5+q,5+q+cl * n,5+q+cl * n+cl,cN⟩,he,hM.each 0 _ rfl,?_,hr,hAn,hrN',rfl,hbl,hsz,Nat.le_trans hB (hM.low 0 _ rfl sb rfl),fun w' g lb bg bl ch hl1 hl2=>⟨?_,?_,?_⟩⟩
 ·intro j v hj
  have hj8:j < 8:=by
   have:=(Array.getElem?_eq_some_iff.1 hj).1
   simpa [Cf.arr] using this
  have:j=0∨j=1∨j=2∨j=3∨j=4∨j=5∨j=6∨j=7:=by omega
  rcases this with rfl | rfl | rfl | rfl | rfl | rfl | rfl | rfl <;> exact hj
 ·have h7:=mem_drop hM
  have h9:=h7.addTwo (w':=w') ch (blkR lb 140 (pinsA (List.replicate n none))) (blkR g 111 (Rd.cells (Rd.new sb lb n c))) bl bg (fun k hk=>by rw [show k=lb from hk];exact hl1) (fun k hk=>by rw [show k=g from hk];omega) (fun k hk e=>by
   have e1:k=lb:=hk
   have e2:k=g:=e
   omega)
  have h11:=h9.addTwo (w':=w') (Ch.refl _ _) (rowR w0.heap.size 5 1 0 (.slice none 0 0) []) (boxR []) (World.ownsRow_nil _ _ _ _) (fun b hb=>by cases hb) (fun k hk=>by cases hk) (fun k hk=>by obtain ⟨b,hb,_⟩:=hk;cases hb) (fun k hk=>by cases hk)
  refine Mem.recastB h11 hB hbel _ (fun i=>[9,8,0,1,5,6,3,2,10,11].getD i 0) (fun i r' hi=>?_) (fun i j hi hj e=>?_)
  ·match i,hi with
   | 0,hi=>injection hi with hi;subst hi;exact ⟨_,rfl,fun h=>h,fun _ h=>h⟩
   | 1,hi=>
    injection hi with hi
    subst hi
    exact ⟨_,rfl,fun h=>⟨by rw [show (RS.new g lb n c sb p cb (stoNew N q cl n cN ge ba fe s p A.ab qb eb rvb fv) cN eb rN q pb rvb x A ns).sl=List.replicate n none from rfl,rep_map n sptr rfl];exact h,fun k s hs=>(rep_none hs).elim,fun j k s t hs=>(rep_none hs).elim⟩,fun k hk=>by
     rcases hk with hk | ⟨j,s,hs,_⟩
     ·exact hk
     ·exact (rep_none hs).elim⟩
   | 2,hi=>injection hi with hi;subst hi;exact ⟨_,rfl,fun h=>h,fun _ h=>h⟩
   | 3,hi=>
    injection hi with hi
    subst hi
    exact ⟨_,rfl,fun h=>⟨h.hp,h.hc,own_mono h.hl hB,h.hv,h.hn,Nat.le_trans hB h.bp,Nat.le_trans hB h.bc⟩,fun _ h=>h⟩
   | 4,hi=>injection hi with hi;subst hi;exact ⟨_,rfl,fun h=>h,fun _ h=>h⟩
   | 5,hi=>
    injection hi with hi
    subst hi
    exact ⟨_,rfl,fun h=>⟨by rw [show (RS.new g lb n c sb p cb (stoNew N q cl n cN ge ba fe s p A.ab qb eb rvb fv) cN eb rN q pb rvb x A ns).ps=List.replicate rN none from rfl,rep_map rN (Option.map Prod.fst) rfl,←pins_none];exact h,fun k s hs=>(rep_none hs).elim,fun j k s t hs=>(rep_none hs).elim⟩,fun k hk=>by
     rcases hk with hk | ⟨j,s,hs,_⟩
     ·exact hk
     ·exact (rep_none hs).elim⟩
   | 6,hi=>
    injection hi with hi
    subst hi
    exact ⟨_,rfl,fun h=>⟨own_mono h hB,fun r hr=>by
     rw [List.mem_singleton.1 hr]
     exact ⟨World.ownsRow_nil _ _ _ _,World.ownsRow_nil _ _ _ _⟩⟩,fun k hk=>by
     rcases hk with hk | ⟨r,hr,hk⟩
     ·exact hk
     ·rw [List.mem_singleton.1 hr] at hk
      rcases hk with hk | hk <;> cases hk⟩
   | 7,hi=>injection hi with hi;subst hi;exact ⟨_,rfl,fun h=>h,fun _ h=>h⟩
   | 8,hi=>injection hi with hi;subst hi;exact ⟨_,rfl,fun h=>h,fun _ h=>h⟩
   | 9,hi=>injection hi with hi;subst hi;exact ⟨_,rfl,fun h=>h,fun _ h=>h⟩
   | i+10,hi=>simp [RS.L] at hi
  ·have h1:i < 10:=hi
   have h2:j < 10:=hj
   have key:∀a < 10,∀b < 10,[9,8,0,1,5,6,3,2,10,11].getD a 0=[9,8,0,1,5,6,3,2,10,11].getD b 0→a=b:=by decide
   exact key i h1 j h2 e
 ·have hslot:∀i,(Ed.mk 2 (5+(q:Int)) rN).slot i=5+q+i:=fun i=>by show (5+(q:Int)+(i:Int)).toNat=5+q+i;omega
  have hcN':5+q+rN < cN:=by omega
  have hstf:StF (stoNew N q cl n cN ge ba fe s p A.ab qb eb rvb fv) p A.ab eb ⟨0,1,2,3,4,5,5+q,5+q+cl * n,5+q+cl * n+cl,cN⟩:=⟨rfl,rfl,rfl,fun j v hj=>by
   have hj10:j < 10:=by
    have:=(Array.getElem?_eq_some_iff.1 hj).1
    simpa [Ly.arr] using this
   have:j=0∨j=1∨j=2∨j=3∨j=4∨j=5∨j=6∨j=7∨j=8∨j=9:=by omega
   rcases this with rfl | rfl | rfl | rfl | rfl | rfl | rfl | rfl | rfl | rfl <;> exact hj⟩
  have hO:(RS.new g lb n c sb p cb (stoNew N q cl n cN ge ba fe s p A.ab qb eb rvb fv) cN eb rN q pb rvb x A ns).Ok ⟨0,1,2,3,4,5,5+q,5+q+cl * n,5+q+cl * n+cl,cN⟩ n m:={
   sl:=rfl
   nl:=List.length_replicate
   n8:=hn
   cl:=⟨by show (0:Int)≤(c:Int);omega,by show (c:Int) < 16;omega⟩
   hm:=by show (c:Int) * (n:Int)=(m:Int);rw [←hm];push_cast;rfl
   mn:=hmn
   pl:=List.length_replicate
   stf:=hstf
   h23:=rfl
   ed:=⟨by show 2 < (List.replicate cN (0:Int)).length;rw [List.length_replicate];omega,by show rN≤64;omega,fun i hi=>by
    have hi:i < rN:=hi
    show 0≤5+(q:Int)+i∧5+(q:Int)+i < ((List.replicate cN (0:Int)).length:Nat)
    rw [List.length_replicate]
    omega⟩
   y0:=rfl
   y1:=rfl
   vs:=by show 3≤(List.replicate cN (0:Int)).length∧(List.replicate cN (0:Int)).length≤4096;rw [List.length_replicate];omega
   lg:=by show 0 < 900000;decide
   f0:=⟨by show (2:Nat)≠0;decide,by show (2:Nat)≠1;decide⟩
   fs:=fun i hi=>by show 2 < (Ed.mk 2 (5+(q:Int)) rN).slot i;rw [hslot];omega }
  refine ⟨hO,P,rfl,by simp,fun tx htx=>?_,fun i r tx hi ht=>?_,⟨0,lk_rep _ _,by simp⟩,fun k s hs=>(rep_none hs).elim,fun k hk _=>.inl ⟨?_,?_,lk_rep _ _⟩,by show 0≤lk (List.replicate cN (0:Int)) 2∧lk (List.replicate cN (0:Int)) 2 < 1000000;rw [lk_rep];decide,fun i hi=>by show (Ed.mk 2 (5+(q:Int)) rN).slot i≠2;rw [hslot];omega⟩
  ·rw [List.mem_singleton.1 htx,dsize]
   omega
  ·match i,hi,ht with
   | 0,hi,ht=>
    injection hi with hi
    injection ht with ht
    subst hi ht
    exact ⟨rev_root hr,rfl,Nat.zero_le _,Nat.zero_le _⟩
   | i+1,hi,ht=>simp at ht
  ·exact List.getElem?_replicate_of_lt hk
  ·exact List.getElem?_replicate_of_lt (by omega)
 ·exact ⟨rfl,rfl,rfl⟩
theorem vd_asc:∀(n:Nat) (l:List Int),l.length=n→(∀x ∈ l,0≤x∧x < 128)→Vd l:=by
 intro n
 induction n with
 | zero=>intro l h _;exact Vd.nil h
 | succ n ih=>
  intro l h hl
  match l,h with
  | x::l,h=>
   have hx:=hl x (by simp)
   have e1:dlen (x::l)=1:=by
    unfold dlen ann
    show (if 244 < lk (x::l) 0 then _ else _)=_
    have:lk (x::l) 0=x:=rfl
    rw [this,if_neg (by omega),if_neg (by omega),if_neg (by omega),if_neg (by omega),if_pos (by omega)]
   refine Vd.step ⟨by simp,by rw [e1];exact Int.le_refl 1,by rw [e1];simp;omega,by rw [e1];exact contTo1 _,?_⟩ ?_
   ·rw [e1]
    unfold dval
    rw [e1]
    show rlen (lead (lk (x::l) 0) 1)=1
    have:lk (x::l) 0=x:=rfl
    rw [this]
    have e2:lead x 1=x:=by simp [lead]
    rw [e2]
    unfold rlen runeB
    rw [if_neg (by simp;omega),if_pos hx.2]
   ·rw [e1]
    exact ih l (by simpa using h) (fun y hy=>hl y (by simp [hy]))
theorem exT_ck:ckE ⟨9,1,((1:Nat):Int),((1:Nat):Int),((1:Nat):Int),1,1,exT⟩=0:=by
 have hv:vdB (bs exT)=true:=vdB_true (vd_asc _ (bs exT) rfl (by decide +kernel))
 have hs:exT.size=20:=rfl
 unfold ckE
 rw [if_neg (fun h'=>h' (by unfold Cf.nums;simp only;omega)),if_neg (by show ¬65536 < exT.size;omega),if_neg (by show ¬vdB (bs exT)=false;rw [hv];decide)]
theorem exT_room:∀x ns,¬RopeRes 9 exT x 6 ns:=by
 rintro x ns (⟨_,_,h,_⟩ | ⟨_,t,hb,_,_,⟨_,_,h,_⟩ | ⟨hc,_⟩⟩)
 ·cases h
 ·cases h
 ·rw [ex_build] at hb
  injection hb with hb
  rw [←hb] at hc
  have:exTr.cnt=3:=rfl
  omega
def exRow (pb k:Nat):List Value:=[.int .u8 (exOp k).k,.int .i64 (exOp k).sl,.int .i64 (exOp k).at',.int .i64 (exOp k).n,.int .u32 (exOp k).id,.int .u8 (exOp k).g,.string (exOp k).s,.slice (some ⟨pb+k,0,none⟩) (exP k).length (exP k).length,.int .i64 (exX k).er,.int .i64 (exX k).rev,.int .i64 (exX k).sl,.int .i64 (exX k).at',.int .u8 (exX k).g,.string (exX k).s,.int .i64 (exX k).b,.int .i64 (exX k).r,.int .i64 (exX k).l,.int .u8 (exX k).ik,.int .i64 (exX k).fr,.int .i64 (exX k).to,.slice none 0 0]
def exTab (pb:Nat):List Value:=(List.range 22).flatMap (exRow pb)
theorem exRow_len (pb k:Nat):(exRow pb k).length=21:=rfl
theorem tab_cell {w:World} {eb pb k:Nat} {t:TypeId} (h:Blk w eb t (exTab pb).toArray) (hk:k < 22) (j:Nat) (v:Value) (hv:(exRow pb k)[j]?=some v):w.cell? ⟨eb,k * 21+j,none⟩=some v:=
 (h.cell (k * 21+j)).trans (by rw [List.getElem?_toArray];exact flatP (exRow_len pb) (List.range 22) k j k v (by rw [List.getElem?_range hk]) hv)
def tabR (eb pb:Nat):Res where
 holds w:=Blk w eb 73 (exTab pb).toArray∧∀k,k < 22→Blk w (pb+k) 5 (phs8 (exP k)).toArray
 foot q:=q=eb∨(pb≤q∧q < pb+22)
 stable h c hn:=⟨c.blk h.1 (hn eb (.inl rfl)),fun k hk=>c.blk (h.2 k hk) (hn (pb+k) (.inr ⟨by omega,by omega⟩))⟩
 lt h q hq:=by
  rcases hq with rfl | ⟨h1,h2⟩
  ·exact h.1.lt
  ·have:=(h.2 (q - pb) (by omega)).lt
   omega
def allocU (t:TypeId):List (Array Value)→World→World
 | [],w=>w
 | c::l,w=>allocU t l (w.alloc (.cells c t))
theorem allocU_ch (t:TypeId):∀(l:List (Array Value)) (w:World),Ch (fun _=>False) w (allocU t l w)
 | [],w=>Ch.refl _ w
 | c::l,w=>((Ch.refl _ w).alloc _).trans (allocU_ch t l _) (fun _ _ e=>e)
theorem allocU_size (t:TypeId):∀(l:List (Array Value)) (w:World),(allocU t l w).heap.size=w.heap.size+l.length
 | [],w=>rfl
 | c::l,w=>by
  show (allocU t l (w.alloc (.cells c t))).heap.size=_
  rw [allocU_size t l]
  simp
  omega
theorem allocU_at (t:TypeId):∀(l:List (Array Value)) (w:World) (k:Nat) (c:Array Value),l[k]?=some c→Blk (allocU t l w) (w.heap.size+k) t c
 | c::l,w,0,c',h=>by
  injection h with h
  subst h
  exact (allocU_ch t l _).blk (Blk.new w t c) id
 | c::l,w,k+1,c',h=>by
  have:=allocU_at t l (w.alloc (.cells c t)) k c' h
  have e:(w.alloc (.cells c t)).heap.size+k=w.heap.size+(k+1):=by simp;omega
  rw [e] at this
  exact this
def exPh:List (Array Value):=(List.range 22).map fun k=>(phs8 (exP k)).toArray
theorem tab_new (w:World):(tabR (w.heap.size+22) w.heap.size).holds ((allocU 5 exPh w).alloc (.cells (exTab w.heap.size).toArray 73)):=by
 have hl:exPh.length=22:=by simp [exPh]
 refine ⟨?_,fun k hk=>?_⟩
 ·have:=Blk.new (allocU 5 exPh w) 73 (exTab w.heap.size).toArray
  rw [allocU_size,hl] at this
  exact this
 ·exact (allocU_at 5 exPh w k _ (by simp [exPh,hk])).alloc _
def isTab:Op→Bool
 | .buildSlice _ n _=>n == 22
 | _=>false
theorem wpList_tab {P:Program} {w:World} {ops:Array Oper} {rest:List Oper} {o:Oper} {a:Act} {Q:Exit→Act→World→Prop} (hg:o.guard=none) (hb:isTab o.op=true) (cs:Array Value) (t:TypeId) (hrun:∀W:World,(execOp a.eval o).run P W=.ok (.value (.slice (some ⟨W.heap.size,0,none⟩) 22 22)) (W.alloc (.cells cs t))) (hK:wpList P ops Q rest (a.put o.dst (.slice (some ⟨w.heap.size,0,none⟩) 22 22)) (w.alloc (.cells cs t))):wpList P ops Q (o::rest) a w:=by
 refine wpList_plain hg fun K hK'=>?_
 unfold Oper.wp
 rw [hrun]
 exact hK' _ _ hK
theorem rex_walk (w0:World):Calls Tryz.prog 6 #[] w0 fun e w'=>e=.returned (.bool true)∧Below w0.heap.size w0 w':=by
 go_enter Tryz.func6,Tryz.ntmps6
 go_wp2_with fail
 refine (snew 9 1 1 1 ((1:Nat):Int) 1 1 exT exT_ck w0).mono ?_
 intro e w1 hsn
 obtain ⟨sb,p,cb,eb0,pb0,rvb,rN,cN,x0,A,ns,cs,y,rfl,hblk,hcfg,hres,hAn,hrN,hy,hb2,hz2,hsb,hcont⟩:=run_new (c:=0) (m:=0) (n:=1) hsn exT_room (Below.refl _ _) rfl (by decide) (by decide) (by decide) (by decide) (by decide) (by decide) rfl (by decide) (Nat.le_refl _)
 have HCONT:=hid hcont
 have HBLK:=hid hblk
 have HCFG:=hid hcfg
 clear hsn hcont hy hAn hrN hres hblk hcfg hb2 hz2 hsb
 go_wp2_with fail
 refine (rnew_any sb 1 cs ⟨9,1,1,1,1,1,1,exT⟩ 0 w1 HBLK.out HCFG.out ⟨by decide,by show (0:Int) < 1;decide⟩ rfl (by decide)).mono ?_
 rintro e w2 ⟨g,lb,rfl,hg,hlb,hc2,hl1,hl2⟩
 obtain ⟨hM,hK,hG⟩:=HCONT.out w2 g lb hg hlb hc2 hl1 hl2
 obtain ⟨σ,hσ⟩:∃σ,σ=RS.new g lb 1 ((0:Nat):Int) sb p cb cs cN eb0 rN 1 pb0 rvb x0 A ns:=⟨_,rfl⟩
 rw [←hσ] at hM hK hG
 have M2:=hid hM
 have KK:=hid (show RnOk σ y 1 0 [exL] none from hK)
 have GG:=hid (show PgAt σ [] 1 0 [exL] (.fin RsV.zero) from hG)
 have HE:=hid (show ExS σ (exO 0)∧σ.s.lg=[]∧σ.g=g from ⟨⟨by rw [hσ];exact lk_rep _ _,by rw [hσ];exact lk_rep _ _,fun r hr=>by
  rw [hσ] at hr
  have hr:some _=some r:=hr
  injection hr with hr
  rw [←hr],.inl ⟨rfl,by rw [hσ];rfl⟩⟩,by rw [hσ];rfl,by rw [hσ];rfl⟩)
 have HB2:=hid (hc2.blk HBLK.out id)
 clear hM hK hG hσ hg hlb hc2 hl1 hl2 HCONT
 go_wp2_with fail
 refine (rnew_far sb cs ⟨9,1,1,1,1,1,1,exT⟩ 1 w2 HB2.out HCFG.out ⟨by decide,by show (1:Int)≤1;decide⟩).mono ?_
 rintro e w3 ⟨rfl,hc3⟩
 have M3:=hid (M2.out.keep hc3)
 clear hc3 M2 HB2
 go_upto_region 11 with (refine wpList_tab rfl rfl (exTab w3.heap.size).toArray 73 (fun W=>by kernel_rfl) ?_)
 refine at_world fun W10 hW10=>?_
 have hw:W10=(allocU 5 exPh w3).alloc (.cells (exTab w3.heap.size).toArray 73):=by rw [hW10];kernel_rfl
 clear hW10
 obtain ⟨pb,hpb⟩:∃z,z=w3.heap.size:=⟨_,rfl⟩
 obtain ⟨eb,heb⟩:∃z,z=w3.heap.size+22:=⟨_,rfl⟩
 have M10:=hid (show Mem w0.heap.size w0 (σ.L w0.heap.size++(boxR []::[tabR eb pb])) W10 from by
  rw [hw,heb,hpb]
  exact Mem.snoc (R:=[boxR []]) M3.out (tabR _ _) ((allocU_ch _ _ _).alloc _) (tab_new w3) (fun k hk=>by
   rcases hk with h | ⟨h,_⟩
   ·omega
   ·exact h))
 have HI0:=hid (show ∃(k:Nat) (σ:RS) (bs:List Bx) (x:RsV),k=0∧Mem w0.heap.size w0 (σ.L w0.heap.size++(boxR bs::[tabR eb pb])) W10∧σ.g=g∧RnOk σ y 1 0 [exL] none∧PgAt σ bs 1 0 [exL] (.fin x)∧ExS σ (exO k)∧σ.s.lg.length≤200 * k from ⟨0,σ,[],RsV.zero,rfl,M10.out,HE.out.2.2,KK.out,GG.out,HE.out.1,by rw [HE.out.2.1];exact Nat.le_refl _⟩)
 try rw [←heb]
 clear hw heb hpb M10 M3 KK GG HE
 go_wp2_with fail
 go_loopw [7] (fun i W=>∃(k:Nat) (σ:RS) (bs:List Bx) (x:RsV),k≤22∧i=.int .i64 (k:Int)∧Mem w0.heap.size w0 (σ.L w0.heap.size++(boxR bs::[tabR eb pb])) W∧σ.g=g∧RnOk σ y 1 0 [exL] none∧PgAt σ bs 1 0 [exL] (.fin x)∧ExS σ (exO k)∧σ.s.lg.length≤200 * k) (fun i _=>22 - (intOf i).toNat)
 case atStart=>
  obtain ⟨k,σ,bs,x,rfl,h⟩:=HI0.out
  exact ⟨0,σ,bs,x,Nat.zero_le _,rfl,h⟩
 case round=>
  obtain ⟨k,σ,bs,x,hk,rfl,hM,hgg,hK,hG,hE,hlg⟩:=hrel
  subst hgg
  have MM:=hid hM
  have KK:=hid hK
  have GG:=hid hG
  have EE:=hid hE
  have LL:=hid hlg
  clear hM hK hG hE hlg HI0
  by_cases hlt:k < 22
  ·have d1:decide (k < 22)=true:=decide_eq_true hlt
   have d2:decide ((k:Int) < 22)=true:=decide_eq_true (by omega)
   have hfin:=fin_ex (B:=w0.heap.size) (w0:=w0) KK.out GG.out.1 (by have:=LL.out;omega) hlt EE.out [tabR eb pb] bs wr MM.out
   have HFIN:=hid hfin
   clear hfin
   simp only [OpV.v] at HFIN
   obtain ⟨L,hL⟩:∃z,z=(exP k).length:=⟨_,rfl⟩
   have TB:=hid (show (tabR eb pb).holds wr from MM.out.each 10 _ rfl)
   have c0:wr.cell? ⟨eb,k * 21,none⟩=some (.int .u8 (exOp k).k):=tab_cell TB.out.1 hlt 0 _ rfl
   have c1:wr.cell? ⟨eb,k * 21+1,none⟩=some (.int .i64 (exOp k).sl):=tab_cell TB.out.1 hlt 1 _ rfl
   have c2:wr.cell? ⟨eb,k * 21+2,none⟩=some (.int .i64 (exOp k).at'):=tab_cell TB.out.1 hlt 2 _ rfl
   have c3:wr.cell? ⟨eb,k * 21+3,none⟩=some (.int .i64 (exOp k).n):=tab_cell TB.out.1 hlt 3 _ rfl
   have c4:wr.cell? ⟨eb,k * 21+4,none⟩=some (.int .u32 (exOp k).id):=tab_cell TB.out.1 hlt 4 _ rfl
   have c5:wr.cell? ⟨eb,k * 21+5,none⟩=some (.int .u8 (exOp k).g):=tab_cell TB.out.1 hlt 5 _ rfl
   have c6:wr.cell? ⟨eb,k * 21+6,none⟩=some (.string (exOp k).s):=tab_cell TB.out.1 hlt 6 _ rfl
   go_wp2_with fail
   refine HFIN.out.mono ?_
   rintro e w5 ⟨σ5,bs5,x5,v5,phs5,rfl,hM5,S5,K5,G5,⟨rfl,rfl,E5⟩,hl5⟩
   have M5:=hid hM5
   have KK5:=hid K5
   have GG5:=hid G5
   have EE5:=hid E5
   have LL5:=hid (show σ5.s.lg.length≤200 * (k+1) from by have:=LL.out;omega)
   have HG5:=hid S5.g
   have hrow:=M5.out.lastBc
   obtain ⟨A5,cap5,hv5,_⟩:=own_slice hrow
   subst hv5
   clear hM5 S5 K5 G5 E5 hl5 hrow HFIN KK GG EE LL TB MM c0 c1 c2 c3 c4 c5 c6
   simp only [RsV.v]
   go_upto_region 15 with fail
   refine at_world fun W6 hW6=>?_
   obtain ⟨tb,htb⟩:∃z,z=w5.heap.size:=⟨_,rfl⟩
   have C6:=hid (show Ch (fun _=>False) w5 W6 from by rw [hW6];exact (Ch.refl _ w5).alloc _)
   have T6:=hid (show Blk W6 tb 41 (exX k).arr from by rw [hW6,htb];exact Blk.new w5 _ _)
   rw [←htb]
   clear hW6 htb
   have M6:=hid (M5.out.keep C6.out)
   have TB:=hid (show (tabR eb pb).holds W6 from M6.out.drop1c.each 10 _ rfl)
   have c7:W6.cell? ⟨eb,k * 21+7,none⟩=some (.slice (some ⟨pb+k,0,none⟩) (exP k).length (exP k).length):=tab_cell TB.out.1 hlt 7 _ rfl
   have c8:W6.cell? ⟨eb,k * 21+8,none⟩=some (.int .i64 (exX k).er):=tab_cell TB.out.1 hlt 8 _ rfl
   have c9:W6.cell? ⟨eb,k * 21+9,none⟩=some (.int .i64 (exX k).rev):=tab_cell TB.out.1 hlt 9 _ rfl
   have c10:W6.cell? ⟨eb,k * 21+10,none⟩=some (.int .i64 (exX k).sl):=tab_cell TB.out.1 hlt 10 _ rfl
   have c11:W6.cell? ⟨eb,k * 21+11,none⟩=some (.int .i64 (exX k).at'):=tab_cell TB.out.1 hlt 11 _ rfl
   have c12:W6.cell? ⟨eb,k * 21+12,none⟩=some (.int .u8 (exX k).g):=tab_cell TB.out.1 hlt 12 _ rfl
   have c13:W6.cell? ⟨eb,k * 21+13,none⟩=some (.string (exX k).s):=tab_cell TB.out.1 hlt 13 _ rfl
   have c14:W6.cell? ⟨eb,k * 21+14,none⟩=some (.int .i64 (exX k).b):=tab_cell TB.out.1 hlt 14 _ rfl
   have c15:W6.cell? ⟨eb,k * 21+15,none⟩=some (.int .i64 (exX k).r):=tab_cell TB.out.1 hlt 15 _ rfl
   have c16:W6.cell? ⟨eb,k * 21+16,none⟩=some (.int .i64 (exX k).l):=tab_cell TB.out.1 hlt 16 _ rfl
   have c17:W6.cell? ⟨eb,k * 21+17,none⟩=some (.int .u8 (exX k).ik):=tab_cell TB.out.1 hlt 17 _ rfl
   have c18:W6.cell? ⟨eb,k * 21+18,none⟩=some (.int .i64 (exX k).fr):=tab_cell TB.out.1 hlt 18 _ rfl
   have c19:W6.cell? ⟨eb,k * 21+19,none⟩=some (.int .i64 (exX k).to):=tab_cell TB.out.1 hlt 19 _ rfl
   have c20:W6.cell? ⟨eb,k * 21+20,none⟩=some (.slice none 0 0):=tab_cell TB.out.1 hlt 20 _ rfl
   have t0:W6.cell? ⟨tb,0,none⟩=some (.int .i64 (exX k).er):=T6.out.cell 0
   have t1:W6.cell? ⟨tb,1,none⟩=some (.int .i64 (exX k).rev):=T6.out.cell 1
   have t2:W6.cell? ⟨tb,2,none⟩=some (.int .i64 (exX k).sl):=T6.out.cell 2
   have t3:W6.cell? ⟨tb,3,none⟩=some (.int .i64 (exX k).at'):=T6.out.cell 3
   have t4:W6.cell? ⟨tb,4,none⟩=some (.int .u8 (exX k).g):=T6.out.cell 4
   have t5:W6.cell? ⟨tb,5,none⟩=some (.string (exX k).s):=T6.out.cell 5
   have t6:W6.cell? ⟨tb,6,none⟩=some (.int .i64 (exX k).b):=T6.out.cell 6
   have t7:W6.cell? ⟨tb,7,none⟩=some (.int .i64 (exX k).r):=T6.out.cell 7
   have t8:W6.cell? ⟨tb,8,none⟩=some (.int .i64 (exX k).l):=T6.out.cell 8
   have t9:W6.cell? ⟨tb,9,none⟩=some (.int .u8 (exX k).ik):=T6.out.cell 9
   have t10:W6.cell? ⟨tb,10,none⟩=some (.int .i64 (exX k).fr):=T6.out.cell 10
   have t11:W6.cell? ⟨tb,11,none⟩=some (.int .i64 (exX k).to):=T6.out.cell 11
   have t12:W6.cell? ⟨tb,12,none⟩=some (.slice none 0 0):=T6.out.cell 12
   refine Mix.wp_region_mix (fun _=>True) (fun i=>([0,0,0,0,0,0,0,0,0,2,0,0,0,0,0,0,0,0,0,2,0,0]:List Nat).getD i 0) [0,1,2,3,4,5,6,7,8,9,10,11,12,13,14,15,16,17,18,19,20,21] (by kernel_rfl) (by kernel_rfl) ?_
   repeat ((first | refine Mix.q1 rfl ?_ | refine Mix.p1 rfl rfl ?_ | refine Mix.s1 rfl rfl ?_);go_big_quiet_step (fail);refine wpQuiet_nil ?_)
   refine Mix.e1 rfl fun V1 hV1=>?_
   obtain ⟨k1,rfl⟩:=hV1
   go_wp2_with fail
   refine (eqBytes_any A5 (some ⟨pb+k,0,none⟩) (exP k).length cap5 (exP k).length (exP k) (W6.drewN k1) (u8_of_own ((M6.out.drewN k1).lastBc)) (u8_of_blk ((TB.out.2 k hlt).drewN k1) rfl) ?_).mono ?_
   ·match k,hlt with
    | 0,_ | 1,_ | 2,_ | 3,_ | 4,_ | 5,_ | 6,_ | 7,_ | 8,_ | 9,_ | 10,_ | 11,_ | 12,_ | 13,_ | 14,_ | 15,_ | 16,_ | 17,_ | 18,_ | 19,_ | 20,_ | 21,_=>decide
   rintro e w7 ⟨rfl,d7,rfl⟩
   go_wp2_with fail
   repeat ((first | refine Mix.q1 rfl ?_ | refine Mix.p1 rfl rfl ?_ | refine Mix.s1 rfl rfl ?_);go_big_quiet_step (fail);refine wpQuiet_nil ?_)
   refine Mix.e1 rfl fun V2 hV2=>?_
   obtain ⟨k2,rfl⟩:=hV2
   go_wp2_with fail
   refine (eqResult_same (exX k) _).mono ?_
   rintro e w8 ⟨rfl,hc8⟩
   have M8:=hid ((M6.out.drewN (k1+d7+k2)).keep hc8).drop1c
   clear hc8 M6 M5 C6 T6 TB
   go_wp2_with fail
   repeat ((first | refine Mix.q1 rfl ?_ | refine Mix.p1 rfl rfl ?_ | refine Mix.s1 rfl rfl ?_);go_big_quiet_step (fail);refine wpQuiet_nil ?_)
   intro k3
   go_wp2_with fail
   go_roundw
   case rel=>exact ⟨k+1,σ5,bs5,_,hlt,by go_num,M8.out.drewN k3,HG5.out,KK5.out,GG5.out,EE5.out,LL5.out⟩
   case measure=>simp [intOf];omega
  ·obtain rfl:k=22:=by omega
   have d1:decide (22 < 22)=false:=rfl
   have d2:decide (((22:Nat):Int) < 22)=false:=rfl
   have RB:=hid (m_rd MM.out)
   go_wp2_with fail
   refine (rbegin_kind σ.g σ.r wr RB.out GG.out.1).mono ?_
   rintro e w5 ⟨rfl,hc5⟩
   have M5:=hid (MM.out.keep hc5)
   clear hc5 MM RB
   go_wp2_with fail
   refine (beg_any (c:=.len 0) M5.out KK.out GG.out.1 Nat.zero_lt_one).mono ?_
   rintro e w6 ⟨rfl,σ6,bs6,hM6,S6,_,_,_,_,K6,pg,G6,_,_,hst⟩
   have hpg:=start_free hst (by nofun) rfl EE.out.free
   subst hpg
   have M6:=hid hM6
   have hgg:σ.g=σ6.g:=S6.g.symm
   have HB6:=hid (show σ6.r.busy=true from G6.1)
   rw [hgg]
   clear hM6 S6 K6 G6 hst M5 KK GG EE LL hgg
   go_wp2_with fail
   refine (rbegin_busy σ6.g σ6.r ⟨6,0,0,0,0,0,⟨#[]⟩⟩ _ (m_rd M6.out) HB6.out).mono ?_
   rintro e w7 ⟨rfl,hc7⟩
   have B7:=hid (show Below w0.heap.size w0 w7 from (M6.out.keep hc7).bel)
   clear hc7 M6 HB6
   go_wp2_with fail
   refine (rstep_nil w7).mono ?_
   rintro e w8 ⟨rfl,hc8⟩
   have B8:=hid (B7.out.trans (hc8.belowB B7.out.size (fun _ _ h=>h.elim)))
   clear hc8 B7
   go_wp2_with fail
   refine (rrev_nil 0 w8).mono ?_
   rintro e w9 ⟨rfl,rfl⟩
   go_wp2_with fail
   refine (rcur_nil 0 w8).mono ?_
   rintro e w9 ⟨rfl,rfl⟩
   go_wp2_with fail
   refine (rnew_nil 0 w8).mono ?_
   rintro e w9 ⟨rfl,rfl⟩
   go_wp2_with fail
   refine (rbegin_nil ⟨0,0,0,0,0,0,⟨#[]⟩⟩ w8).mono ?_
   rintro e w10 ⟨rfl,hc10⟩
   have B10:=hid (B8.out.trans (hc10.belowB B8.out.size (fun _ _ h=>h.elim)))
   clear hc10 B8
   go_wp2_with fail
   refine (rnext_nil w10).mono ?_
   rintro e w9 ⟨rfl,rfl⟩
   go_wp2_with fail
   refine (rheld_nil w10).mono ?_
   rintro e w9 ⟨rfl,rfl⟩
   go_wp2_with fail
   refine (rresult_nil w10).mono ?_
   rintro e w11 ⟨rfl,hc11⟩
   have B11:=hid (B10.out.trans (hc11.belowB B10.out.size (fun _ _ h=>h.elim)))
   clear hc11 B10
   simp only [RsV.v,RsV.zero]
   go_wp2_with fail
   refine (eqResult_same RsV.zero w11).mono ?_
   rintro e w12 ⟨rfl,hc12⟩
   have B12:=hid (B11.out.trans (hc12.belowB B11.out.size (fun _ _ h=>h.elim)))
   clear hc12 B11
   go_wp2_with fail
   go_ret
   exact ⟨rfl,B12.out⟩
end Go.Proofs.YtjcdknhejcbpiaaGreat
