/- Lemmas that the proof of the last text leans on; no condition. -/
import Derived.Test.YtjcdknhejcbpiaaGreatAb35
import Derived.Test.YtjcdknhejcbpiaaGreatAb37
import Derived.Test.YtjcdknhejcbpiaaGreatAb30
set_option maxRecDepth 100000
set_option maxHeartbeats 800000
namespace Go.Proofs.YtjcdknhejcbpiaaGreat
open Go.RowKit
set_option linter.unusedVariables false
set_option linter.unusedSimpArgs false
set_option linter.unusedSectionVars false
def phs8 (l:List Int):List Value:=l.map (.int .u8)
theorem phs8_snoc (l:List Int) (p:Int):phs8 (l++[p])=phs8 l++[.int .u8 p]:=by simp [phs8]
theorem infoU8:(Tryz.prog.info? 5).map (fun i=>(i.zero,i.size,i.bytes))=some (some (Value.int .u8 0),1,1):=by kernel_rfl
theorem rnext_q (g:Nat) (r:Rd) (w:World) (h:Blk w g 111 r.cells) (k:Nat):Calls Tryz.prog 24 #[.pointer (some ⟨g,0,none⟩)] (w.drewN k) fun e w''=>e=.returned (.int .u8 r.ph)∧∃m,w''=w.drewN m:=
 Calls.quiet_of_same ((rnext_any g r (w.drewN k) (h.drewN k)).mono fun e w' ⟨he,hw⟩=>⟨he,hw.symm⟩)
def FinTo (B:Nat) (w0:World) (R:List Res) (σ:RS) (y:Ly) (n m:Nat) (ts:List (List UInt8)) (Kend:List Int→RS→RsV→Prop) (e:Ending) (w':World):Prop:=
 ∃σ' bs' x v phs,e=.returned (.tuple #[v,x.v,.bool true])∧Mem B w0 (σ'.L B++(boxR bs'::(R++[rowR B 5 1 phs.length v (phs8 phs)]))) w'∧Same σ σ'∧RnOk σ' y n m ts none∧PgAt σ' bs' n m ts (.fin x)∧Kend phs σ' x∧σ'.s.lg.length≤σ.s.lg.length+200
section
variable {B:Nat} {w0 w:World} {R:List Res} {σ σ':RS} {bs':List Bx} {y:Ly} {n m:Nat} {ts:List (List UInt8)}
def rzC:Array Value:=#[.int .i64 0,.int .i64 0,.int .i64 0,.int .i64 0,.int .u8 0,.string ⟨#[]⟩,.int .i64 0,.int .i64 0,.int .i64 0,.int .u8 0,.int .i64 0,.int .i64 0,.slice none 0 0]
theorem finish_gen (c:Cop) (Kst:Nat→List Int→RS→Pg→Prop) (Kend:List Int→RS→RsV→Prop) (M:Mem B w0 (σ.L B++(boxR bs'::R)) w) (hl:σ.s.lg.length < 700000)
  (hbeg:∀R W,Mem B w0 (σ.L B++(boxR bs'::R)) W→Calls Tryz.prog 13 #[.pointer (some ⟨σ.g,0,none⟩),c.op.v] W (BegTo B w0 R σ y n m ts c))
  (h0:∀σ1 bs1 pg,Same σ σ1→σ1.s=σ.s→σ1.sl=σ.sl→RnOk σ1 y n m ts none→PgAt σ1 bs1 n m ts pg→StartP σ ts c pg→∃f,f≤200∧Kst f [] σ1 pg)
  (h1:∀f phs σ1 σ2 hv pg pg',Kst f phs σ1 pg→(∃b,PgAt σ1 b n m ts pg)→RnOk σ1 y n m ts pg.hk→RnOk σ2 y n m ts pg'.hk→Same σ σ1→Same σ1 σ2→Nxt σ1 σ2 m hv pg' pg→(∃x,pg'=.fin x∧Kend (phs++[σ1.r.ph]) σ2 x)∨(pg'.ended=false∧∃f',f'+1≤f∧Kst f' (phs++[σ1.r.ph]) σ2 pg'))
  (hst:∀(R:List Res) (W:World) (f:Nat) (phs:List Int) (σ1:RS) (bs1:List Bx) (pg:Pg),Mem B w0 (σ1.L B++(boxR bs1::R)) W→RnOk σ1 y n m ts pg.hk→σ1.s.lg.length < 800000→PgAt σ1 bs1 n m ts pg→pg.ended=false→Kst f phs σ1 pg→Calls Tryz.prog 15 #[.pointer (some ⟨σ1.g,0,none⟩)] W (StepTo B w0 R σ1 bs1 y n m ts pg))
  (h2:∀f phs σ1 pg,Kst f phs σ1 pg→0 < f) :
  Calls Tryz.prog 12 #[.pointer (some ⟨σ.g,0,none⟩),c.op.v] w (FinTo B w0 R σ y n m ts Kend):=by
 obtain ⟨i0,hi,hz0,hz1,hz2⟩:=info_parts infoU8
 have HM:=hid M
 have HL:=hid hl
 have HB:=hid hbeg
 have H0:=hid h0
 have H1:=hid h1
 have H2:=hid h2
 have HS:=hid hst
 clear M hl hbeg h0 h1 h2 hst
 simp only [OpV.v]
 go_enter Tryz.func12,Tryz.ntmps12
 go_wp2_with fail
 refine calls_world fun W1 hW1=>?_
 obtain ⟨rb,hrb⟩:∃z,z=w.heap.size+1:=⟨_,rfl⟩
 have M1:=hid (show Mem B w0 (σ.L B++(boxR bs'::((R++[blkR rb 41 rzC])++[rowR B 5 1 0 (.slice none 0 0) []]))) W1 from by
  rw [hW1,hrb]
  have t1:=HM.out.alloc (.cells #[.int .u8 c.op.k,.int .i64 c.op.sl,.int .i64 c.op.at',.int .i64 c.op.n,.int .u32 c.op.id,.int .u8 c.op.g,.string c.op.s] 26)
  have e:(w.alloc (.cells #[.int .u8 c.op.k,.int .i64 c.op.sl,.int .i64 c.op.at',.int .i64 c.op.n,.int .u32 c.op.id,.int .u8 c.op.g,.string c.op.s] 26)).heap.size=w.heap.size+1:=by simp
  have t2:=t1.snoc (blkR (w.heap.size+1) 41 rzC) ((Ch.refl _ _).alloc (.cells rzC 41)) (by rw [←e];exact Blk.new _ _ _) (fun k hk=>by rw [show k=_ from hk,e];exact Nat.le_refl _)
  have t3:=t2.snoc (rowR B 5 1 0 (.slice none 0 0) []) (Ch.refl _ _) (World.ownsRow_nil _ _ _ _) (fun k hk=>by cases hk)
  exact t3)
 rw [←hrb]
 clear hW1 hrb
 refine (HB.out _ W1 M1.out).mono ?_
 rintro e w2 ⟨rfl,σ1,bs1,hM2,S1,hs1,hsl1,hps1,hop1,K1,pg,P1,hk1,he1,hst⟩
 obtain ⟨f,hf,hK⟩:=H0.out σ1 bs1 pg S1 hs1 hsl1 K1 P1 hst
 have M2:=hid hM2
 have G0:=hid (show ∃(f:Nat) (phs:List Int) (σ1:RS) (bs1:List Bx) (pg:Pg),(0:Nat)=phs.length∧Mem B w0 (σ1.L B++(boxR bs1::((R++[blkR rb 41 rzC])++[rowR B 5 1 phs.length (.slice none 0 0) (phs8 phs)]))) w2∧Same σ σ1∧RnOk σ1 y n m ts pg.hk∧PgAt σ1 bs1 n m ts pg∧pg.ended=false∧Kst f phs σ1 pg∧f+phs.length≤200∧σ1.s.lg.length≤σ.s.lg.length+phs.length from
  ⟨f,[],σ1,bs1,pg,rfl,M2.out,S1,by rw [hk1];exact K1,P1,he1,hK,by simpa using hf,by rw [hs1];simp⟩)
 clear hM2 S1 hs1 hsl1 hps1 hop1 K1 P1 hk1 he1 hst hf hK M2
 go_wp2_with fail
 go_loopw [7,8] (fun o i W=>∃(f:Nat) (phs:List Int) (σ1:RS) (bs1:List Bx) (pg:Pg),i=.int .i64 (phs.length:Int)∧Mem B w0 (σ1.L B++(boxR bs1::((R++[blkR rb 41 rzC])++[rowR B 5 1 phs.length o (phs8 phs)]))) W∧Same σ σ1∧RnOk σ1 y n m ts pg.hk∧PgAt σ1 bs1 n m ts pg∧pg.ended=false∧Kst f phs σ1 pg∧f+phs.length≤200∧σ1.s.lg.length≤σ.s.lg.length+phs.length) (fun _ i _=>200 - (intOf i).toNat)
 case atStart=>
  obtain ⟨f,phs,σ1,bs1,pg,h1,h2⟩:=G0.out
  exact ⟨f,phs,σ1,bs1,pg,by rw [←h1];rfl,h2⟩
 case round=>
  obtain ⟨f,phs,σ1,bs1,pg,rfl,hM,S1,K1,P1,he,hK,hf,hlg⟩:=hrel
  have hf0:=H2.out f phs σ1 pg hK
  obtain ⟨k,hk⟩:∃k:Nat,k=phs.length:=⟨_,rfl⟩
  have hk2:k < 200:=by omega
  have x1:decide (k < 200)=true:=decide_eq_true hk2
  have x2:decide ((k:Int) < 200)=true:=decide_eq_true (by omega)
  have hll:σ1.s.lg.length < 800000:=by have:=HL.out;omega
  rw [←hk]
  have M3:=hid hM
  have SS1:=hid S1
  have KK1:=hid K1
  have KS:=hid hK
  have HF:=hid hf
  have HG:=hid hlg
  have HK:=hid hk
  have PP1:=hid P1
  have HE:=hid he
  have HLL:=hid hll
  have hgs:σ.g=σ1.g:=S1.g.symm
  rw [hgs]
  clear hM S1 K1 hK hf hlg hk P1 he hll hgs hf0
  go_wp2_with fail
  refine (HS.out _ _ _ _ _ _ _ M3.out KK1.out HLL.out PP1.out HE.out KS.out).mono ?_
  rintro e w3 ⟨hv,σ2,pg2,rfl,hM4,S2,K2,P2,N2⟩
  have hnl:=nxt_len N2
  have M4:=hid hM4
  have SS2:=hid S2
  have KK2:=hid K2
  have PP2:=hid P2
  have HNL:=hid hnl
  have hst:=H1.out f phs σ1 σ2 hv pg pg2 KS.out ⟨_,PP1.out⟩ KK1.out K2 SS1.out S2 N2
  have hph:σ1.r.ph=σ1.r.ph:=rfl
  clear hM4 S2 K2 P2 N2 hnl hph
  simp only [stepV]
  have hrow:=M4.out.lastBc
  obtain ⟨A0,cap0,hv0,_⟩:=own_slice hrow
  subst hv0
  have hrow2:=hid hrow
  clear hrow
  obtain ⟨ed,hed⟩:∃b,b=pg2.ended:=⟨_,rfl⟩
  rw [←hed]
  have HED:=hid hed
  have HST:=hid hst
  have hlow:∀k,(Value.slice A0 phs.length cap0).ownBlock=some k→k < w3.heap.size:=fun k hk=>(hrow2.out.lt k hk).2
  have HLOW:=hid hlow
  clear hed hst hlow
  go_wp2_with (at_builtin;refine wpList_app _ rfl (.tmp 29) (.tmp 32) 27 rfl B 5 i0 _ 1 1 Tryz.underlying27 hi hz0 hz1 hz2 rfl (by decide) _ _ _ rfl ((hrow2.out.alloc _).alloc _) ⟨w3.heap.size+1,0,none⟩ 1 1 [.int .u8 σ1.r.ph] rfl rfl ?c1 ?c2 (by decide) ?c3 ?c4 ?c5 ?c6)
  case c1=>
   intro j u hu
   rw [addr_add0]
   have hb:Blk ((w3.alloc (.cells #[.int .i64 σ1.r.cl,.int .u8 σ1.r.ph,.bool (decide (σ1.s.lg.length < σ2.s.lg.length)),.int .u64 hv,.bool ed,.bool ed] 57)).alloc (.cells #[.int .u8 σ1.r.ph] 5)) (w3.heap.size+1) 5 #[.int .u8 σ1.r.ph]:=by
    have:=Blk.new (w3.alloc (.cells #[.int .i64 σ1.r.cl,.int .u8 σ1.r.ph,.bool (decide (σ1.s.lg.length < σ2.s.lg.length)),.int .u64 hv,.bool ed,.bool ed] 57)) 5 #[.int .u8 σ1.r.ph]
    simpa using this
   exact (hb.cell j).trans (by simpa using hu)
  case c2=>intro u hu;simp at hu;rw [hu];rfl
  case c3=>have:=HK.out;unfold maxLen;omega
  case c4=>have:=HK.out;omega
  case c5=>have:=M4.out.bz;simp;omega
  case c6=>
   intro v' w5 hown' hgrow hfresh
   have M5:=hid (((M4.out.alloc _).alloc _).appLastc hown' hgrow hfresh)
   rw [←phs8_snoc] at M5
   have Z5:=hid (Blk.grown ((Blk.new w3 57 #[.int .i64 σ1.r.cl,.int .u8 σ1.r.ph,.bool (decide (σ1.s.lg.length < σ2.s.lg.length)),.int .u64 hv,.bool ed,.bool ed]).alloc (.cells #[.int .u8 σ1.r.ph] 5)) hgrow (fun e=>by have:=HLOW.out _ e;omega))
   obtain ⟨A5,cap5,hv5,_⟩:=own_slice hown'
   subst hv5
   clear hown' hgrow hfresh
   have z1:w5.cell? ⟨w3.heap.size,1,none⟩=some (.int .u8 σ1.r.ph):=Z5.out.cell 1
   have z4:w5.cell? ⟨w3.heap.size,4,none⟩=some (.bool ed):=Z5.out.cell 4
   have z5:w5.cell? ⟨w3.heap.size,5,none⟩=some (.bool ed):=Z5.out.cell 5
   have lz:=Z5.out.lt
   rcases HST.out with ⟨x,hpx,hend⟩ | ⟨hne,f',hf',hK'⟩
   ·obtain rfl:ed=true:=by rw [HED.out,hpx];rfl
    subst hpx
    have HEND:=hid hend
    clear hend
    go_wp2_with fail
    obtain ⟨S,hS⟩:∃S:Nat→Prop,∀k,S k↔k=w3.heap.size:=⟨_,fun _=>Iff.rfl⟩
    have hSp:Mix.Has S w3.heap.size:=(hS _).2 rfl
    have HSS:=hid hS
    clear hS
    obtain ⟨hpb,hpp,hpr⟩:=PP2.out
    have HPP:=hid hpp
    have HPR:=hid hpr
    have hg2:σ2.g=σ1.g:=SS2.out.g
    have HG2:=hid hg2
    have RD5:=hid (show Blk w5 σ1.g 111 σ2.r.cells from by rw [←hg2];exact m_rd M5.out)
    clear hpb hpp hpr hg2 z1 z4
    have z4:w5.cell? ⟨w3.heap.size,4,none⟩=some (.bool true):=Z5.out.cell 4
    clear z5
    refine Mix.wp_region_mix S (fun i=>([1,0,3,1,4,0,0,0,1,1,0,2,0]:List Nat).getD i 0) [0,1,3,4,2,5,6,7,8,9,10,11,12] (by kernel_rfl) (by kernel_rfl) ?_
    repeat ((first | refine Mix.q1 rfl ?_ | refine Mix.p1 rfl rfl ?_ | refine Mix.s1 rfl rfl ?_);go_big_quiet_step (fail);refine wpQuiet_nil ?_)
    refine Mix.a1 rfl fun V1 hV1=>?_
    obtain ⟨k1,rfl⟩:=hV1
    go_wp2_with fail
    refine (rresult_any σ1.g σ2.r (w5.drewN k1) (RD5.out.drewN k1)).mono ?_
    rintro e w6 ⟨rfl,hc⟩
    rw [HPR.out]
    have M6:=hid ((M5.out.drewN k1).keep hc)
    have RD6:=hid (hc.blk (RD5.out.drewN k1) id)
    have HC6:=hid hc
    simp only [RsV.v]
    clear hc
    go_wp2_with fail
    refine ⟨fun k hk=>HC6.out.block k (by rw [(HSS.out k).1 hk];exact lz) id,?_⟩
    clear z4
    have BR:=hid (show Blk w6 rb 41 rzC from M6.out.last2c)
    have r0:w6.cell? ⟨rb,0,none⟩=some (.int .i64 0):=BR.out.cell 0
    have rf0:=BR.out.free 0
    have r1:w6.cell? ⟨rb,1,none⟩=some (.int .i64 0):=BR.out.cell 1
    have rf1:=BR.out.free 1
    have r2:w6.cell? ⟨rb,2,none⟩=some (.int .i64 0):=BR.out.cell 2
    have rf2:=BR.out.free 2
    have r3:w6.cell? ⟨rb,3,none⟩=some (.int .i64 0):=BR.out.cell 3
    have rf3:=BR.out.free 3
    have r4:w6.cell? ⟨rb,4,none⟩=some (.int .u8 0):=BR.out.cell 4
    have rf4:=BR.out.free 4
    have r5:w6.cell? ⟨rb,5,none⟩=some (.string ⟨#[]⟩):=BR.out.cell 5
    have rf5:=BR.out.free 5
    have r6:w6.cell? ⟨rb,6,none⟩=some (.int .i64 0):=BR.out.cell 6
    have rf6:=BR.out.free 6
    have r7:w6.cell? ⟨rb,7,none⟩=some (.int .i64 0):=BR.out.cell 7
    have rf7:=BR.out.free 7
    have r8:w6.cell? ⟨rb,8,none⟩=some (.int .i64 0):=BR.out.cell 8
    have rf8:=BR.out.free 8
    have r9:w6.cell? ⟨rb,9,none⟩=some (.int .u8 0):=BR.out.cell 9
    have rf9:=BR.out.free 9
    have r10:w6.cell? ⟨rb,10,none⟩=some (.int .i64 0):=BR.out.cell 10
    have rf10:=BR.out.free 10
    have r11:w6.cell? ⟨rb,11,none⟩=some (.int .i64 0):=BR.out.cell 11
    have rf11:=BR.out.free 11
    have r12:w6.cell? ⟨rb,12,none⟩=some (.slice none 0 0):=BR.out.cell 12
    have rf12:=BR.out.free 12
    repeat ((first | refine Mix.q1 rfl ?_ | refine Mix.p1 rfl rfl ?_ | refine Mix.s1 rfl rfl ?_);go_big_quiet_step (fail);refine wpQuiet_nil ?_)
    (refine Mix.q1 rfl ?_;go_big_quiet_step ((go_at_call 24;exact (by have t:=rnext_q σ1.g σ2.r w6 RD6.out;rw [HPP.out] at t;exact t _)));refine wpQuiet_nil ?_)
    repeat ((first | refine Mix.q1 rfl ?_ | refine Mix.p1 rfl rfl ?_ | refine Mix.s1 rfl rfl ?_);go_big_quiet_step (fail);refine wpQuiet_nil ?_)
    refine Mix.e1 rfl fun V2 hV2=>?_
    obtain ⟨k2,rfl⟩:=hV2
    go_wp2_with fail
    repeat ((first | refine Mix.q1 rfl ?_ | refine Mix.p1 rfl rfl ?_ | refine Mix.s1 rfl rfl ?_);go_big_quiet_step (fail);refine wpQuiet_nil ?_)
    intro k3
    refine at_world fun W7 hW7=>?_
    have M7:=hid (show Mem B w0 (σ2.L B++(boxR bs1::((R++[blkR rb 41 x.arr])++[rowR B 5 1 (phs++[σ1.r.ph]).length (.slice A5 (phs.length+1) cap5) (phs8 (phs++[σ1.r.ph]))]))) W7 from by
     rw [hW7,List.length_append,List.length_singleton]
     have hp:=(((((((((((((((M6.out.drewN k2).put2c 0 (.int .i64 x.er)).put2c 1 (.int .i64 x.rev)).put2c 2 (.int .i64 x.sl)).put2c 3 (.int .i64 x.at')).put2c 4 (.int .u8 x.g)).put2c 5 (.string x.s)).put2c 6 (.int .i64 x.b)).put2c 7 (.int .i64 x.r)).put2c 8 (.int .i64 x.l)).put2c 9 (.int .u8 x.ik)).put2c 10 (.int .i64 x.fr)).put2c 11 (.int .i64 x.to)).put2c 12 (.slice none 0 0)).drewN k3)
     rw [show (((((((((((((rzC.setIfInBounds 0 (.int .i64 x.er)).setIfInBounds 1 (.int .i64 x.rev)).setIfInBounds 2 (.int .i64 x.sl)).setIfInBounds 3 (.int .i64 x.at')).setIfInBounds 4 (.int .u8 x.g)).setIfInBounds 5 (.string x.s)).setIfInBounds 6 (.int .i64 x.b)).setIfInBounds 7 (.int .i64 x.r)).setIfInBounds 8 (.int .i64 x.l)).setIfInBounds 9 (.int .u8 x.ik)).setIfInBounds 10 (.int .i64 x.fr)).setIfInBounds 11 (.int .i64 x.to)).setIfInBounds 12 (.slice none 0 0))=x.arr from by kernel_rfl] at hp
     exact hp)
    clear hW7 r0 rf0 r1 rf1 r2 rf2 r3 rf3 r4 rf4 r5 rf5 r6 rf6 r7 rf7 r8 rf8 r9 rf9 r10 rf10 r11 rf11 r12 rf12
    have BX:=hid (show Blk W7 rb 41 x.arr from M7.out.last2c)
    go_wp2_with fail
    have t0:W7.cell? ⟨rb,0,none⟩=some (.int .i64 x.er):=BX.out.cell 0
    have t1:W7.cell? ⟨rb,1,none⟩=some (.int .i64 x.rev):=BX.out.cell 1
    have t2:W7.cell? ⟨rb,2,none⟩=some (.int .i64 x.sl):=BX.out.cell 2
    have t3:W7.cell? ⟨rb,3,none⟩=some (.int .i64 x.at'):=BX.out.cell 3
    have t4:W7.cell? ⟨rb,4,none⟩=some (.int .u8 x.g):=BX.out.cell 4
    have t5:W7.cell? ⟨rb,5,none⟩=some (.string x.s):=BX.out.cell 5
    have t6:W7.cell? ⟨rb,6,none⟩=some (.int .i64 x.b):=BX.out.cell 6
    have t7:W7.cell? ⟨rb,7,none⟩=some (.int .i64 x.r):=BX.out.cell 7
    have t8:W7.cell? ⟨rb,8,none⟩=some (.int .i64 x.l):=BX.out.cell 8
    have t9:W7.cell? ⟨rb,9,none⟩=some (.int .u8 x.ik):=BX.out.cell 9
    have t10:W7.cell? ⟨rb,10,none⟩=some (.int .i64 x.fr):=BX.out.cell 10
    have t11:W7.cell? ⟨rb,11,none⟩=some (.int .i64 x.to):=BX.out.cell 11
    have t12:W7.cell? ⟨rb,12,none⟩=some (.slice none 0 0):=BX.out.cell 12
    refine bodyPost_ret (v:=.tuple #[.slice A5 (phs.length+1) cap5,x.v,.bool true]) (by simp [results,Tryz.results12,go_sem,RsV.v,t0,t1,t2,t3,t4,t5,t6,t7,t8,t9,t10,t11,t12]) rfl ?_
    refine ⟨σ2,bs1,x,_,phs++[σ1.r.ph],rfl,M7.out.drop2c,SS1.out.trans SS2.out,KK2.out,PP2.out,HEND.out,?_⟩
    have:=HNL.out
    have:=HG.out
    have:=HK.out
    omega
   ·obtain rfl:ed=false:=by rw [HED.out,hne]
    have HK':=hid hK'
    have HNE:=hid hne
    clear hne hK'
    go_wp2_with fail
    go_roundw
    case rel=>
     refine ⟨f',phs++[σ1.r.ph],σ2,bs1,pg2,?_,?_,SS1.out.trans SS2.out,KK2.out,PP2.out,HNE.out,HK'.out,?_,?_⟩
     ·rw [List.length_append,List.length_singleton,←HK.out]
      go_num
     ·rw [List.length_append,List.length_singleton]
      exact M5.out
     ·rw [List.length_append,List.length_singleton]
      have:=HF.out
      omega
     ·rw [List.length_append,List.length_singleton]
      have:=HNL.out
      have:=HG.out
      omega
    case measure=>simp [intOf];omega
end
end Go.Proofs.YtjcdknhejcbpiaaGreat
