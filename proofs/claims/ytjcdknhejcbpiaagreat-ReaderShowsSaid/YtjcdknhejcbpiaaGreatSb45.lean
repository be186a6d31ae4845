/- Lemmas; no condition. -/
import Derived.Test.YtjcdknhejcbpiaaGreatSb44
import Derived.Deep.CutRange
set_option maxRecDepth 100000
set_option maxHeartbeats 60000000
namespace Go.Proofs.YtjcdknhejcbpiaaGreat
open Go.RowKit
set_option linter.unusedVariables false
set_option linter.unusedSimpArgs false
set_option linter.unusedSectionVars false
theorem arr7 {a:Array Value} (h:a.size=7):∃v0 v1 v2 v3 v4 v5 v6,a=#[v0,v1,v2,v3,v4,v5,v6]:=by
 obtain ⟨l⟩:=a
 have h:l.length=7:=h
 obtain ⟨v0,l,rfl⟩:=List.exists_cons_of_length_eq_add_one h
 have h:l.length=6:=by simpa using h
 obtain ⟨v1,l,rfl⟩:=List.exists_cons_of_length_eq_add_one h
 have h:l.length=5:=by simpa using h
 obtain ⟨v2,l,rfl⟩:=List.exists_cons_of_length_eq_add_one h
 have h:l.length=4:=by simpa using h
 obtain ⟨v3,l,rfl⟩:=List.exists_cons_of_length_eq_add_one h
 have h:l.length=3:=by simpa using h
 obtain ⟨v4,l,rfl⟩:=List.exists_cons_of_length_eq_add_one h
 have h:l.length=2:=by simpa using h
 obtain ⟨v5,l,rfl⟩:=List.exists_cons_of_length_eq_add_one h
 have h:l.length=1:=by simpa using h
 obtain ⟨v6,l,rfl⟩:=List.exists_cons_of_length_eq_add_one h
 have h:l.length=0:=by simpa using h
 rw [List.length_eq_zero_iff] at h
 exact ⟨v0,v1,v2,v3,v4,v5,v6,by rw [h]⟩
theorem ShS.op {w0 W W':World} {pb ob n c k:Nat} {oa oa':Array Value} {σ:RS} {bs:List Bx} {p:PlS} {ts:List (List UInt8)} (h:ShS w0 pb ob n c k oa W σ bs p ts) (hb:Blk W' ob 26 oa') (hz:oa'.size=7) (hc:Ch (fun k=>k=ob) W W'):ShS w0 pb ob n c k oa' W' σ bs p ts:=
 { h with
  M:=h.M.upd (i:=13) (blkR ob 26 oa') rfl hc (fun _ _ e=>e) hb (fun _ e=>.inl e)
  oz:=hz }
theorem swap_end {B:Nat} {w0 w:World} {A:List Res} {a b:Res} (h:Mem B w0 (A++[a,b]) w):Mem B w0 (A++[b,a]) w:=h.perm ((List.Perm.swap _ _ _).append_left A)
theorem mem_lo {B:Nat} {w0 w:World} {A R:List Res} (h:Mem B w0 (A++R) w):Mem B w0 A w:=mem_drop h
theorem Mix.wpX_cutL {P:Program} {ops:Array Oper} {S:Nat->Prop} {kd:Nat->Nat} {Q:Act->World->Prop} {fuel:Nat} {listed:Array Bool} {a:Act} {w:World} (f2:Nat) (l2:Array Bool) (J1:Act->Act->World->Prop) (fin:∀a' w',J1 a a' w'->Mix.wpX P ops S kd Q f2 l2 a' w') (main:(∀a' w',J1 a a' w'->Mix.wpX P ops S kd Q f2 l2 a' w')->Mix.wpX P ops S kd Q fuel listed a w):Mix.wpX P ops S kd Q fuel listed a w:=main fin
theorem Mix.wpX_as {P:Program} {ops:Array Oper} {S:Nat->Prop} {kd:Nat->Nat} {Q:Act->World->Prop} {fuel:Nat} {listed l2:Array Bool} {a:Act} {w:World} (h:listed=l2) (H:Mix.wpX P ops S kd Q fuel l2 a w):Mix.wpX P ops S kd Q fuel listed a w:=h ▸ H
theorem walk_any (s:ByteArray) (n:Nat) (a:Option Addr) (nn c:Nat) (l:List EvR) (w0:World) (h:InEvR w0 a nn l) (hs:s.size<=120) (hv:vdB (bs s)=true) (hn:n<=4) (hnn:nn<=150) (h6:∀x ∈ l,x.s.size<=120/\x.mn<=4) (h7:cnt6 l<=6) :
  Calls Tryz.prog 9 #[.string s,.int .i64 (n:Int),.slice a nn c] w0 fun e w'=>e=.returned (.bool true)/\Below w0.heap.size w0 w':=by
 have HE:=hid h
 have HS1:=hid hs
 have HS2:=hid hv
 have HN4:=hid hn
 have HS6:=hid h6
 have HS7:=hid h7
 have HNN:=hid hnn
 clear h hs hv h6 h7 hnn hn
 go_enter Tryz.func9,Tryz.ntmps9
 go_wp2_with fail
 refine (plain_any w0 s n HS1.out HS2.out HN4.out w0 (Below.refl _ _) (Nat.le_refl _)).mono ?_
 rintro e w2 ⟨σ,p,y,rfl,hM,hP⟩
 have HP:=hid hP
 have M2:=hid hM
 clear hM hP
 go_wp2_with fail
 refine at_world fun W3 hW3=>?_
 obtain ⟨ob,hob⟩:∃z,z=w2.heap.size:=⟨_,rfl⟩
 have M3:=hid (show Mem w0.heap.size w0 (σ.L w0.heap.size++(boxR []::(p.L w0.heap.size σ.r.sb σ.g n++[blkR ob 26 opZ]))) W3 from by
  rw [hW3,hob]
  exact Mem.snoc (R:=boxR []::(p.L w0.heap.size σ.r.sb σ.g n++[])) M2.out (blkR _ 26 opZ) ((Ch.refl (fun _=>False) _).alloc _) (Blk.new _ _ _) (fun k hk=>by rw [show k=_ from hk];exact Nat.le_refl _))
 rw [<-hob]
 clear hW3 hob M2
 obtain ⟨pb,hpb⟩:∃z,z=p.g:=⟨_,rfl⟩
 have HI0:=hid (show ∃σ bs p ts oa,ShS w0 pb ob n 0 0 oa W3 σ bs p ts/\Ph σ p bs n y ts oa false 0 false from ⟨σ,[],p,_,opZ,by rw [hpb];exact shs_start HP.out HS1.out M3.out⟩)
 rw [<-hpb]
 clear hpb HP M3
 go_wp2_with fail
 go_loopw [8,9,10,12] (fun b st sh i W=>∃(k:Nat) (σ:RS) (bs:List Bx) (p:PlS) (ts:List (List UInt8)) (oa:Array Value) (bb:Bool) (stn:Nat) (shb:Bool),k<=nn/\b=.bool bb/\st=.int .i64 (stn:Int)/\sh=.bool shb/\i=.int .i64 (k:Int)/\ShS w0 pb ob n (cnt6 (l.take k)) k oa W σ bs p ts/\Ph σ p bs n y ts oa bb stn shb) (fun _ _ _ i _=>nn - (intOf i).toNat)
 case atStart=>
  obtain ⟨σ,bs,p,ts,oa,hi⟩:=HI0.out
  exact ⟨0,σ,bs,p,ts,oa,false,0,false,Nat.zero_le _,rfl,rfl,rfl,rfl,hi⟩
 case round=>
  obtain ⟨k,σ,bs,p,ts,oa,bb,stn,shb,hk,rfl,rfl,rfl,rfl,hI,hPh⟩:=hrel
  have HI:=hid hI
  have HPH:=hid hPh
  clear hI HI0 hPh
  have hnn:nn<=150:=HNN.out
  by_cases hlt:k < nn
  {
 have d1:decide (k < nn)=true:=decide_eq_true hlt
 have d1':decide ((k:Int) < (nn:Int))=true:=decide_eq_true (by omega)
 obtain ⟨z,hz⟩:∃z,l[k]?=some z:=⟨_,List.getElem?_eq_getElem (by rw [HE.out.1];exact hlt)⟩
 obtain ⟨b,off,hab,hbl,hcc⟩:=HE.out.2.2 (by omega)
 subst hab
 have hzm:=List.mem_of_getElem? hz
 have HZ6:=hid (HS6.out z hzm)
 have HZO:=hid (HE.out.2.1 z hzm)
 have HC6:=hid (cnt6_take hz)
 have HCL:=hid (Nat.le_trans (cnt6_le l (k+1)) HS7.out)
 have hcell:∀j v,z.cells[j]?=some v->wr.cell? ⟨b,off+(k * 10+j),none⟩=some v:=fun j v hj=>(below_cell HI.out.M.bel (p:=⟨b,_,none⟩) hbl).trans (hcc k j z v hz hj)
 have c0:wr.cell? ⟨b,off+k * 10,none⟩=some (.int .u8 z.d):=hcell 0 _ rfl
 have c1:wr.cell? ⟨b,off+k * 10+1,none⟩=some (.int .u8 z.op.k):=hcell 1 _ rfl
 have c2:wr.cell? ⟨b,off+k * 10+2,none⟩=some (.int .i64 z.op.sl):=hcell 2 _ rfl
 have c3:wr.cell? ⟨b,off+k * 10+3,none⟩=some (.int .i64 z.op.at'):=hcell 3 _ rfl
 have c4:wr.cell? ⟨b,off+k * 10+4,none⟩=some (.int .i64 z.op.n):=hcell 4 _ rfl
 have c5:wr.cell? ⟨b,off+k * 10+5,none⟩=some (.int .u32 z.op.id):=hcell 5 _ rfl
 have c6:wr.cell? ⟨b,off+k * 10+6,none⟩=some (.int .u8 z.op.g):=hcell 6 _ rfl
 have c7:wr.cell? ⟨b,off+k * 10+7,none⟩=some (.string z.op.s):=hcell 7 _ rfl
 have c8:wr.cell? ⟨b,off+k * 10+8,none⟩=some (.string z.s):=hcell 8 _ rfl
 have c9:wr.cell? ⟨b,off+k * 10+9,none⟩=some (.slice z.ma z.mn z.mc):=hcell 9 _ rfl
 have hg:=HI.out.hg
 subst hg
 clear hcell hcc hz hzm
 by_cases hge:6<=z.d.tmod 8
 ·have g1:decide (6<=z.d.tmod 8)=true:=decide_eq_true hge
  by_cases h6:z.d.tmod 8=6
  {
 have H6:=hid h6
 obtain ⟨hkk,hK,hPub⟩:=HPH.out.pub
 have HK:=hid hK
 have HPU:=hid hPub
 clear h6 hge hK hPub
 go_wp2_with fail
 refine (other6_any HI.out.M HK.out (by have:=HI.out.lg;have:=HNN.out;omega) z HZO.out H6.out HZ6.out.1 HZ6.out.2 (by rw [HI.out.an];have:=HI.out.nl;have q6:=HC6.out;have:=HCL.out;rw [if_pos H6.out] at q6;omega) (by rw [HI.out.an];decide) (by have:=HI.out.tl;have q6:=HC6.out;have:=HCL.out;rw [if_pos H6.out] at q6;omega)).mono ?_
 rintro e w4 ⟨rfl,ys,rv',r1,lv',mv,hM4,hK4,hyl,hms⟩
 have hI4:ShS w0 p.g ob n (cnt6 (l.take (k+1))) (k+1) oa w4 (σ.pub ys rv' r1 lv' 2) bs (p.pub z mv r1) (ts++[z.s.data.toList]):={
  M:=hM4
  I:=HI.out.I.pub HK.out ys rv' r1 lv' z mv hms
  hg:=rfl
  an:=HI.out.an
  nl:=by have:=HI.out.nl;rw [HC6.out,if_pos H6.out];show (σ.ns++ys).length<=_;rw [List.length_append];omega
  tl:=by have:=HI.out.tl;rw [HC6.out,if_pos H6.out,List.length_append,List.length_singleton];omega
  lg:=by have:=HI.out.lg;show (σ.s.store 2 1 (σ.rs.length:Int)).lg.length<=_;rw [store_len];omega
  tz:=fun tx ht=>by
   rcases List.mem_append.1 ht with ht | ht
   ·exact HI.out.tz tx ht
   ·rw [List.mem_singleton.1 ht,dsize];exact HZ6.out.1
  oz:=HI.out.oz }
 have HI4:=hid hI4
 have HPH4:=hid (HPU.out ys rv' r1 lv' z mv hK4)
 clear hM4 hK4 hyl hI4 hms HPU HK c0 c1 c2 c3 c4 c5 c6 c7 c8 c9
 go_wp2_with fail
 go_roundw
 case rel=>exact ⟨k+1,_,_,_,_,_,bb,stn,shb,hlt,rfl,rfl,rfl,by go_num,HI4.out,HPH4.out⟩
 case measure=>simp [intOf];omega
 }
  {
 have hd7:z.d.tmod 8=7:=by have:=Int.tmod_lt_of_pos z.d (show (0:Int) < 8 by decide);omega
 have H7:=hid hd7
 have HC6':=hid (show cnt6 (l.take (k+1))=cnt6 (l.take k) from by rw [HC6.out,if_neg h6,Nat.add_zero])
 obtain ⟨hkk,hK,hSh⟩:=HPH.out.shut
 have HK:=hid hK
 have HPU:=hid hSh
 clear h6 hge hK hSh hd7
 go_wp2_with fail
 refine (other7_any HI.out.M HK.out (by have:=HI.out.lg;have:=HNN.out;omega) z H7.out).mono ?_
 rintro e w4 ⟨rfl,lv',hM4,hK4⟩
 have hI4:ShS w0 p.g ob n (cnt6 (l.take (k+1))) (k+1) oa w4 (σ.shut lv' 2) bs p.shut ts:={
  M:=hM4
  I:=HI.out.I.shut HK.out lv'
  hg:=rfl
  an:=HI.out.an
  nl:=by rw [HC6'.out];exact HI.out.nl
  tl:=by rw [HC6'.out];exact HI.out.tl
  lg:=by have:=HI.out.lg;show (σ.s.store 2 (0:Nat) 1).lg.length<=_;rw [store_len];omega
  tz:=HI.out.tz
  oz:=HI.out.oz }
 have HI4:=hid hI4
 have HPH4:=hid (HPU.out lv' hK4)
 clear hM4 hK4 hI4 HPU HK c0 c1 c2 c3 c4 c5 c6 c7 c8 c9
 go_wp2_with fail
 go_roundw
 case rel=>exact ⟨k+1,_,_,_,_,_,bb,stn,shb,hlt,rfl,rfl,rfl,by go_num,HI4.out,HPH4.out⟩
 case measure=>simp [intOf];omega
 }
 ·have g1:decide (6<=z.d.tmod 8)=false:=decide_eq_false hge
  have HC6':=hid (show cnt6 (l.take (k+1))=cnt6 (l.take k) from by rw [HC6.out,if_neg (by omega),Nat.add_zero])
  clear hge
  go_upto_if 47 with fail
  go_cut [8,9,10] from 48 to 71 (fun b st sh w=>∃(cc:Cop) (σ:RS) (bs:List Bx) (pg:Pg) (f hgt stn:Nat) (shb:Bool),b=.bool true/\st=.int .i64 (stn:Int)/\sh=.bool shb/\RdyS w0 p.g ob n (cnt6 (l.take k)) k cc w σ bs p ts y pg f hgt stn shb)
  case rest=>
   (
 obtain ⟨cc,σ,bs,pg,f,hgt,stn,shb,rfl,rfl,rfl,hr⟩:=hcut
 have HR:=hid hr
 clear hr HI HPH c0 c1 c2 c3 c4 c5 c6 c7 c8 c9
 have q6:wc.cell? ⟨p.g,6,none⟩=some (.int .i64 p.now.h):=(p_blk HR.out.S.M).cell 6
 have q2:wc.cell? ⟨p.g,2,none⟩=some (.slice (some ⟨p.hb,0,none⟩) n n):=(p_blk HR.out.S.M).cell 2
 have OB:=hid (show Blk wc ob 26 (opA cc) from HR.out.S.M.each 13 _ rfl)
 obtain ⟨o0,o1⟩:=OB.out.c2
 obtain ⟨nh,hnh,hnh2⟩:=now_h HR.out.S.I HR.out.K HR.out.S.tz
 have HNH:=hid hnh2
 rw [hnh] at q6
 clear hnh hnh2 OB
 go_upto_if 79 with fail
 go_cut [15] from 80 to 88 (fun ht w=>∃hh:Nat,ht=.int .i64 (hh:Int)/\hh<=20/\bdN hh cc=bdN hgt cc/\RdyS w0 p.g ob n (cnt6 (l.take k)) k cc w σ bs p ts y pg f hgt stn shb)
 case first=>
  by_cases hcq:cc=.acq
  ·have f1:(cc.op.k != 5)=false:=by rw [hcq];rfl
   go_wp2_with fail
   go_meet
   case rel=>exact ⟨nh,rfl,by have:=HNH.out;omega,by rw [hcq];rfl,HR.out⟩
  {
 have f1:(cc.op.k != 5)=true:=by cases cc <;> first | rfl | exact absurd rfl hcq
 obtain ⟨x,hx1,hx2⟩:=HR.out.ht.2 hcq
 have hsl:cc.op.sl=((cc.slot:Nat):Int):=by cases cc <;> first | rfl | exact absurd rfl hcq
 obtain ⟨ks,hks⟩:∃z,z=cc.slot:=⟨_,rfl⟩
 rw [<-hks] at hx1 hsl
 rw [hsl] at o1
 have hslt:ks < n:=by rw [<-HR.out.S.I.H.len];exact (List.getElem?_eq_some_iff.1 hx1).1
 have d2:decide (ks < n)=true:=decide_eq_true hslt
 have i3:wc.cell? ⟨p.hb,ks * 5+3,none⟩=some (.int .i64 (hgt:Int)):=by rw [<-hx2];exact hd_cell (p_hs HR.out.S.M) hx1 3 _ rfl
 have HCQ:=hid hcq
 clear hx1 hx2 hsl hks hcq
 go_wp2_with fail
 refine Mix.rt [0,0,0,0,0,0,0,0,0,0] [0,1,2,3,4,5,6,7,8,9] ?_
 repeat ((first | refine Mix.zq ?_ | refine Mix.zp ?_ | refine Mix.zs ?_);go_big_quiet_step (fail);refine wpQuiet_nil ?_)
 intro k20
 go_wp2_with fail
 go_meet
 case rel=>exact ⟨hgt,rfl,by have:=HR.out.ht.1;omega,rfl,{ HR.out with S:={ HR.out.S with M:=HR.out.S.M.drewN k20 } }⟩
 }
 case rest=>
  obtain ⟨hh,rfl,hh1,hh2,hr⟩:=hcut
  have HR0:=hid hr
  have HB:=hid (And.intro hh1 hh2)
  clear hr HR q6 q2 o0 o1 hh1 hh2 HNH
  have HR:=HR0
  clear HR0
  have q1:wc.cell? ⟨p.g,1,none⟩=some (.pointer (some ⟨σ.g,0,none⟩)):=(p_blk HR.out.S.M).cell 1
  go_wp2_with fail
  refine (step_all HR.out.S.M HR.out.K (by have:=HR.out.S.lg;have:=HNN.out;omega) HR.out.G HR.out.e).mono ?_
  rintro e w5 ⟨hv,σ2,pg2,rfl,hM5,S5,K5,G5,N5⟩
  obtain ⟨hacc,hst1,hcase⟩:=rdy_step HR.out hM5 S5 K5 G5 N5
  have HP5:=hid hM5
  have HCASE:=hid hcase
  have HST:=hid hst1
  have HG5:=hid G5
  obtain ⟨ed,hEd⟩:∃b,b=pg2.ended:=⟨_,rfl⟩
  obtain ⟨ac,hAc⟩:∃b,b=decide (σ.s.lg.length < σ2.s.lg.length):=⟨_,rfl⟩
  have hac2:ac=false\/(hv != 0)=false:=by
   rcases hacc with h | h
   ·exact .inr (by rw [h];rfl)
   ·exact .inl (by rw [hAc];exact decide_eq_false (by omega))
  simp only [stepV]
  rw [<-hEd,<-hAc]
  have HED:=hid hEd
  have HAC:=hid hac2
  have HS5:=hid S5
  clear hM5 S5 K5 G5 N5 hacc hst1 hcase hEd hAc hac2 q1
  go_upto_region 22 with fail
  refine at_world fun W6 hW6=>?_
  obtain ⟨tb,htb⟩:∃z,z=w5.heap.size:=⟨_,rfl⟩
  have C6:=hid (show Ch (fun _=>False) w5 W6 from by rw [hW6];exact (Ch.refl _ w5).alloc _)
  have T6:=hid (show Blk W6 tb 57 #[.int .i64 σ.r.cl,.int .u8 σ.r.ph,.bool ac,.int .u64 hv,.bool ed,.bool ed] from by rw [hW6,htb];exact Blk.new w5 _ _)
  rw [<-htb]
  clear hW6 htb
  have MP6:=hid (HP5.out.keep C6.out)
  have OB:=hid (show Blk W6 ob 26 (opA cc) from MP6.out.each 13 _ rfl)
  obtain ⟨o0,o1,o2,o3,o4,o5,o6⟩:=OB.out.c7
  have hbd:=bd_le cc HR.out.sm HR.out.ht.1
  have hs1:=HST.out
  obtain ⟨bd,hbn⟩:∃z,z=bdN hgt cc:=⟨_,rfl⟩
  rw [<-hbn] at hbd hs1
  have HBN:=hid hbn
  clear hbn
  have d3:decide (bd < stn+1)=false:=decide_eq_false (by omega)
  have d3':decide ((bd:Int) < (stn:Int)+1)=false:=decide_eq_false (by omega)
  obtain ⟨-,-,t2,t3⟩:=T6.out.c4
  clear OB
  go_upto_region 23 with fail
  go_cut [116] from 99 to 115 (fun c w=>c=.bool false/\Mem w0.heap.size w0 (σ2.L w0.heap.size++(boxR bs::(p.L w0.heap.size σ.r.sb σ.g n++[blkR ob 26 (opA cc)]))) w/\Blk w tb 57 #[.int .i64 σ.r.cl,.int .u8 σ.r.ph,.bool ac,.int .u64 hv,.bool ed,.bool ed])
  case first=>
   (
 go_wp2_with fail
 refine (bound_any HR.out.sm hh HB.out.1 W6).mono ?_
 rintro e w7 ⟨rfl,hc⟩
 have MP7:=hid (MP6.out.keep hc)
 have T7:=hid (hc.blk T6.out id)
 rw [HB.out.2,<-HBN.out]
 clear hc o0 o1 o2 o3 o4 o5 o6 t2 t3
 obtain ⟨-,-,t2,t3⟩:=T7.out.c4
 rcases HAC.out with rfl | hz
 ·go_wp2_with fail
  go_meet
  case rel=>exact ⟨rfl,MP7.out,T7.out⟩
 ·cases ac with
  | false=>
   go_wp2_with fail
   go_meet
   case rel=>exact ⟨rfl,MP7.out,T7.out⟩
  | true=>
   go_wp2_with fail
   go_meet
   case rel=>exact ⟨rfl,MP7.out,T7.out⟩
 )
  case rest=>
   (
 obtain ⟨rfl,hm,ht⟩:=hcut
 have MC:=hid hm
 have TC:=hid ht
 clear hm ht o0 o1 o2 o3 o4 o5 o6 t2 t3 MP6 T6 C6 HP5 d3 d3'
 have t5:wc.cell? ⟨tb,5,none⟩=some (.bool ed):=TC.out.cell 5
 cases ed with
 | false=>
  rcases HCASE.out with ⟨_,hS,hP⟩ | ⟨r,hr,_⟩
  case inr=>have h:=HED.out;rw [hr] at h;cases h
  have HSS:=hid hS
  have HPP:=hid hP
  clear hS hP
  go_wp2_with fail
  go_roundw
  case rel=>exact ⟨k+1,σ2,bs,p,ts,opA cc,true,stn+1,shb,hlt,rfl,by go_num,rfl,by go_num,by rw [HC6'.out];exact { HSS.out with M:=p_same MC.out HS5.out },HPP.out⟩
  case measure=>simp [intOf];omega
 | true=>
  rcases HCASE.out with ⟨h,_⟩ | ⟨r,hr,hW,hZ,hlg,_,hI,hfin⟩
  case inl=>have h':=HED.out;rw [h] at h';cases h'
  subst hr
  have HHW:=hid hW
  have HHZ:=hid hZ
  have HFIN:=hid hfin
  have HHL:=hid (And.intro HR.out.S.I.P.hl HR.out.S.I.P.hp)
  have HPO:=hid HR.out.S.I.P.pool
  have HRS:=hid HG5.out.2.2
  have HSM:=hid HR.out.sm
  have M2:=hid (p_same MC.out HS5.out)
  have PB:=hid (p_blk M2.out)
  have p9:wc.cell? ⟨p.g,9,none⟩=some (.bool p.cl):=PB.out.cell 9
  have pf9:=PB.out.free 9
  clear hW hZ hlg hI hfin HCASE
  go_upto_region 29 with fail
  refine at_world fun W8 hW8=>?_
  have M29:=hid (show Mem w0.heap.size w0 (σ2.L w0.heap.size++(boxR bs::(PlS.L w0.heap.size { p with cl:=shb } σ2.r.sb σ2.g n++[blkR ob 26 (opA cc)]))) W8 from by rw [hW8];exact p_put M2.out 9 (.bool shb) { p with cl:=shb } rfl rfl rfl rfl rfl)
  clear hW8 p9 pf9 PB t5
  have OB:=hid (show Blk W8 ob 26 (opA cc) from M29.out.each 13 _ rfl)
  obtain ⟨o0,o1,o2,o3,o4,o5,o6⟩:=OB.out.c7
  have q1:W8.cell? ⟨p.g,1,none⟩=some (.pointer (some ⟨σ2.g,0,none⟩)):=(p_blk M29.out).cell 1
  clear OB
  obtain ⟨S,hS⟩:∃S:Nat->Prop,∀k,S k↔(k=p.g\/k=ob):=⟨_,fun _=>Iff.rfl⟩
  have hSp1:Mix.Has S p.g:=(hS _).2 (.inl rfl)
  have hSp2:Mix.Has S ob:=(hS _).2 (.inr rfl)
  have HSS:=hid hS
  clear hS
  obtain ⟨Y,hY⟩:∃Y:List Res->World->Prop,Y=fun R W=>Mem w0.heap.size w0 (σ2.L w0.heap.size++(boxR bs::(PlS.L w0.heap.size { p with cl:=shb } σ2.r.sb σ2.g n++(blkR ob 26 (opA cc)::R)))) W:=⟨_,rfl⟩
  have HD:=hid (show ∀R W k,Y R W->Y R (W.drewN k) from by rw [hY];exact fun R W k h=>Mem.drewN h k)
  have HWA:=hid (show ∀R W,Y R W->Calls Tryz.prog 33 #[.pointer (some ⟨p.g,0,none⟩),(.agg #[.int .u8 cc.op.k,.int .i64 cc.op.sl,.int .i64 cc.op.at',.int .i64 cc.op.n,.int .u32 cc.op.id,.int .u8 cc.op.g,.string cc.op.s])] W fun e w'=>e=.returned (.agg #[.int .i64 r.er,.int .i64 r.rev,.int .i64 r.sl,.int .i64 r.at',.int .u8 r.g,.string r.s,.int .i64 r.b,.int .i64 r.r,.int .i64 r.l,.int .u8 r.ik,.int .i64 r.fr,.int .i64 r.to,.slice none 0 0])/\Y R w'/\Ch (fun _=>False) W w' from by
   rw [hY]
   exact fun R W h=>(want_mem (p:={ p with cl:=shb }) h HHL.out.1 HN4.out HHL.out.2 HHZ.out HR.out.sm HHW.out).mono fun e w' h'=>⟨h'.1,h.keep h'.2,h'.2⟩)
  have HRE:=hid (show ∀R W,Y R W->Calls Tryz.prog 17 #[.pointer (some ⟨σ2.g,0,none⟩)] W fun e w'=>e=.returned (.agg #[.int .i64 r.er,.int .i64 r.rev,.int .i64 r.sl,.int .i64 r.at',.int .u8 r.g,.string r.s,.int .i64 r.b,.int .i64 r.r,.int .i64 r.l,.int .u8 r.ik,.int .i64 r.fr,.int .i64 r.to,.slice none 0 0])/\Y R w' from by
   rw [hY]
   exact fun R W h=>(rresult_any σ2.g σ2.r _ (m_rd h)).mono fun e w' h'=>⟨by rw [h'.1,HRS.out];rfl,h.keep h'.2⟩)
  have HAL:=hid (show ∀R W,Y R W->Y (R++[blkR W.heap.size 41 rzC]) (W.alloc (.cells rzC 41)) from by
   rw [hY]
   exact fun R W h=>h.snoc (A:=σ2.L w0.heap.size) (R:=boxR bs::(PlS.L w0.heap.size { p with cl:=shb } σ2.r.sb σ2.g n++(blkR ob 26 (opA cc)::R))) (blkR _ 41 rzC) ((Ch.refl (fun _=>False) W).alloc _) (Blk.new W _ _) (fun k hk=>by rw [show k=_ from hk];exact Nat.le_refl _))
  have HSW:=hid (show ∀a b W,Y [a,b] W->Y [b,a] W from by rw [hY];exact fun a b W h=>swap_end (A:=σ2.L w0.heap.size++(boxR bs::(PlS.L w0.heap.size { p with cl:=shb } σ2.r.sb σ2.g n++[blkR ob 26 (opA cc)]))) h)
  have HLO:=hid (show ∀R W k,Y R W->S k->k < W.heap.size from by
   rw [hY]
   intro R W k h hk
   rcases (HSS.out k).1 hk with e | e
   ·rw [e];exact Blk.lt (p_blk (p:={ p with cl:=shb }) h)
   ·rw [e];exact Blk.lt (h.each 13 (blkR ob 26 (opA cc)) rfl))
  have M29:=hid (show Y [] W8 from by rw [hY];exact M29.out)
  have HY:=hid hY
  clear hY
  refine Mix.wp_region_XJ S (fun i=>([1,4,3,1,1,1,4,2,3,3,2,2]:List Nat).getD i 0) (fun a0 a' w'=>∃wb gb,a'=((((((((((a0.put (some 128) (.pointer (some ⟨p.g,0,none⟩))).put (some 129) (.agg #[.int .u8 cc.op.k,.int .i64 cc.op.sl,.int .i64 cc.op.at',.int .i64 cc.op.n,.int .u32 cc.op.id,.int .u8 cc.op.g,.string cc.op.s])).put (some 131) (.pointer (some ⟨p.g,0,none⟩))).put (some 132) (.pointer (some ⟨p.g,0,none⟩))).put (some 133) (.pointer (some ⟨p.g,1,none⟩))).put (some 134) (.pointer (some ⟨σ2.g,0,none⟩))).put (some 130) (.agg #[.int .i64 r.er,.int .i64 r.rev,.int .i64 r.sl,.int .i64 r.at',.int .u8 r.g,.string r.s,.int .i64 r.b,.int .i64 r.r,.int .i64 r.l,.int .u8 r.ik,.int .i64 r.fr,.int .i64 r.to,.slice none 0 0])).put (some 135) (.agg #[.int .i64 r.er,.int .i64 r.rev,.int .i64 r.sl,.int .i64 r.at',.int .u8 r.g,.string r.s,.int .i64 r.b,.int .i64 r.r,.int .i64 r.l,.int .u8 r.ik,.int .i64 r.fr,.int .i64 r.to,.slice none 0 0])).put (some 19) (.pointer (some ⟨wb,0,none⟩))).put (some 20) (.pointer (some ⟨gb,0,none⟩)))/\Mem w0.heap.size w0 (σ2.L w0.heap.size++(boxR bs::(PlS.L w0.heap.size { p with cl:=shb } σ2.r.sb σ2.g n++[blkR ob 26 (opA cc),blkR wb 41 r.arr,blkR gb 41 r.arr]))) w') (by kernel_rfl) ?_ ?_
  {
 refine Mix.wpX_cutL 2 #[true,true,true,true,true,true,true,true,true,true,false,false] (fun a0 a' w'=>∃wb gb,a'=((((((((((a0.put (some 128) (.pointer (some ⟨p.g,0,none⟩))).put (some 129) (.agg #[.int .u8 cc.op.k,.int .i64 cc.op.sl,.int .i64 cc.op.at',.int .i64 cc.op.n,.int .u32 cc.op.id,.int .u8 cc.op.g,.string cc.op.s])).put (some 131) (.pointer (some ⟨p.g,0,none⟩))).put (some 132) (.pointer (some ⟨p.g,0,none⟩))).put (some 133) (.pointer (some ⟨p.g,1,none⟩))).put (some 134) (.pointer (some ⟨σ2.g,0,none⟩))).put (some 130) (.agg #[.int .i64 r.er,.int .i64 r.rev,.int .i64 r.sl,.int .i64 r.at',.int .u8 r.g,.string r.s,.int .i64 r.b,.int .i64 r.r,.int .i64 r.l,.int .u8 r.ik,.int .i64 r.fr,.int .i64 r.to,.slice none 0 0])).put (some 135) (.agg #[.int .i64 r.er,.int .i64 r.rev,.int .i64 r.sl,.int .i64 r.at',.int .u8 r.g,.string r.s,.int .i64 r.b,.int .i64 r.r,.int .i64 r.l,.int .u8 r.ik,.int .i64 r.fr,.int .i64 r.to,.slice none 0 0])).put (some 19) (.pointer (some ⟨wb,0,none⟩))).put (some 20) (.pointer (some ⟨gb,0,none⟩)))/\Y [blkR wb 41 rzC,blkR gb 41 rzC] w') ?_ fun FIN=>?_
 ·rintro a' w' ⟨wb,gb,rfl,hm⟩
  simp only [Act.put,List.setIfInBounds_toArray,List.set_cons_succ,List.set_cons_zero]
  rw [HY.out] at hm
  have MF:=hid hm
  clear hm
  have BW:=hid (show Blk w' wb 41 rzC from MF.out.each 14 _ rfl)
  have BG:=hid (show Blk w' gb 41 rzC from MF.out.each 15 _ rfl)
  unfold rzC at BW BG
  obtain ⟨rw0,rw1,rw2,rw3,rw4,rw5,rw6,rw7,rw8,rw9,rw10,rw11,rw12⟩:=BW.out.c13
  obtain ⟨rwf0,rwf1,rwf2,rwf3,rwf4,rwf5,rwf6,rwf7,rwf8,rwf9,rwf10,rwf11,rwf12⟩:=BW.out.f13
  refine Mix.wpX_prefix (fuel:=0) (by kernel_rfl) [10,11] _ _ _ (by kernel_rfl) ?_
  refine Mix.ze fun S1 hS1=>?_
  obtain ⟨s1,rfl⟩:=hS1
  go_wp2_with fail
  refine Mix.mix_world fun U1 hU1=>?_
  have MU:=hid (show Mem w0.heap.size w0 (σ2.L w0.heap.size++(boxR bs::(PlS.L w0.heap.size { p with cl:=shb } σ2.r.sb σ2.g n++[blkR ob 26 (opA cc),blkR wb 41 r.arr,blkR gb 41 rzC]))) U1 from by
   rw [hU1]
   obtain ⟨h1,h2⟩:=put13 (BW.out.drewN s1) _ _ _ _ _ _ _ _ _ _ _ _ _
   exact (MF.out.drewN s1).upd (i:=14) (blkR wb 41 r.arr) rfl h2 (fun _ _ e=>e) h1 (fun _ e=>.inl e))
  clear hU1 rw0 rwf0 rw1 rwf1 rw2 rwf2 rw3 rwf3 rw4 rwf4 rw5 rwf5 rw6 rwf6 rw7 rwf7 rw8 rwf8 rw9 rwf9 rw10 rwf10 rw11 rwf11 rw12 rwf12
  have BG:=hid (show Blk U1 gb 41 rzC from MU.out.each 15 _ rfl)
  unfold rzC at BG
  obtain ⟨rg0,rg1,rg2,rg3,rg4,rg5,rg6,rg7,rg8,rg9,rg10,rg11,rg12⟩:=BG.out.c13
  obtain ⟨rgf0,rgf1,rgf2,rgf3,rgf4,rgf5,rgf6,rgf7,rgf8,rgf9,rgf10,rgf11,rgf12⟩:=BG.out.f13
  refine Mix.ze fun S2 hS2=>?_
  obtain ⟨s2,rfl⟩:=hS2
  go_wp2_with fail
  intro u1
  refine Mix.wpX_done (by kernel_rfl) ?_
  intro u2
  refine ⟨wb,gb,by simp only [Act.put,List.setIfInBounds_toArray,List.set_cons_succ,List.set_cons_zero],?_⟩
  obtain ⟨h1,h2⟩:=put13 (BG.out.drewN s2) _ _ _ _ _ _ _ _ _ _ _ _ _
  exact (((MU.out.drewN s2).upd (i:=15) (blkR gb 41 r.arr) rfl h2 (fun _ _ e=>e) h1 (fun _ e=>.inl e)).drewN u1).drewN u2
 ·refine Mix.wpX_prefix (fuel:=6) (by kernel_rfl) [0,1,3,4,5,6] _ _ _ (by kernel_rfl) ?_
  repeat ((first | refine Mix.zq ?_ | refine Mix.zp ?_ | refine Mix.zs ?_);go_big_quiet_step (fail);refine wpQuiet_nil ?_)
  intro m0
  refine Mix.wpX_world fun V0 hV0=>?_
  have MV0:=hid (show Y [] V0 from by rw [hV0];exact HD.out _ _ m0 M29.out)
  clear hV0
  refine Mix.wpX_three 2 8 9 (by kernel_rfl) ?_ ?_ ?_
  {
 refine Mix.za fun X1 hX1=>?_
 obtain ⟨x1,rfl⟩:=hX1
 go_wp2_with fail
 refine (HWA.out _ _ (HD.out _ _ x1 MV0.out)).mono ?_
 rintro e E1 ⟨rfl,hM,hC⟩
 go_wp2_with fail
 refine ⟨fun k hk=>hC.block k (HLO.out _ _ k (HD.out _ _ x1 MV0.out) hk) id,?_⟩
 intro m1
 refine Mix.wpX_world fun V1 hV1=>?_
 have MV1:=hid (show Y [] V1 from by rw [hV1];exact HD.out _ _ m1 hM)
 clear hV1 hM
 refine Mix.wpX_three 7 8 9 (by kernel_rfl) ?_ ?_ ?_
 ·refine Mix.ze fun X2 hX2=>?_
  obtain ⟨x2,rfl⟩:=hX2
  go_wp2_with fail
  refine (HRE.out _ _ (HD.out _ _ x2 MV1.out)).mono ?_
  rintro e E2 ⟨rfl,hM⟩
  go_wp2_with fail
  intro m2
  refine Mix.wpX_world fun V2 hV2=>?_
  have MV2:=hid (show Y [] V2 from by rw [hV2];exact HD.out _ _ m2 hM)
  clear hV2 hM
  refine Mix.wpX_two 8 9 (by kernel_rfl) ?_ ?_
  {
 refine Mix.za fun X3 hX3=>?_
 obtain ⟨x3,rfl⟩:=hX3
 go_wp2_with fail
 refine ⟨fun k hk=>Below.heap_alloc _ _ k (HLO.out _ _ k (HD.out _ _ x3 MV2.out) hk),?_⟩
 refine Mix.mix_world fun Y3 hY3=>?_
 obtain ⟨wb,hwb⟩:∃z,z=V2.heap.size:=⟨_,rfl⟩
 have hM:Y [blkR wb 41 rzC] Y3:=by rw [hY3,hwb];exact HAL.out _ _ (HD.out _ _ x3 MV2.out)
 rw [<-hwb]
 clear hY3 hwb
 intro m3
 refine Mix.wpX_world fun V3 hV3=>?_
 have MV3:=hid (show Y [blkR wb 41 rzC] V3 from by rw [hV3];exact HD.out _ _ m3 hM)
 clear hV3 hM
 refine Mix.wpX_prefix (fuel:=2) (by kernel_rfl) [9] _ _ _ (by kernel_rfl) ?_
 refine Mix.za fun X4 hX4=>?_
 obtain ⟨x4,rfl⟩:=hX4
 go_wp2_with fail
 refine ⟨fun k hk=>Below.heap_alloc _ _ k (HLO.out _ _ k (HD.out _ _ x4 MV3.out) hk),?_⟩
 refine Mix.mix_world fun Y4 hY4=>?_
 obtain ⟨gb,hgb⟩:∃z,z=V3.heap.size:=⟨_,rfl⟩
 have hM:Y [blkR wb 41 rzC,blkR gb 41 rzC] Y4:=by rw [hY4,hgb];exact HAL.out _ _ (HD.out _ _ x4 MV3.out)
 rw [<-hgb]
 clear hY4 hgb
 intro m4
 refine Mix.wpX_world fun V4 hV4=>?_
 have MV4:=hid (show Y [blkR wb 41 rzC,blkR gb 41 rzC] V4 from by rw [hV4];exact HD.out _ _ m4 hM)
 clear hV4 hM
 refine Mix.wpX_as (by kernel_rfl) (FIN _ _ ?_)
 exact ⟨wb,gb,by simp only [Act.put,List.setIfInBounds_toArray,List.set_cons_succ,List.set_cons_zero],MV4.out⟩
 }
  {
 refine Mix.za fun X5 hX5=>?_
 obtain ⟨x5,rfl⟩:=hX5
 go_wp2_with fail
 refine ⟨fun k hk=>Below.heap_alloc _ _ k (HLO.out _ _ k (HD.out _ _ x5 MV2.out) hk),?_⟩
 refine Mix.mix_world fun Y5 hY5=>?_
 obtain ⟨gb,hgb⟩:∃z,z=V2.heap.size:=⟨_,rfl⟩
 have hM:Y [blkR gb 41 rzC] Y5:=by rw [hY5,hgb];exact HAL.out _ _ (HD.out _ _ x5 MV2.out)
 rw [<-hgb]
 clear hY5 hgb
 intro m5
 refine Mix.wpX_world fun V5 hV5=>?_
 have MV5:=hid (show Y [blkR gb 41 rzC] V5 from by rw [hV5];exact HD.out _ _ m5 hM)
 clear hV5 hM
 refine Mix.wpX_prefix (fuel:=2) (by kernel_rfl) [8] _ _ _ (by kernel_rfl) ?_
 refine Mix.za fun X6 hX6=>?_
 obtain ⟨x6,rfl⟩:=hX6
 go_wp2_with fail
 refine ⟨fun k hk=>Below.heap_alloc _ _ k (HLO.out _ _ k (HD.out _ _ x6 MV5.out) hk),?_⟩
 refine Mix.mix_world fun Y6 hY6=>?_
 obtain ⟨wb,hwb⟩:∃z,z=V5.heap.size:=⟨_,rfl⟩
 have hM:Y [blkR gb 41 rzC,blkR wb 41 rzC] Y6:=by rw [hY6,hwb];exact HAL.out _ _ (HD.out _ _ x6 MV5.out)
 rw [<-hwb]
 clear hY6 hwb
 intro m6
 refine Mix.wpX_world fun V6 hV6=>?_
 have MV6:=hid (show Y [blkR gb 41 rzC,blkR wb 41 rzC] V6 from by rw [hV6];exact HD.out _ _ m6 hM)
 clear hV6 hM
 refine Mix.wpX_as (by kernel_rfl) (FIN _ _ ?_)
 exact ⟨wb,gb,by simp only [Act.put,List.setIfInBounds_toArray,List.set_cons_succ,List.set_cons_zero],(HSW.out _ _ _ MV6.out)⟩
 }
 ·refine Mix.za fun X7 hX7=>?_
  obtain ⟨x7,rfl⟩:=hX7
  go_wp2_with fail
  refine ⟨fun k hk=>Below.heap_alloc _ _ k (HLO.out _ _ k (HD.out _ _ x7 MV1.out) hk),?_⟩
  refine Mix.mix_world fun Y7 hY7=>?_
  obtain ⟨wb,hwb⟩:∃z,z=V1.heap.size:=⟨_,rfl⟩
  have hM:Y [blkR wb 41 rzC] Y7:=by rw [hY7,hwb];exact HAL.out _ _ (HD.out _ _ x7 MV1.out)
  rw [<-hwb]
  clear hY7 hwb
  intro m7
  refine Mix.wpX_world fun V7 hV7=>?_
  have MV7:=hid (show Y [blkR wb 41 rzC] V7 from by rw [hV7];exact HD.out _ _ m7 hM)
  clear hV7 hM
  refine Mix.wpX_two 7 9 (by kernel_rfl) ?_ ?_
  {
 refine Mix.ze fun X8 hX8=>?_
 obtain ⟨x8,rfl⟩:=hX8
 go_wp2_with fail
 refine (HRE.out _ _ (HD.out _ _ x8 MV7.out)).mono ?_
 rintro e E8 ⟨rfl,hM⟩
 go_wp2_with fail
 intro m8
 refine Mix.wpX_world fun V8 hV8=>?_
 have MV8:=hid (show Y [blkR wb 41 rzC] V8 from by rw [hV8];exact HD.out _ _ m8 hM)
 clear hV8 hM
 refine Mix.wpX_prefix (fuel:=2) (by kernel_rfl) [9] _ _ _ (by kernel_rfl) ?_
 refine Mix.za fun X9 hX9=>?_
 obtain ⟨x9,rfl⟩:=hX9
 go_wp2_with fail
 refine ⟨fun k hk=>Below.heap_alloc _ _ k (HLO.out _ _ k (HD.out _ _ x9 MV8.out) hk),?_⟩
 refine Mix.mix_world fun Y9 hY9=>?_
 obtain ⟨gb,hgb⟩:∃z,z=V8.heap.size:=⟨_,rfl⟩
 have hM:Y [blkR wb 41 rzC,blkR gb 41 rzC] Y9:=by rw [hY9,hgb];exact HAL.out _ _ (HD.out _ _ x9 MV8.out)
 rw [<-hgb]
 clear hY9 hgb
 intro m9
 refine Mix.wpX_world fun V9 hV9=>?_
 have MV9:=hid (show Y [blkR wb 41 rzC,blkR gb 41 rzC] V9 from by rw [hV9];exact HD.out _ _ m9 hM)
 clear hV9 hM
 refine Mix.wpX_as (by kernel_rfl) (FIN _ _ ?_)
 exact ⟨wb,gb,by simp only [Act.put,List.setIfInBounds_toArray,List.set_cons_succ,List.set_cons_zero],MV9.out⟩
 }
  {
 refine Mix.za fun X10 hX10=>?_
 obtain ⟨x10,rfl⟩:=hX10
 go_wp2_with fail
 refine ⟨fun k hk=>Below.heap_alloc _ _ k (HLO.out _ _ k (HD.out _ _ x10 MV7.out) hk),?_⟩
 refine Mix.mix_world fun Y10 hY10=>?_
 obtain ⟨gb,hgb⟩:∃z,z=V7.heap.size:=⟨_,rfl⟩
 have hM:Y [blkR wb 41 rzC,blkR gb 41 rzC] Y10:=by rw [hY10,hgb];exact HAL.out _ _ (HD.out _ _ x10 MV7.out)
 rw [<-hgb]
 clear hY10 hgb
 intro m10
 refine Mix.wpX_world fun V10 hV10=>?_
 have MV10:=hid (show Y [blkR wb 41 rzC,blkR gb 41 rzC] V10 from by rw [hV10];exact HD.out _ _ m10 hM)
 clear hV10 hM
 refine Mix.wpX_prefix (fuel:=2) (by kernel_rfl) [7] _ _ _ (by kernel_rfl) ?_
 refine Mix.ze fun X11 hX11=>?_
 obtain ⟨x11,rfl⟩:=hX11
 go_wp2_with fail
 refine (HRE.out _ _ (HD.out _ _ x11 MV10.out)).mono ?_
 rintro e E11 ⟨rfl,hM⟩
 go_wp2_with fail
 intro m11
 refine Mix.wpX_world fun V11 hV11=>?_
 have MV11:=hid (show Y [blkR wb 41 rzC,blkR gb 41 rzC] V11 from by rw [hV11];exact HD.out _ _ m11 hM)
 clear hV11 hM
 refine Mix.wpX_as (by kernel_rfl) (FIN _ _ ?_)
 exact ⟨wb,gb,by simp only [Act.put,List.setIfInBounds_toArray,List.set_cons_succ,List.set_cons_zero],MV11.out⟩
 }
 ·refine Mix.za fun X12 hX12=>?_
  obtain ⟨x12,rfl⟩:=hX12
  go_wp2_with fail
  refine ⟨fun k hk=>Below.heap_alloc _ _ k (HLO.out _ _ k (HD.out _ _ x12 MV1.out) hk),?_⟩
  refine Mix.mix_world fun Y12 hY12=>?_
  obtain ⟨gb,hgb⟩:∃z,z=V1.heap.size:=⟨_,rfl⟩
  have hM:Y [blkR gb 41 rzC] Y12:=by rw [hY12,hgb];exact HAL.out _ _ (HD.out _ _ x12 MV1.out)
  rw [<-hgb]
  clear hY12 hgb
  intro m12
  refine Mix.wpX_world fun V12 hV12=>?_
  have MV12:=hid (show Y [blkR gb 41 rzC] V12 from by rw [hV12];exact HD.out _ _ m12 hM)
  clear hV12 hM
  refine Mix.wpX_two 7 8 (by kernel_rfl) ?_ ?_
  {
 refine Mix.ze fun X13 hX13=>?_
 obtain ⟨x13,rfl⟩:=hX13
 go_wp2_with fail
 refine (HRE.out _ _ (HD.out _ _ x13 MV12.out)).mono ?_
 rintro e E13 ⟨rfl,hM⟩
 go_wp2_with fail
 intro m13
 refine Mix.wpX_world fun V13 hV13=>?_
 have MV13:=hid (show Y [blkR gb 41 rzC] V13 from by rw [hV13];exact HD.out _ _ m13 hM)
 clear hV13 hM
 refine Mix.wpX_prefix (fuel:=2) (by kernel_rfl) [8] _ _ _ (by kernel_rfl) ?_
 refine Mix.za fun X14 hX14=>?_
 obtain ⟨x14,rfl⟩:=hX14
 go_wp2_with fail
 refine ⟨fun k hk=>Below.heap_alloc _ _ k (HLO.out _ _ k (HD.out _ _ x14 MV13.out) hk),?_⟩
 refine Mix.mix_world fun Y14 hY14=>?_
 obtain ⟨wb,hwb⟩:∃z,z=V13.heap.size:=⟨_,rfl⟩
 have hM:Y [blkR gb 41 rzC,blkR wb 41 rzC] Y14:=by rw [hY14,hwb];exact HAL.out _ _ (HD.out _ _ x14 MV13.out)
 rw [<-hwb]
 clear hY14 hwb
 intro m14
 refine Mix.wpX_world fun V14 hV14=>?_
 have MV14:=hid (show Y [blkR gb 41 rzC,blkR wb 41 rzC] V14 from by rw [hV14];exact HD.out _ _ m14 hM)
 clear hV14 hM
 refine Mix.wpX_as (by kernel_rfl) (FIN _ _ ?_)
 exact ⟨wb,gb,by simp only [Act.put,List.setIfInBounds_toArray,List.set_cons_succ,List.set_cons_zero],(HSW.out _ _ _ MV14.out)⟩
 }
  {
 refine Mix.za fun X15 hX15=>?_
 obtain ⟨x15,rfl⟩:=hX15
 go_wp2_with fail
 refine ⟨fun k hk=>Below.heap_alloc _ _ k (HLO.out _ _ k (HD.out _ _ x15 MV12.out) hk),?_⟩
 refine Mix.mix_world fun Y15 hY15=>?_
 obtain ⟨wb,hwb⟩:∃z,z=V12.heap.size:=⟨_,rfl⟩
 have hM:Y [blkR gb 41 rzC,blkR wb 41 rzC] Y15:=by rw [hY15,hwb];exact HAL.out _ _ (HD.out _ _ x15 MV12.out)
 rw [<-hwb]
 clear hY15 hwb
 intro m15
 refine Mix.wpX_world fun V15 hV15=>?_
 have MV15:=hid (show Y [blkR gb 41 rzC,blkR wb 41 rzC] V15 from by rw [hV15];exact HD.out _ _ m15 hM)
 clear hV15 hM
 refine Mix.wpX_prefix (fuel:=2) (by kernel_rfl) [7] _ _ _ (by kernel_rfl) ?_
 refine Mix.ze fun X16 hX16=>?_
 obtain ⟨x16,rfl⟩:=hX16
 go_wp2_with fail
 refine (HRE.out _ _ (HD.out _ _ x16 MV15.out)).mono ?_
 rintro e E16 ⟨rfl,hM⟩
 go_wp2_with fail
 intro m16
 refine Mix.wpX_world fun V16 hV16=>?_
 have MV16:=hid (show Y [blkR gb 41 rzC,blkR wb 41 rzC] V16 from by rw [hV16];exact HD.out _ _ m16 hM)
 clear hV16 hM
 refine Mix.wpX_as (by kernel_rfl) (FIN _ _ ?_)
 exact ⟨wb,gb,by simp only [Act.put,List.setIfInBounds_toArray,List.set_cons_succ,List.set_cons_zero],(HSW.out _ _ _ MV16.out)⟩
 }
 }
  {
 refine Mix.za fun X17 hX17=>?_
 obtain ⟨x17,rfl⟩:=hX17
 go_wp2_with fail
 refine ⟨fun k hk=>Below.heap_alloc _ _ k (HLO.out _ _ k (HD.out _ _ x17 MV0.out) hk),?_⟩
 refine Mix.mix_world fun Y17 hY17=>?_
 obtain ⟨wb,hwb⟩:∃z,z=V0.heap.size:=⟨_,rfl⟩
 have hM:Y [blkR wb 41 rzC] Y17:=by rw [hY17,hwb];exact HAL.out _ _ (HD.out _ _ x17 MV0.out)
 rw [<-hwb]
 clear hY17 hwb
 intro m17
 refine Mix.wpX_world fun V17 hV17=>?_
 have MV17:=hid (show Y [blkR wb 41 rzC] V17 from by rw [hV17];exact HD.out _ _ m17 hM)
 clear hV17 hM
 refine Mix.wpX_two 2 9 (by kernel_rfl) ?_ ?_
 ·refine Mix.za fun X18 hX18=>?_
  obtain ⟨x18,rfl⟩:=hX18
  go_wp2_with fail
  refine (HWA.out _ _ (HD.out _ _ x18 MV17.out)).mono ?_
  rintro e E18 ⟨rfl,hM,hC⟩
  go_wp2_with fail
  refine ⟨fun k hk=>hC.block k (HLO.out _ _ k (HD.out _ _ x18 MV17.out) hk) id,?_⟩
  intro m18
  refine Mix.wpX_world fun V18 hV18=>?_
  have MV18:=hid (show Y [blkR wb 41 rzC] V18 from by rw [hV18];exact HD.out _ _ m18 hM)
  clear hV18 hM
  refine Mix.wpX_two 7 9 (by kernel_rfl) ?_ ?_
  {
 refine Mix.ze fun X19 hX19=>?_
 obtain ⟨x19,rfl⟩:=hX19
 go_wp2_with fail
 refine (HRE.out _ _ (HD.out _ _ x19 MV18.out)).mono ?_
 rintro e E19 ⟨rfl,hM⟩
 go_wp2_with fail
 intro m19
 refine Mix.wpX_world fun V19 hV19=>?_
 have MV19:=hid (show Y [blkR wb 41 rzC] V19 from by rw [hV19];exact HD.out _ _ m19 hM)
 clear hV19 hM
 refine Mix.wpX_prefix (fuel:=2) (by kernel_rfl) [9] _ _ _ (by kernel_rfl) ?_
 refine Mix.za fun X20 hX20=>?_
 obtain ⟨x20,rfl⟩:=hX20
 go_wp2_with fail
 refine ⟨fun k hk=>Below.heap_alloc _ _ k (HLO.out _ _ k (HD.out _ _ x20 MV19.out) hk),?_⟩
 refine Mix.mix_world fun Y20 hY20=>?_
 obtain ⟨gb,hgb⟩:∃z,z=V19.heap.size:=⟨_,rfl⟩
 have hM:Y [blkR wb 41 rzC,blkR gb 41 rzC] Y20:=by rw [hY20,hgb];exact HAL.out _ _ (HD.out _ _ x20 MV19.out)
 rw [<-hgb]
 clear hY20 hgb
 intro m20
 refine Mix.wpX_world fun V20 hV20=>?_
 have MV20:=hid (show Y [blkR wb 41 rzC,blkR gb 41 rzC] V20 from by rw [hV20];exact HD.out _ _ m20 hM)
 clear hV20 hM
 refine Mix.wpX_as (by kernel_rfl) (FIN _ _ ?_)
 exact ⟨wb,gb,by simp only [Act.put,List.setIfInBounds_toArray,List.set_cons_succ,List.set_cons_zero],MV20.out⟩
 }
  {
 refine Mix.za fun X21 hX21=>?_
 obtain ⟨x21,rfl⟩:=hX21
 go_wp2_with fail
 refine ⟨fun k hk=>Below.heap_alloc _ _ k (HLO.out _ _ k (HD.out _ _ x21 MV18.out) hk),?_⟩
 refine Mix.mix_world fun Y21 hY21=>?_
 obtain ⟨gb,hgb⟩:∃z,z=V18.heap.size:=⟨_,rfl⟩
 have hM:Y [blkR wb 41 rzC,blkR gb 41 rzC] Y21:=by rw [hY21,hgb];exact HAL.out _ _ (HD.out _ _ x21 MV18.out)
 rw [<-hgb]
 clear hY21 hgb
 intro m21
 refine Mix.wpX_world fun V21 hV21=>?_
 have MV21:=hid (show Y [blkR wb 41 rzC,blkR gb 41 rzC] V21 from by rw [hV21];exact HD.out _ _ m21 hM)
 clear hV21 hM
 refine Mix.wpX_prefix (fuel:=2) (by kernel_rfl) [7] _ _ _ (by kernel_rfl) ?_
 refine Mix.ze fun X22 hX22=>?_
 obtain ⟨x22,rfl⟩:=hX22
 go_wp2_with fail
 refine (HRE.out _ _ (HD.out _ _ x22 MV21.out)).mono ?_
 rintro e E22 ⟨rfl,hM⟩
 go_wp2_with fail
 intro m22
 refine Mix.wpX_world fun V22 hV22=>?_
 have MV22:=hid (show Y [blkR wb 41 rzC,blkR gb 41 rzC] V22 from by rw [hV22];exact HD.out _ _ m22 hM)
 clear hV22 hM
 refine Mix.wpX_as (by kernel_rfl) (FIN _ _ ?_)
 exact ⟨wb,gb,by simp only [Act.put,List.setIfInBounds_toArray,List.set_cons_succ,List.set_cons_zero],MV22.out⟩
 }
 ·refine Mix.za fun X23 hX23=>?_
  obtain ⟨x23,rfl⟩:=hX23
  go_wp2_with fail
  refine ⟨fun k hk=>Below.heap_alloc _ _ k (HLO.out _ _ k (HD.out _ _ x23 MV17.out) hk),?_⟩
  refine Mix.mix_world fun Y23 hY23=>?_
  obtain ⟨gb,hgb⟩:∃z,z=V17.heap.size:=⟨_,rfl⟩
  have hM:Y [blkR wb 41 rzC,blkR gb 41 rzC] Y23:=by rw [hY23,hgb];exact HAL.out _ _ (HD.out _ _ x23 MV17.out)
  rw [<-hgb]
  clear hY23 hgb
  intro m23
  refine Mix.wpX_world fun V23 hV23=>?_
  have MV23:=hid (show Y [blkR wb 41 rzC,blkR gb 41 rzC] V23 from by rw [hV23];exact HD.out _ _ m23 hM)
  clear hV23 hM
  refine Mix.wpX_prefix (fuel:=3) (by kernel_rfl) [2] _ _ _ (by kernel_rfl) ?_
  refine Mix.za fun X24 hX24=>?_
  obtain ⟨x24,rfl⟩:=hX24
  go_wp2_with fail
  refine (HWA.out _ _ (HD.out _ _ x24 MV23.out)).mono ?_
  rintro e E24 ⟨rfl,hM,hC⟩
  go_wp2_with fail
  refine ⟨fun k hk=>hC.block k (HLO.out _ _ k (HD.out _ _ x24 MV23.out) hk) id,?_⟩
  intro m24
  refine Mix.wpX_world fun V24 hV24=>?_
  have MV24:=hid (show Y [blkR wb 41 rzC,blkR gb 41 rzC] V24 from by rw [hV24];exact HD.out _ _ m24 hM)
  clear hV24 hM
  refine Mix.wpX_prefix (fuel:=2) (by kernel_rfl) [7] _ _ _ (by kernel_rfl) ?_
  refine Mix.ze fun X25 hX25=>?_
  obtain ⟨x25,rfl⟩:=hX25
  go_wp2_with fail
  refine (HRE.out _ _ (HD.out _ _ x25 MV24.out)).mono ?_
  rintro e E25 ⟨rfl,hM⟩
  go_wp2_with fail
  intro m25
  refine Mix.wpX_world fun V25 hV25=>?_
  have MV25:=hid (show Y [blkR wb 41 rzC,blkR gb 41 rzC] V25 from by rw [hV25];exact HD.out _ _ m25 hM)
  clear hV25 hM
  refine Mix.wpX_as (by kernel_rfl) (FIN _ _ ?_)
  exact ⟨wb,gb,by simp only [Act.put,List.setIfInBounds_toArray,List.set_cons_succ,List.set_cons_zero],MV25.out⟩
 }
  {
 refine Mix.za fun X26 hX26=>?_
 obtain ⟨x26,rfl⟩:=hX26
 go_wp2_with fail
 refine ⟨fun k hk=>Below.heap_alloc _ _ k (HLO.out _ _ k (HD.out _ _ x26 MV0.out) hk),?_⟩
 refine Mix.mix_world fun Y26 hY26=>?_
 obtain ⟨gb,hgb⟩:∃z,z=V0.heap.size:=⟨_,rfl⟩
 have hM:Y [blkR gb 41 rzC] Y26:=by rw [hY26,hgb];exact HAL.out _ _ (HD.out _ _ x26 MV0.out)
 rw [<-hgb]
 clear hY26 hgb
 intro m26
 refine Mix.wpX_world fun V26 hV26=>?_
 have MV26:=hid (show Y [blkR gb 41 rzC] V26 from by rw [hV26];exact HD.out _ _ m26 hM)
 clear hV26 hM
 refine Mix.wpX_two 2 8 (by kernel_rfl) ?_ ?_
 ·refine Mix.za fun X27 hX27=>?_
  obtain ⟨x27,rfl⟩:=hX27
  go_wp2_with fail
  refine (HWA.out _ _ (HD.out _ _ x27 MV26.out)).mono ?_
  rintro e E27 ⟨rfl,hM,hC⟩
  go_wp2_with fail
  refine ⟨fun k hk=>hC.block k (HLO.out _ _ k (HD.out _ _ x27 MV26.out) hk) id,?_⟩
  intro m27
  refine Mix.wpX_world fun V27 hV27=>?_
  have MV27:=hid (show Y [blkR gb 41 rzC] V27 from by rw [hV27];exact HD.out _ _ m27 hM)
  clear hV27 hM
  refine Mix.wpX_two 7 8 (by kernel_rfl) ?_ ?_
  {
 refine Mix.ze fun X28 hX28=>?_
 obtain ⟨x28,rfl⟩:=hX28
 go_wp2_with fail
 refine (HRE.out _ _ (HD.out _ _ x28 MV27.out)).mono ?_
 rintro e E28 ⟨rfl,hM⟩
 go_wp2_with fail
 intro m28
 refine Mix.wpX_world fun V28 hV28=>?_
 have MV28:=hid (show Y [blkR gb 41 rzC] V28 from by rw [hV28];exact HD.out _ _ m28 hM)
 clear hV28 hM
 refine Mix.wpX_prefix (fuel:=2) (by kernel_rfl) [8] _ _ _ (by kernel_rfl) ?_
 refine Mix.za fun X29 hX29=>?_
 obtain ⟨x29,rfl⟩:=hX29
 go_wp2_with fail
 refine ⟨fun k hk=>Below.heap_alloc _ _ k (HLO.out _ _ k (HD.out _ _ x29 MV28.out) hk),?_⟩
 refine Mix.mix_world fun Y29 hY29=>?_
 obtain ⟨wb,hwb⟩:∃z,z=V28.heap.size:=⟨_,rfl⟩
 have hM:Y [blkR gb 41 rzC,blkR wb 41 rzC] Y29:=by rw [hY29,hwb];exact HAL.out _ _ (HD.out _ _ x29 MV28.out)
 rw [<-hwb]
 clear hY29 hwb
 intro m29
 refine Mix.wpX_world fun V29 hV29=>?_
 have MV29:=hid (show Y [blkR gb 41 rzC,blkR wb 41 rzC] V29 from by rw [hV29];exact HD.out _ _ m29 hM)
 clear hV29 hM
 refine Mix.wpX_as (by kernel_rfl) (FIN _ _ ?_)
 exact ⟨wb,gb,by simp only [Act.put,List.setIfInBounds_toArray,List.set_cons_succ,List.set_cons_zero],(HSW.out _ _ _ MV29.out)⟩
 }
  {
 refine Mix.za fun X30 hX30=>?_
 obtain ⟨x30,rfl⟩:=hX30
 go_wp2_with fail
 refine ⟨fun k hk=>Below.heap_alloc _ _ k (HLO.out _ _ k (HD.out _ _ x30 MV27.out) hk),?_⟩
 refine Mix.mix_world fun Y30 hY30=>?_
 obtain ⟨wb,hwb⟩:∃z,z=V27.heap.size:=⟨_,rfl⟩
 have hM:Y [blkR gb 41 rzC,blkR wb 41 rzC] Y30:=by rw [hY30,hwb];exact HAL.out _ _ (HD.out _ _ x30 MV27.out)
 rw [<-hwb]
 clear hY30 hwb
 intro m30
 refine Mix.wpX_world fun V30 hV30=>?_
 have MV30:=hid (show Y [blkR gb 41 rzC,blkR wb 41 rzC] V30 from by rw [hV30];exact HD.out _ _ m30 hM)
 clear hV30 hM
 refine Mix.wpX_prefix (fuel:=2) (by kernel_rfl) [7] _ _ _ (by kernel_rfl) ?_
 refine Mix.ze fun X31 hX31=>?_
 obtain ⟨x31,rfl⟩:=hX31
 go_wp2_with fail
 refine (HRE.out _ _ (HD.out _ _ x31 MV30.out)).mono ?_
 rintro e E31 ⟨rfl,hM⟩
 go_wp2_with fail
 intro m31
 refine Mix.wpX_world fun V31 hV31=>?_
 have MV31:=hid (show Y [blkR gb 41 rzC,blkR wb 41 rzC] V31 from by rw [hV31];exact HD.out _ _ m31 hM)
 clear hV31 hM
 refine Mix.wpX_as (by kernel_rfl) (FIN _ _ ?_)
 exact ⟨wb,gb,by simp only [Act.put,List.setIfInBounds_toArray,List.set_cons_succ,List.set_cons_zero],(HSW.out _ _ _ MV31.out)⟩
 }
 ·refine Mix.za fun X32 hX32=>?_
  obtain ⟨x32,rfl⟩:=hX32
  go_wp2_with fail
  refine ⟨fun k hk=>Below.heap_alloc _ _ k (HLO.out _ _ k (HD.out _ _ x32 MV26.out) hk),?_⟩
  refine Mix.mix_world fun Y32 hY32=>?_
  obtain ⟨wb,hwb⟩:∃z,z=V26.heap.size:=⟨_,rfl⟩
  have hM:Y [blkR gb 41 rzC,blkR wb 41 rzC] Y32:=by rw [hY32,hwb];exact HAL.out _ _ (HD.out _ _ x32 MV26.out)
  rw [<-hwb]
  clear hY32 hwb
  intro m32
  refine Mix.wpX_world fun V32 hV32=>?_
  have MV32:=hid (show Y [blkR gb 41 rzC,blkR wb 41 rzC] V32 from by rw [hV32];exact HD.out _ _ m32 hM)
  clear hV32 hM
  refine Mix.wpX_prefix (fuel:=3) (by kernel_rfl) [2] _ _ _ (by kernel_rfl) ?_
  refine Mix.za fun X33 hX33=>?_
  obtain ⟨x33,rfl⟩:=hX33
  go_wp2_with fail
  refine (HWA.out _ _ (HD.out _ _ x33 MV32.out)).mono ?_
  rintro e E33 ⟨rfl,hM,hC⟩
  go_wp2_with fail
  refine ⟨fun k hk=>hC.block k (HLO.out _ _ k (HD.out _ _ x33 MV32.out) hk) id,?_⟩
  intro m33
  refine Mix.wpX_world fun V33 hV33=>?_
  have MV33:=hid (show Y [blkR gb 41 rzC,blkR wb 41 rzC] V33 from by rw [hV33];exact HD.out _ _ m33 hM)
  clear hV33 hM
  refine Mix.wpX_prefix (fuel:=2) (by kernel_rfl) [7] _ _ _ (by kernel_rfl) ?_
  refine Mix.ze fun X34 hX34=>?_
  obtain ⟨x34,rfl⟩:=hX34
  go_wp2_with fail
  refine (HRE.out _ _ (HD.out _ _ x34 MV33.out)).mono ?_
  rintro e E34 ⟨rfl,hM⟩
  go_wp2_with fail
  intro m34
  refine Mix.wpX_world fun V34 hV34=>?_
  have MV34:=hid (show Y [blkR gb 41 rzC,blkR wb 41 rzC] V34 from by rw [hV34];exact HD.out _ _ m34 hM)
  clear hV34 hM
  refine Mix.wpX_as (by kernel_rfl) (FIN _ _ ?_)
  exact ⟨wb,gb,by simp only [Act.put,List.setIfInBounds_toArray,List.set_cons_succ,List.set_cons_zero],(HSW.out _ _ _ MV34.out)⟩
 }
 }
  {
 rintro a' w9 ⟨wb,gb,rfl,hM⟩
 simp only [Act.put,List.setIfInBounds_toArray,List.set_cons_succ,List.set_cons_zero]
 have M9:=hid hM
 have PB:=hid (p_blk (p:={ p with cl:=shb }) M9.out)
 have p9:w9.cell? ⟨p.g,9,none⟩=some (.bool shb):=PB.out.cell 9
 have pf9:=PB.out.free 9
 clear hM M29 o0 o1 o2 o3 o4 o5 o6 q1
 go_upto_region 31 with fail
 refine at_world fun W10 hW10=>?_
 have M10:=hid (show Mem w0.heap.size w0 (σ2.L w0.heap.size++(boxR bs::(p.L w0.heap.size σ2.r.sb σ2.g n++[blkR ob 26 (opA cc),blkR wb 41 r.arr,blkR gb 41 r.arr]))) W10 from by rw [hW10];exact p_put M9.out 9 (.bool p.cl) p rfl rfl rfl rfl rfl)
 clear hW10 p9 pf9 PB M9
 have BW:=hid (show Blk W10 wb 41 r.arr from M10.out.each 14 _ rfl)
 have BG:=hid (show Blk W10 gb 41 r.arr from M10.out.each 15 _ rfl)
 obtain ⟨rw0,rw1,rw2,rw3,rw4,rw5,rw6,rw7,rw8,rw9,rw10,rw11,rw12⟩:=BW.out.c13
 obtain ⟨rg0,rg1,rg2,rg3,rg4,rg5,rg6,rg7,rg8,rg9,rg10,rg11,rg12⟩:=BG.out.c13
 go_wp2_with fail
 refine (eqResult_same r _).mono ?_
 rintro e w11 ⟨rfl,hc⟩
 have M11:=hid (M10.out.keep hc)
 clear hc BW BG M10 rw0 rg0 rw1 rg1 rw2 rg2 rw3 rg3 rw4 rg4 rw5 rg5 rw6 rg6 rw7 rg7 rw8 rg8 rw9 rg9 rw10 rg10 rw11 rg11 rw12 rg12
 have OB:=hid (show Blk w11 ob 26 (opA cc) from M11.out.each 13 _ rfl)
 have BG:=hid (show Blk w11 gb 41 r.arr from M11.out.each 15 _ rfl)
 obtain ⟨o0,o1,o2,o3,o4,o5,o6⟩:=OB.out.c7
 obtain ⟨rg0,rg1,rg2,rg3,rg4,rg5,rg6,rg7,rg8,rg9,rg10,rg11,rg12⟩:=BG.out.c13
 clear OB BG
 go_wp2_with fail
 refine (done_mem M11.out HHL.out.1 HN4.out HPO.out HSM.out HHW.out).mono ?_
 rintro e w12 ⟨rfl,hm⟩
 have M12:=hid hm
 clear hm o0 o1 o2 o3 o4 o5 o6
 obtain ⟨hS,hP⟩:=HFIN.out w12 (mem_lo (R:=[blkR wb 41 r.arr,blkR gb 41 r.arr]) M12.out)
 have HSS:=hid hS
 have HPP:=hid hP
 clear hS hP M12 M11
 go_wp2_with fail
 go_roundw
 case rel=>exact ⟨k+1,σ2,bs,p.done cc r,ts,opA cc,false,stn+1,shb,hlt,rfl,by go_num,rfl,by go_num,by rw [HC6'.out];exact HSS.out,HPP.out (stn+1) shb⟩
 case measure=>simp [intOf];omega
 }
 )
 )
  cases bb with
  | true=>
   go_wp2_with fail
   go_meet
   case rel=>
    obtain ⟨cc,pg,f,hgt,hr⟩:=rdy_busy HI.out HPH.out
    exact ⟨cc,σ,bs,pg,f,hgt,stn,shb,rfl,rfl,rfl,hr⟩
  | false=>
   go_wp2_with fail
   refine (lclean_any z.op HZO.out.op n HN4.out wr).mono ?_
   rintro e w4 ⟨op',bb,rfl,hc4,hcase⟩
   have HC4:=hid hc4
   clear hc4 c0 c1 c2 c3 c4 c5 c6 c7 c8 c9
   rcases hcase with ⟨rfl,cc,rfl,hsm⟩ | ⟨rfl,hn0⟩
   {
 simp only [OpV.v]
 have HSMA:=hid hsm
 clear hsm
 go_upto_region 14 with fail
 refine at_world fun W3 hW3=>?_
 obtain ⟨xb,hxb⟩:∃z,z=w4.heap.size:=⟨_,rfl⟩
 have HI3:=hid (show ShS w0 p.g ob n (cnt6 (l.take k)) k oa W3 σ bs p ts from by rw [hW3];exact { HI.out with M:=HI.out.M.keep (HC4.out.alloc _) })
 have XB3:=hid (show Blk W3 xb 26 (opA cc) from by rw [hW3,hxb];exact Blk.new _ _ _)
 rw [<-hxb]
 clear hW3 hxb HI HC4
 have p9:W3.cell? ⟨p.g,9,none⟩=some (.bool p.cl):=(p_blk HI3.out.M).cell 9
 have lp:=(p_blk HI3.out.M).lt
 obtain ⟨x0,x1,x2,x3,x4,x5,x6⟩:=XB3.out.c7
 obtain ⟨S,hS⟩:∃S:Nat->Prop,∀k,S k↔k=p.g:=⟨_,fun _=>Iff.rfl⟩
 have hSp:Mix.Has S p.g:=(hS _).2 rfl
 have HSS:=hid hS
 clear hS
 go_upto_region 15 with fail
 refine Mix.rg S [0,1,1,1,4,3,0,0,0] [0,1,2,3,4,5,6,7,8] ?_
 repeat ((first | refine Mix.zq ?_ | refine Mix.zp ?_ | refine Mix.zs ?_);go_big_quiet_step (fail);refine wpQuiet_nil ?_)
 refine Mix.za fun V1 hV1=>?_
 obtain ⟨k1,rfl⟩:=hV1
 obtain ⟨v0,v1,v2,v3,v4,v5,v6,hoa⟩:=arr7 HI3.out.oz
 have OB:=hid (show Blk (W3.drewN k1) ob 26 #[v0,v1,v2,v3,v4,v5,v6] from by have t:Blk (W3.drewN k1) ob 26 oa:=(HI3.out.M.drewN k1).each 13 _ rfl;rw [hoa] at t;exact t)
 have HNE:=hid (show p.g≠ob from fun e=>HI3.out.M.apart 10 13 (blkR p.g 51 (p.cells σ.r.sb σ.g n)) (blkR ob 26 oa) rfl rfl (by decide) p.g rfl e)
 clear hoa
 have b0:(W3.drewN k1).cell? ⟨ob,0,none⟩=some v0:=OB.out.cell 0
 have b1:(W3.drewN k1).cell? ⟨ob,1,none⟩=some v1:=OB.out.cell 1
 have b2:(W3.drewN k1).cell? ⟨ob,2,none⟩=some v2:=OB.out.cell 2
 have b3:(W3.drewN k1).cell? ⟨ob,3,none⟩=some v3:=OB.out.cell 3
 have b4:(W3.drewN k1).cell? ⟨ob,4,none⟩=some v4:=OB.out.cell 4
 have b5:(W3.drewN k1).cell? ⟨ob,5,none⟩=some v5:=OB.out.cell 5
 have b6:(W3.drewN k1).cell? ⟨ob,6,none⟩=some v6:=OB.out.cell 6
 obtain ⟨fb0,fb1,fb2,fb3,fb4,fb5,fb6⟩:=OB.out.f7
 go_wp2_with fail
 refine ⟨fun k hk=>((((((((Ch.refl (fun k=>k=ob) (W3.drewN k1)).set (fun _=>rfl) _).set (fun _=>rfl) _).set (fun _=>rfl) _).set (fun _=>rfl) _).set (fun _=>rfl) _).set (fun _=>rfl) _).set (fun _=>rfl) _).block k (by rw [(HSS.out k).1 hk];exact lp) (by rw [(HSS.out k).1 hk];exact HNE.out),?_⟩
 refine Mix.mix_world fun W4 hW4=>?_
 have HI4:=hid (show ShS w0 p.g ob n (cnt6 (l.take k)) k (opA cc) W4 σ bs p ts from by
  rw [hW4]
  exact HI3.out.op (((((((OB.out.put 0 _).put 1 _).put 2 _).put 3 _).put 4 _).put 5 _).put 6 _) rfl ((((((((((Ch.refl (fun k=>k=ob) W3).drewN k1).set (fun _=>rfl) _).set (fun _=>rfl) _).set (fun _=>rfl) _).set (fun _=>rfl) _).set (fun _=>rfl) _).set (fun _=>rfl) _).set (fun _=>rfl) _)))
 clear hW4 b0 b1 b2 b3 b4 b5 b6 fb0 fb1 fb2 fb3 fb4 fb5 fb6 x0 x1 x2 x3 x4 x5 x6 p9 lp HI3 XB3 HSS hSp OB
 repeat ((first | refine Mix.zq ?_ | refine Mix.zp ?_ | refine Mix.zs ?_);go_big_quiet_step (fail);refine wpQuiet_nil ?_)
 intro k2
 refine at_world fun W5 hW5=>?_
 have HI5:=hid (show ShS w0 p.g ob n (cnt6 (l.take k)) k (opA cc) W5 σ bs p ts from by rw [hW5];exact { HI4.out with M:=HI4.out.M.drewN k2 })
 clear hW5 HI4
 have q1:W5.cell? ⟨p.g,1,none⟩=some (.pointer (some ⟨σ.g,0,none⟩)):=(p_blk HI5.out.M).cell 1
 have OB:=hid (show Blk W5 ob 26 (opA cc) from HI5.out.M.each 13 _ rfl)
 obtain ⟨o0,o1,o2,o3,o4,o5,o6⟩:=OB.out.c7
 clear OB
 go_upto_region 16 with fail
 refine Mix.rt [0,0,0,0,0,2,0] [0,1,2,3,4,5,6] ?_
 repeat ((first | refine Mix.zq ?_ | refine Mix.zp ?_ | refine Mix.zs ?_);go_big_quiet_step (fail);refine wpQuiet_nil ?_)
 refine Mix.ze fun V1 hV1=>?_
 obtain ⟨k1,rfl⟩:=hV1
 go_wp2_with fail
 cases HPH.out with
 | idle _ _ x hK hG=>
  have HK:=hid hK
  refine (beg_any (HI5.out.M.drewN k1) hK hG.1 HSMA.out).mono ?_
  rintro e w9 ⟨rfl,σ1,bs1,hM9,hB9⟩
  obtain ⟨pg,f,hgt,hr⟩:=rdy_begin HI5.out HK.out HSMA.out hM9 hB9
  have HR:=hid hr
  clear hr hM9 hB9 hK hG HI5 o0 o1 o2 o3 o4 o5 o6 q1
  go_wp2_with fail
  repeat ((first | refine Mix.zq ?_ | refine Mix.zp ?_ | refine Mix.zs ?_);go_big_quiet_step (fail);refine wpQuiet_nil ?_)
  intro k3
  go_wp2_with fail
  go_meet
  case rel=>exact ⟨cc,σ1,bs1,pg,f,hgt,0,p.cl,rfl,rfl,rfl,{ HR.out with S:={ HR.out.S with M:=HR.out.S.M.drewN k3 } }⟩
 }
   ·simp only [OpV.v]
    clear hn0
    go_upto_region 14 with fail
    refine at_world fun W3 hW3=>?_
    have HIn:=hid (show ShS w0 p.g ob n (cnt6 (l.take k)) (k+1) oa W3 σ bs p ts from by rw [hW3];exact HI.out.next (HC4.out.alloc _))
    clear hW3
    go_wp2_with fail
    go_roundw
    case rel=>exact ⟨k+1,_,_,_,_,_,false,stn,shb,hlt,rfl,rfl,rfl,by go_num,by rw [HC6'.out];exact HIn.out,HPH.out⟩
    case measure=>simp [intOf];omega
 }
  {
 obtain rfl:k=nn:=by omega
 obtain ⟨d1,d1'⟩:=dc_ltF (a:=k) (b:=k) (by omega)
 have PB:=hid (p_blk HI.out.M)
 have hg:=HI.out.hg
 subst hg
 have q0:wr.cell? ⟨p.g,0,none⟩=some (.pointer (some ⟨σ.r.sb,0,none⟩)):=PB.out.cell 0
 obtain ⟨hkk,hK,_⟩:=HPH.out.pub
 have HK:=hid hK
 clear hK
 go_wp2_with fail
 refine (sarena_any _ (m_st HI.out.M) HK.out.O.stf).mono ?_
 rintro e w' ⟨rfl,rfl⟩
 go_wp2_with fail
 refine (statsM σ.A σ.ns σ.st (by rw [HI.out.an];decide) _ (m_ar HI.out.M)).mono ?_
 rintro e w' ⟨rfl,hc⟩
 rw [HI.out.I.st]
 have HB:=hid (HI.out.M.keep hc).bel
 clear hc
 have hfd:∀W:World,(Instr.field 97 (.agg #[.int .i64 (σ.A.n:Int),.int .i64 ((σ.A.n - σ.ns.length:Nat):Int),.int .i64 (σ.ns.length:Int),.int .i64 0,.int .i64 (σ.ns.length:Int),.int .i64 0,.int .i64 0]) 6).run Tryz.prog W=.ok (.int .i64 0) W:=fun W=>by kernel_rfl
 go_wp2_with fail
 go_ret
 exact ⟨rfl,HB.out⟩
 }
end Go.Proofs.YtjcdknhejcbpiaaGreat
