/- Lemmas that the proof of the last text leans on; no condition. -/
import Derived.Test.YtjcdknhejcbpiaaGreatAb44
import Derived.Test.YtjcdknhejcbpiaaGreatAb39
import Derived.Test.YtjcdknhejcbpiaaGreatAb45
import Derived.Test.YtjcdknhejcbpiaaGreatAb03
import Derived.Deep.CutRange
set_option maxRecDepth 100000
set_option maxHeartbeats 60000000
namespace Go.Proofs.YtjcdknhejcbpiaaGreat
open Go.RowKit
set_option linter.unusedVariables false
set_option linter.unusedSimpArgs false
set_option linter.unusedSectionVars false
theorem alone_walk (s:ByteArray) (op:OpV) (a:Option Addr) (nn c:Nat) (l:List EvR) (v0:World) (h:InEvR v0 a nn l) (hs:s.size≤maxLen) (ho:op.ok) :
  Calls Tryz.prog 4 #[.string s,op.v,.slice a nn c] v0 fun e w'=>e=.returned (.bool true)∧Below v0.heap.size v0 w':=by
 have HE:=hid h
 have HSM:=hid hs
 have HO:=hid ho
 clear h hs ho
 simp only [OpV.v]
 go_enter Tryz.func4,Tryz.ntmps4
 go_wp2_with fail
 refine calls_world fun W1 hW1=>?_
 obtain ⟨ob,hob⟩:∃z,z=v0.heap.size:=⟨_,rfl⟩
 have C1:=hid (show Ch (fun _=>False) v0 W1 from by rw [hW1];exact (Ch.refl _ v0).alloc _)
 have B1:=hid (show Below v0.heap.size v0 W1 from C1.out.belowB (Nat.le_refl _) (fun _ _ h=>h.elim))
 have O1:=hid (show Blk W1 ob 26 #[.int .u8 op.k,.int .i64 op.sl,.int .i64 op.at',.int .i64 op.n,.int .u32 op.id,.int .u8 op.g,.string op.s] from by rw [hW1,hob];exact Blk.new v0 _ _)
 have HOB1:=hid (show v0.heap.size≤ob from Nat.le_of_eq hob.symm)
 rw [←hob]
 clear hW1 hob
 have HE1:=hid (HE.out.below B1.out)
 refine (lshort_any s 1 a nn c l W1 HE1.out HSM.out).mono ?_
 rintro e w1 ⟨b,rfl,hb1,hsp⟩
 have HB1:=hid hb1
 have BB1:=hid (B1.out.trans (hb1.mono C1.out.size))
 cases b with
 | false=>
  go_wp2_with fail
  go_ret
  exact ⟨rfl,BB1.out⟩
 | true=>
  obtain ⟨h1,h2,_,_,_,h6,h7⟩:=hsp rfl
  have HS1:=hid h1
  have HS2:=hid h2
  have HS6:=hid h6
  have HS7:=hid h7
  clear h1 h2 h6 h7 hsp hb1
  by_cases hnn:12 < nn
  ·have d1:decide (12 < nn)=true:=decide_eq_true hnn
   have d1':decide ((12:Int) < (nn:Int))=true:=decide_eq_true (by omega)
   go_wp2_with fail
   go_ret
   exact ⟨rfl,BB1.out⟩
  have d1:decide (12 < nn)=false:=decide_eq_false hnn
  have d1':decide ((12:Int) < (nn:Int))=false:=decide_eq_false (by omega)
  have HN:=hid (show nn≤12 from by omega)
  clear hnn
  have OB1:=hid ((below_ch HB1.out).blk O1.out id)
  have o0:w1.cell? ⟨ob,0,none⟩=some (.int .u8 op.k):=OB1.out.cell 0
  have o1:w1.cell? ⟨ob,1,none⟩=some (.int .i64 op.sl):=OB1.out.cell 1
  have o2:w1.cell? ⟨ob,2,none⟩=some (.int .i64 op.at'):=OB1.out.cell 2
  have o3:w1.cell? ⟨ob,3,none⟩=some (.int .i64 op.n):=OB1.out.cell 3
  have o4:w1.cell? ⟨ob,4,none⟩=some (.int .u32 op.id):=OB1.out.cell 4
  have o5:w1.cell? ⟨ob,5,none⟩=some (.int .u8 op.g):=OB1.out.cell 5
  have o6:w1.cell? ⟨ob,6,none⟩=some (.string op.s):=OB1.out.cell 6
  go_wp2_with fail
  clear d1 d1' o0 o1 o2 o3 o4 o5 o6
  have hcl:=lclean_any op HO.out 1 (by decide) w1
  rw [show ((1:Nat):Int)=1 from rfl] at hcl
  refine hcl.mono ?_
  clear hcl
  rintro e w2 ⟨op',bb,rfl,hc2,hcase⟩
  have HC2:=hid hc2
  rcases hcase with ⟨rfl,cc,rfl,hsm⟩ | ⟨_,hn0⟩
  case inr=>exact absurd hn0 (by decide)
  have OB2:=hid (hc2.blk OB1.out id)
  have HSMC:=hid hsm
  clear hc2 hsm
  have o0:w2.cell? ⟨ob,0,none⟩=some (.int .u8 op.k):=OB2.out.cell 0
  have f0:=OB2.out.free 0
  have o1:w2.cell? ⟨ob,1,none⟩=some (.int .i64 op.sl):=OB2.out.cell 1
  have f1:=OB2.out.free 1
  have o2:w2.cell? ⟨ob,2,none⟩=some (.int .i64 op.at'):=OB2.out.cell 2
  have f2:=OB2.out.free 2
  have o3:w2.cell? ⟨ob,3,none⟩=some (.int .i64 op.n):=OB2.out.cell 3
  have f3:=OB2.out.free 3
  have o4:w2.cell? ⟨ob,4,none⟩=some (.int .u32 op.id):=OB2.out.cell 4
  have f4:=OB2.out.free 4
  have o5:w2.cell? ⟨ob,5,none⟩=some (.int .u8 op.g):=OB2.out.cell 5
  have f5:=OB2.out.free 5
  have o6:w2.cell? ⟨ob,6,none⟩=some (.string op.s):=OB2.out.cell 6
  have f6:=OB2.out.free 6
  simp only [OpV.v]
  go_upto_region 4 with fail
  refine at_world fun W3 hW3=>?_
  have O3:=hid (show Blk W3 ob 26 #[.int .u8 cc.op.k,.int .i64 cc.op.sl,.int .i64 cc.op.at',.int .i64 cc.op.n,.int .u32 cc.op.id,.int .u8 cc.op.g,.string cc.op.s] from by rw [hW3];exact ((((((OB2.out.put 0 _).put 1 _).put 2 _).put 3 _).put 4 _).put 5 _).put 6 _)
  have BB3:=hid (show Below v0.heap.size v0 W3 from by rw [hW3];exact (BB1.out.trans (HC2.out.belowB BB1.out.size (fun _ _ h=>h.elim))).trans (Ch.belowB (fp:=fun k=>k=ob) ((((((((Ch.refl (fun k=>k=ob) w2).set (fun _=>rfl) _).set (fun _=>rfl) _).set (fun _=>rfl) _).set (fun _=>rfl) _).set (fun _=>rfl) _).set (fun _=>rfl) _).set (fun _=>rfl) _) (Nat.le_trans BB1.out.size HC2.out.size) (fun k _ e=>by rw [e];exact HOB1.out)))
  clear hW3 o0 o1 o2 o3 o4 o5 o6 f0 f1 f2 f3 f4 f5 f6 OB2 OB1
  have o0:W3.cell? ⟨ob,0,none⟩=some (.int .u8 cc.op.k):=O3.out.cell 0
  have f0:=O3.out.free 0
  have o1:W3.cell? ⟨ob,1,none⟩=some (.int .i64 cc.op.sl):=O3.out.cell 1
  have f1:=O3.out.free 1
  have o2:W3.cell? ⟨ob,2,none⟩=some (.int .i64 cc.op.at'):=O3.out.cell 2
  have f2:=O3.out.free 2
  have o3:W3.cell? ⟨ob,3,none⟩=some (.int .i64 cc.op.n):=O3.out.cell 3
  have f3:=O3.out.free 3
  have o4:W3.cell? ⟨ob,4,none⟩=some (.int .u32 cc.op.id):=O3.out.cell 4
  have f4:=O3.out.free 4
  have o5:W3.cell? ⟨ob,5,none⟩=some (.int .u8 cc.op.g):=O3.out.cell 5
  have f5:=O3.out.free 5
  have o6:W3.cell? ⟨ob,6,none⟩=some (.string cc.op.s):=O3.out.cell 6
  have f6:=O3.out.free 6
  go_upto_if 37 with fail
  go_cut [] from 21 (fun w=>∃c2:Cop,c2≠.acq∧c2.small 1∧Blk w ob 26 #[.int .u8 c2.op.k,.int .i64 c2.op.sl,.int .i64 c2.op.at',.int .i64 c2.op.n,.int .u32 c2.op.id,.int .u8 c2.op.g,.string c2.op.s]∧Below v0.heap.size v0 w)
  case first=>
   by_cases hcq:cc=.acq
   ·have f1:(cc.op.k == 5)=true:=by rw [hcq];rfl
    go_wp2_with fail
    go_meet
    case rel=>exact ⟨.read 0 0 s.size,by nofun,⟨by decide,by decide,by have:=HS1.out;omega⟩,((((((O3.out.put 0 _).put 1 _).put 2 _).put 3 _).put 4 _).put 5 _).put 6 _,BB3.out.trans (Ch.belowB (fp:=fun k=>k=ob) ((((((((Ch.refl (fun k=>k=ob) W3).set (fun _=>rfl) _).set (fun _=>rfl) _).set (fun _=>rfl) _).set (fun _=>rfl) _).set (fun _=>rfl) _).set (fun _=>rfl) _).set (fun _=>rfl) _) BB3.out.size (fun k _ e=>by rw [e];exact HOB1.out))⟩
   ·have f1:(cc.op.k == 5)=false:=by cases cc <;> first | rfl | exact absurd rfl hcq
    go_wp2_with fail
    go_meet
    case rel=>exact ⟨cc,hcq,HSMC.out,O3.out,BB3.out⟩
  case rest=>
   clear o0 o1 o2 o3 o4 o5 o6 f0 f1 f2 f3 f4 f5 f6 O3 BB3 HSMC HC2 BB1 HB1 O1 C1 HO
   revert wc
   intro w0 hcut
   obtain ⟨c2,hne,hsm,hO,hbel⟩:=hcut
   have HNE:=hid hne
   have HSC:=hid hsm
   have O4:=hid hO
   have BB4:=hid hbel
   have HOB:=hid (show ob < w0.heap.size from hO.lt)
   have HEW:=hid (HE.out.below hbel)
   clear hne hsm hO hbel HE HE1
   go_wp2_with fail
   have hpl:=plain_any w0 s 1 HS1.out HS2.out (by decide) w0 (Below.refl _ _) (Nat.le_refl _)
   rw [show ((1:Nat):Int)=1 from rfl] at hpl
   refine hpl.mono ?_
   clear hpl
   rintro e w2 ⟨σ0,p,y,rfl,hM,hP⟩
   have HM2:=hid hM
   have HPP:=hid hP
   clear hM hP
   go_wp2_with fail
   have hpl:=plain_any w2 s 1 HS1.out HS2.out (by decide) w2 (Below.refl _ _) (Nat.le_refl _)
   rw [show ((1:Nat):Int)=1 from rfl] at hpl
   refine hpl.mono ?_
   clear hpl
   rintro e w3 ⟨τ0,q,z,rfl,hM,hP⟩
   have HQP:=hid hP
   have M3:=hid (two_runs HM2.out hM)
   clear hM hP HM2
   have M3p:=hid (show Mem w0.heap.size w0 (σ0.L w0.heap.size++(boxR []::(p.L w0.heap.size σ0.r.sb σ0.g 1++(τ0.L w0.heap.size++(boxR []::q.L w0.heap.size τ0.r.sb τ0.g 1))))) w3 from by have t:=M3.out;simp only [List.append_assoc,List.cons_append,List.append_nil,List.nil_append] at t;exact t)
   clear M3
   have q1:w3.cell? ⟨p.g,1,none⟩=some (.pointer (some ⟨σ0.g,0,none⟩)):=(p_blk M3p.out).cell 1
   go_wp2_with fail
   refine (fin_acq M3p.out HPP.out.K HPP.out.G.1 (by rw [HPP.out.lg];decide)).mono ?_
   rintro e w4 ⟨σ,bs,x1,v1,phs1,rfl,hM4,hS4,hK4,hG4,hE4,hl4⟩
   obtain ⟨he1,sn,hOne⟩:=acq_one HPP.out hE4 hS4 hK4
   have M4:=hid (show Mem w0.heap.size w0 (σ.L w0.heap.size++(boxR bs::(p.L w0.heap.size σ.r.sb σ.g 1++(τ0.L w0.heap.size++(boxR []::q.L w0.heap.size τ0.r.sb τ0.g 1))))) w4 from p_same hM4.drop1c hS4)
   have hgσ:σ0.g=σ.g:=hS4.g.symm
   have HKS:=hid hK4
   have HGS:=hid hG4
   have HON:=hid hOne
   have HLS:=hid (show σ.s.lg.length≤200 from by rw [HPP.out.lg] at hl4;simpa using hl4)
   have g1:(x1.er != 0)=false:=by rw [he1];rfl
   clear hM4 hS4 hK4 hG4 hE4 hl4 he1 hOne q1 HPP M3p hgσ
   simp only [RsV.v]
   go_upto_region 12 with fail
   refine at_world fun W5 hW5=>?_
   have M5:=hid (show Mem w0.heap.size w0 (τ0.L w0.heap.size++(boxR []::(q.L w0.heap.size τ0.r.sb τ0.g 1++(σ.L w0.heap.size++(boxR bs::p.L w0.heap.size σ.r.sb σ.g 1))))) W5 from by
    rw [hW5]
    have t:Mem w0.heap.size w0 ((σ.L w0.heap.size++(boxR bs::p.L w0.heap.size σ.r.sb σ.g 1))++(τ0.L w0.heap.size++(boxR []::q.L w0.heap.size τ0.r.sb τ0.g 1))) (w4.alloc (.cells x1.arr 41)):=by have u:=M4.out.alloc (.cells x1.arr 41);simp only [List.append_assoc,List.cons_append] at u ⊢;exact u
    have t2:=t.swap
    simp only [List.append_assoc,List.cons_append] at t2 ⊢
    exact t2)
   clear hW5 M4 g1
   have q1:W5.cell? ⟨q.g,1,none⟩=some (.pointer (some ⟨τ0.g,0,none⟩)):=(p_blk M5.out).cell 1
   go_wp2_with fail
   refine (fin_acq M5.out HQP.out.K HQP.out.G.1 (by rw [HQP.out.lg];decide)).mono ?_
   rintro e w6 ⟨τ,bt,x2,v2,phs2,rfl,hM6,hS6,hK6,hG6,hE6,hl6⟩
   obtain ⟨he2,tn,hOne⟩:=acq_one HQP.out hE6 hS6 hK6
   have M6:=hid (show Mem w0.heap.size w0 (τ.L w0.heap.size++(boxR bt::(q.L w0.heap.size τ.r.sb τ.g 1++(σ.L w0.heap.size++(boxR bs::p.L w0.heap.size σ.r.sb σ.g 1))))) w6 from p_same hM6.drop1c hS6)
   have HKT:=hid hK6
   have HGT:=hid hG6
   have HOT:=hid hOne
   have HLT:=hid (show τ.s.lg.length≤200∧τ.A.n=200∧τ.ns.length≤11 from ⟨by rw [HQP.out.lg] at hl6;simpa using hl6,by rw [hS6.A];exact HQP.out.an,by rw [hS6.ns];exact HQP.out.nl⟩)
   have g1:(x2.er != 0)=false:=by rw [he2];rfl
   clear hM6 hS6 hK6 hG6 hE6 hl6 he2 hOne q1 HQP M5
   simp only [RsV.v]
   go_upto_region 15 with fail
   refine at_world fun W7 hW7=>?_
   have M7:=hid (show Mem w0.heap.size w0 (σ.L w0.heap.size++(boxR bs::(p.L w0.heap.size σ.r.sb σ.g 1++(τ.L w0.heap.size++(boxR bt::q.L w0.heap.size τ.r.sb τ.g 1))))) W7 from by
    rw [hW7]
    have t:Mem w0.heap.size w0 ((τ.L w0.heap.size++(boxR bt::q.L w0.heap.size τ.r.sb τ.g 1))++(σ.L w0.heap.size++(boxR bs::p.L w0.heap.size σ.r.sb σ.g 1))) (w6.alloc (.cells x2.arr 41)):=by have u:=M6.out.alloc (.cells x2.arr 41);simp only [List.append_assoc,List.cons_append] at u ⊢;exact u
    have t2:=t.swap
    simp only [List.append_assoc,List.cons_append] at t2 ⊢
    exact t2)
   clear hW7 M6 g1
   have OB7:=hid ((below_ch M7.out.bel).blk O4.out id)
   have o0:W7.cell? ⟨ob,0,none⟩=some (.int .u8 c2.op.k):=OB7.out.cell 0
   have o1:W7.cell? ⟨ob,1,none⟩=some (.int .i64 c2.op.sl):=OB7.out.cell 1
   have o2:W7.cell? ⟨ob,2,none⟩=some (.int .i64 c2.op.at'):=OB7.out.cell 2
   have o3:W7.cell? ⟨ob,3,none⟩=some (.int .i64 c2.op.n):=OB7.out.cell 3
   have o4:W7.cell? ⟨ob,4,none⟩=some (.int .u32 c2.op.id):=OB7.out.cell 4
   have o5:W7.cell? ⟨ob,5,none⟩=some (.int .u8 c2.op.g):=OB7.out.cell 5
   have o6:W7.cell? ⟨ob,6,none⟩=some (.string c2.op.s):=OB7.out.cell 6
   have q1:W7.cell? ⟨p.g,1,none⟩=some (.pointer (some ⟨σ.g,0,none⟩)):=(p_blk M7.out).cell 1
   obtain ⟨S,hS⟩:∃S:Nat→Prop,∀k,S k↔(k=p.g∨k=ob):=⟨_,fun _=>Iff.rfl⟩
   have hSp1:Mix.Has S p.g:=(hS _).2 (.inl rfl)
   have hSp2:Mix.Has S ob:=(hS _).2 (.inr rfl)
   have HSS:=hid hS
   clear hS
   have HWAY:=hid (show ∀(R:List Res) (W:World),Mem w0.heap.size w0 (σ.L w0.heap.size++(boxR bs::R)) W→Calls Tryz.prog 12 #[.pointer (some ⟨σ.g,0,none⟩),c2.op.v] W (FinTo w0.heap.size w0 R σ y 1 1 [s.data.toList] (fun phs σ' x=>(∃pg0 ps,StartP σ [s.data.toList] c2 pg0∧Pth 1 σ.ns σ.sl pg0 ps phs (.fin x))∧phs.length≤200)) from fun R W M=>
    fin_way M HKS.out (by have:=HLS.out;omega) HNE.out (small_slot HSC.out HNE.out) (fun tx htx=>by rw [List.mem_singleton.1 htx,dsize];have:=HS1.out;omega) (fun R' W' M'=>beg_nm M' HKS.out HGS.out.1 HNE.out HSC.out (one_ms HON.out)))
   refine Mix.wp_region_XJ S (fun i=>([1,1,1,4,4,2,1,1,1,1,3,0,2,0]:List Nat).getD i 0) (fun a0 a' w'=>∃rb σ2 bs2 x v phs,a'=(((((((((((((a0.put (some 86) (.pointer (some ⟨p.g,0,none⟩))).put (some 87) (.pointer (some ⟨p.g,0,none⟩))).put (some 88) (.pointer (some ⟨p.g,1,none⟩))).put (some 89) (.pointer (some ⟨σ.g,0,none⟩))).put (some 90) (.agg #[.int .u8 c2.op.k,.int .i64 c2.op.sl,.int .i64 c2.op.at',.int .i64 c2.op.n,.int .u32 c2.op.id,.int .u8 c2.op.g,.string c2.op.s])).put (some 91) (.tuple #[v,(.agg #[.int .i64 x.er,.int .i64 x.rev,.int .i64 x.sl,.int .i64 x.at',.int .u8 x.g,.string x.s,.int .i64 x.b,.int .i64 x.r,.int .i64 x.l,.int .u8 x.ik,.int .i64 x.fr,.int .i64 x.to,.slice none 0 0]),.bool true])).put (some 85) (.tuple #[v,(.agg #[.int .i64 x.er,.int .i64 x.rev,.int .i64 x.sl,.int .i64 x.at',.int .u8 x.g,.string x.s,.int .i64 x.b,.int .i64 x.r,.int .i64 x.l,.int .u8 x.ik,.int .i64 x.fr,.int .i64 x.to,.slice none 0 0]),.bool true])).put (some 92) v).put (some 93) (.agg #[.int .i64 x.er,.int .i64 x.rev,.int .i64 x.sl,.int .i64 x.at',.int .u8 x.g,.string x.s,.int .i64 x.b,.int .i64 x.r,.int .i64 x.l,.int .u8 x.ik,.int .i64 x.fr,.int .i64 x.to,.slice none 0 0])).put (some 94) (.bool true)).put (some 16) (.pointer (some ⟨rb,0,none⟩))).put (some 15) v).put (some 17) (.bool true))∧Mem w0.heap.size w0 (σ2.L w0.heap.size++((boxR bs2::((p.L w0.heap.size σ.r.sb σ.g 1++(τ.L w0.heap.size++(boxR bt::q.L w0.heap.size τ.r.sb τ.g 1)))++[rowR w0.heap.size 5 1 phs.length v (phs8 phs)]))++[blkR rb 41 #[.int .i64 x.er,.int .i64 x.rev,.int .i64 x.sl,.int .i64 x.at',.int .u8 x.g,.string x.s,.int .i64 x.b,.int .i64 x.r,.int .i64 x.l,.int .u8 x.ik,.int .i64 x.fr,.int .i64 x.to,.slice none 0 0]])) w'∧Same σ σ2∧(∃pg0 ps,StartP σ [s.data.toList] c2 pg0∧Pth 1 σ.ns σ.sl pg0 ps phs (.fin x))∧phs.length≤200) (by kernel_rfl) ?_ ?_
   ·refine Mix.wpX_prefix (fuel:=9) (by kernel_rfl) [0,1,2,3,4] _ _ _ (by kernel_rfl) ?_
    repeat ((first | refine Mix.q1 rfl ?_ | refine Mix.p1 rfl rfl ?_ | refine Mix.s1 rfl rfl ?_);go_big_quiet_step (fail);refine wpQuiet_nil ?_)
    intro m0
    refine Mix.wpX_world fun V0 hV0=>?_
    have MV0:=hid (show Mem w0.heap.size w0 (σ.L w0.heap.size++(boxR bs::(p.L w0.heap.size σ.r.sb σ.g 1++(τ.L w0.heap.size++(boxR bt::q.L w0.heap.size τ.r.sb τ.g 1))))) V0 from by rw [hV0];exact M7.out.drewN m0)
    clear hV0
    refine Mix.wpX_two 5 10 (by kernel_rfl) ?_ ?_
    ·refine Mix.e1 rfl fun E2 hE2=>?_
     obtain ⟨e2,rfl⟩:=hE2
     go_wp2_with fail
     refine (HWAY.out _ _ (MV0.out.drewN e2)).mono ?_
     rintro e E2w ⟨σ2,bs2,x,v,phs,rfl,hm,hS,_,_,hE,_⟩
     have hM2:=hid (show Mem w0.heap.size w0 (σ2.L w0.heap.size++((boxR bs2::((p.L w0.heap.size σ.r.sb σ.g 1++(τ.L w0.heap.size++(boxR bt::q.L w0.heap.size τ.r.sb τ.g 1)))++[rowR w0.heap.size 5 1 phs.length v (phs8 phs)])))) E2w from hm)
     have HQ:=hid (show Same σ σ2∧(∃pg0 ps,StartP σ [s.data.toList] c2 pg0∧Pth 1 σ.ns σ.sl pg0 ps phs (.fin x))∧phs.length≤200 from ⟨hS,hE.1,hE.2⟩)
     simp only [RsV.v]
     clear hm hS hE
     go_wp2_with fail
     intro m2
     refine Mix.wpX_world fun V2 hV2=>?_
     have MV2:=hid (show Mem w0.heap.size w0 (σ2.L w0.heap.size++(boxR bs2::((p.L w0.heap.size σ.r.sb σ.g 1++(τ.L w0.heap.size++(boxR bt::q.L w0.heap.size τ.r.sb τ.g 1)))++[rowR w0.heap.size 5 1 phs.length v (phs8 phs)]))) V2 from by rw [hV2];exact hM2.out.drewN m2)
     clear hV2
     refine Mix.wpX_prefix (fuel:=0) (by kernel_rfl) [6,7,8,9,10,11,12,13] _ _ _ (by kernel_rfl) ?_
     repeat ((first | refine Mix.q1 rfl ?_ | refine Mix.p1 rfl rfl ?_ | refine Mix.s1 rfl rfl ?_);go_big_quiet_step (fail);refine wpQuiet_nil ?_)
     refine Mix.a1 rfl fun Y3 hY3=>?_
     obtain ⟨y3,rfl⟩:=hY3
     go_wp2_with fail
     refine ⟨fun k hk=>Below.heap_alloc _ _ k (by rcases (HSS.out k).1 hk with e | e <;> rw [e];exact Blk.lt (MV2.out.each 10 (blkR p.g 51 (p.cells σ.r.sb σ.g 1)) rfl);exact Nat.lt_of_lt_of_le HOB.out MV2.out.bz),?_⟩
     refine Mix.mix_world fun V3 hV3=>?_
     obtain ⟨tb3,htb3⟩:∃z,z=V2.heap.size:=⟨_,rfl⟩
     have MV3:=hid (show Mem w0.heap.size w0 (σ2.L w0.heap.size++((boxR bs2::((p.L w0.heap.size σ.r.sb σ.g 1++(τ.L w0.heap.size++(boxR bt::q.L w0.heap.size τ.r.sb τ.g 1)))++[rowR w0.heap.size 5 1 phs.length v (phs8 phs)]))++[blkR tb3 41 #[.int .i64 0,.int .i64 0,.int .i64 0,.int .i64 0,.int .u8 0,.string ⟨#[]⟩,.int .i64 0,.int .i64 0,.int .i64 0,.int .u8 0,.int .i64 0,.int .i64 0,.slice none 0 0]])) V3 from by rw [hV3,htb3];exact (MV2.out.drewN y3).snoc _ ((Ch.refl (fun _=>False) (V2.drewN y3)).alloc _) (Blk.new (V2.drewN y3) _ _) (fun k hk=>by rw [show k=_ from hk];exact Nat.le_refl _))
     rw [←htb3]
     clear hV3 htb3
     have rc0:V3.cell? ⟨tb3,0,none⟩=some (_):=MV3.out.lastBlk.cell 0
     have rcf0:=MV3.out.lastBlk.free 0
     have rc1:V3.cell? ⟨tb3,1,none⟩=some (_):=MV3.out.lastBlk.cell 1
     have rcf1:=MV3.out.lastBlk.free 1
     have rc2:V3.cell? ⟨tb3,2,none⟩=some (_):=MV3.out.lastBlk.cell 2
     have rcf2:=MV3.out.lastBlk.free 2
     have rc3:V3.cell? ⟨tb3,3,none⟩=some (_):=MV3.out.lastBlk.cell 3
     have rcf3:=MV3.out.lastBlk.free 3
     have rc4:V3.cell? ⟨tb3,4,none⟩=some (_):=MV3.out.lastBlk.cell 4
     have rcf4:=MV3.out.lastBlk.free 4
     have rc5:V3.cell? ⟨tb3,5,none⟩=some (_):=MV3.out.lastBlk.cell 5
     have rcf5:=MV3.out.lastBlk.free 5
     have rc6:V3.cell? ⟨tb3,6,none⟩=some (_):=MV3.out.lastBlk.cell 6
     have rcf6:=MV3.out.lastBlk.free 6
     have rc7:V3.cell? ⟨tb3,7,none⟩=some (_):=MV3.out.lastBlk.cell 7
     have rcf7:=MV3.out.lastBlk.free 7
     have rc8:V3.cell? ⟨tb3,8,none⟩=some (_):=MV3.out.lastBlk.cell 8
     have rcf8:=MV3.out.lastBlk.free 8
     have rc9:V3.cell? ⟨tb3,9,none⟩=some (_):=MV3.out.lastBlk.cell 9
     have rcf9:=MV3.out.lastBlk.free 9
     have rc10:V3.cell? ⟨tb3,10,none⟩=some (_):=MV3.out.lastBlk.cell 10
     have rcf10:=MV3.out.lastBlk.free 10
     have rc11:V3.cell? ⟨tb3,11,none⟩=some (_):=MV3.out.lastBlk.cell 11
     have rcf11:=MV3.out.lastBlk.free 11
     have rc12:V3.cell? ⟨tb3,12,none⟩=some (_):=MV3.out.lastBlk.cell 12
     have rcf12:=MV3.out.lastBlk.free 12
     repeat ((first | refine Mix.q1 rfl ?_ | refine Mix.p1 rfl rfl ?_ | refine Mix.s1 rfl rfl ?_);go_big_quiet_step (fail);refine wpQuiet_nil ?_)
     refine Mix.e1 rfl fun O3 hO3=>?_
     obtain ⟨o3,rfl⟩:=hO3
     go_wp2_with fail
     repeat ((first | refine Mix.q1 rfl ?_ | refine Mix.p1 rfl rfl ?_ | refine Mix.s1 rfl rfl ?_);go_big_quiet_step (fail);refine wpQuiet_nil ?_)
     intro m3
     refine Mix.wpX_done (by kernel_rfl) ?_
     intro u3
     have hMEM:=((((((((((((((((MV3.out.drewN o3).putLast 0 (.int .i64 x.er)).putLast 1 (.int .i64 x.rev)).putLast 2 (.int .i64 x.sl)).putLast 3 (.int .i64 x.at')).putLast 4 (.int .u8 x.g)).putLast 5 (.string x.s)).putLast 6 (.int .i64 x.b)).putLast 7 (.int .i64 x.r)).putLast 8 (.int .i64 x.l)).putLast 9 (.int .u8 x.ik)).putLast 10 (.int .i64 x.fr)).putLast 11 (.int .i64 x.to)).putLast 12 (.slice none 0 0)).drewN m3).drewN u3)
     rw [show ((((((((((((((#[.int .i64 0,.int .i64 0,.int .i64 0,.int .i64 0,.int .u8 0,.string ⟨#[]⟩,.int .i64 0,.int .i64 0,.int .i64 0,.int .u8 0,.int .i64 0,.int .i64 0,.slice none 0 0]:Array Value).setIfInBounds 0 (.int .i64 x.er)).setIfInBounds 1 (.int .i64 x.rev)).setIfInBounds 2 (.int .i64 x.sl)).setIfInBounds 3 (.int .i64 x.at')).setIfInBounds 4 (.int .u8 x.g)).setIfInBounds 5 (.string x.s)).setIfInBounds 6 (.int .i64 x.b)).setIfInBounds 7 (.int .i64 x.r)).setIfInBounds 8 (.int .i64 x.l)).setIfInBounds 9 (.int .u8 x.ik)).setIfInBounds 10 (.int .i64 x.fr)).setIfInBounds 11 (.int .i64 x.to)).setIfInBounds 12 (.slice none 0 0))=(#[.int .i64 x.er,.int .i64 x.rev,.int .i64 x.sl,.int .i64 x.at',.int .u8 x.g,.string x.s,.int .i64 x.b,.int .i64 x.r,.int .i64 x.l,.int .u8 x.ik,.int .i64 x.fr,.int .i64 x.to,.slice none 0 0]:Array Value) from by kernel_rfl] at hMEM
     exact ⟨tb3,σ2,bs2,x,v,phs,by simp only [Act.put,List.setIfInBounds_toArray,List.set_cons_succ,List.set_cons_zero],hMEM,HQ.out⟩
    ·refine Mix.a1 rfl fun Y3 hY3=>?_
     obtain ⟨y3,rfl⟩:=hY3
     go_wp2_with fail
     refine ⟨fun k hk=>Below.heap_alloc _ _ k (by rcases (HSS.out k).1 hk with e | e <;> rw [e];exact Blk.lt (MV0.out.each 10 (blkR p.g 51 (p.cells σ.r.sb σ.g 1)) rfl);exact Nat.lt_of_lt_of_le HOB.out MV0.out.bz),?_⟩
     refine Mix.mix_world fun V3 hV3=>?_
     obtain ⟨tb3,htb3⟩:∃z,z=V0.heap.size:=⟨_,rfl⟩
     have MV3:=hid (show Mem w0.heap.size w0 (σ.L w0.heap.size++((boxR bs::(p.L w0.heap.size σ.r.sb σ.g 1++(τ.L w0.heap.size++(boxR bt::q.L w0.heap.size τ.r.sb τ.g 1))))++[blkR tb3 41 #[.int .i64 0,.int .i64 0,.int .i64 0,.int .i64 0,.int .u8 0,.string ⟨#[]⟩,.int .i64 0,.int .i64 0,.int .i64 0,.int .u8 0,.int .i64 0,.int .i64 0,.slice none 0 0]])) V3 from by rw [hV3,htb3];exact (MV0.out.drewN y3).snoc _ ((Ch.refl (fun _=>False) (V0.drewN y3)).alloc _) (Blk.new (V0.drewN y3) _ _) (fun k hk=>by rw [show k=_ from hk];exact Nat.le_refl _))
     rw [←htb3]
     clear hV3 htb3
     intro m4
     refine Mix.wpX_world fun V4 hV4=>?_
     have MV4:=hid (show Mem w0.heap.size w0 (σ.L w0.heap.size++((boxR bs::(p.L w0.heap.size σ.r.sb σ.g 1++(τ.L w0.heap.size++(boxR bt::q.L w0.heap.size τ.r.sb τ.g 1))))++[blkR tb3 41 #[.int .i64 0,.int .i64 0,.int .i64 0,.int .i64 0,.int .u8 0,.string ⟨#[]⟩,.int .i64 0,.int .i64 0,.int .i64 0,.int .u8 0,.int .i64 0,.int .i64 0,.slice none 0 0]])) V4 from by rw [hV4];exact MV3.out.drewN m4)
     clear hV4
     refine Mix.wpX_prefix (fuel:=0) (by kernel_rfl) [5,6,7,8,9,11,12,13] _ _ _ (by kernel_rfl) ?_
     refine Mix.e1 rfl fun E5 hE5=>?_
     obtain ⟨e5,rfl⟩:=hE5
     go_wp2_with fail
     refine (HWAY.out _ _ (Mem.consApp (MV4.out.drewN e5))).mono ?_
     rintro e E5w ⟨σ2,bs2,x,v,phs,rfl,hm,hS,_,_,hE,_⟩
     have hM5:=hid (show Mem w0.heap.size w0 (σ2.L w0.heap.size++((boxR bs2::((p.L w0.heap.size σ.r.sb σ.g 1++(τ.L w0.heap.size++(boxR bt::q.L w0.heap.size τ.r.sb τ.g 1)))++[rowR w0.heap.size 5 1 phs.length v (phs8 phs)]))++[blkR tb3 41 #[.int .i64 0,.int .i64 0,.int .i64 0,.int .i64 0,.int .u8 0,.string ⟨#[]⟩,.int .i64 0,.int .i64 0,.int .i64 0,.int .u8 0,.int .i64 0,.int .i64 0,.slice none 0 0]])) E5w from Mem.flip2c hm)
     have HQ:=hid (show Same σ σ2∧(∃pg0 ps,StartP σ [s.data.toList] c2 pg0∧Pth 1 σ.ns σ.sl pg0 ps phs (.fin x))∧phs.length≤200 from ⟨hS,hE.1,hE.2⟩)
     simp only [RsV.v]
     clear hm hS hE
     go_wp2_with fail
     refine Mix.mix_world fun V5 hV5=>?_
     have MV5:=hid (show Mem w0.heap.size w0 (σ2.L w0.heap.size++((boxR bs2::((p.L w0.heap.size σ.r.sb σ.g 1++(τ.L w0.heap.size++(boxR bt::q.L w0.heap.size τ.r.sb τ.g 1)))++[rowR w0.heap.size 5 1 phs.length v (phs8 phs)]))++[blkR tb3 41 #[.int .i64 0,.int .i64 0,.int .i64 0,.int .i64 0,.int .u8 0,.string ⟨#[]⟩,.int .i64 0,.int .i64 0,.int .i64 0,.int .u8 0,.int .i64 0,.int .i64 0,.slice none 0 0]])) V5 from by rw [hV5];exact hM5.out)
     clear hV5
     have rc0:V5.cell? ⟨tb3,0,none⟩=some (_):=MV5.out.lastBlk.cell 0
     have rcf0:=MV5.out.lastBlk.free 0
     have rc1:V5.cell? ⟨tb3,1,none⟩=some (_):=MV5.out.lastBlk.cell 1
     have rcf1:=MV5.out.lastBlk.free 1
     have rc2:V5.cell? ⟨tb3,2,none⟩=some (_):=MV5.out.lastBlk.cell 2
     have rcf2:=MV5.out.lastBlk.free 2
     have rc3:V5.cell? ⟨tb3,3,none⟩=some (_):=MV5.out.lastBlk.cell 3
     have rcf3:=MV5.out.lastBlk.free 3
     have rc4:V5.cell? ⟨tb3,4,none⟩=some (_):=MV5.out.lastBlk.cell 4
     have rcf4:=MV5.out.lastBlk.free 4
     have rc5:V5.cell? ⟨tb3,5,none⟩=some (_):=MV5.out.lastBlk.cell 5
     have rcf5:=MV5.out.lastBlk.free 5
     have rc6:V5.cell? ⟨tb3,6,none⟩=some (_):=MV5.out.lastBlk.cell 6
     have rcf6:=MV5.out.lastBlk.free 6
     have rc7:V5.cell? ⟨tb3,7,none⟩=some (_):=MV5.out.lastBlk.cell 7
     have rcf7:=MV5.out.lastBlk.free 7
     have rc8:V5.cell? ⟨tb3,8,none⟩=some (_):=MV5.out.lastBlk.cell 8
     have rcf8:=MV5.out.lastBlk.free 8
     have rc9:V5.cell? ⟨tb3,9,none⟩=some (_):=MV5.out.lastBlk.cell 9
     have rcf9:=MV5.out.lastBlk.free 9
     have rc10:V5.cell? ⟨tb3,10,none⟩=some (_):=MV5.out.lastBlk.cell 10
     have rcf10:=MV5.out.lastBlk.free 10
     have rc11:V5.cell? ⟨tb3,11,none⟩=some (_):=MV5.out.lastBlk.cell 11
     have rcf11:=MV5.out.lastBlk.free 11
     have rc12:V5.cell? ⟨tb3,12,none⟩=some (_):=MV5.out.lastBlk.cell 12
     have rcf12:=MV5.out.lastBlk.free 12
     repeat ((first | refine Mix.q1 rfl ?_ | refine Mix.p1 rfl rfl ?_ | refine Mix.s1 rfl rfl ?_);go_big_quiet_step (fail);refine wpQuiet_nil ?_)
     refine Mix.e1 rfl fun O5 hO5=>?_
     obtain ⟨o5,rfl⟩:=hO5
     go_wp2_with fail
     repeat ((first | refine Mix.q1 rfl ?_ | refine Mix.p1 rfl rfl ?_ | refine Mix.s1 rfl rfl ?_);go_big_quiet_step (fail);refine wpQuiet_nil ?_)
     intro m5
     refine Mix.wpX_done (by kernel_rfl) ?_
     intro u5
     have hMEM:=((((((((((((((((MV5.out.drewN o5).putLast 0 (.int .i64 x.er)).putLast 1 (.int .i64 x.rev)).putLast 2 (.int .i64 x.sl)).putLast 3 (.int .i64 x.at')).putLast 4 (.int .u8 x.g)).putLast 5 (.string x.s)).putLast 6 (.int .i64 x.b)).putLast 7 (.int .i64 x.r)).putLast 8 (.int .i64 x.l)).putLast 9 (.int .u8 x.ik)).putLast 10 (.int .i64 x.fr)).putLast 11 (.int .i64 x.to)).putLast 12 (.slice none 0 0)).drewN m5).drewN u5)
     rw [show ((((((((((((((#[.int .i64 0,.int .i64 0,.int .i64 0,.int .i64 0,.int .u8 0,.string ⟨#[]⟩,.int .i64 0,.int .i64 0,.int .i64 0,.int .u8 0,.int .i64 0,.int .i64 0,.slice none 0 0]:Array Value).setIfInBounds 0 (.int .i64 x.er)).setIfInBounds 1 (.int .i64 x.rev)).setIfInBounds 2 (.int .i64 x.sl)).setIfInBounds 3 (.int .i64 x.at')).setIfInBounds 4 (.int .u8 x.g)).setIfInBounds 5 (.string x.s)).setIfInBounds 6 (.int .i64 x.b)).setIfInBounds 7 (.int .i64 x.r)).setIfInBounds 8 (.int .i64 x.l)).setIfInBounds 9 (.int .u8 x.ik)).setIfInBounds 10 (.int .i64 x.fr)).setIfInBounds 11 (.int .i64 x.to)).setIfInBounds 12 (.slice none 0 0))=(#[.int .i64 x.er,.int .i64 x.rev,.int .i64 x.sl,.int .i64 x.at',.int .u8 x.g,.string x.s,.int .i64 x.b,.int .i64 x.r,.int .i64 x.l,.int .u8 x.ik,.int .i64 x.fr,.int .i64 x.to,.slice none 0 0]:Array Value) from by kernel_rfl] at hMEM
     exact ⟨tb3,σ2,bs2,x,v,phs,by simp only [Act.put,List.setIfInBounds_toArray,List.set_cons_succ,List.set_cons_zero],hMEM,HQ.out⟩
   ·clear q1 o0 o1 o2 o3 o4 o5 o6 hSp1 hSp2 HSS OB7 HWAY
    rintro a' w8 ⟨rb,σ2,bs2,x,v,phs,rfl,hM,hS2,hway,hpl⟩
    simp only [Act.put,List.setIfInBounds_toArray,List.set_cons_succ,List.set_cons_zero]
    obtain ⟨pg0,ps,hst,hpth⟩:=hway
    obtain ⟨E,hE⟩:∃E:List Res,E=rowR w0.heap.size 5 1 phs.length v (phs8 phs)::blkR rb 41 #[.int .i64 x.er,.int .i64 x.rev,.int .i64 x.sl,.int .i64 x.at',.int .u8 x.g,.string x.s,.int .i64 x.b,.int .i64 x.r,.int .i64 x.l,.int .u8 x.ik,.int .i64 x.fr,.int .i64 x.to,.slice none 0 0]::(σ2.L w0.heap.size++(boxR bs2::p.L w0.heap.size σ.r.sb σ.g 1)):=⟨_,rfl⟩
    have M8:=hid (show Mem w0.heap.size w0 (τ.L w0.heap.size++(boxR bt::(q.L w0.heap.size τ.r.sb τ.g 1++E))) w8 from by
     rw [hE]
     have t:Mem w0.heap.size w0 ((σ2.L w0.heap.size++(boxR bs2::p.L w0.heap.size σ.r.sb σ.g 1))++(τ.L w0.heap.size++(boxR bt::(q.L w0.heap.size τ.r.sb τ.g 1++[rowR w0.heap.size 5 1 phs.length v (phs8 phs),blkR rb 41 #[.int .i64 x.er,.int .i64 x.rev,.int .i64 x.sl,.int .i64 x.at',.int .u8 x.g,.string x.s,.int .i64 x.b,.int .i64 x.r,.int .i64 x.l,.int .u8 x.ik,.int .i64 x.fr,.int .i64 x.to,.slice none 0 0]])))) w8:=by have u:=hM;simp only [List.append_assoc,List.cons_append,List.nil_append] at u ⊢;exact u
     have t2:=t.swap
     simp only [List.append_assoc,List.cons_append,List.nil_append] at t2 ⊢
     exact t2)
    have HE0:=hid (show E[0]?=some (rowR w0.heap.size 5 1 phs.length v (phs8 phs)) from by rw [hE];rfl)
    have HE1:=hid (show E[1]?=some (blkR rb 41 #[.int .i64 x.er,.int .i64 x.rev,.int .i64 x.sl,.int .i64 x.at',.int .u8 x.g,.string x.s,.int .i64 x.b,.int .i64 x.r,.int .i64 x.l,.int .u8 x.ik,.int .i64 x.fr,.int .i64 x.to,.slice none 0 0]) from by rw [hE];rfl)
    have HST:=hid hst
    have HPT:=hid hpth
    have HPL:=hid hpl
    clear hM hS2 hst hpth hpl hE M7
    have HROW:=hid (show ∀(W:World) (τ:RS) (bt:List Bx) (q:PlS),Mem w0.heap.size w0 (τ.L w0.heap.size++(boxR bt::(q.L w0.heap.size τ.r.sb τ.g 1++E))) W→W.ownsRow w0.heap.size 5 1 v phs.length (phs8 phs) from fun W τ bt q M=>M.each 13 (rowR w0.heap.size 5 1 phs.length v (phs8 phs)) (by rw [←HE0.out];rfl))
    have HRES:=hid (show ∀(W:World) (τ:RS) (bt:List Bx) (q:PlS),Mem w0.heap.size w0 (τ.L w0.heap.size++(boxR bt::(q.L w0.heap.size τ.r.sb τ.g 1++E))) W→Blk W rb 41 #[.int .i64 x.er,.int .i64 x.rev,.int .i64 x.sl,.int .i64 x.at',.int .u8 x.g,.string x.s,.int .i64 x.b,.int .i64 x.r,.int .i64 x.l,.int .u8 x.ik,.int .i64 x.fr,.int .i64 x.to,.slice none 0 0] from fun W τ bt q M=>M.each 14 (blkR rb 41 #[.int .i64 x.er,.int .i64 x.rev,.int .i64 x.sl,.int .i64 x.at',.int .u8 x.g,.string x.s,.int .i64 x.b,.int .i64 x.r,.int .i64 x.l,.int .u8 x.ik,.int .i64 x.fr,.int .i64 x.to,.slice none 0 0]) (by rw [←HE1.out];rfl))
    clear HE0 HE1
    obtain ⟨A8,cap8,hv8,_⟩:=own_slice (HROW.out _ _ _ _ M8.out)
    subst hv8
    have OB8:=hid ((below_ch M8.out.bel).blk O4.out id)
    have o0:w8.cell? ⟨ob,0,none⟩=some (.int .u8 c2.op.k):=OB8.out.cell 0
    have o1:w8.cell? ⟨ob,1,none⟩=some (.int .i64 c2.op.sl):=OB8.out.cell 1
    have o2:w8.cell? ⟨ob,2,none⟩=some (.int .i64 c2.op.at'):=OB8.out.cell 2
    have o3:w8.cell? ⟨ob,3,none⟩=some (.int .i64 c2.op.n):=OB8.out.cell 3
    have o4:w8.cell? ⟨ob,4,none⟩=some (.int .u32 c2.op.id):=OB8.out.cell 4
    have o5:w8.cell? ⟨ob,5,none⟩=some (.int .u8 c2.op.g):=OB8.out.cell 5
    have o6:w8.cell? ⟨ob,6,none⟩=some (.string c2.op.s):=OB8.out.cell 6
    have q1:w8.cell? ⟨q.g,1,none⟩=some (.pointer (some ⟨τ.g,0,none⟩)):=(p_blk M8.out).cell 1
    go_upto_region 16 with fail
    refine Mix.wp_region_mix (fun _=>True) (fun i=>([0,0,0,0,0,0,0,0,2,0,0]:List Nat).getD i 0) [0,1,2,3,4,5,6,7,8,9,10] (by kernel_rfl) (by kernel_rfl) ?_
    repeat ((first | refine Mix.q1 rfl ?_ | refine Mix.p1 rfl rfl ?_ | refine Mix.s1 rfl rfl ?_);go_big_quiet_step (fail);refine wpQuiet_nil ?_)
    refine Mix.e1 rfl fun V1 hV1=>?_
    obtain ⟨k1,rfl⟩:=hV1
    go_wp2_with fail
    refine (beg_nm (M8.out.drewN k1) HKT.out HGT.out.1 HNE.out HSC.out (one_ms HOT.out)).mono ?_
    rintro e w9 ⟨rfl,τ1,bt1,hM9,hS9,hs9,hsl9,_,_,hK9,pgq,hG9,hk9,he9,hst9⟩
    have HLK:=hid (show Lk σ.ns τ1.ns σ.sl τ1.sl (ps 0) pgq from by
     have t:=al_start HON.out HOT.out HNE.out HSC.out HST.out hst9
     rw [HPT.out.s0,hS9.ns,hsl9]
     exact t)
    obtain ⟨qg,hqg⟩:∃z,z=q.g:=⟨_,rfl⟩
    obtain ⟨tg,htg⟩:∃z,z=τ.g:=⟨_,rfl⟩
    have HI0:=hid (show AlI w0 E σ.ns σ.sl ps z qg tg 0 300 0 w9 τ1 bt1 q [s.data.toList] pgq from ⟨p_same hM9 hS9,hK9,hG9,⟨τ1.sl,HLK.out,fun _=>rfl⟩,hqg.symm,by rw [htg];exact hS9.g,by rw [hS9.A];exact HLT.out.2.1,by rw [hS9.ns];exact HLT.out.2.2,rfl,by rw [hs9];have:=HLT.out.1;omega⟩)
    rw [←hqg]
    clear hM9 hS9 hs9 hsl9 hK9 hG9 hk9 he9 hst9 HLK hqg htg OB8 o0 o1 o2 o3 o4 o5 o6 q1 M8 HKT HGT HLT HOT HST HKS HGS HLS HON
    go_wp2_with fail
    repeat ((first | refine Mix.q1 rfl ?_ | refine Mix.p1 rfl rfl ?_ | refine Mix.s1 rfl rfl ?_);go_big_quiet_step (fail);refine wpQuiet_nil ?_)
    intro k2
    go_upto_region 18 with fail
    go_wp2_with fail
    go_loopw [18] (fun i W=>∃(j:Nat) (τ:RS) (bt:List Bx) (q:PlS) (ts:List (List UInt8)) (pg:Pg),j≤phs.length∧i=.int .i64 (j:Int)∧AlI w0 E σ.ns σ.sl ps z qg tg (cnt6 (l.take j)) (300+3 * j) j W τ bt q ts pg) (fun i _=>phs.length - (intOf i).toNat)
    case atStart=>exact ⟨0,_,_,_,_,_,Nat.zero_le _,rfl,HI0.out.keep ((Ch.refl _ _).drewN _)⟩
    case round=>
     obtain ⟨j,τ,bt,q,ts,pg,hj,rfl,hI⟩:=hrel
     have HI:=hid hI
     clear hI HI0
     have HQG:=hid (show qg=q.g from HI.out.hg.symm)
     by_cases hjl:j < phs.length
     ·have d1:decide (j < phs.length)=true:=decide_eq_true hjl
      have d1':decide ((j:Int) < (phs.length:Int))=true:=decide_eq_true (by omega)
      obtain ⟨ξ,ξ',hvp,e1,e2,hnx,hph,hen⟩:=HPT.out.st j hjl
      have HNX:=hid (show ξ.ns=σ.ns∧ξ.sl=σ.sl∧Nxt ξ ξ' 1 hvp (ps (j+1)) (ps j)∧(ps j).ended=false from ⟨e1,e2,hnx,hen⟩)
      have HPH:=hid hph
      clear e1 e2 hnx hph hen
      have hcl:=cnt6_le l (j+1)
      have HCL:=hid (Nat.le_trans hcl HS7.out)
      have HC0:=hid (Nat.le_trans (cnt6_le l j) HS7.out)
      clear hcl
      go_upto_region 21 with fail
      go_cut [133] from 106 to 162 (fun s W=>s=.bool false∧∃τ bt q ts,AlI w0 E σ.ns σ.sl ps z qg tg (cnt6 (l.take (j+1))) (300+3 * j+1) j W τ bt q ts pg)
      case first=>
       by_cases hjn:j < nn
       ·have e1:decide (j < nn)=true:=decide_eq_true hjn
        have e1':decide ((j:Int) < (nn:Int))=true:=decide_eq_true (by omega)
        obtain ⟨x,hx⟩:∃x,l[j]?=some x:=⟨_,List.getElem?_eq_getElem (by rw [HEW.out.1];exact hjn)⟩
        obtain ⟨b,off,hab,hbl,hcc⟩:=HEW.out.2.2 (by omega)
        subst hab
        have hxm:=List.mem_of_getElem? hx
        have HX6:=hid (HS6.out x hxm)
        have HXO:=hid (HEW.out.2.1 x hxm)
        have HC6:=hid (cnt6_take hx)
        have hcell:∀i v,x.cells[i]?=some v→wr.cell? ⟨b,off+(j * 10+i),none⟩=some v:=fun i v hi=>(below_cell HI.out.M.bel (p:=⟨b,_,none⟩) hbl).trans (hcc j i x v hx hi)
        have c0:wr.cell? ⟨b,off+j * 10,none⟩=some (.int .u8 x.d):=hcell 0 _ rfl
        have c1:wr.cell? ⟨b,off+j * 10+1,none⟩=some (.int .u8 x.op.k):=hcell 1 _ rfl
        have c2:wr.cell? ⟨b,off+j * 10+2,none⟩=some (.int .i64 x.op.sl):=hcell 2 _ rfl
        have c3:wr.cell? ⟨b,off+j * 10+3,none⟩=some (.int .i64 x.op.at'):=hcell 3 _ rfl
        have c4:wr.cell? ⟨b,off+j * 10+4,none⟩=some (.int .i64 x.op.n):=hcell 4 _ rfl
        have c5:wr.cell? ⟨b,off+j * 10+5,none⟩=some (.int .u32 x.op.id):=hcell 5 _ rfl
        have c6:wr.cell? ⟨b,off+j * 10+6,none⟩=some (.int .u8 x.op.g):=hcell 6 _ rfl
        have c7:wr.cell? ⟨b,off+j * 10+7,none⟩=some (.string x.op.s):=hcell 7 _ rfl
        have c8:wr.cell? ⟨b,off+j * 10+8,none⟩=some (.string x.s):=hcell 8 _ rfl
        have c9:wr.cell? ⟨b,off+j * 10+9,none⟩=some (.slice x.ma x.mn x.mc):=hcell 9 _ rfl
        clear hcell hcc hx hxm
        by_cases hge:6≤x.d.tmod 8
        ·have g1:decide (6≤x.d.tmod 8)=true:=decide_eq_true hge
         have hxd:=HXO.out.d
         by_cases h6:x.d.tmod 8=6
         ·have H6:=hid h6
          have HCT:=hid (show cnt6 (l.take (j+1))=cnt6 (l.take j)+1 from by rw [HC6.out,if_pos h6])
          clear h6 hge hxd
          go_wp2_with fail
          have ho:=other6_any HI.out.M HI.out.K (by have:=HI.out.lg;have:=HPL.out;omega) x HXO.out H6.out HX6.out.1 HX6.out.2 (by rw [HI.out.an];have:=HI.out.nl;have:=HC0.out;omega) (by rw [HI.out.an];decide) (by have:=HI.out.tl;have:=HC0.out;omega)
          rw [←HQG.out] at ho
          refine ho.mono ?_
          clear ho
          rintro e w4 ⟨rfl,ys,rv',r1,lv',mv,hM4,hK4,hyl,_⟩
          have HI4:=hid (HI.out.ev6 (by have:=HPL.out;omega) hM4 hK4 hyl)
          clear hM4 hK4 hyl c0 c1 c2 c3 c4 c5 c6 c7 c8 c9
          go_wp2_with fail
          go_meet
          case rel=>exact ⟨rfl,_,_,_,_,by rw [HCT.out];exact HI4.out⟩
         ·have H7:=hid (show x.d.tmod 8=7 from by rw [Int.tmod_eq_emod_of_nonneg (by omega)] at hge h6 ⊢;omega)
          have HCT:=hid (show cnt6 (l.take (j+1))=cnt6 (l.take j) from by rw [HC6.out,if_neg h6,Nat.add_zero])
          clear h6 hge hxd
          go_wp2_with fail
          have ho:=other7_any HI.out.M HI.out.K (by have:=HI.out.lg;have:=HPL.out;omega) x H7.out
          rw [←HQG.out] at ho
          refine ho.mono ?_
          clear ho
          rintro e w4 ⟨rfl,lv',hM4,hK4⟩
          have HI4:=hid (HI.out.ev7 hM4 hK4)
          clear hM4 hK4 c0 c1 c2 c3 c4 c5 c6 c7 c8 c9
          go_wp2_with fail
          go_meet
          case rel=>exact ⟨rfl,_,_,_,_,by rw [HCT.out];exact HI4.out⟩
        ·have g1:decide (6≤x.d.tmod 8)=false:=decide_eq_false hge
         have HCT:=hid (show cnt6 (l.take (j+1))=cnt6 (l.take j) from by rw [HC6.out,if_neg (by omega),Nat.add_zero])
         clear hge
         go_wp2_with fail
         go_meet
         case rel=>exact ⟨rfl,_,_,_,_,by rw [HCT.out];exact HI.out.more (by omega)⟩
       ·have e1:decide (j < nn)=false:=decide_eq_false hjn
        have e1':decide ((j:Int) < (nn:Int))=false:=decide_eq_false (by omega)
        have HCT:=hid (show cnt6 (l.take (j+1))=cnt6 (l.take j) from by rw [List.take_of_length_le (by rw [HEW.out.1];omega),List.take_of_length_le (by rw [HEW.out.1];omega)])
        go_wp2_with fail
        go_meet
        case rel=>exact ⟨rfl,_,_,_,_,by rw [HCT.out];exact HI.out.more (by omega)⟩
      case rest=>
       obtain ⟨rfl,τ',bt',q',ts',hI'⟩:=hcut
       have HJ:=hid hI'
       clear hI' HQG HI
       have HQG:=hid (show qg=q'.g from HJ.out.hg.symm)
       have hpe:pg.ended=false:=by
        obtain ⟨_,h1,_⟩:=HJ.out.L
        rw [←h1.ph.2]
        exact HNX.out.2.2.2
       have HPE:=hid hpe
       have hrp:τ'.r.ph=(ps j).ph:=by
        obtain ⟨_,h1,_⟩:=HJ.out.L
        rw [HJ.out.G.phase,h1.ph.1]
       have HRP:=hid hrp
       have q1:wc.cell? ⟨qg,1,none⟩=some (.pointer (some ⟨τ'.g,0,none⟩)):=by rw [HQG.out];exact (p_blk HJ.out.M).cell 1
       clear hpe hrp
       go_wp2_with fail
       refine (step_all HJ.out.M (by have t:=HJ.out.K;obtain ⟨_,h1,_⟩:=HJ.out.L;rw [h1.kind.1];exact t) (by have:=HJ.out.lg;have:=HPL.out;omega) HJ.out.G HPE.out).mono ?_
       rintro e w5 ⟨hv,τ2,pg2,rfl,hM5,S5,K5,G5,N5⟩
       obtain ⟨hI5,hed⟩:=HJ.out.step HNX.out.2.2.2 HNX.out.2.2.1 HNX.out.1 HNX.out.2.1 hM5 S5 K5 G5 N5
       have HI5:=hid hI5
       have hed2:pg2.ended=decide (j+1=phs.length):=by
        rw [←hed]
        by_cases hl:j+1=phs.length
        ·rw [decide_eq_true hl,hl,HPT.out.sn];rfl
        ·rw [decide_eq_false hl]
         obtain ⟨_,_,_,_,_,_,_,h⟩:=HPT.out.st (j+1) (by omega)
         exact h
       obtain ⟨ed,hEd⟩:∃b,b=pg2.ended:=⟨_,rfl⟩
       rw [←hEd] at hed2
       obtain ⟨ac,hAc⟩:∃b,b=decide (τ'.s.lg.length < τ2.s.lg.length):=⟨_,rfl⟩
       simp only [stepV]
       rw [←hEd,←hAc,HRP.out]
       have HED:=hid hed2
       clear hed2 hM5 S5 K5 G5 N5 hI5 hed q1 hEd hAc
       go_upto_region 24 with fail
       refine at_world fun W6 hW6=>?_
       obtain ⟨tb,htb⟩:∃z,z=w5.heap.size:=⟨_,rfl⟩
       have HI6:=hid (HI5.out.keep (show Ch (fun _=>False) w5 W6 from by rw [hW6];exact (Ch.refl _ w5).alloc _))
       have T6:=hid (show Blk W6 tb 57 #[.int .i64 τ'.r.cl,.int .u8 (ps j).ph,.bool ac,.int .u64 hv,.bool ed,.bool ed] from by rw [hW6,htb];exact Blk.new w5 _ _)
       rw [←htb]
       clear hW6 htb HI5
       obtain ⟨g8,cg8,hvv,_,_,_,hgl8⟩:=own_form (HROW.out _ _ _ _ HI6.out.M) (by omega)
       injection hvv with hA8 _ hcg8
       subst hA8 hcg8
       have cp:W6.cell? ⟨g8,j,none⟩=some (.int .u8 (ps j).ph):=by
        have t:=(HROW.out _ _ _ _ HI6.out.M).cells (g:=g8) rfl j _ (by unfold phs8;rw [List.getElem?_map,HPH.out];rfl)
        rw [addr_add0] at t
        exact t
       have t1:W6.cell? ⟨tb,1,none⟩=some (.int .u8 (ps j).ph):=T6.out.cell 1
       have t5:W6.cell? ⟨tb,5,none⟩=some (.bool ed):=T6.out.cell 5
       have f1:((ps j).ph != (ps j).ph)=false:=by simp
       have hpl:phs.length≤200:=HPL.out
       have f2:((j:Int) == (phs.length:Int) - 1)=ed:=by
        rw [HED.out]
        by_cases hl:j+1=phs.length
        ·rw [decide_eq_true hl,beq_iff_eq];omega
        ·rw [decide_eq_false hl,beq_eq_false_iff_ne];omega
       have f3:(ed != ed)=false:=by simp
       clear hgl8
       refine Mix.wp_region_mix (fun _=>True) (fun i=>([0,0,0,0,0,0,0,0,0,0,0,0,0,0,0,0,0,0,0,0,0]:List Nat).getD i 0) [0,1,2,3,4,5,6,7,8,9,10,11,12,13,14,15,16,17,18,19,20] (by kernel_rfl) (by kernel_rfl) ?_
       repeat ((first | refine Mix.q1 rfl ?_ | refine Mix.p1 rfl rfl ?_ | refine Mix.s1 rfl rfl ?_);go_big_quiet_step (fail);refine wpQuiet_nil ?_)
       intro m24
       go_wp2_with fail
       go_roundw
       case rel=>exact ⟨j+1,_,_,_,_,_,hjl,by go_num,(HI6.out.keep ((Ch.refl _ _).drewN _)).more (by omega)⟩
       case measure=>simp [intOf];omega
     ·obtain rfl:j=phs.length:=by omega
      have d1:decide (phs.length < phs.length)=false:=decide_eq_false (by omega)
      have d1':decide ((phs.length:Int) < (phs.length:Int))=false:=decide_eq_false (by omega)
      have hrs:=HI.out.fin HPT.out.sn
      have HRS:=hid hrs
      have q1:wr.cell? ⟨qg,1,none⟩=some (.pointer (some ⟨τ.g,0,none⟩)):=by rw [HQG.out];exact (p_blk HI.out.M).cell 1
      have RS:=HRES.out _ _ _ _ HI.out.M
      have r0:wr.cell? ⟨rb,0,none⟩=some (.int .i64 x.er):=RS.cell 0
      have r1:wr.cell? ⟨rb,1,none⟩=some (.int .i64 x.rev):=RS.cell 1
      have r2:wr.cell? ⟨rb,2,none⟩=some (.int .i64 x.sl):=RS.cell 2
      have r3:wr.cell? ⟨rb,3,none⟩=some (.int .i64 x.at'):=RS.cell 3
      have r4:wr.cell? ⟨rb,4,none⟩=some (.int .u8 x.g):=RS.cell 4
      have r5:wr.cell? ⟨rb,5,none⟩=some (.string x.s):=RS.cell 5
      have r6:wr.cell? ⟨rb,6,none⟩=some (.int .i64 x.b):=RS.cell 6
      have r7:wr.cell? ⟨rb,7,none⟩=some (.int .i64 x.r):=RS.cell 7
      have r8:wr.cell? ⟨rb,8,none⟩=some (.int .i64 x.l):=RS.cell 8
      have r9:wr.cell? ⟨rb,9,none⟩=some (.int .u8 x.ik):=RS.cell 9
      have r10:wr.cell? ⟨rb,10,none⟩=some (.int .i64 x.fr):=RS.cell 10
      have r11:wr.cell? ⟨rb,11,none⟩=some (.int .i64 x.to):=RS.cell 11
      have r12:wr.cell? ⟨rb,12,none⟩=some (.slice none 0 0):=RS.cell 12
      have lrb:=RS.lt
      obtain ⟨S,hS⟩:∃S:Nat→Prop,∀k,S k↔k=rb:=⟨_,fun _=>Iff.rfl⟩
      have hSp:Mix.Has S rb:=(hS _).2 rfl
      have HSS:=hid hS
      clear hS hrs RS
      go_wp2_with fail
      refine Mix.wp_region_mix S (fun i=>([0,0,0,0,3,4,2,0]:List Nat).getD i 0) [0,1,2,3,5,4,6,7] (by kernel_rfl) (by kernel_rfl) ?_
      repeat ((first | refine Mix.q1 rfl ?_ | refine Mix.p1 rfl rfl ?_ | refine Mix.s1 rfl rfl ?_);go_big_quiet_step (fail);refine wpQuiet_nil ?_)
      refine Mix.a1 rfl fun V1 hV1=>?_
      obtain ⟨k1,rfl⟩:=hV1
      go_wp2_with fail
      refine (rresult_any τ.g τ.r _ (m_rd (HI.out.M.drewN k1))).mono ?_
      rintro e w6 ⟨rfl,hc⟩
      rw [HRS.out]
      have HC6:=hid hc
      clear hc
      simp only [RsV.v]
      go_wp2_with fail
      refine ⟨fun k hk=>HC6.out.block k (by rw [(HSS.out k).1 hk];exact lrb) id,?_⟩
      repeat ((first | refine Mix.q1 rfl ?_ | refine Mix.p1 rfl rfl ?_ | refine Mix.s1 rfl rfl ?_);go_big_quiet_step (fail);refine wpQuiet_nil ?_)
      refine Mix.e1 rfl fun V2 hV2=>?_
      obtain ⟨k2,rfl⟩:=hV2
      go_wp2_with fail
      refine (eqResult_same x _).mono ?_
      rintro e w7 ⟨rfl,hc7⟩
      have HC7:=hid hc7
      clear hc7
      go_wp2_with fail
      repeat ((first | refine Mix.q1 rfl ?_ | refine Mix.p1 rfl rfl ?_ | refine Mix.s1 rfl rfl ?_);go_big_quiet_step (fail);refine wpQuiet_nil ?_)
      intro k3
      go_wp2_with fail
      go_ret
      exact ⟨rfl,BB4.out.trans ((((((HI.out.M.drewN k1).keep HC6.out).drewN k2).keep HC7.out).drewN k3).bel.mono BB4.out.size)⟩
end Go.Proofs.YtjcdknhejcbpiaaGreat
