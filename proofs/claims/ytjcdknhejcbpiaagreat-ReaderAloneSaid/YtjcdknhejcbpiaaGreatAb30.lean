/- Lemmas that the proof of the last text leans on; no condition. -/
import Derived.Test.YtjcdknhejcbpiaaGreatAb23
import Derived.Test.YtjcdknhejcbpiaaGreatAb18
import Derived.Test.YtjcdknhejcbpiaaGreatAb27
import Derived.Test.YtjcdknhejcbpiaaGreatAb25
import Derived.Test.YtjcdknhejcbpiaaGreatAb19
import Derived.Test.YtjcdknhejcbpiaaGreatAb03
import Derived.Test.YtjcdknhejcbpiaaGreatAb20
import Derived.Test.YtjcdknhejcbpiaaGreatAb06
import Derived.Test.YtjcdknhejcbpiaaGreatAb09
set_option maxRecDepth 100000
set_option maxHeartbeats 4000000
namespace Go.Proofs.YtjcdknhejcbpiaaGreat
open Go.RowKit
set_option linter.unusedVariables false
set_option linter.unusedSimpArgs false
set_option linter.unusedSectionVars false
theorem check_7 (g lb n j sg:Nat) (r:Rd) (l:List (Option Nat)) (x:Rv) (mv dv:Value) (ix cu:Int) (w:World) (h:Blk w g 111 r.cells) (hs:r.sl=.slice (some ⟨lb,0,none⟩) n n) (hl:Blk w lb 140 (pinsA l)) (hj:j < n) (hlj:l[j]?=some (some sg))
  (hsg:Blk w sg 144 #[.int .i64 x.num,.int .u64 x.at',.int .i64 x.h,.int .i64 x.b,.int .i64 x.r,.int .i64 x.l,mv,dv,.int .i64 ix,.int .i64 cu]) (pos num:Int) (hp:0≤pos) (hb:x.b≤1000000) (hF:Formed g r ⟨7,(j:Int),pos,num,0,0,⟨#[]⟩⟩) :
  Calls Tryz.prog 61 #[.pointer (some ⟨g,0,none⟩),OpV.v ⟨7,(j:Int),pos,num,0,0,⟨#[]⟩⟩] w fun e w'=>e=.returned (.int .i64 (if x.b < pos∨x.b - pos < num then 3 else 0))∧Ch (fun _=>False) w w':=by
 obtain ⟨er,her⟩:∃er:Int,er=(if x.b < pos∨x.b - pos < num then 3 else 0):=⟨_,rfl⟩
 rw [←her]
 have HER:=hid her
 clear her
 have HF:=hid hF
 have H:=hid h
 have HL:=hid hl
 have HS:=hid hs
 have HJ:=hid hlj
 have HSG:=hid hsg
 have d1:decide (j < n)=true:=decide_eq_true hj
 have d2:decide ((j:Int) < (n:Int))=true:=decide_eq_true (by omega)
 simp only [OpV.v] at HF ⊢
 clear h hl hs hlj hF hsg
 go_enter Tryz.func61,Tryz.ntmps61
 go_wp2_with fail
 refine calls_world fun W1 hW1=>?_
 have C1:=hid (show Ch (fun _=>False) w W1 from by rw [hW1];exact (Ch.refl _ w).alloc _)
 have T1:=hid (show Blk W1 w.heap.size 26 #[.int .u8 7,.int .i64 (j:Int),.int .i64 pos,.int .i64 num,.int .u32 0,.int .u8 0,.string ⟨#[]⟩] from by rw [hW1];exact Blk.new w _ _)
 clear hW1
 refine (HF.out W1 (C1.out.blk H.out (fun e=>e))).mono ?_
 rintro e w2 ⟨rfl,hc⟩
 have C2:=hid (C1.out.trans hc (fun _ _ h=>h))
 have T2:=hid (hc.blk T1.out (fun e=>e))
 have lt2:=T2.out.lt
 have t0:w2.cell? ⟨w.heap.size,0,none⟩=some (.int .u8 7):=T2.out.cell 0
 have t1:w2.cell? ⟨w.heap.size,1,none⟩=some (.int .i64 (j:Int)):=T2.out.cell 1
 have a2:w2.cell? ⟨g,2,none⟩=some (.slice (some ⟨lb,0,none⟩) n n):=((C2.out.blk H.out (fun e=>e)).cell 2).trans (by rw [←HS.out];rfl)
 have lj:w2.cell? ⟨lb,j,none⟩=some (.pointer (some ⟨sg,0,none⟩)):=((C2.out.blk HL.out (fun e=>e)).cell j).trans (pinsA_at (o:=some sg) HJ.out)
 have SG2:=hid (C2.out.blk HSG.out (fun e=>e))
 have s3:w2.cell? ⟨sg,3,none⟩=some (.int .i64 x.b):=SG2.out.cell 3
 have s4:w2.cell? ⟨sg,4,none⟩=some (.int .i64 x.r):=SG2.out.cell 4
 have s5:w2.cell? ⟨sg,5,none⟩=some (.int .i64 x.l):=SG2.out.cell 5
 clear hc
 go_wp2_with fail
 refine Mix.wp_region_mix (fun _=>True) (fun i=>([0,0,0,0,0,0,0,0,0]:List Nat).getD i 0) [0,1,2,3,4,5,6,7,8] (by kernel_rfl) (by kernel_rfl) ?_
 repeat ((first | refine Mix.q1 rfl ?_ | refine Mix.p1 rfl rfl ?_ | refine Mix.s1 rfl rfl ?_);go_big_quiet_step (fail);refine wpQuiet_nil ?_)
 intro k3
 refine at_world fun W3 hW3=>?_
 have C3:=hid (show Ch (fun _=>False) w W3 from by rw [hW3];exact C2.out.drewN k3)
 have T3:=hid (show Blk W3 w.heap.size 26 #[.int .u8 7,.int .i64 (j:Int),.int .i64 pos,.int .i64 num,.int .u32 0,.int .u8 0,.string ⟨#[]⟩] from by rw [hW3];exact T2.out.drewN k3)
 clear hW3 t0 t1 a2 lj s3 s4 s5 lt2
 have SG3:=hid (C3.out.blk HSG.out (fun e=>e))
 have lt3:=T3.out.lt
 have t0:W3.cell? ⟨w.heap.size,0,none⟩=some (.int .u8 7):=T3.out.cell 0
 have s3:W3.cell? ⟨sg,3,none⟩=some (.int .i64 x.b):=SG3.out.cell 3
 have s4:W3.cell? ⟨sg,4,none⟩=some (.int .i64 x.r):=SG3.out.cell 4
 have s5:W3.cell? ⟨sg,5,none⟩=some (.int .i64 x.l):=SG3.out.cell 5
 have t2:W3.cell? ⟨w.heap.size,2,none⟩=some (.int .i64 pos):=T3.out.cell 2
 have t3:W3.cell? ⟨w.heap.size,3,none⟩=some (.int .i64 num):=T3.out.cell 3
 by_cases hcc:x.b < pos
 ·have g1:decide (pos > x.b)=true:=decide_eq_true hcc
  have g2:decide (x.b < pos)=true:=decide_eq_true hcc
  obtain rfl:er=3:=by rw [HER.out,if_pos (Or.inl hcc)]
  clear hcc HER
  go_wp2_with fail
  go_ret
  exact ⟨rfl,C3.out.alloc _⟩
 ·have g1:decide (pos > x.b)=false:=decide_eq_false hcc
  have g2:decide (x.b < pos)=false:=decide_eq_false hcc
  have hsb:0≤x.b - pos∧x.b - pos≤1000000:=by omega
  by_cases hcd:x.b - pos < num
  ·have g3:decide (num > x.b - pos)=true:=decide_eq_true hcd
   have g4:decide (x.b - pos < num)=true:=decide_eq_true hcd
   obtain rfl:er=3:=by rw [HER.out,if_pos (Or.inr hcd)]
   clear hcc hcd HER
   go_wp2_with fail
   go_ret
   exact ⟨rfl,C3.out.alloc _⟩
  ·have g3:decide (num > x.b - pos)=false:=decide_eq_false hcd
   have g4:decide (x.b - pos < num)=false:=decide_eq_false hcd
   obtain rfl:er=0:=by rw [HER.out,if_neg (by omega)]
   clear hcc hcd HER
   go_wp2_with fail
   go_ret
   exact ⟨rfl,C3.out.alloc _⟩
theorem check_8 (g lb n j sg:Nat) (r:Rd) (l:List (Option Nat)) (x:Rv) (mv dv:Value) (ix cu:Int) (w:World) (h:Blk w g 111 r.cells) (hs:r.sl=.slice (some ⟨lb,0,none⟩) n n) (hl:Blk w lb 140 (pinsA l)) (hj:j < n) (hlj:l[j]?=some (some sg))
  (hsg:Blk w sg 144 #[.int .i64 x.num,.int .u64 x.at',.int .i64 x.h,.int .i64 x.b,.int .i64 x.r,.int .i64 x.l,mv,dv,.int .i64 ix,.int .i64 cu]) (num:Int) (hF:Formed g r ⟨8,(j:Int),0,num,0,0,⟨#[]⟩⟩) :
  Calls Tryz.prog 61 #[.pointer (some ⟨g,0,none⟩),OpV.v ⟨8,(j:Int),0,num,0,0,⟨#[]⟩⟩] w fun e w'=>e=.returned (.int .i64 (if x.r < num then 3 else 0))∧Ch (fun _=>False) w w':=by
 obtain ⟨er,her⟩:∃er:Int,er=(if x.r < num then 3 else 0):=⟨_,rfl⟩
 rw [←her]
 have HER:=hid her
 clear her
 have HF:=hid hF
 have H:=hid h
 have HL:=hid hl
 have HS:=hid hs
 have HJ:=hid hlj
 have HSG:=hid hsg
 have d1:decide (j < n)=true:=decide_eq_true hj
 have d2:decide ((j:Int) < (n:Int))=true:=decide_eq_true (by omega)
 simp only [OpV.v] at HF ⊢
 clear h hl hs hlj hF hsg
 go_enter Tryz.func61,Tryz.ntmps61
 go_wp2_with fail
 refine calls_world fun W1 hW1=>?_
 have C1:=hid (show Ch (fun _=>False) w W1 from by rw [hW1];exact (Ch.refl _ w).alloc _)
 have T1:=hid (show Blk W1 w.heap.size 26 #[.int .u8 8,.int .i64 (j:Int),.int .i64 0,.int .i64 num,.int .u32 0,.int .u8 0,.string ⟨#[]⟩] from by rw [hW1];exact Blk.new w _ _)
 clear hW1
 refine (HF.out W1 (C1.out.blk H.out (fun e=>e))).mono ?_
 rintro e w2 ⟨rfl,hc⟩
 have C2:=hid (C1.out.trans hc (fun _ _ h=>h))
 have T2:=hid (hc.blk T1.out (fun e=>e))
 have lt2:=T2.out.lt
 have t0:w2.cell? ⟨w.heap.size,0,none⟩=some (.int .u8 8):=T2.out.cell 0
 have t1:w2.cell? ⟨w.heap.size,1,none⟩=some (.int .i64 (j:Int)):=T2.out.cell 1
 have a2:w2.cell? ⟨g,2,none⟩=some (.slice (some ⟨lb,0,none⟩) n n):=((C2.out.blk H.out (fun e=>e)).cell 2).trans (by rw [←HS.out];rfl)
 have lj:w2.cell? ⟨lb,j,none⟩=some (.pointer (some ⟨sg,0,none⟩)):=((C2.out.blk HL.out (fun e=>e)).cell j).trans (pinsA_at (o:=some sg) HJ.out)
 have SG2:=hid (C2.out.blk HSG.out (fun e=>e))
 have s3:w2.cell? ⟨sg,3,none⟩=some (.int .i64 x.b):=SG2.out.cell 3
 have s4:w2.cell? ⟨sg,4,none⟩=some (.int .i64 x.r):=SG2.out.cell 4
 have s5:w2.cell? ⟨sg,5,none⟩=some (.int .i64 x.l):=SG2.out.cell 5
 clear hc
 go_wp2_with fail
 refine Mix.wp_region_mix (fun _=>True) (fun i=>([0,0,0,0,0,0,0,0,0]:List Nat).getD i 0) [0,1,2,3,4,5,6,7,8] (by kernel_rfl) (by kernel_rfl) ?_
 repeat ((first | refine Mix.q1 rfl ?_ | refine Mix.p1 rfl rfl ?_ | refine Mix.s1 rfl rfl ?_);go_big_quiet_step (fail);refine wpQuiet_nil ?_)
 intro k3
 refine at_world fun W3 hW3=>?_
 have C3:=hid (show Ch (fun _=>False) w W3 from by rw [hW3];exact C2.out.drewN k3)
 have T3:=hid (show Blk W3 w.heap.size 26 #[.int .u8 8,.int .i64 (j:Int),.int .i64 0,.int .i64 num,.int .u32 0,.int .u8 0,.string ⟨#[]⟩] from by rw [hW3];exact T2.out.drewN k3)
 clear hW3 t0 t1 a2 lj s3 s4 s5 lt2
 have SG3:=hid (C3.out.blk HSG.out (fun e=>e))
 have lt3:=T3.out.lt
 have t0:W3.cell? ⟨w.heap.size,0,none⟩=some (.int .u8 8):=T3.out.cell 0
 have s3:W3.cell? ⟨sg,3,none⟩=some (.int .i64 x.b):=SG3.out.cell 3
 have s4:W3.cell? ⟨sg,4,none⟩=some (.int .i64 x.r):=SG3.out.cell 4
 have s5:W3.cell? ⟨sg,5,none⟩=some (.int .i64 x.l):=SG3.out.cell 5
 have t2:W3.cell? ⟨w.heap.size,2,none⟩=some (.int .i64 0):=T3.out.cell 2
 have t3:W3.cell? ⟨w.heap.size,3,none⟩=some (.int .i64 num):=T3.out.cell 3
 by_cases hcc:x.r < num
 ·have g1:decide (num > x.r)=true:=decide_eq_true hcc
  have g2:decide (x.r < num)=true:=decide_eq_true hcc
  obtain rfl:er=3:=by rw [HER.out,if_pos (hcc)]
  clear hcc HER
  go_wp2_with fail
  go_ret
  exact ⟨rfl,C3.out.alloc _⟩
 ·have g1:decide (num > x.r)=false:=decide_eq_false hcc
  have g2:decide (x.r < num)=false:=decide_eq_false hcc
  obtain rfl:er=0:=by rw [HER.out,if_neg hcc]
  clear hcc HER
  go_wp2_with fail
  go_ret
  exact ⟨rfl,C3.out.alloc _⟩
theorem check_9 (g lb n j sg:Nat) (r:Rd) (l:List (Option Nat)) (x:Rv) (mv dv:Value) (ix cu:Int) (w:World) (h:Blk w g 111 r.cells) (hs:r.sl=.slice (some ⟨lb,0,none⟩) n n) (hl:Blk w lb 140 (pinsA l)) (hj:j < n) (hlj:l[j]?=some (some sg))
  (hsg:Blk w sg 144 #[.int .i64 x.num,.int .u64 x.at',.int .i64 x.h,.int .i64 x.b,.int .i64 x.r,.int .i64 x.l,mv,dv,.int .i64 ix,.int .i64 cu]) (num:Int) (hF:Formed g r ⟨9,(j:Int),0,num,0,0,⟨#[]⟩⟩) :
  Calls Tryz.prog 61 #[.pointer (some ⟨g,0,none⟩),OpV.v ⟨9,(j:Int),0,num,0,0,⟨#[]⟩⟩] w fun e w'=>e=.returned (.int .i64 (if x.l < num then 3 else 0))∧Ch (fun _=>False) w w':=by
 obtain ⟨er,her⟩:∃er:Int,er=(if x.l < num then 3 else 0):=⟨_,rfl⟩
 rw [←her]
 have HER:=hid her
 clear her
 have HF:=hid hF
 have H:=hid h
 have HL:=hid hl
 have HS:=hid hs
 have HJ:=hid hlj
 have HSG:=hid hsg
 have d1:decide (j < n)=true:=decide_eq_true hj
 have d2:decide ((j:Int) < (n:Int))=true:=decide_eq_true (by omega)
 simp only [OpV.v] at HF ⊢
 clear h hl hs hlj hF hsg
 go_enter Tryz.func61,Tryz.ntmps61
 go_wp2_with fail
 refine calls_world fun W1 hW1=>?_
 have C1:=hid (show Ch (fun _=>False) w W1 from by rw [hW1];exact (Ch.refl _ w).alloc _)
 have T1:=hid (show Blk W1 w.heap.size 26 #[.int .u8 9,.int .i64 (j:Int),.int .i64 0,.int .i64 num,.int .u32 0,.int .u8 0,.string ⟨#[]⟩] from by rw [hW1];exact Blk.new w _ _)
 clear hW1
 refine (HF.out W1 (C1.out.blk H.out (fun e=>e))).mono ?_
 rintro e w2 ⟨rfl,hc⟩
 have C2:=hid (C1.out.trans hc (fun _ _ h=>h))
 have T2:=hid (hc.blk T1.out (fun e=>e))
 have lt2:=T2.out.lt
 have t0:w2.cell? ⟨w.heap.size,0,none⟩=some (.int .u8 9):=T2.out.cell 0
 have t1:w2.cell? ⟨w.heap.size,1,none⟩=some (.int .i64 (j:Int)):=T2.out.cell 1
 have a2:w2.cell? ⟨g,2,none⟩=some (.slice (some ⟨lb,0,none⟩) n n):=((C2.out.blk H.out (fun e=>e)).cell 2).trans (by rw [←HS.out];rfl)
 have lj:w2.cell? ⟨lb,j,none⟩=some (.pointer (some ⟨sg,0,none⟩)):=((C2.out.blk HL.out (fun e=>e)).cell j).trans (pinsA_at (o:=some sg) HJ.out)
 have SG2:=hid (C2.out.blk HSG.out (fun e=>e))
 have s3:w2.cell? ⟨sg,3,none⟩=some (.int .i64 x.b):=SG2.out.cell 3
 have s4:w2.cell? ⟨sg,4,none⟩=some (.int .i64 x.r):=SG2.out.cell 4
 have s5:w2.cell? ⟨sg,5,none⟩=some (.int .i64 x.l):=SG2.out.cell 5
 clear hc
 go_wp2_with fail
 refine Mix.wp_region_mix (fun _=>True) (fun i=>([0,0,0,0,0,0,0,0,0]:List Nat).getD i 0) [0,1,2,3,4,5,6,7,8] (by kernel_rfl) (by kernel_rfl) ?_
 repeat ((first | refine Mix.q1 rfl ?_ | refine Mix.p1 rfl rfl ?_ | refine Mix.s1 rfl rfl ?_);go_big_quiet_step (fail);refine wpQuiet_nil ?_)
 intro k3
 refine at_world fun W3 hW3=>?_
 have C3:=hid (show Ch (fun _=>False) w W3 from by rw [hW3];exact C2.out.drewN k3)
 have T3:=hid (show Blk W3 w.heap.size 26 #[.int .u8 9,.int .i64 (j:Int),.int .i64 0,.int .i64 num,.int .u32 0,.int .u8 0,.string ⟨#[]⟩] from by rw [hW3];exact T2.out.drewN k3)
 clear hW3 t0 t1 a2 lj s3 s4 s5 lt2
 have SG3:=hid (C3.out.blk HSG.out (fun e=>e))
 have lt3:=T3.out.lt
 have t0:W3.cell? ⟨w.heap.size,0,none⟩=some (.int .u8 9):=T3.out.cell 0
 have s3:W3.cell? ⟨sg,3,none⟩=some (.int .i64 x.b):=SG3.out.cell 3
 have s4:W3.cell? ⟨sg,4,none⟩=some (.int .i64 x.r):=SG3.out.cell 4
 have s5:W3.cell? ⟨sg,5,none⟩=some (.int .i64 x.l):=SG3.out.cell 5
 have t2:W3.cell? ⟨w.heap.size,2,none⟩=some (.int .i64 0):=T3.out.cell 2
 have t3:W3.cell? ⟨w.heap.size,3,none⟩=some (.int .i64 num):=T3.out.cell 3
 by_cases hcc:x.l < num
 ·have g1:decide (num > x.l)=true:=decide_eq_true hcc
  have g2:decide (x.l < num)=true:=decide_eq_true hcc
  obtain rfl:er=3:=by rw [HER.out,if_pos (hcc)]
  clear hcc HER
  go_wp2_with fail
  go_ret
  exact ⟨rfl,C3.out.alloc _⟩
 ·have g1:decide (num > x.l)=false:=decide_eq_false hcc
  have g2:decide (x.l < num)=false:=decide_eq_false hcc
  obtain rfl:er=0:=by rw [HER.out,if_neg hcc]
  clear hcc HER
  go_wp2_with fail
  go_ret
  exact ⟨rfl,C3.out.alloc _⟩
theorem check_11 (g lb n j sg:Nat) (r:Rd) (l:List (Option Nat)) (x:Rv) (mv dv:Value) (ix cu:Int) (w:World) (h:Blk w g 111 r.cells) (hs:r.sl=.slice (some ⟨lb,0,none⟩) n n) (hl:Blk w lb 140 (pinsA l)) (hj:j < n) (hlj:l[j]?=some (some sg))
  (hsg:Blk w sg 144 #[.int .i64 x.num,.int .u64 x.at',.int .i64 x.h,.int .i64 x.b,.int .i64 x.r,.int .i64 x.l,mv,dv,.int .i64 ix,.int .i64 cu]) (pos:Int) (hF:Formed g r ⟨11,(j:Int),pos,0,0,0,⟨#[]⟩⟩) :
  Calls Tryz.prog 61 #[.pointer (some ⟨g,0,none⟩),OpV.v ⟨11,(j:Int),pos,0,0,0,⟨#[]⟩⟩] w fun e w'=>e=.returned (.int .i64 (if x.b < pos then 3 else 0))∧Ch (fun _=>False) w w':=by
 obtain ⟨er,her⟩:∃er:Int,er=(if x.b < pos then 3 else 0):=⟨_,rfl⟩
 rw [←her]
 have HER:=hid her
 clear her
 have HF:=hid hF
 have H:=hid h
 have HL:=hid hl
 have HS:=hid hs
 have HJ:=hid hlj
 have HSG:=hid hsg
 have d1:decide (j < n)=true:=decide_eq_true hj
 have d2:decide ((j:Int) < (n:Int))=true:=decide_eq_true (by omega)
 simp only [OpV.v] at HF ⊢
 clear h hl hs hlj hF hsg
 go_enter Tryz.func61,Tryz.ntmps61
 go_wp2_with fail
 refine calls_world fun W1 hW1=>?_
 have C1:=hid (show Ch (fun _=>False) w W1 from by rw [hW1];exact (Ch.refl _ w).alloc _)
 have T1:=hid (show Blk W1 w.heap.size 26 #[.int .u8 11,.int .i64 (j:Int),.int .i64 pos,.int .i64 0,.int .u32 0,.int .u8 0,.string ⟨#[]⟩] from by rw [hW1];exact Blk.new w _ _)
 clear hW1
 refine (HF.out W1 (C1.out.blk H.out (fun e=>e))).mono ?_
 rintro e w2 ⟨rfl,hc⟩
 have C2:=hid (C1.out.trans hc (fun _ _ h=>h))
 have T2:=hid (hc.blk T1.out (fun e=>e))
 have lt2:=T2.out.lt
 have t0:w2.cell? ⟨w.heap.size,0,none⟩=some (.int .u8 11):=T2.out.cell 0
 have t1:w2.cell? ⟨w.heap.size,1,none⟩=some (.int .i64 (j:Int)):=T2.out.cell 1
 have a2:w2.cell? ⟨g,2,none⟩=some (.slice (some ⟨lb,0,none⟩) n n):=((C2.out.blk H.out (fun e=>e)).cell 2).trans (by rw [←HS.out];rfl)
 have lj:w2.cell? ⟨lb,j,none⟩=some (.pointer (some ⟨sg,0,none⟩)):=((C2.out.blk HL.out (fun e=>e)).cell j).trans (pinsA_at (o:=some sg) HJ.out)
 have SG2:=hid (C2.out.blk HSG.out (fun e=>e))
 have s3:w2.cell? ⟨sg,3,none⟩=some (.int .i64 x.b):=SG2.out.cell 3
 have s4:w2.cell? ⟨sg,4,none⟩=some (.int .i64 x.r):=SG2.out.cell 4
 have s5:w2.cell? ⟨sg,5,none⟩=some (.int .i64 x.l):=SG2.out.cell 5
 clear hc
 go_wp2_with fail
 refine Mix.wp_region_mix (fun _=>True) (fun i=>([0,0,0,0,0,0,0,0,0]:List Nat).getD i 0) [0,1,2,3,4,5,6,7,8] (by kernel_rfl) (by kernel_rfl) ?_
 repeat ((first | refine Mix.q1 rfl ?_ | refine Mix.p1 rfl rfl ?_ | refine Mix.s1 rfl rfl ?_);go_big_quiet_step (fail);refine wpQuiet_nil ?_)
 intro k3
 refine at_world fun W3 hW3=>?_
 have C3:=hid (show Ch (fun _=>False) w W3 from by rw [hW3];exact C2.out.drewN k3)
 have T3:=hid (show Blk W3 w.heap.size 26 #[.int .u8 11,.int .i64 (j:Int),.int .i64 pos,.int .i64 0,.int .u32 0,.int .u8 0,.string ⟨#[]⟩] from by rw [hW3];exact T2.out.drewN k3)
 clear hW3 t0 t1 a2 lj s3 s4 s5 lt2
 have SG3:=hid (C3.out.blk HSG.out (fun e=>e))
 have lt3:=T3.out.lt
 have t0:W3.cell? ⟨w.heap.size,0,none⟩=some (.int .u8 11):=T3.out.cell 0
 have s3:W3.cell? ⟨sg,3,none⟩=some (.int .i64 x.b):=SG3.out.cell 3
 have s4:W3.cell? ⟨sg,4,none⟩=some (.int .i64 x.r):=SG3.out.cell 4
 have s5:W3.cell? ⟨sg,5,none⟩=some (.int .i64 x.l):=SG3.out.cell 5
 have t2:W3.cell? ⟨w.heap.size,2,none⟩=some (.int .i64 pos):=T3.out.cell 2
 have t3:W3.cell? ⟨w.heap.size,3,none⟩=some (.int .i64 0):=T3.out.cell 3
 by_cases hcc:x.b < pos
 ·have g1:decide (pos > x.b)=true:=decide_eq_true hcc
  have g2:decide (x.b < pos)=true:=decide_eq_true hcc
  obtain rfl:er=3:=by rw [HER.out,if_pos (hcc)]
  clear hcc HER
  go_wp2_with fail
  go_ret
  exact ⟨rfl,C3.out.alloc _⟩
 ·have g1:decide (pos > x.b)=false:=decide_eq_false hcc
  have g2:decide (x.b < pos)=false:=decide_eq_false hcc
  obtain rfl:er=0:=by rw [HER.out,if_neg hcc]
  clear hcc HER
  go_wp2_with fail
  go_ret
  exact ⟨rfl,C3.out.alloc _⟩
section
variable {σ:RS} {y:Ly} {n m:Nat}
theorem RS.Ok.rd (O:σ.Ok y n m) (r':Rd) (tx':List UInt8) (h1:r'.sl=σ.r.sl) (h2:r'.cl=σ.r.cl):RS.Ok { σ with r:=r',tx:=tx' } y n m:=
 ⟨h1.trans O.sl,O.nl,O.n8,by rw [show ({ σ with r:=r',tx:=tx' }:RS).r.cl=σ.r.cl from h2];exact O.cl,by rw [show ({ σ with r:=r',tx:=tx' }:RS).r.cl=σ.r.cl from h2];exact O.hm,O.mn,O.pl,O.stf,O.h23,O.ed,O.y0,O.y1,O.vs,O.lg,O.f0,O.fs⟩
theorem RS.Ok.slot (O:σ.Ok y n m) (k:Nat) (o:Option Snp):RS.Ok { σ with sl:=σ.sl.set k o } y n m:=
 ⟨O.sl,by rw [List.length_set];exact O.nl,O.n8,O.cl,O.hm,O.mn,O.pl,O.stf,O.h23,O.ed,O.y0,O.y1,O.vs,O.lg,O.f0,O.fs⟩
theorem RS.Ok.pin (O:σ.Ok y n m) (k:Nat) (o:Option (Nat × Pn)):RS.Ok { σ with ps:=σ.ps.set k o } y n m:=
 ⟨O.sl,O.nl,O.n8,O.cl,O.hm,O.mn,by rw [List.length_set];exact O.pl,O.stf,O.h23,O.ed,O.y0,O.y1,O.vs,O.lg,O.f0,O.fs⟩
theorem RS.Ok.bank (O:σ.Ok y n m) (s':BS) (lv':Value) (h1:s'.vs.length=σ.s.vs.length) (h2:s'.lg.length < 900000) (h3:EdOk s' σ.f):RS.Ok { σ with s:=s',lv:=lv' } y n m:=
 ⟨O.sl,O.nl,O.n8,O.cl,O.hm,O.mn,O.pl,O.stf,O.h23,h3,O.y0,O.y1,by rw [show ({ σ with s:=s',lv:=lv' }:RS).s.vs.length=σ.s.vs.length from h1];exact O.vs,h2,O.f0,O.fs⟩
theorem RS.Ok.arena (O:σ.Ok y n m) (ns':List An):RS.Ok { σ with ns:=ns' } y n m:=
 ⟨O.sl,O.nl,O.n8,O.cl,O.hm,O.mn,O.pl,O.stf,O.h23,O.ed,O.y0,O.y1,O.vs,O.lg,O.f0,O.fs⟩
theorem RS.Ok.publish (O:σ.Ok y n m) (rv':Value) (rs':List RvS) (h23:23 < σ.cs.size) (hy:y.arr.size≤10):RS.Ok { σ with cs:=σ.cs.setIfInBounds 23 rv',rv:=rv',rs:=rs' } y n m:=
 ⟨O.sl,O.nl,O.n8,O.cl,O.hm,O.mn,O.pl,⟨by rw [Array.getElem?_setIfInBounds];exact O.stf.bank,by rw [Array.getElem?_setIfInBounds];exact O.stf.arena,by rw [Array.getElem?_setIfInBounds];exact O.stf.epoch,fun j v hj=>by
  have hlt:=(Array.getElem?_eq_some_iff.1 hj).1
  rw [Array.getElem?_setIfInBounds,if_neg (by omega)]
  exact O.stf.lay j v hj⟩,by
  show (σ.cs.setIfInBounds 23 rv')[23]?=some rv'
  rw [Array.getElem?_setIfInBounds,if_pos rfl,if_pos h23],O.ed,O.y0,O.y1,O.vs,O.lg,O.f0,O.fs⟩
end
theorem rope_nt {ns ys:List An} {t:T} (hl:ys.length=t.cnt) (h:∀(j:Nat) (y:An),ys[j]?=some y→∃sp,(T.post 0 t)[j]?=some sp∧y.x=sp.nd ns.length (T.post 0 t)) (hp:(T.post 0 t).length=t.cnt):Nt (ns++ys) (ns.length+(t.cnt - 1)) t:=by
 apply nt_root
 intro i sp hi
 have hlt:=(List.getElem?_eq_some_iff.1 hi).1
 obtain ⟨y,hy⟩:∃y,ys[i]?=some y:=⟨_,List.getElem?_eq_getElem (by omega)⟩
 obtain ⟨sp',h1,h2⟩:=h i y hy
 rw [hi] at h1
 injection h1 with h1
 subst h1
 exact ⟨y,by rw [List.getElem?_append_right (by omega),show ns.length+i - ns.length=i by omega];exact hy,h2⟩
section
variable {B:Nat} {w0 w w':World} {A R:List Res} {r s:Res}
theorem Mem.snoc (h:Mem B w0 (A++R) w) (r:Res) (c:Ch (fun _=>False) w w') (h':r.holds w') (hf:∀k,r.foot k→w.heap.size≤k):Mem B w0 (A++(R++[r])) w':=by
 rw [←List.append_assoc]
 exact h.add r c h' hf
theorem Mem.lastB (h:Mem B w0 (A++(R++[r])) w):r.holds w:=by
 rw [←List.append_assoc] at h
 exact h.each (A++R).length r (by simp)
theorem Mem.lastBlk {g:Nat} {t:TypeId} {cs:Array Value} (h:Mem B w0 (A++(R++[blkR g t cs])) w):Blk w g t cs:=h.lastB
theorem Mem.drop1 (h:Mem B w0 (A++(R++[r])) w):Mem B w0 (A++R) w:=by
 rw [←List.append_assoc] at h
 exact mem_drop h
theorem Mem.setLast {fp:Nat→Prop} (h:Mem B w0 (A++(R++[r])) w) (r':Res) (c:Ch fp w w') (hfp:∀k,k < w.heap.size→fp k→r.foot k) (h':r'.holds w') (hf:∀k,r'.foot k→r.foot k∨w.heap.size≤k):Mem B w0 (A++(R++[r'])) w':=by
 rw [←List.append_assoc] at h ⊢
 have t:=h.upd (i:=(A++R).length) r' (by simp) c hfp h' hf
 rw [List.set_append_right _ _ (Nat.le_refl _),Nat.sub_self] at t
 exact t
theorem Mem.putLast {g:Nat} {t:TypeId} {cs:Array Value} (h:Mem B w0 (A++(R++[blkR g t cs])) w) (o:Nat) (u:Value):Mem B w0 (A++(R++[blkR g t (cs.setIfInBounds o u)])) (w.setCell ⟨g,o,none⟩ u):=
 h.setLast _ ((Ch.refl (fun k=>k=g) w).set (fun _=>rfl) u) (fun _ _ e=>e) (Blk.put h.lastB o u) (fun _ e=>.inl e)
theorem Mem.appLast {e size n n':Nat} {v v':Value} {xs xs':List Value} (h:Mem B w0 (A++(R++[rowR B e size n v xs])) w) (hr:w'.ownsRow B e size v' n' xs') (hg:w.grownBy w' v.ownBlock) (hf:Fresh w v v'):Mem B w0 (A++(R++[rowR B e size n' v' xs'])) w':=
 h.setLast _ ((Ch.refl (fun k=>v.ownBlock=some k) w).grown hg (fun k hk _=>hk)) (fun _ _ e=>e) hr (fun k hk=>by
  rcases hf with e | e
  ·exact .inl (by show v.ownBlock=some k;rw [←e];exact hk)
  ·exact .inr (e k hk))
theorem Mem.consApp {b:Res} {S:List Res} (h:Mem B w0 (A++((b::R)++S)) w):Mem B w0 (A++(b::(R++S))) w:=h
theorem Mem.drop1c {b:Res} (h:Mem B w0 (A++(b::(R++[r]))) w):Mem B w0 (A++(b::R)) w:=Mem.drop1 (R:=b::R) h
theorem Mem.lastBc {b:Res} (h:Mem B w0 (A++(b::(R++[r]))) w):r.holds w:=Mem.lastB (R:=b::R) h
theorem Mem.dropMid {L L2:List Res} (h:Mem B w0 (L++(r::L2)) w):Mem B w0 (L++L2) w:=by
 have get:∀(i:Nat) (s:Res),(L++L2)[i]?=some s→(L++(r::L2))[if i < L.length then i else i+1]?=some s:=fun i s hs=>by
  by_cases hi:i < L.length
  ·rw [if_pos hi,List.getElem?_append_left hi]
   rwa [List.getElem?_append_left hi] at hs
  ·rw [if_neg hi,List.getElem?_append_right (by omega),show i+1 - L.length=(i - L.length)+1 by omega,List.getElem?_cons_succ]
   rwa [List.getElem?_append_right (by omega)] at hs
 refine ⟨fun i s hs=>h.each _ s (get i s hs),fun i j s s' hs hs' hne k hk=>h.apart _ _ s s' (get i s hs) (get j s' hs') (fun e=>hne ?_) k hk,fun i s hs=>h.low _ s (get i s hs),h.bel,h.bz⟩
 split at e <;> split at e <;> omega
theorem Mem.drop2c {b s:Res} (h:Mem B w0 (A++(b::((R++[r])++[s]))) w):Mem B w0 (A++(b::(R++[s]))) w:=by
 have h':Mem B w0 ((A++(b::R))++(r::[s])) w:=by
  rw [List.append_assoc] at h ⊢
  exact h
 have:=h'.dropMid
 rw [List.append_assoc] at this
 exact this
theorem Mem.last2c {b s:Res} (h:Mem B w0 (A++(b::((R++[r])++[s]))) w):r.holds w:=h.drop1c.lastBc
theorem Mem.put2c {b s:Res} {g:Nat} {t:TypeId} {cs:Array Value} (h:Mem B w0 (A++(b::((R++[blkR g t cs])++[s]))) w) (o:Nat) (u:Value):Mem B w0 (A++(b::((R++[blkR g t (cs.setIfInBounds o u)])++[s]))) (w.setCell ⟨g,o,none⟩ u):=by
 have e:∀x:Res,A++(b::((R++[x])++[s]))=(A++(b::R))++(x::[s]):=fun x=>by simp
 rw [e] at h ⊢
 have hi:((A++(b::R))++[blkR g t cs,s])[(A++(b::R)).length]?=some (blkR g t cs):=by rw [List.getElem?_append_right (Nat.le_refl _),Nat.sub_self];rfl
 have t:=h.put hi o u
 rw [List.set_append_right _ _ (Nat.le_refl _),Nat.sub_self] at t
 exact t
theorem Mem.appLastc {e size n n':Nat} {v v':Value} {xs xs':List Value} {b:Res} (h:Mem B w0 (A++(b::(R++[rowR B e size n v xs]))) w) (hr:w'.ownsRow B e size v' n' xs') (hg:w.grownBy w' v.ownBlock) (hf:Fresh w v v'):Mem B w0 (A++(b::(R++[rowR B e size n' v' xs']))) w':=Mem.appLast (R:=b::R) h hr hg hf
end
theorem check_10 (g lb n j sg:Nat) (r:Rd) (l:List (Option Nat)) (x:Rv) (am:Option Addr) (n1 c1:Nat) (ms:List Mk) (dv:Value) (id':Int) (ix cu:Int) (w:World) (h:Blk w g 111 r.cells) (hs:r.sl=.slice (some ⟨lb,0,none⟩) n n) (hl:Blk w lb 140 (pinsA l)) (hj:j < n) (hlj:l[j]?=some (some sg))
  (hsg:Blk w sg 144 #[.int .i64 x.num,.int .u64 x.at',.int .i64 x.h,.int .i64 x.b,.int .i64 x.r,.int .i64 x.l,.slice am n1 c1,dv,.int .i64 ix,.int .i64 cu]) (hin:InMk w am n1 ms) (hn1:n1≤1000) (hF:Formed g r ⟨10,(j:Int),0,0,id',0,⟨#[]⟩⟩) :
  Calls Tryz.prog 61 #[.pointer (some ⟨g,0,none⟩),OpV.v ⟨10,(j:Int),0,0,id',0,⟨#[]⟩⟩] w fun e w'=>((e=.returned (.int .i64 7)∧∀x ∈ ms,x.id≠id')∨(e=.returned (.int .i64 0)∧∃(k:Nat) (x:Mk),ms[k]?=some x∧x.id=id'))∧Ch (fun _=>False) w w':=by
 have HF:=hid hF
 have HIN:=hid hin
 have H:=hid h
 have HL:=hid hl
 have HS:=hid hs
 have HJ:=hid hlj
 have HSG:=hid hsg
 have d1:decide (j < n)=true:=decide_eq_true hj
 have d2:decide ((j:Int) < (n:Int))=true:=decide_eq_true (by omega)
 simp only [OpV.v] at HF ⊢
 clear h hl hs hlj hF hsg hin
 go_enter Tryz.func61,Tryz.ntmps61
 go_wp2_with fail
 refine calls_world fun W1 hW1=>?_
 have C1:=hid (show Ch (fun _=>False) w W1 from by rw [hW1];exact (Ch.refl _ w).alloc _)
 have T1:=hid (show Blk W1 w.heap.size 26 #[.int .u8 10,.int .i64 (j:Int),.int .i64 0,.int .i64 0,.int .u32 id',.int .u8 0,.string ⟨#[]⟩] from by rw [hW1];exact Blk.new w _ _)
 clear hW1
 refine (HF.out W1 (C1.out.blk H.out (fun e=>e))).mono ?_
 rintro e w2 ⟨rfl,hc⟩
 have C2:=hid (C1.out.trans hc (fun _ _ h=>h))
 have T2:=hid (hc.blk T1.out (fun e=>e))
 have lt2:=T2.out.lt
 have t0:w2.cell? ⟨w.heap.size,0,none⟩=some (.int .u8 10):=T2.out.cell 0
 have t1:w2.cell? ⟨w.heap.size,1,none⟩=some (.int .i64 (j:Int)):=T2.out.cell 1
 have a2:w2.cell? ⟨g,2,none⟩=some (.slice (some ⟨lb,0,none⟩) n n):=((C2.out.blk H.out (fun e=>e)).cell 2).trans (by rw [←HS.out];rfl)
 have lj:w2.cell? ⟨lb,j,none⟩=some (.pointer (some ⟨sg,0,none⟩)):=((C2.out.blk HL.out (fun e=>e)).cell j).trans (pinsA_at (o:=some sg) HJ.out)
 have SG2:=hid (C2.out.blk HSG.out (fun e=>e))
 have s3:w2.cell? ⟨sg,3,none⟩=some (.int .i64 x.b):=SG2.out.cell 3
 have s4:w2.cell? ⟨sg,4,none⟩=some (.int .i64 x.r):=SG2.out.cell 4
 have s5:w2.cell? ⟨sg,5,none⟩=some (.int .i64 x.l):=SG2.out.cell 5
 clear hc
 go_wp2_with fail
 refine Mix.wp_region_mix (fun _=>True) (fun i=>([0,0,0,0,0,0,0,0,0]:List Nat).getD i 0) [0,1,2,3,4,5,6,7,8] (by kernel_rfl) (by kernel_rfl) ?_
 repeat ((first | refine Mix.q1 rfl ?_ | refine Mix.p1 rfl rfl ?_ | refine Mix.s1 rfl rfl ?_);go_big_quiet_step (fail);refine wpQuiet_nil ?_)
 intro k3
 refine at_world fun W3 hW3=>?_
 have C3:=hid (show Ch (fun _=>False) w W3 from by rw [hW3];exact C2.out.drewN k3)
 have T3:=hid (show Blk W3 w.heap.size 26 #[.int .u8 10,.int .i64 (j:Int),.int .i64 0,.int .i64 0,.int .u32 id',.int .u8 0,.string ⟨#[]⟩] from by rw [hW3];exact T2.out.drewN k3)
 clear hW3 t0 t1 a2 lj s3 s4 s5 lt2
 have SG3:=hid (C3.out.blk HSG.out (fun e=>e))
 have lt3:=T3.out.lt
 have t0:W3.cell? ⟨w.heap.size,0,none⟩=some (.int .u8 10):=T3.out.cell 0
 have s3:W3.cell? ⟨sg,3,none⟩=some (.int .i64 x.b):=SG3.out.cell 3
 have s4:W3.cell? ⟨sg,4,none⟩=some (.int .i64 x.r):=SG3.out.cell 4
 have s5:W3.cell? ⟨sg,5,none⟩=some (.int .i64 x.l):=SG3.out.cell 5
 go_wp2_with fail
 refine at_world fun W4 hW4=>?_
 have C4:=hid (show Ch (fun _=>False) w W4 from by rw [hW4];exact C3.out.alloc _)
 have C34:=hid (show Ch (fun _=>False) W3 W4 from by rw [hW4];exact (Ch.refl _ W3).alloc _)
 clear hW4 t0 s3 s4 s5
 have T4:=hid (C34.out.blk T3.out (fun e=>e))
 have SG4:=hid (C4.out.blk HSG.out (fun e=>e))
 have HI4:=hid (HIN.out.keep C4.out (fun _ _ _ _ h=>h))
 have s6:W4.cell? ⟨sg,6,none⟩=some (.slice am n1 c1):=SG4.out.cell 6
 have t4:W4.cell? ⟨w.heap.size,4,none⟩=some (.int .u32 id'):=T4.out.cell 4
 obtain ⟨S,hS⟩:∃S:Nat→Prop,∀k,S k↔k < W4.heap.size:=⟨_,fun _=>Iff.rfl⟩
 have hSp1:Mix.Has S sg:=(hS _).2 SG4.out.lt
 have hSp2:Mix.Has S w.heap.size:=(hS _).2 T4.out.lt
 have HSS:=hid hS
 clear hS
 refine Mix.wp_region_X S (fun i=>([1,1,1,1,4,1,4,2,1,1,1,3,2,0]:List Nat).getD i 0) (by kernel_rfl) ?_
 refine Mix.wpX_prefix (fuel:=7) (by kernel_rfl) [0,1,2,3,4,5,6] _ _ _ (by kernel_rfl) ?_
 repeat ((first | refine Mix.q1 rfl ?_ | refine Mix.p1 rfl rfl ?_ | refine Mix.s1 rfl rfl ?_);go_big_quiet_step (fail);refine wpQuiet_nil ?_)
 intro m0
 refine Mix.wpX_world fun V0 hV0=>?_
 have C04:=hid (show Ch (fun _=>False) W4 V0 from by rw [hV0];exact (Ch.refl _ W4).drewN m0)
 have C0:=hid (C4.out.trans C04.out (fun _ _ h=>h))
 have HI0:=hid (HI4.out.keep C04.out (fun _ _ _ _ h=>h))
 clear hV0 s6 t4
 refine Mix.wpX_two 7 11 (by kernel_rfl) ?_ ?_
 ·repeat ((first | refine Mix.q1 rfl ?_ | refine Mix.p1 rfl rfl ?_ | refine Mix.s1 rfl rfl ?_);go_big_quiet_step (fail);refine wpQuiet_nil ?_)
  refine Mix.e1 rfl fun V1 hV1=>?_
  obtain ⟨k1,rfl⟩:=hV1
  go_wp2_with fail
  refine calls_world fun V2 hV2=>?_
  have C2':=hid (show Ch (fun _=>False) V0 V2 from by rw [hV2];exact (Ch.refl _ V0).drewN k1)
  clear hV2
  refine (mfind_any am n1 c1 ms id' V2 (HI0.out.keep C2'.out (fun _ _ _ _ h=>h)) (by omega)).mono ?_
  rintro e V5 ⟨⟨rfl,hno⟩ | ⟨kk,xx,rfl,hxx,hxi⟩,hc⟩
  ·have HNO:=hid hno
   clear hno
   have C5':=hid (C0.out.trans (C2'.out.trans hc (fun _ _ h=>h)) (fun _ _ h=>h))
   have C5'b:=hid (Nat.le_trans C04.out.size (Nat.le_trans C2'.out.size hc.size))
   clear hc
   go_wp2_with fail
   intro k6
   refine Mix.wpX_prefix (fuel:=0) (by kernel_rfl) [8,9,10,11,12,13] _ _ _ (by kernel_rfl) ?_
   refine Mix.mix_world fun V6 hV6=>?_
   have C6':=hid (show Ch (fun _=>False) w V6 from by rw [hV6];exact C5'.out.drewN k6)
   have C6'b:=hid (show W4.heap.size≤V6.heap.size from by rw [hV6];exact Nat.le_trans C5'b.out ((Ch.refl (fun _=>False) V5).drewN k6).size)
   clear hV6
   repeat ((first | refine Mix.q1 rfl ?_ | refine Mix.p1 rfl rfl ?_ | refine Mix.s1 rfl rfl ?_);go_big_quiet_step (fail);refine wpQuiet_nil ?_)
   refine Mix.a1 rfl fun V3 hV3=>?_
   obtain ⟨k3',rfl⟩:=hV3
   go_wp2_with fail
   refine ⟨fun k hk=>Below.heap_alloc _ _ k (Nat.lt_of_lt_of_le ((HSS.out k).1 hk) C6'b.out),Mix.mix_world fun V4 hV4=>?_⟩
   obtain ⟨yb,hyb⟩:∃z,z=V6.heap.size:=⟨_,rfl⟩
   have C4':=hid (show Ch (fun _=>False) w V4 from by rw [hV4];first | exact (C6'.out.drewN k3').alloc _ | exact C6'.out.trans (Ch.push rfl rfl rfl rfl) (fun _ _ h=>h))
   have Y4:=hid (show Blk V4 yb 160 #[.int .u32 0,.int .i64 0,.int .u8 0] from by rw [hV4,hyb];first | exact Blk.new (V6.drewN k3') _ _ | exact Blk.push rfl)
   have lyb:w.heap.size≤yb:=by rw [hyb];exact C6'.out.size
   rw [←hyb]
   clear hV4 hyb
   have y0:V4.cell? ⟨yb,0,none⟩=some (.int .u32 0):=Y4.out.cell 0
   have y1:V4.cell? ⟨yb,1,none⟩=some (.int .i64 0):=Y4.out.cell 1
   have y2:V4.cell? ⟨yb,2,none⟩=some (.int .u8 0):=Y4.out.cell 2
   have g0:=Y4.out.free 0
   have g1:=Y4.out.free 1
   have g2:=Y4.out.free 2
   repeat ((first | refine Mix.q1 rfl ?_ | refine Mix.p1 rfl rfl ?_ | refine Mix.s1 rfl rfl ?_);go_big_quiet_step (fail);refine wpQuiet_nil ?_)
   refine Mix.e1 rfl fun V8 hV8=>?_
   obtain ⟨k8,rfl⟩:=hV8
   go_wp2_with fail
   repeat ((first | refine Mix.q1 rfl ?_ | refine Mix.p1 rfl rfl ?_ | refine Mix.s1 rfl rfl ?_);go_big_quiet_step (fail);refine wpQuiet_nil ?_)
   intro k9
   refine Mix.wpX_done (by kernel_rfl) ?_
   intro k10
   refine at_world fun V9 hV9=>?_
   have C9:=hid (show Ch (fun _=>False) w V9 from by rw [hV9];exact (((((((C4'.out.drewN k8).set (fun h=>absurd h (by omega)) _).set (fun h=>absurd h (by omega)) _).set (fun h=>absurd h (by omega)) _).drewN k9).drewN k10)))
   clear hV9 y0 y1 y2 g0 g1 g2
   go_wp2_with fail
   go_ret
   exact ⟨.inl ⟨rfl,HNO.out⟩,C9.out⟩
  ·have HXX:=hid hxx
   have HXI:=hid hxi
   clear hxx hxi
   simp only [Mk.agg]
   have C5':=hid (C0.out.trans (C2'.out.trans hc (fun _ _ h=>h)) (fun _ _ h=>h))
   have C5'b:=hid (Nat.le_trans C04.out.size (Nat.le_trans C2'.out.size hc.size))
   clear hc
   go_wp2_with fail
   intro k6
   refine Mix.wpX_prefix (fuel:=0) (by kernel_rfl) [8,9,10,11,12,13] _ _ _ (by kernel_rfl) ?_
   refine Mix.mix_world fun V6 hV6=>?_
   have C6':=hid (show Ch (fun _=>False) w V6 from by rw [hV6];exact C5'.out.drewN k6)
   have C6'b:=hid (show W4.heap.size≤V6.heap.size from by rw [hV6];exact Nat.le_trans C5'b.out ((Ch.refl (fun _=>False) V5).drewN k6).size)
   clear hV6
   repeat ((first | refine Mix.q1 rfl ?_ | refine Mix.p1 rfl rfl ?_ | refine Mix.s1 rfl rfl ?_);go_big_quiet_step (fail);refine wpQuiet_nil ?_)
   refine Mix.a1 rfl fun V3 hV3=>?_
   obtain ⟨k3',rfl⟩:=hV3
   go_wp2_with fail
   refine ⟨fun k hk=>Below.heap_alloc _ _ k (Nat.lt_of_lt_of_le ((HSS.out k).1 hk) C6'b.out),Mix.mix_world fun V4 hV4=>?_⟩
   obtain ⟨yb,hyb⟩:∃z,z=V6.heap.size:=⟨_,rfl⟩
   have C4':=hid (show Ch (fun _=>False) w V4 from by rw [hV4];first | exact (C6'.out.drewN k3').alloc _ | exact C6'.out.trans (Ch.push rfl rfl rfl rfl) (fun _ _ h=>h))
   have Y4:=hid (show Blk V4 yb 160 #[.int .u32 0,.int .i64 0,.int .u8 0] from by rw [hV4,hyb];first | exact Blk.new (V6.drewN k3') _ _ | exact Blk.push rfl)
   have lyb:w.heap.size≤yb:=by rw [hyb];exact C6'.out.size
   rw [←hyb]
   clear hV4 hyb
   have y0:V4.cell? ⟨yb,0,none⟩=some (.int .u32 0):=Y4.out.cell 0
   have y1:V4.cell? ⟨yb,1,none⟩=some (.int .i64 0):=Y4.out.cell 1
   have y2:V4.cell? ⟨yb,2,none⟩=some (.int .u8 0):=Y4.out.cell 2
   have g0:=Y4.out.free 0
   have g1:=Y4.out.free 1
   have g2:=Y4.out.free 2
   repeat ((first | refine Mix.q1 rfl ?_ | refine Mix.p1 rfl rfl ?_ | refine Mix.s1 rfl rfl ?_);go_big_quiet_step (fail);refine wpQuiet_nil ?_)
   refine Mix.e1 rfl fun V8 hV8=>?_
   obtain ⟨k8,rfl⟩:=hV8
   go_wp2_with fail
   repeat ((first | refine Mix.q1 rfl ?_ | refine Mix.p1 rfl rfl ?_ | refine Mix.s1 rfl rfl ?_);go_big_quiet_step (fail);refine wpQuiet_nil ?_)
   intro k9
   refine Mix.wpX_done (by kernel_rfl) ?_
   intro k10
   refine at_world fun V9 hV9=>?_
   have C9:=hid (show Ch (fun _=>False) w V9 from by rw [hV9];exact (((((((C4'.out.drewN k8).set (fun h=>absurd h (by omega)) _).set (fun h=>absurd h (by omega)) _).set (fun h=>absurd h (by omega)) _).drewN k9).drewN k10)))
   clear hV9 y0 y1 y2 g0 g1 g2
   go_wp2_with fail
   go_ret
   exact ⟨.inr ⟨rfl,kk,xx,HXX.out,HXI.out⟩,C9.out⟩
 ·refine Mix.a1 rfl fun V3 hV3=>?_
  obtain ⟨k3',rfl⟩:=hV3
  go_wp2_with fail
  refine ⟨fun k hk=>Below.heap_alloc _ _ k (Nat.lt_of_lt_of_le ((HSS.out k).1 hk) C04.out.size),Mix.mix_world fun V4 hV4=>?_⟩
  obtain ⟨yb,hyb⟩:∃z,z=V0.heap.size:=⟨_,rfl⟩
  have C4':=hid (show Ch (fun _=>False) w V4 from by rw [hV4];first | exact (C0.out.drewN k3').alloc _ | exact C0.out.trans (Ch.push rfl rfl rfl rfl) (fun _ _ h=>h))
  have Y4:=hid (show Blk V4 yb 160 #[.int .u32 0,.int .i64 0,.int .u8 0] from by rw [hV4,hyb];first | exact Blk.new (V0.drewN k3') _ _ | exact Blk.push rfl)
  have lyb:w.heap.size≤yb:=by rw [hyb];exact C0.out.size
  rw [←hyb]
  clear hV4 hyb
  have y0:V4.cell? ⟨yb,0,none⟩=some (.int .u32 0):=Y4.out.cell 0
  have y1:V4.cell? ⟨yb,1,none⟩=some (.int .i64 0):=Y4.out.cell 1
  have y2:V4.cell? ⟨yb,2,none⟩=some (.int .u8 0):=Y4.out.cell 2
  have g0:=Y4.out.free 0
  have g1:=Y4.out.free 1
  have g2:=Y4.out.free 2
  intro k6
  refine Mix.wpX_prefix (fuel:=0) (by kernel_rfl) [7,8,9,10,12,13] _ _ _ (by kernel_rfl) ?_
  refine Mix.mix_world fun V6 hV6=>?_
  have C46:=hid (show Ch (fun _=>False) V4 V6 from by rw [hV6];exact (Ch.refl _ V4).drewN k6)
  clear hV6 y0 y1 y2 g0 g1 g2
  have HI6:=hid (HIN.out.keep (C4'.out.trans C46.out (fun _ _ h=>h)) (fun _ _ _ _ h=>h))
  repeat ((first | refine Mix.q1 rfl ?_ | refine Mix.p1 rfl rfl ?_ | refine Mix.s1 rfl rfl ?_);go_big_quiet_step (fail);refine wpQuiet_nil ?_)
  refine Mix.e1 rfl fun V1 hV1=>?_
  obtain ⟨k1,rfl⟩:=hV1
  go_wp2_with fail
  refine calls_world fun V2 hV2=>?_
  have C2':=hid (show Ch (fun _=>False) V6 V2 from by rw [hV2];exact (Ch.refl _ V6).drewN k1)
  clear hV2
  refine (mfind_any am n1 c1 ms id' V2 (HI6.out.keep C2'.out (fun _ _ _ _ h=>h)) (by omega)).mono ?_
  rintro e V5 ⟨⟨rfl,hno⟩ | ⟨kk,xx,rfl,hxx,hxi⟩,hc⟩
  ·have HNO:=hid hno
   clear hno
   have C5':=hid (C4'.out.trans (C46.out.trans (C2'.out.trans hc (fun _ _ h=>h)) (fun _ _ h=>h)) (fun _ _ h=>h))
   have Y5:=hid (hc.blk (C2'.out.blk (C46.out.blk Y4.out (fun e=>e)) (fun e=>e)) (fun e=>e))
   clear hc
   go_wp2_with fail
   have y0:V5.cell? ⟨yb,0,none⟩=some (.int .u32 0):=Y5.out.cell 0
   have y1:V5.cell? ⟨yb,1,none⟩=some (.int .i64 0):=Y5.out.cell 1
   have y2:V5.cell? ⟨yb,2,none⟩=some (.int .u8 0):=Y5.out.cell 2
   have g0:=Y5.out.free 0
   have g1:=Y5.out.free 1
   have g2:=Y5.out.free 2
   repeat ((first | refine Mix.q1 rfl ?_ | refine Mix.p1 rfl rfl ?_ | refine Mix.s1 rfl rfl ?_);go_big_quiet_step (fail);refine wpQuiet_nil ?_)
   refine Mix.e1 rfl fun V8 hV8=>?_
   obtain ⟨k8,rfl⟩:=hV8
   go_wp2_with fail
   repeat ((first | refine Mix.q1 rfl ?_ | refine Mix.p1 rfl rfl ?_ | refine Mix.s1 rfl rfl ?_);go_big_quiet_step (fail);refine wpQuiet_nil ?_)
   intro k9
   refine Mix.wpX_done (by kernel_rfl) ?_
   intro k10
   refine at_world fun V9 hV9=>?_
   have C9:=hid (show Ch (fun _=>False) w V9 from by rw [hV9];exact (((((((C5'.out.drewN k8).set (fun h=>absurd h (by omega)) _).set (fun h=>absurd h (by omega)) _).set (fun h=>absurd h (by omega)) _).drewN k9).drewN k10)))
   clear hV9 y0 y1 y2 g0 g1 g2
   go_wp2_with fail
   go_ret
   exact ⟨.inl ⟨rfl,HNO.out⟩,C9.out⟩
  ·have HXX:=hid hxx
   have HXI:=hid hxi
   clear hxx hxi
   simp only [Mk.agg]
   have C5':=hid (C4'.out.trans (C46.out.trans (C2'.out.trans hc (fun _ _ h=>h)) (fun _ _ h=>h)) (fun _ _ h=>h))
   have Y5:=hid (hc.blk (C2'.out.blk (C46.out.blk Y4.out (fun e=>e)) (fun e=>e)) (fun e=>e))
   clear hc
   go_wp2_with fail
   have y0:V5.cell? ⟨yb,0,none⟩=some (.int .u32 0):=Y5.out.cell 0
   have y1:V5.cell? ⟨yb,1,none⟩=some (.int .i64 0):=Y5.out.cell 1
   have y2:V5.cell? ⟨yb,2,none⟩=some (.int .u8 0):=Y5.out.cell 2
   have g0:=Y5.out.free 0
   have g1:=Y5.out.free 1
   have g2:=Y5.out.free 2
   repeat ((first | refine Mix.q1 rfl ?_ | refine Mix.p1 rfl rfl ?_ | refine Mix.s1 rfl rfl ?_);go_big_quiet_step (fail);refine wpQuiet_nil ?_)
   refine Mix.e1 rfl fun V8 hV8=>?_
   obtain ⟨k8,rfl⟩:=hV8
   go_wp2_with fail
   repeat ((first | refine Mix.q1 rfl ?_ | refine Mix.p1 rfl rfl ?_ | refine Mix.s1 rfl rfl ?_);go_big_quiet_step (fail);refine wpQuiet_nil ?_)
   intro k9
   refine Mix.wpX_done (by kernel_rfl) ?_
   intro k10
   refine at_world fun V9 hV9=>?_
   have C9:=hid (show Ch (fun _=>False) w V9 from by rw [hV9];exact (((((((C5'.out.drewN k8).set (fun h=>absurd h (by omega)) _).set (fun h=>absurd h (by omega)) _).set (fun h=>absurd h (by omega)) _).drewN k9).drewN k10)))
   clear hV9 y0 y1 y2 g0 g1 g2
   go_wp2_with fail
   go_ret
   exact ⟨.inr ⟨rfl,kk,xx,HXX.out,HXI.out⟩,C9.out⟩
def cnt6 (l:List EvR):Nat:=(l.filter fun x=>x.d.tmod 8 == 6).length
def ShortP (s:ByteArray) (rd:Int) (n:Nat) (l:List EvR):Prop:=s.size≤120∧vdB (bs s)=true∧0≤rd∧rd≤4∧n≤150∧(∀x ∈ l,x.s.size≤120∧x.mn≤4)∧cnt6 l≤6
theorem lshort_any (s:ByteArray) (rd:Int) (a:Option Addr) (n c:Nat) (l:List EvR) (w:World) (h:InEvR w a n l) (hs:s.size≤maxLen) :
  Calls Tryz.prog 8 #[.string s,.int .i64 rd,.slice a n c] w fun e w'=>∃b,e=.returned (.bool b)∧Below w.heap.size w w'∧(b=true→ShortP s rd n l):=by
 have HE:=hid h
 clear h
 by_cases h1:120 < s.size
 ·have d1:decide (120 < s.size)=true:=decide_eq_true h1
  have d1':decide ((120:Int) < (s.size:Int))=true:=decide_eq_true (by omega)
  go_enter Tryz.func8,Tryz.ntmps8
  go_wp2_with fail
  go_ret
  exact ⟨false,rfl,Below.refl _ _,fun h=>by cases h⟩
 ·have d1:decide (120 < s.size)=false:=decide_eq_false h1
  have d1':decide ((120:Int) < (s.size:Int))=false:=decide_eq_false (by omega)
  have h1:s.size≤120:=by omega
  go_enter Tryz.func8,Tryz.ntmps8
  go_wp2_with fail
  refine (rvalid_any s w (by omega)).mono ?_
  rintro e w1 ⟨rfl,hb1⟩
  have HB1:=hid hb1
  clear hb1
  cases hvd:vdB (bs s) with
  | false=>
   go_wp2_with fail
   go_ret
   exact ⟨false,rfl,HB1.out,fun h=>by cases h⟩
  | true=>
   have HVD:=hid hvd
   clear hvd
   by_cases h2:rd < 0
   ·have d2:decide (rd < 0)=true:=decide_eq_true h2
    go_wp2_with fail
    go_ret
    exact ⟨false,rfl,HB1.out,fun h=>by cases h⟩
   have d2:decide (rd < 0)=false:=decide_eq_false h2
   by_cases h3:4 < rd
   ·have d3:decide (4 < rd)=true:=decide_eq_true h3
    go_wp2_with fail
    go_ret
    exact ⟨false,rfl,HB1.out,fun h=>by cases h⟩
   have d3:decide (4 < rd)=false:=decide_eq_false h3
   by_cases h4:150 < n
   ·have d4:decide (150 < n)=true:=decide_eq_true h4
    have d4':decide ((150:Int) < (n:Int))=true:=decide_eq_true (by omega)
    go_wp2_with fail
    go_ret
    exact ⟨false,rfl,HB1.out,fun h=>by cases h⟩
   have d4:decide (150 < n)=false:=decide_eq_false h4
   have d4':decide ((150:Int) < (n:Int))=false:=decide_eq_false (by omega)
   have hn150:n≤150:=by omega
   have HR1:=hid (show 0≤rd∧rd≤4 by omega)
   go_wp2_with fail
   clear h2 h3 h4 d2 d3 d4 d4'
   go_loopw [7,8] (fun q i W=>∃k:Nat,k≤n∧i=.int .i64 (k:Int)∧q=.int .i64 (cnt6 (l.take k):Int)∧(∀x ∈ l.take k,x.s.size≤120∧x.mn≤4)∧w1=W) (fun _ i _=>n - (intOf i).toNat)
   case atStart=>exact ⟨0,Nat.zero_le _,rfl,rfl,by simp,rfl⟩
   case round=>
    obtain ⟨k,hk,rfl,rfl,hall,rfl⟩:=hrel
    have HALL:=hid hall
    have hcl:cnt6 (l.take k)≤k:=by
     unfold cnt6
     have:=List.length_filter_le (fun x:EvR=>x.d.tmod 8 == 6) (l.take k)
     rw [List.length_take] at this
     omega
    obtain ⟨cn,hcn⟩:∃cn,cn=cnt6 (l.take k):=⟨_,rfl⟩
    have HCN:=hid hcn
    rw [←hcn] at hcl ⊢
    clear hall hcn
    by_cases hlt:k < n
    ·have e1:decide (k < n)=true:=decide_eq_true hlt
     have e2:decide ((k:Int) < (n:Int))=true:=decide_eq_true (by omega)
     obtain ⟨x,hx⟩:∃x,l[k]?=some x:=⟨_,List.getElem?_eq_getElem (by rw [HE.out.1];exact hlt)⟩
     obtain ⟨b,off,hab,hbl,hcc⟩:=HE.out.2.2 (by omega)
     subst hab
     have hcell:∀j v,x.cells[j]?=some v→w1.cell? ⟨b,off+(k * 10+j),none⟩=some v:=fun j v hj=>(below_cell HB1.out (p:=⟨b,_,none⟩) hbl).trans (hcc k j x v hx hj)
     have c0:w1.cell? ⟨b,off+k * 10,none⟩=some (.int .u8 x.d):=hcell 0 _ rfl
     have c8:w1.cell? ⟨b,off+k * 10+8,none⟩=some (.string x.s):=hcell 8 _ rfl
     have c9:w1.cell? ⟨b,off+k * 10+9,none⟩=some (.slice x.ma x.mn x.mc):=hcell 9 _ rfl
     have htk:l.take (k+1)=l.take k++[x]:=by
      have hkl:=List.getElem?_eq_some_iff.1 hx
      rw [List.take_succ_eq_append_getElem hkl.1,hkl.2]
     have HTK:=hid htk
     clear hcc hcell hx htk
     by_cases h5:120 < x.s.size
     ·have d5:decide (120 < x.s.size)=true:=decide_eq_true h5
      have d5':decide ((120:Int) < (x.s.size:Int))=true:=decide_eq_true (by omega)
      go_wp2_with fail
      go_ret
      exact ⟨false,rfl,HB1.out,fun h=>by cases h⟩
     have d5:decide (120 < x.s.size)=false:=decide_eq_false h5
     have d5':decide ((120:Int) < (x.s.size:Int))=false:=decide_eq_false (by omega)
     by_cases h6:4 < x.mn
     ·have d6:decide (4 < x.mn)=true:=decide_eq_true h6
      have d6':decide ((4:Int) < (x.mn:Int))=true:=decide_eq_true (by omega)
      go_wp2_with fail
      go_ret
      exact ⟨false,rfl,HB1.out,fun h=>by cases h⟩
     have d6:decide (4 < x.mn)=false:=decide_eq_false h6
     have d6':decide ((4:Int) < (x.mn:Int))=false:=decide_eq_false (by omega)
     have HALL':=hid (show ∀z ∈ l.take (k+1),z.s.size≤120∧z.mn≤4 from fun z hz=>by
      rw [HTK.out] at hz
      rcases List.mem_append.1 hz with hz | hz
      ·exact HALL.out z hz
      ·rw [List.mem_singleton.1 hz]
       omega)
     clear h5 h6
     by_cases h7:x.d.tmod 8=6
     ·have d7:(x.d.tmod 8 == 6)=true:=by rw [beq_iff_eq];exact h7
      have HC7:=hid (show cnt6 (l.take (k+1))=cn+1 from by rw [HTK.out,HCN.out];unfold cnt6;rw [List.filter_append,List.length_append];simp [h7])
      clear h7
      go_wp2_with fail
      go_roundw
      case rel=>exact ⟨k+1,hlt,by go_num,by rw [HC7.out];go_num,HALL'.out,by first | rfl | trivial⟩
      case measure=>simp [intOf];omega
     ·have d7:(x.d.tmod 8 == 6)=false:=by rw [beq_eq_false_iff_ne];exact h7
      have HC7:=hid (show cnt6 (l.take (k+1))=cn from by rw [HTK.out,HCN.out];unfold cnt6;rw [List.filter_append,List.length_append];simp [h7])
      clear h7
      go_wp2_with fail
      go_roundw
      case rel=>exact ⟨k+1,hlt,by go_num,by rw [HC7.out],HALL'.out,by first | rfl | trivial⟩
      case measure=>simp [intOf];omega
    ·obtain rfl:k=n:=by omega
     have e1:decide (k < k)=false:=decide_eq_false (by omega)
     have e2:decide ((k:Int) < (k:Int))=false:=decide_eq_false (by omega)
     go_wp2_with fail
     go_ret
     refine ⟨_,rfl,HB1.out,fun hb=>?_⟩
     have htl:l.take k=l:=List.take_of_length_le (by rw [HE.out.1];exact Nat.le_refl _)
     have hc6:cn≤6:=by
      have:=of_decide_eq_true hb
      omega
     rw [HCN.out,htl] at hc6
     have hal:=HALL.out
     rw [htl] at hal
     exact ⟨h1,HVD.out,HR1.out.1,HR1.out.2,hn150,hal,hc6⟩
end Go.Proofs.YtjcdknhejcbpiaaGreat
