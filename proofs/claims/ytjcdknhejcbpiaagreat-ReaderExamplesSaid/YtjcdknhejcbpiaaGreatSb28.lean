/- Lemmas; no condition. -/
import Derived.Test.YtjcdknhejcbpiaaGreatProg
import Derived.Lib.Builder
import Derived.Lib.AppendStr
import Derived.Lib.UnsafeStr
import Derived.Laws.Externs
import Derived.OwnWalk
import Derived.Test.YtjcdknhejcbpiaaGreatSb23
import Derived.Test.YtjcdknhejcbpiaaGreatSb27
set_option maxRecDepth 100000
set_option maxHeartbeats 4000000
namespace Go.Proofs.YtjcdknhejcbpiaaGreat
open Go.RowKit
set_option linter.unusedVariables false
set_option linter.unusedSimpArgs false
set_option linter.unusedSectionVars false
theorem wpList_app_str {P:Program} (w:World) {ops:Array Oper} {rest:List Oper} {o:Oper} {a:Act} {Q:Exit->Act->World->Prop} (hgd:o.guard=none) (sl x:Operand) (t u:TypeId)
  (ho:o.op=.call { callee:=.builtin .append,args:=#[sl,x],argTypes:=#[t,u] }) (base:Nat) (e:TypeId) (i:TypeInfo) (ht:P.underlying t=some (.slice e)) (hu:P.underlying u=some .string) (hi:P.info? e=some i) (hz:i.zero=some (.int .u8 0))
  (hsize:i.size=1) (hby:i.bytes=1) (v:Value) (n:Nat) (xs:List Value) (hs:a.eval sl=v) (hown:w.ownsRow base e 1 v n xs) (s:ByteArray) (hx:a.eval x=.string s)
  (h63:n+s.size<=1000000000) (hbase:base<=w.heap.size)
  (h:∀v' w',w'.ownsRow base e 1 v' (n+s.size) (xs++Lib.strCells s)->w.grownBy w' v.ownBlock->Fresh w v v'->(v'=.slice none 0 0↔v=.slice none 0 0/\s.size=0)->wpList P ops Q rest (a.put o.dst v') w'):wpList P ops Q (o::rest) a w:=by
 have hf:∀v' w',(Builtin.append_ #[t,u] o.type #[v,.string s]).run P w=.ok v' w'->w'.ownsRow base e 1 v' (n+s.size) (xs++Lib.strCells s)->w.grownBy w' v.ownBlock->Fresh w v v':=by
  intro v' w' hr h1 h2
  rcases hown.2 with ⟨rfl,rfl⟩ | ⟨g,cap,cur,rfl,hbg,hg,hnc,hcm,hcs,htake⟩
  ·have hx0:xs=[]:=by simpa using hown.1
   subst hx0
   obtain ⟨v2,w2,hr2,h3,_,_⟩:=Lib.run_append_own_string (P:=P) w w.heap.size t u o.type e i ht hu hi hz hsize hby (.slice none 0 0) 0 [] (World.ownsRow_nil w _ e 1) s (by unfold maxLen;omega) (by omega) (Nat.le_refl _)
   rw [hr] at hr2
   injection hr2 with e1 e2
   subst e1 e2
   exact .inr fun k hk=>(h3.lt k hk).1
  ·by_cases hroom:n+s.size<=cap
   ·have hr2:=Lib.run_append_room_string (P:=P) w t u o.type e i ht hu hi hsize g n cap cur hg s hroom (by omega)
    rw [hr] at hr2
    injection hr2 with e1 e2
    subst e1
    exact .inl rfl
   ·have hr2:=Lib.run_append_grow_string (P:=P) w t u o.type e i (.int .u8 0) ht hu hi hz ⟨g,0,none⟩ n cap xs (by rw [hsize];simpa using hown.1) (hown.cells (g:=g) rfl) s (by omega) (by omega) (by rw [hby];exact growslice_fits (by omega) (by omega))
    rw [hr] at hr2
    injection hr2 with e1 e2
    subst e1
    exact .inr fun k hk=>by injection hk with hk;exact Nat.le_of_eq hk
 refine wpList_plain hgd fun K hK=>?_
 obtain ⟨v',w',hr,h2,h3,h4⟩:=Lib.run_append_own_string (P:=P) w base t u o.type e i ht hu hi hz hsize hby v n xs hown s (by unfold maxLen;omega) (by omega) hbase
 have hF:=hf v' w' hr h2 h3
 unfold Oper.wp execOp
 simp only [ho,resolve,invoke,builtin,Sem.run_bind,Sem.run_pure,Result.andThen_ok,List.map_toArray,List.map_cons,List.map_nil,hs,hx,hr]
 exact hK _ _ (h v' w' h2 h3 hF h4)
theorem check_7 (g lb n j sg:Nat) (r:Rd) (l:List (Option Nat)) (x:Rv) (mv dv:Value) (ix cu:Int) (w:World) (h:Blk w g 111 r.cells) (hs:r.sl=.slice (some ⟨lb,0,none⟩) n n) (hl:Blk w lb 140 (pinsA l)) (hj:j < n) (hlj:l[j]?=some (some sg))
  (hsg:Blk w sg 144 #[.int .i64 x.num,.int .u64 x.at',.int .i64 x.h,.int .i64 x.b,.int .i64 x.r,.int .i64 x.l,mv,dv,.int .i64 ix,.int .i64 cu]) (pos num:Int) (hp:0<=pos) (hb:x.b<=1000000) (hF:Formed g r ⟨7,(j:Int),pos,num,0,0,⟨#[]⟩⟩) :
  Calls Tryz.prog 61 #[.pointer (some ⟨g,0,none⟩),OpV.v ⟨7,(j:Int),pos,num,0,0,⟨#[]⟩⟩] w fun e w'=>e=.returned (.int .i64 (if x.b < pos\/x.b - pos < num then 3 else 0))/\Ch (fun _=>False) w w':=by
 obtain ⟨er,her⟩:∃er:Int,er=(if x.b < pos\/x.b - pos < num then 3 else 0):=⟨_,rfl⟩
 rw [<-her]
 have HER:=hid her
 clear her
 have HF:=hid hF
 have H:=hid h
 have HL:=hid hl
 have HS:=hid hs
 have HJ:=hid hlj
 have HSG:=hid hsg
 obtain ⟨d1,d2⟩:=dc_ltT (a:=j) (b:=n) (by omega)
 simp only [OpV.v] at HF |-
 clear h hl hs hlj hF hsg
 go_enter Tryz.func61,Tryz.ntmps61
 go_wp2_with fail
 refine calls_world fun W1 hW1=>?_
 have C1:=hid (show Ch (fun _=>False) w W1 from by rw [hW1];exact (Ch.refl _ w).alloc _)
 have T1:=hid (show Blk W1 w.heap.size 26 #[.int .u8 7,.int .i64 (j:Int),.int .i64 pos,.int .i64 num,.int .u32 0,.int .u8 0,.string ⟨#[]⟩] from by rw [hW1];exact Blk.new w _ _)
 clear hW1
 refine (HF.out W1 (C1.out.blk H.out (fun e=>e))).mono ?_
 rintro e w2 ⟨rfl,hc⟩
 have C2:=hid (C1.out.trans hc (fun _ _ h=>h))
 have T2:=hid (hc.blk T1.out (fun e=>e))
 have lt2:=T2.out.lt
 obtain ⟨t0,t1⟩:=T2.out.c2
 have a2:w2.cell? ⟨g,2,none⟩=some (.slice (some ⟨lb,0,none⟩) n n):=((C2.out.blk H.out (fun e=>e)).cell 2).trans (by rw [<-HS.out];rfl)
 have lj:w2.cell? ⟨lb,j,none⟩=some (.pointer (some ⟨sg,0,none⟩)):=((C2.out.blk HL.out (fun e=>e)).cell j).trans (pinsA_at (o:=some sg) HJ.out)
 have SG2:=hid (C2.out.blk HSG.out (fun e=>e))
 obtain ⟨-,-,-,s3,s4,s5⟩:=SG2.out.c6
 clear hc
 go_wp2_with fail
 refine Mix.rt [0,0,0,0,0,0,0,0,0] [0,1,2,3,4,5,6,7,8] ?_
 repeat ((first | refine Mix.zq ?_ | refine Mix.zp ?_ | refine Mix.zs ?_);go_big_quiet_step (fail);refine wpQuiet_nil ?_)
 intro k3
 refine at_world fun W3 hW3=>?_
 have C3:=hid (show Ch (fun _=>False) w W3 from by rw [hW3];exact C2.out.drewN k3)
 have T3:=hid (show Blk W3 w.heap.size 26 #[.int .u8 7,.int .i64 (j:Int),.int .i64 pos,.int .i64 num,.int .u32 0,.int .u8 0,.string ⟨#[]⟩] from by rw [hW3];exact T2.out.drewN k3)
 clear hW3 t0 t1 a2 lj s3 s4 s5 lt2
 have SG3:=hid (C3.out.blk HSG.out (fun e=>e))
 have lt3:=T3.out.lt
 have t0:W3.cell? ⟨w.heap.size,0,none⟩=some (.int .u8 7):=T3.out.cell 0
 obtain ⟨-,-,-,s3,s4,s5⟩:=SG3.out.c6
 obtain ⟨-,-,t2,t3⟩:=T3.out.c4
 by_cases hcc:x.b < pos
 ·have g1:decide (pos > x.b)=true:=decide_eq_true hcc
  have g2:decide (x.b < pos)=true:=decide_eq_true hcc
  obtain rfl:er=3:=by rw [HER.out,if_pos (Or.inl hcc)]
  clear hcc HER
  go_wp2_with fail
  go_ret
  exact ⟨rfl,C3.out.alloc _⟩
 ·have g1:decide (pos > x.b)=false:=decide_eq_false hcc
  have g2:decide (x.b < pos)=false:=decide_eq_false hcc
  have hsb:0<=x.b - pos/\x.b - pos<=1000000:=by omega
  by_cases hcd:x.b - pos < num
  ·have g3:decide (num > x.b - pos)=true:=decide_eq_true hcd
   have g4:decide (x.b - pos < num)=true:=decide_eq_true hcd
   obtain rfl:er=3:=by rw [HER.out,if_pos (Or.inr hcd)]
   clear hcc hcd HER
   go_wp2_with fail
   go_ret
   exact ⟨rfl,C3.out.alloc _⟩
  ·have g3:decide (num > x.b - pos)=false:=decide_eq_false hcd
   have g4:decide (x.b - pos < num)=false:=decide_eq_false hcd
   obtain rfl:er=0:=by rw [HER.out,if_neg (by omega)]
   clear hcc hcd HER
   go_wp2_with fail
   go_ret
   exact ⟨rfl,C3.out.alloc _⟩
theorem check_8 (g lb n j sg:Nat) (r:Rd) (l:List (Option Nat)) (x:Rv) (mv dv:Value) (ix cu:Int) (w:World) (h:Blk w g 111 r.cells) (hs:r.sl=.slice (some ⟨lb,0,none⟩) n n) (hl:Blk w lb 140 (pinsA l)) (hj:j < n) (hlj:l[j]?=some (some sg))
  (hsg:Blk w sg 144 #[.int .i64 x.num,.int .u64 x.at',.int .i64 x.h,.int .i64 x.b,.int .i64 x.r,.int .i64 x.l,mv,dv,.int .i64 ix,.int .i64 cu]) (num:Int) (hF:Formed g r ⟨8,(j:Int),0,num,0,0,⟨#[]⟩⟩) :
  Calls Tryz.prog 61 #[.pointer (some ⟨g,0,none⟩),OpV.v ⟨8,(j:Int),0,num,0,0,⟨#[]⟩⟩] w fun e w'=>e=.returned (.int .i64 (if x.r < num then 3 else 0))/\Ch (fun _=>False) w w':=by
 obtain ⟨er,her⟩:∃er:Int,er=(if x.r < num then 3 else 0):=⟨_,rfl⟩
 rw [<-her]
 have HER:=hid her
 clear her
 have HF:=hid hF
 have H:=hid h
 have HL:=hid hl
 have HS:=hid hs
 have HJ:=hid hlj
 have HSG:=hid hsg
 obtain ⟨d1,d2⟩:=dc_ltT (a:=j) (b:=n) (by omega)
 simp only [OpV.v] at HF |-
 clear h hl hs hlj hF hsg
 go_enter Tryz.func61,Tryz.ntmps61
 go_wp2_with fail
 refine calls_world fun W1 hW1=>?_
 have C1:=hid (show Ch (fun _=>False) w W1 from by rw [hW1];exact (Ch.refl _ w).alloc _)
 have T1:=hid (show Blk W1 w.heap.size 26 #[.int .u8 8,.int .i64 (j:Int),.int .i64 0,.int .i64 num,.int .u32 0,.int .u8 0,.string ⟨#[]⟩] from by rw [hW1];exact Blk.new w _ _)
 clear hW1
 refine (HF.out W1 (C1.out.blk H.out (fun e=>e))).mono ?_
 rintro e w2 ⟨rfl,hc⟩
 have C2:=hid (C1.out.trans hc (fun _ _ h=>h))
 have T2:=hid (hc.blk T1.out (fun e=>e))
 have lt2:=T2.out.lt
 obtain ⟨t0,t1⟩:=T2.out.c2
 have a2:w2.cell? ⟨g,2,none⟩=some (.slice (some ⟨lb,0,none⟩) n n):=((C2.out.blk H.out (fun e=>e)).cell 2).trans (by rw [<-HS.out];rfl)
 have lj:w2.cell? ⟨lb,j,none⟩=some (.pointer (some ⟨sg,0,none⟩)):=((C2.out.blk HL.out (fun e=>e)).cell j).trans (pinsA_at (o:=some sg) HJ.out)
 have SG2:=hid (C2.out.blk HSG.out (fun e=>e))
 obtain ⟨-,-,-,s3,s4,s5⟩:=SG2.out.c6
 clear hc
 go_wp2_with fail
 refine Mix.rt [0,0,0,0,0,0,0,0,0] [0,1,2,3,4,5,6,7,8] ?_
 repeat ((first | refine Mix.zq ?_ | refine Mix.zp ?_ | refine Mix.zs ?_);go_big_quiet_step (fail);refine wpQuiet_nil ?_)
 intro k3
 refine at_world fun W3 hW3=>?_
 have C3:=hid (show Ch (fun _=>False) w W3 from by rw [hW3];exact C2.out.drewN k3)
 have T3:=hid (show Blk W3 w.heap.size 26 #[.int .u8 8,.int .i64 (j:Int),.int .i64 0,.int .i64 num,.int .u32 0,.int .u8 0,.string ⟨#[]⟩] from by rw [hW3];exact T2.out.drewN k3)
 clear hW3 t0 t1 a2 lj s3 s4 s5 lt2
 have SG3:=hid (C3.out.blk HSG.out (fun e=>e))
 have lt3:=T3.out.lt
 have t0:W3.cell? ⟨w.heap.size,0,none⟩=some (.int .u8 8):=T3.out.cell 0
 obtain ⟨-,-,-,s3,s4,s5⟩:=SG3.out.c6
 obtain ⟨-,-,t2,t3⟩:=T3.out.c4
 by_cases hcc:x.r < num
 ·have g1:decide (num > x.r)=true:=decide_eq_true hcc
  have g2:decide (x.r < num)=true:=decide_eq_true hcc
  obtain rfl:er=3:=by rw [HER.out,if_pos (hcc)]
  clear hcc HER
  go_wp2_with fail
  go_ret
  exact ⟨rfl,C3.out.alloc _⟩
 ·have g1:decide (num > x.r)=false:=decide_eq_false hcc
  have g2:decide (x.r < num)=false:=decide_eq_false hcc
  obtain rfl:er=0:=by rw [HER.out,if_neg hcc]
  clear hcc HER
  go_wp2_with fail
  go_ret
  exact ⟨rfl,C3.out.alloc _⟩
theorem check_9 (g lb n j sg:Nat) (r:Rd) (l:List (Option Nat)) (x:Rv) (mv dv:Value) (ix cu:Int) (w:World) (h:Blk w g 111 r.cells) (hs:r.sl=.slice (some ⟨lb,0,none⟩) n n) (hl:Blk w lb 140 (pinsA l)) (hj:j < n) (hlj:l[j]?=some (some sg))
  (hsg:Blk w sg 144 #[.int .i64 x.num,.int .u64 x.at',.int .i64 x.h,.int .i64 x.b,.int .i64 x.r,.int .i64 x.l,mv,dv,.int .i64 ix,.int .i64 cu]) (num:Int) (hF:Formed g r ⟨9,(j:Int),0,num,0,0,⟨#[]⟩⟩) :
  Calls Tryz.prog 61 #[.pointer (some ⟨g,0,none⟩),OpV.v ⟨9,(j:Int),0,num,0,0,⟨#[]⟩⟩] w fun e w'=>e=.returned (.int .i64 (if x.l < num then 3 else 0))/\Ch (fun _=>False) w w':=by
 obtain ⟨er,her⟩:∃er:Int,er=(if x.l < num then 3 else 0):=⟨_,rfl⟩
 rw [<-her]
 have HER:=hid her
 clear her
 have HF:=hid hF
 have H:=hid h
 have HL:=hid hl
 have HS:=hid hs
 have HJ:=hid hlj
 have HSG:=hid hsg
 obtain ⟨d1,d2⟩:=dc_ltT (a:=j) (b:=n) (by omega)
 simp only [OpV.v] at HF |-
 clear h hl hs hlj hF hsg
 go_enter Tryz.func61,Tryz.ntmps61
 go_wp2_with fail
 refine calls_world fun W1 hW1=>?_
 have C1:=hid (show Ch (fun _=>False) w W1 from by rw [hW1];exact (Ch.refl _ w).alloc _)
 have T1:=hid (show Blk W1 w.heap.size 26 #[.int .u8 9,.int .i64 (j:Int),.int .i64 0,.int .i64 num,.int .u32 0,.int .u8 0,.string ⟨#[]⟩] from by rw [hW1];exact Blk.new w _ _)
 clear hW1
 refine (HF.out W1 (C1.out.blk H.out (fun e=>e))).mono ?_
 rintro e w2 ⟨rfl,hc⟩
 have C2:=hid (C1.out.trans hc (fun _ _ h=>h))
 have T2:=hid (hc.blk T1.out (fun e=>e))
 have lt2:=T2.out.lt
 obtain ⟨t0,t1⟩:=T2.out.c2
 have a2:w2.cell? ⟨g,2,none⟩=some (.slice (some ⟨lb,0,none⟩) n n):=((C2.out.blk H.out (fun e=>e)).cell 2).trans (by rw [<-HS.out];rfl)
 have lj:w2.cell? ⟨lb,j,none⟩=some (.pointer (some ⟨sg,0,none⟩)):=((C2.out.blk HL.out (fun e=>e)).cell j).trans (pinsA_at (o:=some sg) HJ.out)
 have SG2:=hid (C2.out.blk HSG.out (fun e=>e))
 obtain ⟨-,-,-,s3,s4,s5⟩:=SG2.out.c6
 clear hc
 go_wp2_with fail
 refine Mix.rt [0,0,0,0,0,0,0,0,0] [0,1,2,3,4,5,6,7,8] ?_
 repeat ((first | refine Mix.zq ?_ | refine Mix.zp ?_ | refine Mix.zs ?_);go_big_quiet_step (fail);refine wpQuiet_nil ?_)
 intro k3
 refine at_world fun W3 hW3=>?_
 have C3:=hid (show Ch (fun _=>False) w W3 from by rw [hW3];exact C2.out.drewN k3)
 have T3:=hid (show Blk W3 w.heap.size 26 #[.int .u8 9,.int .i64 (j:Int),.int .i64 0,.int .i64 num,.int .u32 0,.int .u8 0,.string ⟨#[]⟩] from by rw [hW3];exact T2.out.drewN k3)
 clear hW3 t0 t1 a2 lj s3 s4 s5 lt2
 have SG3:=hid (C3.out.blk HSG.out (fun e=>e))
 have lt3:=T3.out.lt
 have t0:W3.cell? ⟨w.heap.size,0,none⟩=some (.int .u8 9):=T3.out.cell 0
 obtain ⟨-,-,-,s3,s4,s5⟩:=SG3.out.c6
 obtain ⟨-,-,t2,t3⟩:=T3.out.c4
 by_cases hcc:x.l < num
 ·have g1:decide (num > x.l)=true:=decide_eq_true hcc
  have g2:decide (x.l < num)=true:=decide_eq_true hcc
  obtain rfl:er=3:=by rw [HER.out,if_pos (hcc)]
  clear hcc HER
  go_wp2_with fail
  go_ret
  exact ⟨rfl,C3.out.alloc _⟩
 ·have g1:decide (num > x.l)=false:=decide_eq_false hcc
  have g2:decide (x.l < num)=false:=decide_eq_false hcc
  obtain rfl:er=0:=by rw [HER.out,if_neg hcc]
  clear hcc HER
  go_wp2_with fail
  go_ret
  exact ⟨rfl,C3.out.alloc _⟩
theorem check_11 (g lb n j sg:Nat) (r:Rd) (l:List (Option Nat)) (x:Rv) (mv dv:Value) (ix cu:Int) (w:World) (h:Blk w g 111 r.cells) (hs:r.sl=.slice (some ⟨lb,0,none⟩) n n) (hl:Blk w lb 140 (pinsA l)) (hj:j < n) (hlj:l[j]?=some (some sg))
  (hsg:Blk w sg 144 #[.int .i64 x.num,.int .u64 x.at',.int .i64 x.h,.int .i64 x.b,.int .i64 x.r,.int .i64 x.l,mv,dv,.int .i64 ix,.int .i64 cu]) (pos:Int) (hF:Formed g r ⟨11,(j:Int),pos,0,0,0,⟨#[]⟩⟩) :
  Calls Tryz.prog 61 #[.pointer (some ⟨g,0,none⟩),OpV.v ⟨11,(j:Int),pos,0,0,0,⟨#[]⟩⟩] w fun e w'=>e=.returned (.int .i64 (if x.b < pos then 3 else 0))/\Ch (fun _=>False) w w':=by
 obtain ⟨er,her⟩:∃er:Int,er=(if x.b < pos then 3 else 0):=⟨_,rfl⟩
 rw [<-her]
 have HER:=hid her
 clear her
 have HF:=hid hF
 have H:=hid h
 have HL:=hid hl
 have HS:=hid hs
 have HJ:=hid hlj
 have HSG:=hid hsg
 obtain ⟨d1,d2⟩:=dc_ltT (a:=j) (b:=n) (by omega)
 simp only [OpV.v] at HF |-
 clear h hl hs hlj hF hsg
 go_enter Tryz.func61,Tryz.ntmps61
 go_wp2_with fail
 refine calls_world fun W1 hW1=>?_
 have C1:=hid (show Ch (fun _=>False) w W1 from by rw [hW1];exact (Ch.refl _ w).alloc _)
 have T1:=hid (show Blk W1 w.heap.size 26 #[.int .u8 11,.int .i64 (j:Int),.int .i64 pos,.int .i64 0,.int .u32 0,.int .u8 0,.string ⟨#[]⟩] from by rw [hW1];exact Blk.new w _ _)
 clear hW1
 refine (HF.out W1 (C1.out.blk H.out (fun e=>e))).mono ?_
 rintro e w2 ⟨rfl,hc⟩
 have C2:=hid (C1.out.trans hc (fun _ _ h=>h))
 have T2:=hid (hc.blk T1.out (fun e=>e))
 have lt2:=T2.out.lt
 obtain ⟨t0,t1⟩:=T2.out.c2
 have a2:w2.cell? ⟨g,2,none⟩=some (.slice (some ⟨lb,0,none⟩) n n):=((C2.out.blk H.out (fun e=>e)).cell 2).trans (by rw [<-HS.out];rfl)
 have lj:w2.cell? ⟨lb,j,none⟩=some (.pointer (some ⟨sg,0,none⟩)):=((C2.out.blk HL.out (fun e=>e)).cell j).trans (pinsA_at (o:=some sg) HJ.out)
 have SG2:=hid (C2.out.blk HSG.out (fun e=>e))
 obtain ⟨-,-,-,s3,s4,s5⟩:=SG2.out.c6
 clear hc
 go_wp2_with fail
 refine Mix.rt [0,0,0,0,0,0,0,0,0] [0,1,2,3,4,5,6,7,8] ?_
 repeat ((first | refine Mix.zq ?_ | refine Mix.zp ?_ | refine Mix.zs ?_);go_big_quiet_step (fail);refine wpQuiet_nil ?_)
 intro k3
 refine at_world fun W3 hW3=>?_
 have C3:=hid (show Ch (fun _=>False) w W3 from by rw [hW3];exact C2.out.drewN k3)
 have T3:=hid (show Blk W3 w.heap.size 26 #[.int .u8 11,.int .i64 (j:Int),.int .i64 pos,.int .i64 0,.int .u32 0,.int .u8 0,.string ⟨#[]⟩] from by rw [hW3];exact T2.out.drewN k3)
 clear hW3 t0 t1 a2 lj s3 s4 s5 lt2
 have SG3:=hid (C3.out.blk HSG.out (fun e=>e))
 have lt3:=T3.out.lt
 have t0:W3.cell? ⟨w.heap.size,0,none⟩=some (.int .u8 11):=T3.out.cell 0
 obtain ⟨-,-,-,s3,s4,s5⟩:=SG3.out.c6
 obtain ⟨-,-,t2,t3⟩:=T3.out.c4
 by_cases hcc:x.b < pos
 ·have g1:decide (pos > x.b)=true:=decide_eq_true hcc
  have g2:decide (x.b < pos)=true:=decide_eq_true hcc
  obtain rfl:er=3:=by rw [HER.out,if_pos (hcc)]
  clear hcc HER
  go_wp2_with fail
  go_ret
  exact ⟨rfl,C3.out.alloc _⟩
 ·have g1:decide (pos > x.b)=false:=decide_eq_false hcc
  have g2:decide (x.b < pos)=false:=decide_eq_false hcc
  obtain rfl:er=0:=by rw [HER.out,if_neg hcc]
  clear hcc HER
  go_wp2_with fail
  go_ret
  exact ⟨rfl,C3.out.alloc _⟩
theorem lcount_l (s:ByteArray) (hs:s.size<=1000000) (w:World):Calls Tryz.prog 56 #[.string s,.bool true] w fun e w'=>e=.returned (.int .i64 (cntP (fun b=>b == 10) (bs s):Nat))/\w=w':=by
 go_enter Tryz.func56,Tryz.ntmps56
 go_wp2_with fail
 go_loopw [5,6] (fun n i W=>∃k:Nat,k<=s.size/\i=.int .i64 (k:Int)/\n=.int .i64 (cntP (fun b=>b == 10) ((bs s).take k):Nat)/\W=w) (fun _ i _=>s.size - (intOf i).toNat)
 case atStart=>exact ⟨0,Nat.zero_le _,rfl,by simp [cntP],rfl⟩
 case round=>
  obtain ⟨k,hk,rfl,rfl,rfl⟩:=hrel
  have hle:=cntP_le (fun b=>b == 10) ((bs s).take k)
  rw [List.length_take,bs_length] at hle
  by_cases hlt:k < s.size
  {
 have hg:=bs_get s k hlt
 have hct:=hid (cntP_take (fun b=>b == 10) (bs s) k (by rw [bs_length];exact hlt))
 obtain ⟨c,hc⟩:∃c,c=cntP (fun b=>b == 10) ((bs s).take k):=⟨_,rfl⟩
 rw [<-hc] at hct hle
 rw [<-hc]
 clear hc
 have hcb:c<=1000000:=by omega
 obtain ⟨v,hv⟩:∃v,v=lk (bs s) k:=⟨_,rfl⟩
 rw [<-hv] at hct
 try rw [<-hv] at hg
 have HV:=hid hv
 clear hle hv
 have e1:decide (k < s.size)=true:=decide_eq_true hlt
 have e2:decide ((k:Int) < (s.size:Int))=true:=decide_eq_true (by omega)
 by_cases hp:v=10
 ·have f1:(v == 10)=true:=by simpa using hp
  have hct2:=hid (show cntP (fun b=>b == 10) ((bs s).take (k+1))=c+1 from by have:=hct.out;rw [if_pos f1] at this;exact this)
  go_wp2_with fail
  go_roundw
  case rel=>exact ⟨k+1,by omega,by go_num,by rw [hct2.out];go_num,trivial⟩
  case measure=>simp [intOf];omega
 ·have f1:(v == 10)=false:=by simpa using hp
  have hct2:=hid (show cntP (fun b=>b == 10) ((bs s).take (k+1))=c from by have:=hct.out;rw [if_neg (by simpa using hp)] at this;exact this)
  go_wp2_with fail
  go_roundw
  case rel=>exact ⟨k+1,by omega,by go_num,by rw [hct2.out],trivial⟩
  case measure=>simp [intOf];omega
 }
  ·obtain rfl:s.size=k:=by omega
   rw [List.take_of_length_le (by rw [bs_length];exact Nat.le_refl _)]
   go_wp2_with fail
   go_ret
   exact ⟨rfl,rfl⟩
theorem lcount_r (s:ByteArray) (hs:s.size<=1000000) (w:World):Calls Tryz.prog 56 #[.string s,.bool false] w fun e w'=>e=.returned (.int .i64 (cntP begB (bs s):Nat))/\w=w':=by
 go_enter Tryz.func56,Tryz.ntmps56
 go_wp2_with fail
 go_loopw [5,6] (fun n i W=>∃k:Nat,k<=s.size/\i=.int .i64 (k:Int)/\n=.int .i64 (cntP begB ((bs s).take k):Nat)/\W=w) (fun _ i _=>s.size - (intOf i).toNat)
 case atStart=>exact ⟨0,Nat.zero_le _,rfl,by simp [cntP],rfl⟩
 case round=>
  obtain ⟨k,hk,rfl,rfl,rfl⟩:=hrel
  have hle:=cntP_le begB ((bs s).take k)
  rw [List.length_take,bs_length] at hle
  by_cases hlt:k < s.size
  {
 have hg:=bs_get s k hlt
 have hct:=hid (cntP_take begB (bs s) k (by rw [bs_length];exact hlt))
 obtain ⟨c,hc⟩:∃c,c=cntP begB ((bs s).take k):=⟨_,rfl⟩
 rw [<-hc] at hct hle
 rw [<-hc]
 clear hc
 have hcb:c<=1000000:=by omega
 obtain ⟨v,hv⟩:∃v,v=lk (bs s) k:=⟨_,rfl⟩
 rw [<-hv] at hct
 try rw [<-hv] at hg
 have HV:=hid hv
 clear hle hv
 have e1:decide (k < s.size)=true:=decide_eq_true hlt
 have e2:decide ((k:Int) < (s.size:Int))=true:=decide_eq_true (by omega)
 by_cases h1:v < 128
 ·have f1:decide (v < 128)=true:=decide_eq_true h1
  have hp:begB v=true:=by unfold begB;rw [f1];rfl
  have hct2:=hid (show cntP begB ((bs s).take (k+1))=c+1 from by have:=hct.out;rw [if_pos hp] at this;exact this)
  go_wp2_with fail
  go_roundw
  case rel=>exact ⟨k+1,by omega,by go_num,by rw [hct2.out];go_num,trivial⟩
  case measure=>simp [intOf];omega
 ·have f1:decide (v < 128)=false:=decide_eq_false h1
  by_cases h2:191 < v
  ·have f2:decide (192<=v)=true:=decide_eq_true (by omega)
   have f3:decide (v≥192)=true:=f2
   have hp:begB v=true:=by unfold begB;rw [decide_eq_true h2];simp
   have hct2:=hid (show cntP begB ((bs s).take (k+1))=c+1 from by have:=hct.out;rw [if_pos hp] at this;exact this)
   go_wp2_with fail
   go_roundw
   case rel=>exact ⟨k+1,by omega,by go_num,by rw [hct2.out];go_num,trivial⟩
   case measure=>simp [intOf];omega
  ·have f2:decide (192<=v)=false:=decide_eq_false (by omega)
   have f3:decide (v≥192)=false:=f2
   have hp:begB v=false:=by unfold begB;rw [f1,decide_eq_false h2];rfl
   have hct2:=hid (show cntP begB ((bs s).take (k+1))=c from by have:=hct.out;rw [if_neg (by rw [hp];decide)] at this;exact this)
   go_wp2_with fail
   go_roundw
   case rel=>exact ⟨k+1,by omega,by go_num,by rw [hct2.out],trivial⟩
   case measure=>simp [intOf];omega
 }
  ·obtain rfl:s.size=k:=by omega
   rw [List.take_of_length_le (by rw [bs_length];exact Nat.le_refl _)]
   go_wp2_with fail
   go_ret
   exact ⟨rfl,rfl⟩
def leavesN (n:Nat):Nat:=if n=0 then 0 else if n=1 then 1 else (n - 2) / 8+2
theorem lleaves_any (n:Nat) (hn:n<=1000000) (w:World):Calls Tryz.prog 55 #[.int .i64 (n:Int)] w fun e w'=>e=.returned (.int .i64 (leavesN n:Nat))/\w=w':=by
 unfold leavesN
 by_cases h0:n=0
 ·subst h0
  rw [if_pos rfl]
  go_enter Tryz.func55,Tryz.ntmps55
  go_wp2_with fail
  go_ret
  exact ⟨rfl,rfl⟩
 ·rw [if_neg h0]
  by_cases h1:n=1
  ·subst h1
   rw [if_pos rfl]
   go_enter Tryz.func55,Tryz.ntmps55
   go_wp2_with fail
   go_ret
   exact ⟨rfl,rfl⟩
  {
 rw [if_neg h1]
 obtain ⟨k,rfl⟩:∃k,n=k+2:=⟨n - 2,by omega⟩
 have e0:(((k+2:Nat):Int) == 0)=false:=by rw [beq_eq_false_iff_ne];omega
 have e1:(((k+2:Nat):Int) == 1)=false:=by rw [beq_eq_false_iff_ne];omega
 obtain ⟨z,hz⟩:∃z:Int,z=((k+2:Nat):Int):=⟨_,rfl⟩
 rw [<-hz] at e0 e1 |-
 have hb:2<=z/\z<=1000002:=by omega
 obtain ⟨hb0,hb1⟩:=hb
 have HZ:=hid hz
 clear hz h0 h1 hn
 go_enter Tryz.func55,Tryz.ntmps55
 go_wp2_with fail
 go_ret
 have hz:=HZ.out
 refine ⟨?_,rfl⟩
 rw [show k+2 - 2=k by omega]
 show Ending.returned (Value.int .i64 _)=Ending.returned (Value.int .i64 _)
 congr 2
 subst hz
 omega
 }
theorem lnth_l (s:ByteArray) (hs:s.size<=1000000) (n:Nat) (hn:n < cntP (fun b=>b == 10) (bs s)) (w:World):Calls Tryz.prog 57 #[.string s,.int .i64 ((n:Int)+1),.bool true] w fun e w'=>e=.returned (.int .i64 (((nthP (fun b=>b == 10) (bs s) n:Nat):Int)+1))/\w=w':=by
 have hcl:=cntP_le (fun b=>b == 10) (bs s)
 rw [bs_length] at hcl
 have HN:=hid hn
 have hn1:n<=1000000:=by omega
 clear hn hcl
 go_enter Tryz.func57,Tryz.ntmps57
 go_wp2_with fail
 go_loopw [1,7] (fun x i W=>∃k d:Nat,k<=s.size/\i=.int .i64 (k:Int)/\x=.int .i64 ((d:Int)+1)/\n=cntP (fun b=>b == 10) ((bs s).take k)+d/\W=w) (fun _ i _=>s.size - (intOf i).toNat)
 case atStart=>exact ⟨0,n,Nat.zero_le _,rfl,rfl,by simp [cntP],rfl⟩
 case round=>
  obtain ⟨k,d,hk,rfl,rfl,hnd,rfl⟩:=hrel
  by_cases hlt:k < s.size
  {
 have hg:=bs_get s k hlt
 have hct:=hid (cntP_take (fun b=>b == 10) (bs s) k (by rw [bs_length];exact hlt))
 have hat:=hid (nthP_at (fun b=>b == 10) (bs s) k n (by rw [bs_length];exact hlt))
 obtain ⟨c,hc⟩:∃c,c=cntP (fun b=>b == 10) ((bs s).take k):=⟨_,rfl⟩
 rw [<-hc] at hct hat hnd
 clear hc
 obtain ⟨v,hv⟩:∃v,v=lk (bs s) k:=⟨_,rfl⟩
 rw [<-hv] at hct hat
 try rw [<-hv] at hg
 clear hv
 have HND:=hid hnd
 have hdb:d<=1000000:=by omega
 have e1:decide (k < s.size)=true:=decide_eq_true hlt
 have e2:decide ((k:Int) < (s.size:Int))=true:=decide_eq_true (by omega)
 clear hnd
 by_cases h1:v=10
 ·have hp:(v == 10)=true:=by simpa using h1
  clear h1
  cases d with
  | zero=>
   have hr:=hid (hat.out hp (by have:=HND.out;omega))
   rw [show ((0:Nat):Int)+1=1 from rfl]
   go_wp2_with fail
   go_ret
   exact ⟨by rw [hr.out];rfl,rfl⟩
  | succ d=>
   have hct2:=hid (show cntP (fun b=>b == 10) ((bs s).take (k+1))=c+1 from by have:=hct.out;rw [if_pos (by simpa using hp)] at this;exact this)
   have f9:((d:Int)+1 == 0)=false:=by rw [beq_eq_false_iff_ne];omega
   rw [show ((d+1:Nat):Int)=(d:Int)+1 from rfl]
   go_wp2_with fail
   go_roundw
   case rel=>exact ⟨k+1,d,by omega,by go_num,by go_num,by rw [hct2.out];have:=HND.out;omega,trivial⟩
   case measure=>simp [intOf];omega
 ·have hp:(v == 10)=false:=by simpa using h1
  clear h1
  have hct2:=hid (show cntP (fun b=>b == 10) ((bs s).take (k+1))=c from by have:=hct.out;rw [if_neg (by rw [hp];decide)] at this;exact this)
  go_wp2_with fail
  go_roundw
  case rel=>exact ⟨k+1,d,by omega,by go_num,by first | rfl | go_num,by rw [hct2.out];exact HND.out,trivial⟩
  case measure=>simp [intOf];omega
 }
  ·obtain rfl:s.size=k:=by omega
   rw [List.take_of_length_le (by rw [bs_length];exact Nat.le_refl _)] at hnd
   have:=HN.out
   omega
theorem mfc_any (x:Mk) (id':Int) (tb:Nat) (w:World) (h:Blk w tb 24 #[.int .u32 id']):Calls Tryz.prog 103 #[x.agg,.pointer (some ⟨tb,0,none⟩)] w fun e w'=>e=.returned (.bool (x.id == id'))/\Ch (fun _=>False) w w':=by
 have t0:w.cell? ⟨tb,0,none⟩=some (.int .u32 id'):=h.cell 0
 have lt:=h.lt
 clear h
 simp only [Mk.agg]
 go_enter Tryz.func103,Tryz.ntmps103
 go_wp2_with fail
 go_ret
 exact ⟨rfl,(Ch.refl _ w).alloc _⟩
def MfAt (l:List Mk) (id':Int) (r:Int):Prop:=(r = -1/\∀x ∈ l,x.id≠id')\/∃(k:Nat) (x:Mk),r=(k:Int)/\l[k]?=some x/\x.id=id'
theorem mfi_any (a:Option Addr) (n c:Nat) (l:List Mk) (id':Int) (tb:Nat) (w:World) (h:Blk w tb 24 #[.int .u32 id']) (hin:InMk w a n l) (hn:n<=1000000) :
  Calls Tryz.prog 102 #[.slice a n c,.func (.func 103) #[] #[.pointer (some ⟨tb,0,none⟩)]] w fun e w'=>∃r:Int,e=.returned (.int .i64 r)/\MfAt l id' r/\Ch (fun _=>False) w w':=by
 have H:=hid h
 have HIN:=hid hin
 clear h hin
 go_enter Tryz.func102,Tryz.ntmps102
 go_wp2_with fail
 go_loopw [8] (fun i wr=>∃k:Nat,k<=n/\i=.int .i64 k/\Ch (fun _=>False) w wr/\∀j:Nat,j < k->∀x,l[j]?=some x->x.id≠id') (fun i _=>n - (intOf i).toNat)
 case atStart=>exact ⟨0,Nat.zero_le _,rfl,Ch.refl _ _,fun j hj=>absurd hj (Nat.not_lt_zero j)⟩
 case round=>
  obtain ⟨k,hk,rfl,hCh,hinv⟩:=hrel
  have Hinv:=hid hinv
  have HCH:=hid hCh
  clear hinv hCh
  have hln:=HIN.out.1
  by_cases hlt:k < n
  {
 obtain ⟨x,hx⟩:∃x,l[k]?=some x:=⟨_,List.getElem?_eq_getElem (by omega)⟩
 obtain ⟨b,off,hab,hbl,hcc⟩:=HIN.out.2 (by omega)
 subst hab
 have c0:wr.cell? ⟨b,off+k * 3,none⟩=some (.int .u32 x.id):=(HCH.out.cell (p:=⟨b,_,none⟩) hbl (fun h=>h)).trans (hcc k 0 x _ hx rfl)
 have c1:wr.cell? ⟨b,off+k * 3+1,none⟩=some (.int .i64 x.at'):=(HCH.out.cell (p:=⟨b,_,none⟩) hbl (fun h=>h)).trans (hcc k 1 x _ hx rfl)
 have c2:wr.cell? ⟨b,off+k * 3+2,none⟩=some (.int .u8 x.g):=(HCH.out.cell (p:=⟨b,_,none⟩) hbl (fun h=>h)).trans (hcc k 2 x _ hx rfl)
 obtain ⟨d1,d1'⟩:=dc_ltT (a:=k) (b:=n) (by omega)
 have HX:=hid hx
 clear hx hcc hln
 by_cases hx0:x.id=id'
 ·have hxb:(x.id == id')=true:=by simpa using hx0
  have HX0:=hid hx0
  clear hx0
  go_wp2_with fail
  refine (mfc_any x id' tb wr (HCH.out.blk H.out id)).mono ?_
  rintro e w2 ⟨rfl,hc⟩
  rw [hxb]
  have C2:=hid (HCH.out.trans hc (fun _ _ h=>h))
  clear c0 c1 c2 hc
  go_wp2_with fail
  go_ret
  exact ⟨_,rfl,.inr ⟨k,x,rfl,HX.out,HX0.out⟩,C2.out⟩
 ·have hxb:(x.id == id')=false:=by simpa using hx0
  have HX0:=hid hx0
  clear hx0
  go_wp2_with fail
  refine (mfc_any x id' tb wr (HCH.out.blk H.out id)).mono ?_
  rintro e w2 ⟨rfl,hc⟩
  rw [hxb]
  have C2:=hid (HCH.out.trans hc (fun _ _ h=>h))
  clear c0 c1 c2 hc
  go_wp2_with fail
  go_roundw
  case rel=>exact ⟨k+1,by omega,by go_num,C2.out,fun j hj y hy=>by
   by_cases hjk:j < k
   ·exact Hinv.out j hjk y hy
   ·have:j=k:=by omega
    subst this
    rw [HX.out] at hy
    injection hy with hy
    rw [<-hy]
    exact HX0.out⟩
  case measure=>simp [intOf];omega
 }
  ·obtain rfl:k=n:=by omega
   have d1:decide (k < k)=false:=decide_eq_false (by omega)
   go_wp2_with fail
   go_ret
   exact ⟨_,rfl,.inl ⟨rfl,fun x hx=>by
    obtain ⟨j,hj⟩:=List.getElem?_of_mem hx
    have:=(List.getElem?_eq_some_iff.1 hj).1
    exact Hinv.out j (by omega) x hj⟩,HCH.out⟩
theorem mfind_any (a:Option Addr) (n c:Nat) (l:List Mk) (id':Int) (w:World) (hin:InMk w a n l) (hn:n<=1000000) :
  Calls Tryz.prog 65 #[.slice a n c,.int .u32 id'] w fun e w'=>((e=.returned (.tuple #[.agg #[.int .u32 0,.int .i64 0,.int .u8 0],.bool false])/\∀x ∈ l,x.id≠id')\/∃(k:Nat) (x:Mk),e=.returned (.tuple #[x.agg,.bool true])/\l[k]?=some x/\x.id=id')/\Ch (fun _=>False) w w':=by
 have HIN:=hid hin
 clear hin
 go_enter Tryz.func65,Tryz.ntmps65
 go_wp2_with fail
 refine calls_world fun W1 hW1=>?_
 have C1:=hid (show Ch (fun _=>False) w W1 from by rw [hW1];exact ((Ch.refl _ w).alloc _).alloc _)
 have T1:=hid (show Blk W1 w.heap.size 24 #[.int .u32 id'] from by rw [hW1];exact (Blk.new w _ _).alloc _)
 obtain ⟨rb,hrb⟩:∃z,z=w.heap.size+1:=⟨_,rfl⟩
 have R1:=hid (show Blk W1 rb 160 #[.int .u32 0,.int .i64 0,.int .u8 0] from by rw [hW1,hrb];have t:=Blk.new (w.alloc (.cells #[.int .u32 id'] 24)) 160 #[.int .u32 0,.int .i64 0,.int .u8 0];simpa using t)
 have lrb:=hid (show w.heap.size<=rb from by omega)
 rw [<-hrb]
 clear hW1 hrb
 refine (mfi_any a n c l id' w.heap.size W1 T1.out (HIN.out.keep C1.out (fun _ _ _ _ h=>h)) hn).mono ?_
 rintro e w2 ⟨r,rfl,hr,hc⟩
 have C2:=hid (C1.out.trans hc (fun _ _ h=>h))
 have R2:=hid (hc.blk R1.out id)
 clear hc
 have s0:=R2.out.free 0
 have s1:=R2.out.free 1
 have s2:=R2.out.free 2
 obtain ⟨r0,r1,r2⟩:=R2.out.c3
 rcases hr with ⟨rfl,hno⟩ | ⟨k,x,rfl,hx,hxi⟩
 ·have HNO:=hid hno
  clear hno
  go_wp2_with fail
  refine at_world fun WZ hWZ=>?_
  have CZ:=hid (show Ch (fun k=>k=rb) w2 WZ from by rw [hWZ];exact ((((Ch.refl (fun k=>k=rb) w2).set (fun _=>rfl) _).set (fun _=>rfl) _).set (fun _=>rfl) _))
  have BZ:=hid (show Blk WZ rb 160 #[.int .u32 0,.int .i64 0,.int .u8 0] from by rw [hWZ];exact (((R2.out.put 0 _).put 1 _).put 2 _))
  clear hWZ r0 r1 r2 s0 s1 s2
  obtain ⟨t0,t1,t2⟩:=BZ.out.c3
  exact bodyPost_ret (v:=.tuple #[.agg #[.int .u32 0,.int .i64 0,.int .u8 0],.bool false]) (by simp [results,Tryz.results65,go_sem,t0,t1,t2]) rfl ⟨.inl ⟨rfl,HNO.out⟩,C2.out.trans CZ.out (fun j hj e=>by have:=lrb.out;omega)⟩
 ·have hkl:=(List.getElem?_eq_some_iff.1 hx).1
  have hln:=HIN.out.1
  obtain ⟨b,off,hab,hbl,hcc⟩:=HIN.out.2 (by omega)
  subst hab
  have c0:w2.cell? ⟨b,off+k * 3,none⟩=some (.int .u32 x.id):=(C2.out.cell (p:=⟨b,_,none⟩) hbl (fun h=>h)).trans (hcc k 0 x _ hx rfl)
  have c1:w2.cell? ⟨b,off+k * 3+1,none⟩=some (.int .i64 x.at'):=(C2.out.cell (p:=⟨b,_,none⟩) hbl (fun h=>h)).trans (hcc k 1 x _ hx rfl)
  have c2:w2.cell? ⟨b,off+k * 3+2,none⟩=some (.int .u8 x.g):=(C2.out.cell (p:=⟨b,_,none⟩) hbl (fun h=>h)).trans (hcc k 2 x _ hx rfl)
  have hkn:k < n:=by omega
  obtain ⟨d1,d1'⟩:=dc_ltT (a:=k) (b:=n) (by omega)
  have d2:decide ((k:Int) < 0)=false:=decide_eq_false (by omega)
  have HX:=hid hx
  have HXI:=hid hxi
  have nb:b≠rb:=by have:=lrb.out;omega
  clear hx hxi hcc hln hkl
  go_wp2_with fail
  refine at_world fun WZ hWZ=>?_
  have CZ:=hid (show Ch (fun k=>k=rb) w2 WZ from by rw [hWZ];exact ((((Ch.refl (fun k=>k=rb) w2).set (fun _=>rfl) _).set (fun _=>rfl) _).set (fun _=>rfl) _))
  have BZ:=hid (show Blk WZ rb 160 #[.int .u32 x.id,.int .i64 x.at',.int .u8 x.g] from by rw [hWZ];exact (((R2.out.put 0 _).put 1 _).put 2 _))
  clear hWZ r0 r1 r2 s0 s1 s2
  obtain ⟨t0,t1,t2⟩:=BZ.out.c3
  exact bodyPost_ret (v:=.tuple #[.agg #[.int .u32 x.id,.int .i64 x.at',.int .u8 x.g],.bool true]) (by simp [results,Tryz.results65,go_sem,t0,t1,t2]) rfl ⟨.inr ⟨k,x,rfl,HX.out,HXI.out⟩,C2.out.trans CZ.out (fun j hj e=>by have:=lrb.out;omega)⟩
theorem cntL_app (a b:List T):T.cntL (a++b)=T.cntL a+T.cntL b:=by
 rw [cntL_sum,cntL_sum,cntL_sum,List.map_append,List.sum_append]
theorem group_cnt (ks:List T):(groupT ks).cnt<=T.cntL ks+1:=by
 match ks with
 | []=>simp [groupT,T.cnt]
 | [t]=>simp [groupT,T.cntL]
 | a::b::l=>simp [groupT,T.cnt]
theorem groups_cnt:∀(L:List (List T)),T.cntL (L.map groupT)<=T.cntL L.flatten+L.length
 | []=>Nat.le_refl _
 | a::L=>by
  have h1:=group_cnt a
  have h2:=groups_cnt L
  rw [List.map_cons,List.flatten_cons,cntL_app,List.length_cons]
  simp only [T.cntL]
  omega
theorem rowUp_cnt (l:List T):T.cntL (rowUp l)<=T.cntL l+(rowUp l).length:=by
 have h:=groups_cnt (cutL (sizesN l.length 4) l)
 rw [cutL_flat _ _ (sizes_sum _ _ (by decide))] at h
 unfold rowUp
 rw [List.length_map]
 exact h
theorem topT_cnt8 (l:List T) (h:l.length<=8):T.cntL (topT l)<=T.cntL l+3:=by
 by_cases h1:l.length<=1
 ·rw [topT_le h1];omega
 ·have e1:=rowUp_cnt l
  have l1:=rowUp_len l
  have l2:grpN l.length 4<=2:=by
   have hc:l.length=2\/l.length=3\/l.length=4\/l.length=5\/l.length=6\/l.length=7\/l.length=8:=by omega
   rcases hc with e | e | e | e | e | e | e <;> rw [e] <;> decide
  rw [topT_up (by omega)]
  by_cases h2:(rowUp l).length<=1
  ·rw [topT_le h2];omega
  ·have e2:=rowUp_cnt (rowUp l)
   have l3:=rowUp_len (rowUp l)
   have l4:(rowUp l).length=2:=by omega
   rw [l4] at l3
   have l5:(rowUp (rowUp l)).length=1:=by rw [l3];decide
   rw [topT_up (by omega),topT_le (by omega)]
   omega
theorem leaf_cnt:∀(l:List ByteArray),T.cntL (l.map .leaf)=l.length
 | []=>rfl
 | a::l=>by
  rw [List.map_cons,List.length_cons]
  simp only [T.cntL,T.cnt]
  rw [leaf_cnt l]
  omega
theorem build_cnt11 {s:ByteArray} {t:T} (h:buildT s=[t]) (hs:s.size<=120):t.cnt<=11:=by
 have hl:(baseT s).length<=8:=by
  rw [base_len]
  have:=grp_le (n:=s.size) (m:=16) (by decide)
  omega
 have h1:=topT_cnt8 (baseT s) hl
 have h2:T.cntL (baseT s)=(baseT s).length:=by
  unfold baseT
  rw [leaf_cnt,List.length_map]
 have h3:T.cntL (topT (baseT s))=t.cnt:=by
  have e:topT (baseT s)=[t]:=h
  rw [e]
  simp [T.cntL]
 omega
end Go.Proofs.YtjcdknhejcbpiaaGreat
