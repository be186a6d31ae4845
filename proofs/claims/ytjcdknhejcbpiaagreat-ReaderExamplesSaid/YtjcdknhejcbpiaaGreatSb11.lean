/- Lemmas; no condition. -/
import Derived.Test.YtjcdknhejcbpiaaGreatSb10
set_option maxRecDepth 100000
set_option maxHeartbeats 4000000
namespace Go.Proofs.YtjcdknhejcbpiaaGreat
open Go.RowKit
set_option linter.unusedVariables false
set_option linter.unusedSimpArgs false
set_option linter.unusedSectionVars false
def loB (k:Nat):Nat:=8 * 2 ^ k
def hiB (k:Nat):Nat:=min (16 * 4 ^ k) 65536
theorem hi_succ (k:Nat):hiB (k+1)=min (hiB k * 4) 65536:=by unfold hiB;rw [Nat.pow_succ];omega
theorem hi_le (k:Nat):hiB k<=65536:=Nat.min_le_right _ _
theorem lo_succ (k:Nat):loB (k+1)=loB k * 2:=by unfold loB;rw [Nat.pow_succ];omega
theorem lo_le {k:Nat} (h:k<=16):loB k<=524288:=by
 have:2 ^ k<=2 ^ 16:=Nat.pow_le_pow_right (by decide) h
 unfold loB
 omega
theorem bounds_any (h:Nat) (hh:h<=16) (w:World):Calls Tryz.prog 169 #[.int .i64 (h:Int)] w fun e w'=>e=.returned (.tuple #[.int .i64 (loB h:Nat),.int .i64 (hiB h:Nat)])/\w=w':=by
 go_enter Tryz.func169,Tryz.ntmps169
 go_wp2_with fail
 go_loopw [2,3,5] (fun a b i W=>∃k:Nat,k<=h/\i=.int .i64 (k:Int)/\a=.int .i64 (loB k:Nat)/\b=.int .i64 (hiB k:Nat)/\W=w) (fun _ _ i _=>h - (intOf i).toNat)
 case atStart=>exact ⟨0,Nat.zero_le _,rfl,rfl,rfl,rfl⟩
 case round=>
  obtain ⟨k,hk,rfl,rfl,rfl,rfl⟩:=hrel
  have l1:=lo_le (show k<=16 by omega)
  have l2:=hi_le k
  have HS:=hid (hi_succ k)
  have LS:=hid (lo_succ k)
  by_cases hlt:k < h
  ·obtain ⟨p,hp⟩:∃p,p=loB k:=⟨_,rfl⟩
   obtain ⟨q,hq⟩:∃q,q=hiB k:=⟨_,rfl⟩
   rw [<-hp] at l1 LS
   rw [<-hq] at l2 HS
   rw [<-hp,<-hq]
   clear hp hq
   go_wp2_with fail
   refine ⟨⟨k+1,hlt,by push_cast;rfl,by rw [LS.out];push_cast;rfl,?_,trivial⟩,by simp only [intOf];omega⟩
   rw [HS.out]
   congr 1
   by_cases hq:65536 < q * 4
   ·rw [if_pos (by omega),Nat.min_eq_right (by omega)];rfl
   ·rw [if_neg (by omega),Nat.min_eq_left (by omega)];push_cast;rfl
  ·obtain rfl:h=k:=by omega
   go_wp2_with fail
   go_ret2
   exact ⟨rfl,rfl⟩
structure Kd where
 at':Nat
 m:Ms
def Kd.cells (k:Kd):List Value:=[.int .u64 (hdl k.at'),.int .i64 k.m.b,.int .i64 k.m.r,.int .i64 k.m.l]
theorem kd_len (k:Kd):k.cells.length=4:=rfl
structure Nd where
 h:Nat
 s:ByteArray
 ks:List Kd
def Nd.v (x:Nd) (a:Option Addr) (n c:Nat):Value:=.agg #[.int .i64 (x.h:Int),.string x.s,.slice a n c]
def Kd.ok (h:Nat) (k:Kd):Prop:=k.at' < 16384/\(loB h:Int)<=k.m.b/\k.m.b<=(hiB h:Int)/\0<=k.m.l/\k.m.l<=k.m.r/\k.m.r<=k.m.b
def Nd.ms (x:Nd):Ms:=if x.h=0 then mOf x.s else msum (x.ks.map Kd.m)
def Nd.ok (x:Nd):Prop:=(x.h=0/\1<=x.s.size/\x.s.size<=16/\x.ks=[])\/(1<=x.h/\x.h<=16/\x.s=⟨#[]⟩/\2<=x.ks.length/\x.ks.length<=4/\(∀k ∈ x.ks,k.ok (x.h - 1))/\(msum (x.ks.map Kd.m)).b<=65536)
theorem Kd.ok.ms {h:Nat} {k:Kd} (hk:k.ok h):k.m.ok:=by
 obtain ⟨_,_,h3,h4,h5,h6⟩:=hk
 have:=hi_le h
 exact ⟨h4,h5,h6,by omega⟩
theorem formed_leaf (s:ByteArray) (a:Option Addr) (c:Nat) (h1:1<=s.size) (h2:s.size<=16) (w:World):Calls Tryz.prog 164 #[.agg #[.int .i64 0,.string s,.slice a 0 c]] w fun e w'=>e=.returned (.bool true)/\Ch (fun _=>False) w w':=by
 have d1:decide ((1:Int)<=(s.size:Int))=true:=decide_eq_true (by omega)
 have d2:decide ((s.size:Int)<=16)=true:=decide_eq_true (by omega)
 have d3:decide (1<=s.size)=true:=decide_eq_true h1
 have d4:decide (s.size<=16)=true:=decide_eq_true h2
 go_enter Tryz.func164,Tryz.ntmps164
 go_wp2_with fail
 go_ret
 exact ⟨rfl,(Ch.refl _ w).alloc _⟩
theorem formed_node (S:Nat->Prop) (h:Nat) (a:Option Addr) (n c:Nat) (ks:List Kd) (w:World) (h1:1<=h) (h2:h<=16) (hI:InP Kd.cells 4 w S a n ks) (hn:2<=n) (hn':n<=4) (hok:∀k ∈ ks,k.ok (h - 1)) :
  Calls Tryz.prog 164 #[.agg #[.int .i64 (h:Int),.string ⟨#[]⟩,.slice a n c]] w fun e w'=>e=.returned (.bool true)/\Ch (fun _=>False) w w':=by
 have d0:((h:Int) == 0)=false:=by rw [beq_eq_false_iff_ne];omega
 have d1:decide ((h:Int) < 1)=false:=decide_eq_false (by omega)
 have d2:decide ((16:Int) < (h:Int))=false:=decide_eq_false (by omega)
 have d3:decide (16 < h)=false:=decide_eq_false (by omega)
 have d4:decide ((n:Int) < 2)=false:=decide_eq_false (by omega)
 have d5:decide (n < 2)=false:=decide_eq_false (by omega)
 have d6:decide ((4:Int) < (n:Int))=false:=decide_eq_false (by omega)
 have d7:decide (4 < n)=false:=decide_eq_false (by omega)
 obtain ⟨b,off,rfl⟩:=hI.some (by omega)
 obtain ⟨g,rfl⟩:∃g,h=g+1:=⟨h - 1,by omega⟩
 have HI:=hid hI
 have HOK:=hid hok
 clear hI hok
 go_enter Tryz.func164,Tryz.ntmps164
 go_wp2_with fail
 refine calls_world fun W1 hW1=>?_
 have C1:=hid (show Ch (fun _=>False) w W1 from by rw [hW1];exact (Ch.refl _ w).alloc _)
 have B1:=hid (show Blk W1 w.heap.size 229 #[.int .i64 ((g:Int)+1),.string ⟨#[]⟩,.slice (some ⟨b,off,none⟩) n c] from by rw [hW1];exact Blk.new w _ _)
 clear hW1
 refine (bounds_any g (by omega) W1).mono ?_
 rintro e w2 ⟨rfl,rfl⟩
 have r0:W1.cell? ⟨w.heap.size,2,none⟩=some (.slice (some ⟨b,off,none⟩) n c):=B1.out.cell 2
 go_wp2_with fail
 go_loopw [61] (fun i W=>∃k:Nat,k<=n/\i=.int .i64 (k:Int)/\Ch (fun _=>False) w W) (fun i _=>n - (intOf i).toNat)
 case atStart=>exact ⟨0,Nat.zero_le _,rfl,C1.out⟩
 case round=>
  clear r0 B1 C1
  obtain ⟨k,hk,rfl,hCh⟩:=hrel
  have hln:=HI.out.1
  by_cases hlt:k < n
  {
 obtain ⟨x,hx⟩:∃x,ks[k]?=some x:=⟨_,List.getElem?_eq_getElem (by omega)⟩
 have hI:=HI.out.keep hCh (fun _ _ _=>id) (fun _ _ h=>h)
 have c0:wr.cell? ⟨b,off+k * 4,none⟩=some (.int .u64 (hdl x.at')):=hI.at k x hx 0 _ rfl
 have c1:wr.cell? ⟨b,off+k * 4+1,none⟩=some (.int .i64 x.m.b):=hI.at k x hx 1 _ rfl
 have c2:wr.cell? ⟨b,off+k * 4+2,none⟩=some (.int .i64 x.m.r):=hI.at k x hx 2 _ rfl
 have c3:wr.cell? ⟨b,off+k * 4+3,none⟩=some (.int .i64 x.m.l):=hI.at k x hx 3 _ rfl
 obtain ⟨q1,q2,q3,q4,q5,q6⟩:=HOK.out x (List.mem_of_getElem? hx)
 have q2':(loB g:Int)<=x.m.b:=q2
 have q3':x.m.b<=(hiB g:Int):=q3
 have e1:decide (x.m.b < (loB g:Int))=false:=decide_eq_false (by omega)
 have e2:decide ((hiB g:Int) < x.m.b)=false:=decide_eq_false (by omega)
 have e3:decide (x.m.r < 0)=false:=decide_eq_false (by omega)
 have e4:decide (x.m.b < x.m.r)=false:=decide_eq_false (by omega)
 have e5:decide (x.m.l < 0)=false:=decide_eq_false (by omega)
 have e6:decide (x.m.r < x.m.l)=false:=decide_eq_false (by omega)
 have HCH:=hid hCh
 obtain ⟨y1,y2⟩:=dc_ltT (a:=k) (b:=n) (by omega)
 clear hI hx hCh q2 q3 q2' q3' q4 q5 q6
 go_wp2_with fail
 refine calls_world fun W3 hW3=>?_
 have C3:=hid (show Ch (fun _=>False) w W3 from by rw [hW3];exact HCH.out.alloc _)
 have K3:=hid (show Blk W3 wr.heap.size 266 #[.int .u64 (hdl x.at'),.int .i64 x.m.b,.int .i64 x.m.r,.int .i64 x.m.l] from by rw [hW3];exact Blk.new wr _ _)
 clear hW3 c0 c1 c2 c3
 refine (hcheck_any x.at' q1 W3).mono ?_
 rintro e w4 ⟨rfl,rfl⟩
 obtain ⟨-,k1,k2,k3⟩:=K3.out.c4
 go_wp2_with fail
 refine ⟨⟨k+1,by omega,by push_cast;rfl,C3.out⟩,by simp only [intOf];omega⟩
 }
  ·obtain rfl:n=k:=by omega
   have y1:decide (n < n)=false:=decide_eq_false (by omega)
   go_wp2_with fail
   go_ret
   exact ⟨rfl,hCh⟩
theorem infoMs:(Tryz.prog.info? 36).map (fun i=>(i.zero,i.size,i.bytes))=some (some (Value.agg #[.int .i64 0,.int .i64 0,.int .i64 0]),3,24):=by kernel_rfl
theorem sum_leaf (s:ByteArray) (v:Value) (hs:s.size<=1000) (w:World):Calls Tryz.prog 165 #[.agg #[.int .i64 0,.string s,v]] w fun e w'=>e=.returned (mOf s).v/\Ch (fun _=>False) w w':=by
 go_enter Tryz.func165,Tryz.ntmps165
 go_wp2_with fail
 refine calls_world fun W1 hW1=>?_
 have C1:=hid (show Ch (fun _=>False) w W1 from by rw [hW1];exact ((Ch.refl _ w).alloc _).alloc _)
 have R1:=hid (show Blk W1 (w.heap.size+1) 36 #[.int .i64 0,.int .i64 0,.int .i64 0] from by
  rw [hW1]
  have t:=Blk.new (w.alloc (.cells #[.int .i64 0,.string s,v] 229)) 36 #[.int .i64 0,.int .i64 0,.int .i64 0]
  simpa using t)
 clear hW1
 refine (of_any s (by omega) W1).mono ?_
 rintro e w2 ⟨rfl,hc⟩
 have C2:=hid (C1.out.trans hc (fun _ _ h=>h))
 have R2:=hc.blk R1.out id
 have hz:=C1.out.size
 clear hc R1 C1
 simp only [Ms.v]
 obtain ⟨r0,r1,r2⟩:=R2.c3
 obtain ⟨s0',s1',s2'⟩:=R2.f3
 go_wp2_with fail
 refine at_world fun WZ hWZ=>?_
 have CZ:=hid (show Ch (fun k=>k=(w.heap.size+1)) w2 WZ from by rw [hWZ];exact ((((Ch.refl (fun k=>k=(w.heap.size+1)) w2).set (fun _=>rfl) _).set (fun _=>rfl) _).set (fun _=>rfl) _))
 have BZ:=hid (show Blk WZ (w.heap.size+1) 36 #[.int .i64 (mOf s).b,.int .i64 (mOf s).r,.int .i64 (mOf s).l] from by rw [hWZ];exact (((R2.put 0 _).put 1 _).put 2 _))
 clear hWZ r0 s0' r1 s1' r2 s2'
 obtain ⟨t0,t1,t2⟩:=BZ.out.c3
 have hck:Ch (fun _=>False) w WZ:=C2.out.trans CZ.out (fun i hi e=>absurd hi (by omega))
 refine bodyPost_ret (v:=.agg #[.int .i64 (mOf s).b,.int .i64 (mOf s).r,.int .i64 (mOf s).l]) (by simp [results,Tryz.results165,go_sem,t0,t1,t2]) rfl ⟨rfl,hck⟩
theorem ms_snoc (l:List Ms) (m:Ms):(l++[m]).flatMap Ms.cells=l.flatMap Ms.cells++m.cells:=by simp
theorem ms_one (l:List Ms):∀u ∈ l.flatMap Ms.cells,u.oneCell'=true:=by
 intro u hu
 obtain ⟨m,_,hm⟩:=List.mem_flatMap.1 hu
 simp [Ms.cells] at hm
 rcases hm with rfl | rfl | rfl <;> rfl
theorem sum_node (S:Nat->Prop) (h:Nat) (s:ByteArray) (a:Option Addr) (n c:Nat) (ks:List Kd) (w:World) (h1:1<=h) (h2:h<=16) (hI:InP Kd.cells 4 w S a n ks) (hn':n<=4) (hok:∀k ∈ ks,k.m.ok) :
  Calls Tryz.prog 165 #[.agg #[.int .i64 (h:Int),.string s,.slice a n c]] w fun e w'=>e=.returned (msum (ks.map Kd.m)).v/\Ch (fun _=>False) w w':=by
 obtain ⟨i0,hi,hz0,hz1,hz2⟩:=info_parts infoMs
 have d0:((h:Int) == 0)=false:=by rw [beq_eq_false_iff_ne];omega
 have HI:=hid hI
 have HOK:=hid hok
 clear hI hok
 go_enter Tryz.func165,Tryz.ntmps165
 go_wp2_with fail
 refine at_world fun W1 hW1=>?_
 have C1:=hid (show Ch (fun _=>False) w W1 from by rw [hW1];exact ((Ch.refl _ w).alloc _).alloc _)
 have R1:=hid (show Blk W1 (w.heap.size+1) 36 #[.int .i64 0,.int .i64 0,.int .i64 0] from by
  rw [hW1]
  have t:=Blk.new (w.alloc (.cells #[.int .i64 (h:Int),.string s,.slice a n c] 229)) 36 #[.int .i64 0,.int .i64 0,.int .i64 0]
  simpa using t)
 clear hW1
 have hzz:=R1.out.lt
 go_loopw [3,15] (fun v i W=>∃k:Nat,k<=n/\i=.int .i64 (k:Int)/\W.ownsRow W1.heap.size 36 3 v k (((ks.map Kd.m).take k).flatMap Ms.cells)/\Ch (fun _=>False) W1 W) (fun _ i _=>n - (intOf i).toNat)
 case atStart=>exact ⟨0,Nat.zero_le _,rfl,World.ownsRow_nil _ _ _ _,Ch.refl _ _⟩
 case round=>
  obtain ⟨k,hk,rfl,hown,hCh⟩:=hrel
  have hln:=HI.out.1
  by_cases hlt:k < n
  {
 obtain ⟨b,off,rfl⟩:=HI.out.some (by omega)
 obtain ⟨x,hx⟩:∃x,ks[k]?=some x:=⟨_,List.getElem?_eq_getElem (by omega)⟩
 have hI:=HI.out.keep (C1.out.trans hCh (fun _ _ h=>h)) (fun _ _ _=>id) (fun _ _ h=>h)
 have c0:wr.cell? ⟨b,off+k * 4,none⟩=some (.int .u64 (hdl x.at')):=hI.at k x hx 0 _ rfl
 have c1:wr.cell? ⟨b,off+k * 4+1,none⟩=some (.int .i64 x.m.b):=hI.at k x hx 1 _ rfl
 have c2:wr.cell? ⟨b,off+k * 4+2,none⟩=some (.int .i64 x.m.r):=hI.at k x hx 2 _ rfl
 have c3:wr.cell? ⟨b,off+k * 4+3,none⟩=some (.int .i64 x.m.l):=hI.at k x hx 3 _ rfl
 have htk:((ks.map Kd.m).take (k+1)).flatMap Ms.cells=((ks.map Kd.m).take k).flatMap Ms.cells++x.m.cells:=by
  have hm:(ks.map Kd.m)[k]?=some x.m:=by rw [List.getElem?_map,hx];rfl
  have hkl:=List.getElem?_eq_some_iff.1 hm
  rw [List.take_succ_eq_append_getElem hkl.1,hkl.2,ms_snoc]
 have HTK:=hid htk
 have HCH:=hid hCh
 obtain ⟨y1,y2⟩:=dc_ltT (a:=k) (b:=n) (by omega)
 obtain ⟨A0,cap0,hv0,_⟩:=own_slice hown
 subst hv0
 clear hI hx hCh htk
 go_wp2_with (at_builtin;refine wpList_app _ rfl (.tmp 19) (.tmp 22) 281 rfl W1.heap.size 36 i0 _ 3 24 Tryz.underlying281 hi hz0 hz1 hz2 rfl (by decide) _ _ _ rfl ((hown.alloc _).alloc _) ⟨wr.heap.size+1,0,none⟩ 1 1 x.m.cells rfl rfl ?c1 ?c2 (by decide) ?c3 ?c4 ?c5 ?c6)
 case c1=>
  intro j u hu
  rw [addr_add0]
  have t:=(Blk.new (wr.alloc (.cells #[.int .u64 (hdl x.at'),.int .i64 x.m.b,.int .i64 x.m.r,.int .i64 x.m.l] 266)) 36 #[.int .i64 x.m.b,.int .i64 x.m.r,.int .i64 x.m.l]).cell j
  simp only [show (wr.alloc (.cells #[.int .u64 (hdl x.at'),.int .i64 x.m.b,.int .i64 x.m.r,.int .i64 x.m.l] 266)).heap.size=wr.heap.size+1 by simp] at t
  rw [t]
  simpa [Ms.cells] using hu
 case c2=>exact fun u hu=>ms_one [x.m] u (by simpa using hu)
 case c3=>unfold maxLen;omega
 case c4=>omega
 case c5=>exact Nat.le_trans HCH.out.size (by simp;omega)
 case c6=>
  intro v' w' hown' hgrow hfresh
  have hch':Ch (fun _=>False) W1 w':=((HCH.out.alloc _).alloc _).grown hgrow (fun g hg hl=>by
   have:=(hown.lt g hg).1
   omega)
  go_wp2_with fail
  go_roundw
  case rel=>exact ⟨k+1,by omega,by go_num,by rw [HTK.out];exact hown',hch'⟩
  case measure=>simp [intOf];omega
 }
  {
 obtain rfl:n=k:=by omega
 have y1:decide (n < n)=false:=decide_eq_false (by omega)
 have hml:(ks.map Kd.m).length=n:=by rw [List.length_map];exact hln
 rw [List.take_of_length_le (Nat.le_of_eq hml)] at hown
 obtain ⟨A0,cap0,hv0,_⟩:=own_slice hown
 subst hv0
 have hIP:InP Ms.cells 3 wr (fun _=>True) A0 n (ks.map Kd.m):=InP.ofOwn (cells:=Ms.cells) (fun _=>rfl) hml hown _ (fun _ _ _=>trivial)
 have HIP:=hid hIP
 have C2:=hid (C1.out.trans hCh (fun _ _ h=>h))
 have R2:=hid (hCh.blk R1.out id)
 clear hown hIP hCh R1 C1
 go_wp2_with fail
 refine (madd_any (fun _=>True) A0 n cap0 (ks.map Kd.m) wr HIP.out (by intro m hm;obtain ⟨k,hk,rfl⟩:=List.mem_map.1 hm;exact HOK.out k hk) (by omega)).mono ?_
 rintro e w3 ⟨rfl,hc⟩
 have C3:=hid (C2.out.trans hc (fun _ _ h=>h))
 have R3:=hc.blk R2.out id
 clear hc
 simp only [Ms.v]
 obtain ⟨r0,r1,r2⟩:=R3.c3
 obtain ⟨s0',s1',s2'⟩:=R3.f3
 go_wp2_with fail
 refine at_world fun WZ hWZ=>?_
 have CZ:=hid (show Ch (fun k=>k=(w.heap.size+1)) w3 WZ from by rw [hWZ];exact ((((Ch.refl (fun k=>k=(w.heap.size+1)) w3).set (fun _=>rfl) _).set (fun _=>rfl) _).set (fun _=>rfl) _))
 have BZ:=hid (show Blk WZ (w.heap.size+1) 36 #[.int .i64 (msum (ks.map Kd.m)).b,.int .i64 (msum (ks.map Kd.m)).r,.int .i64 (msum (ks.map Kd.m)).l] from by rw [hWZ];exact (((R3.put 0 _).put 1 _).put 2 _))
 clear hWZ r0 s0' r1 s1' r2 s2'
 obtain ⟨t0,t1,t2⟩:=BZ.out.c3
 have hck:Ch (fun _=>False) w WZ:=C3.out.trans CZ.out (fun i hi e=>absurd hi (by omega))
 refine bodyPost_ret (v:=.agg #[.int .i64 (msum (ks.map Kd.m)).b,.int .i64 (msum (ks.map Kd.m)).r,.int .i64 (msum (ks.map Kd.m)).l]) (by simp [results,Tryz.results165,go_sem,t0,t1,t2]) rfl ⟨rfl,hck⟩
 }
theorem nsum_any (S:Nat->Prop) (x:Nd) (a:Option Addr) (n c:Nat) (w:World) (hok:x.ok) (hI:InP Kd.cells 4 w S a n x.ks) :
  Calls Tryz.prog 165 #[x.v a n c] w fun e w'=>e=.returned x.ms.v/\Ch (fun _=>False) w w':=by
 obtain ⟨h,s,ks⟩:=x
 rcases hok with ⟨h0,h1,h2,h3⟩ | ⟨h1,h2,h3,h4,h5,h6,h7⟩
 ·simp only at h0 h1 h2 h3
  subst h0 h3
  exact sum_leaf s _ (by omega) w
 ·simp only at h1 h2 h3 h4 h5 h6 h7
  have hl:ks.length=n:=hI.1
  have t:=sum_node S h s a n c ks w h1 h2 hI (by omega) (fun k hk=>(h6 k hk).ms)
  unfold Nd.ms
  simp only
  rw [if_neg (by omega)]
  exact t
theorem nformed_any (S:Nat->Prop) (x:Nd) (a:Option Addr) (n c:Nat) (w:World) (hok:x.ok) (hI:InP Kd.cells 4 w S a n x.ks) :
  Calls Tryz.prog 164 #[x.v a n c] w fun e w'=>e=.returned (.bool true)/\Ch (fun _=>False) w w':=by
 obtain ⟨h,s,ks⟩:=x
 rcases hok with ⟨h0,h1,h2,h3⟩ | ⟨h1,h2,h3,h4,h5,h6,h7⟩
 ·simp only at h0 h1 h2 h3
  subst h0 h3
  obtain rfl:0=n:=hI.1
  exact formed_leaf s a c h1 h2 w
 ·simp only at h1 h2 h3 h4 h5 h6 h7
  subst h3
  have hl:ks.length=n:=hI.1
  exact formed_node S h a n c ks w h1 h2 hI (by omega) (by omega) h6
theorem filter_le (p q:Int->Bool) (h:∀b,p b=true->q b=true):∀l:List Int,(l.filter p).length<=(l.filter q).length
 | []=>Nat.le_refl _
 | b::l=>by
  have t:=filter_le p q h l
  by_cases hp:p b=true
  ·simp [hp,h b hp];exact t
  ·by_cases hq:q b=true
   ·simp [hp,hq];omega
   ·simp [hp,hq];exact t
theorem cntP_len (p:Int->Bool) (s:ByteArray):(cntP p (bs s):Int)<=s.size:=by have:=cntP_le p (bs s);rw [bs_length] at this;omega
theorem mOf_ok (s:ByteArray) (h:s.size<=1000000):(mOf s).ok:=by
 refine ⟨by simp only [mOf];omega,?_,cntP_len _ s,by simp only [mOf];omega⟩
 simp only [mOf]
 have:cntP (fun b=>b == 10) (bs s)<=cntP begB (bs s):=by
  unfold cntP
  refine filter_le _ _ ?_ _
  intro b hb
  simp at hb
  subst hb
  rfl
 omega
theorem Nd.ok.ms {x:Nd} (h:x.ok):0<=x.ms.l/\x.ms.l<=x.ms.r/\x.ms.r<=x.ms.b/\x.ms.b<=65536:=by
 unfold Nd.ms
 rcases h with ⟨h0,h1,h2,h3⟩ | ⟨h1,h2,h3,h4,h5,h6,h7⟩
 ·rw [if_pos h0]
  obtain ⟨a,b,c,_⟩:=mOf_ok x.s (by omega)
  exact ⟨a,b,c,by simp only [mOf];omega⟩
 ·rw [if_neg (by omega)]
  obtain ⟨a,b,c,_⟩:=msum_ok (x.ks.map Kd.m) (fun m hm=>by obtain ⟨k,hk,rfl⟩:=List.mem_map.1 hm;exact (h6 k hk).ms)
  exact ⟨a,b,c,h7⟩
theorem ncheck_any (S:Nat->Prop) (x:Nd) (a:Option Addr) (n c:Nat) (w:World) (hok:x.ok) (hI:InP Kd.cells 4 w S a n x.ks) :
  Calls Tryz.prog 150 #[x.v a n c] w fun e w'=>e=.returned (.int .i64 0)/\Ch (fun _=>False) w w':=by
 have hb:=hok.ms.2.2.2
 have d1:decide ((65536:Int) < x.ms.b)=false:=decide_eq_false (by omega)
 have HI:=hid hI
 have HOK:=hid hok
 clear hI hok
 have HV:=hid (show x.v a n c=.agg #[.int .i64 (x.h:Int),.string x.s,.slice a n c] from rfl)
 rw [HV.out]
 go_enter Tryz.func150,Tryz.ntmps150
 go_wp2_with fail
 refine calls_world fun W1 hW1=>?_
 have C1:=hid (show Ch (fun _=>False) w W1 from by rw [hW1];exact (Ch.refl _ w).alloc _)
 have B1:=hid (show Blk W1 w.heap.size 229 #[.int .i64 (x.h:Int),.string x.s,.slice a n c] from by rw [hW1];exact Blk.new w _ _)
 clear hW1
 refine (nformed_any S x a n c W1 HOK.out (HI.out.keep C1.out (fun _ _ _=>id) (fun _ _ h=>h))).mono ?_
 rintro e w2 ⟨rfl,hc⟩
 have C2:=hid (C1.out.trans hc (fun _ _ h=>h))
 have B2:=hid (hc.blk B1.out id)
 obtain ⟨r0,r1,r2⟩:=B2.out.c3
 clear hc
 go_wp2_with fail
 refine (nsum_any S x a n c w2 HOK.out (HI.out.keep C2.out (fun _ _ _=>id) (fun _ _ h=>h))).mono ?_
 rintro e w3 ⟨rfl,hc⟩
 have hfd:∀W:World,(Instr.field 36 (.agg #[.int .i64 x.ms.b,.int .i64 x.ms.r,.int .i64 x.ms.l]) 0).run Tryz.prog W=.ok (.int .i64 x.ms.b) W:=fun W=>by kernel_rfl
 simp only [Ms.v]
 go_wp2_with fail
 go_ret
 exact ⟨rfl,C2.out.trans hc (fun _ _ h=>h)⟩
theorem nmeas_any (S:Nat->Prop) (x:Nd) (a:Option Addr) (n c:Nat) (w:World) (hok:x.ok) (hI:InP Kd.cells 4 w S a n x.ks) :
  Calls Tryz.prog 159 #[x.v a n c] w fun e w'=>e=.returned (.tuple #[x.ms.v,.int .i64 0])/\Ch (fun _=>False) w w':=by
 have HI:=hid hI
 have HOK:=hid hok
 clear hI hok
 have HV:=hid (show x.v a n c=.agg #[.int .i64 (x.h:Int),.string x.s,.slice a n c] from rfl)
 rw [HV.out]
 go_enter Tryz.func159,Tryz.ntmps159
 go_wp2_with fail
 refine calls_world fun W1 hW1=>?_
 have C1:=hid (show Ch (fun _=>False) w W1 from by rw [hW1];exact ((Ch.refl _ w).alloc _).alloc _)
 have B1:=hid (show Blk W1 w.heap.size 229 #[.int .i64 (x.h:Int),.string x.s,.slice a n c] from by rw [hW1];exact (Blk.new w _ _).alloc _)
 have R1:=hid (show Blk W1 (w.heap.size+1) 36 #[.int .i64 0,.int .i64 0,.int .i64 0] from by
  rw [hW1]
  have t:=Blk.new (w.alloc (.cells #[.int .i64 (x.h:Int),.string x.s,.slice a n c] 229)) 36 #[.int .i64 0,.int .i64 0,.int .i64 0]
  simpa using t)
 clear hW1
 refine (ncheck_any S x a n c W1 HOK.out (HI.out.keep C1.out (fun _ _ _=>id) (fun _ _ h=>h))).mono ?_
 rintro e w2 ⟨rfl,hc⟩
 have C2:=hid (C1.out.trans hc (fun _ _ h=>h))
 have B2:=hid (hc.blk B1.out id)
 have R2:=hid (hc.blk R1.out id)
 obtain ⟨r0,r1,r2⟩:=B2.out.c3
 clear hc R1
 go_wp2_with fail
 refine (nsum_any S x a n c w2 HOK.out (HI.out.keep C2.out (fun _ _ _=>id) (fun _ _ h=>h))).mono ?_
 rintro e w3 ⟨rfl,hc⟩
 have C3:=hid (C2.out.trans hc (fun _ _ h=>h))
 have R3:=hc.blk R2.out id
 clear hc r0 r1 r2
 simp only [Ms.v]
 obtain ⟨r0,r1,r2⟩:=R3.c3
 obtain ⟨s0',s1',s2'⟩:=R3.f3
 go_wp2_with fail
 refine at_world fun WZ hWZ=>?_
 have CZ:=hid (show Ch (fun k=>k=(w.heap.size+1)) w3 WZ from by rw [hWZ];exact ((((Ch.refl (fun k=>k=(w.heap.size+1)) w3).set (fun _=>rfl) _).set (fun _=>rfl) _).set (fun _=>rfl) _))
 have BZ:=hid (show Blk WZ (w.heap.size+1) 36 #[.int .i64 x.ms.b,.int .i64 x.ms.r,.int .i64 x.ms.l] from by rw [hWZ];exact (((R3.put 0 _).put 1 _).put 2 _))
 clear hWZ r0 s0' r1 s1' r2 s2'
 obtain ⟨t0,t1,t2⟩:=BZ.out.c3
 have hck:Ch (fun _=>False) w WZ:=C3.out.trans CZ.out (fun i hi e=>absurd hi (by omega))
 refine bodyPost_ret (v:=.tuple #[.agg #[.int .i64 x.ms.b,.int .i64 x.ms.r,.int .i64 x.ms.l],.int .i64 0]) (by simp [results,Tryz.results159,go_sem,t0,t1,t2]) rfl ⟨rfl,hck⟩
end Go.Proofs.YtjcdknhejcbpiaaGreat
