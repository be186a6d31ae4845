/- Lemmas; no condition. -/
import Derived.Test.YtjcdknhejcbpiaaGreatSb45
set_option maxRecDepth 100000
set_option maxHeartbeats 8000000
namespace Go.Proofs.YtjcdknhejcbpiaaGreat
open Go.RowKit
set_option linter.unusedVariables false
set_option linter.unusedSimpArgs false
set_option linter.unusedSectionVars false
def keepE (x:EvR):Bool:=!(x.d.tmod 8 == 7 && (((x.s.size:Int) % 4) != 0))
theorem keep_take {l:List EvR} {k:Nat} {x:EvR} (h:l[k]?=some x):(l.take (k+1)).filter keepE=(l.take k).filter keepE++(if keepE x then [x] else []):=by
 have hkl:=List.getElem?_eq_some_iff.1 h
 rw [List.take_succ_eq_append_getElem hkl.1,hkl.2,List.filter_append]
 cases e:keepE x <;> simp [e]
theorem ev_len (x:EvR):x.cells.length=10:=rfl
theorem infoEvR:(Tryz.prog.info? 29).map (fun i=>(i.zero.map Value.cells,i.size,i.bytes))=some (some #[.int .u8 0,.int .u8 0,.int .i64 0,.int .i64 0,.int .i64 0,.int .u32 0,.int .u8 0,.string ⟨#[]⟩,.string ⟨#[]⟩,.slice none 0 0],10,104):=by kernel_rfl
theorem info_partsC {P:Program} {t:TypeId} {z:Array Value} {n m:Nat} (h:(P.info? t).map (fun i=>(i.zero.map Value.cells,i.size,i.bytes))=some (some z,n,m)):∃i v,P.info? t=some i/\i.zero=some v/\i.size=n/\i.bytes=m/\v.cells=z:=by
 cases e:P.info? t with
 | none=>rw [e] at h;cases h
 | some i=>
  rw [e] at h
  injection h with h
  injection h with h1 h2
  injection h2 with h2 h3
  cases e2:i.zero with
  | none=>rw [e2] at h1;cases h1
  | some v=>
   rw [e2] at h1
   injection h1 with h1
   exact ⟨i,v,rfl,e2,h2,h3,h1⟩
theorem shows_walk (s:ByteArray) (rd:Int) (a:Option Addr) (nn c:Nat) (l:List EvR) (w0:World) (h:InEvR w0 a nn l) (hs:s.size<=maxLen) :
  Calls Tryz.prog 3 #[.string s,.int .i64 rd,.slice a nn c] w0 fun e w'=>e=.returned (.bool true)/\Below w0.heap.size w0 w':=by
 obtain ⟨i0,zv,hi,hz0,hz1,hz2,hzc⟩:=info_partsC infoEvR
 have hzs:zv.cells.size=10:=by rw [hzc];rfl
 have HE:=hid h
 have HSM:=hid hs
 clear h hs
 go_enter Tryz.func3,Tryz.ntmps3
 go_wp2_with fail
 refine (lshort_any s rd a nn c l w0 HE.out HSM.out).mono ?_
 rintro e w1 ⟨b,rfl,hb1,hsp⟩
 have HB1:=hid hb1
 cases b with
 | false=>
  go_wp2_with fail
  go_ret
  exact ⟨rfl,HB1.out⟩
 | true=>
  obtain ⟨h1,h2,h3,h4,h5,h6,h7⟩:=hsp rfl
  obtain ⟨n,hn⟩:∃n:Nat,rd=(n:Int):=⟨rd.toNat,by omega⟩
  subst hn
  have HS1:=hid h1
  have HS2:=hid h2
  have HN4:=hid (show n<=4 by omega)
  have HS6:=hid h6
  have HS7:=hid h7
  have HNN:=hid h5
  clear h1 h2 h3 h4 h5 h6 h7 hsp hb1
  go_wp2_with fail
  go_loopw [7,8] (fun o i W=>∃k:Nat,k<=nn/\i=.int .i64 (k:Int)/\W.ownsRow w0.heap.size 29 10 o ((l.take k).filter keepE).length (((l.take k).filter keepE).flatMap EvR.cells)/\Below w0.heap.size w0 W) (fun _ i _=>nn - (intOf i).toNat)
  case atStart=>exact ⟨0,Nat.zero_le _,rfl,World.ownsRow_nil _ _ _ _,HB1.out⟩
  case round=>
   (
 obtain ⟨k,hk,rfl,hown,hbel⟩:=hrel
 obtain ⟨A0,cap0,hv0,_⟩:=own_slice hown
 subst hv0
 have HOW:=hid hown
 have HBL:=hid hbel
 clear hown hbel
 have hnn:nn<=150:=HNN.out
 by_cases hlt:k < nn
 ·have d1:decide (k < nn)=true:=decide_eq_true hlt
  have d2:decide ((k:Int) < (nn:Int))=true:=decide_eq_true (by omega)
  obtain ⟨x,hx⟩:∃z,l[k]?=some z:=⟨_,List.getElem?_eq_getElem (by rw [HE.out.1];exact hlt)⟩
  obtain ⟨b,off,hab,hbl,hcc⟩:=HE.out.2.2 (by omega)
  subst hab
  have HX:=hid hx
  have HXO:=hid (HE.out.2.1 x (List.mem_of_getElem? hx))
  have hsz:=(HS6.out x (List.mem_of_getElem? hx)).1
  have hcell:∀j v,x.cells[j]?=some v->wr.cell? ⟨b,off+(k * 10+j),none⟩=some v:=fun j v hj=>(below_cell HBL.out (p:=⟨b,_,none⟩) hbl).trans (hcc k j x v hx hj)
  have c0:wr.cell? ⟨b,off+k * 10,none⟩=some (.int .u8 x.d):=hcell 0 _ rfl
  have c1:wr.cell? ⟨b,off+k * 10+1,none⟩=some (.int .u8 x.op.k):=hcell 1 _ rfl
  have c2:wr.cell? ⟨b,off+k * 10+2,none⟩=some (.int .i64 x.op.sl):=hcell 2 _ rfl
  have c3:wr.cell? ⟨b,off+k * 10+3,none⟩=some (.int .i64 x.op.at'):=hcell 3 _ rfl
  have c4:wr.cell? ⟨b,off+k * 10+4,none⟩=some (.int .i64 x.op.n):=hcell 4 _ rfl
  have c5:wr.cell? ⟨b,off+k * 10+5,none⟩=some (.int .u32 x.op.id):=hcell 5 _ rfl
  have c6:wr.cell? ⟨b,off+k * 10+6,none⟩=some (.int .u8 x.op.g):=hcell 6 _ rfl
  have c7:wr.cell? ⟨b,off+k * 10+7,none⟩=some (.string x.op.s):=hcell 7 _ rfl
  have c8:wr.cell? ⟨b,off+k * 10+8,none⟩=some (.string x.s):=hcell 8 _ rfl
  have c9:wr.cell? ⟨b,off+k * 10+9,none⟩=some (.slice x.ma x.mn x.mc):=hcell 9 _ rfl
  clear hcell hcc hx
  obtain ⟨xs,hxs⟩:∃z,z=(l.take k).filter keepE:=⟨_,rfl⟩
  have hxl:xs.length<=nn:=by rw [hxs];exact Nat.le_trans (List.length_filter_le _ _) (by rw [List.length_take];omega)
  rw [<-hxs] at HOW |-
  have HKT:=hid (show (l.take (k+1)).filter keepE=xs++(if keepE x then [x] else []) from by rw [hxs];exact keep_take HX.out)
  clear hxs
  cases hb7:(x.d.tmod 8 == 7) with
  | true=>
   cases hb4:(((x.s.size:Int) % 4) != 0) with
   | true=>
    have HKE:=hid (show keepE x=false from by unfold keepE;rw [hb7,hb4];rfl)
    go_wp2_with fail
    go_roundw
    case rel=>exact ⟨k+1,hlt,by go_num,by rw [HKT.out,HKE.out,if_neg (by decide),List.append_nil];exact HOW.out.alloc _,HBL.out.trans ((((Ch.refl (fun _=>False) wr).alloc _).belowB HBL.out.size (fun _ _ h=>h.elim)))⟩
    case measure=>simp [intOf];omega
   | false=>
    have HKE:=hid (show keepE x=true from by unfold keepE;rw [hb7,hb4];rfl)
    go_wp2_with (at_builtin;refine wpList_app _ rfl (.tmp 36) (.tmp 38) 22 rfl w0.heap.size 29 i0 _ 10 104 Tryz.underlying22 hi hz0 hz1 hz2 hzs (by decide) _ _ _ rfl ((HOW.out.alloc _).alloc _) ⟨wr.heap.size+1,0,none⟩ 1 1 x.cells rfl rfl ?c1 ?c2 (by decide) ?c3 ?c4 ?c5 ?c6)
    case c1=>
     intro j u hu
     rw [addr_add0]
     have hb:Blk ((wr.alloc (.cells x.cells.toArray 29)).alloc (.cells x.cells.toArray 29)) (wr.heap.size+1) 29 x.cells.toArray:=by
      have:=Blk.new (wr.alloc (.cells x.cells.toArray 29)) 29 x.cells.toArray
      simpa using this
     exact (hb.cell j).trans (by rw [List.getElem?_toArray];exact hu)
    case c2=>intro u hu;simp [EvR.cells] at hu;rcases hu with rfl | rfl | rfl | rfl | rfl | rfl | rfl | rfl | rfl | rfl <;> rfl
    case c3=>have:=HNN.out;unfold maxLen;omega
    case c4=>have:=HNN.out;omega
    case c5=>have:=HBL.out.size;simp;omega
    case c6=>
     intro v' w5 hown' hgrow hfresh
     have HO':=hid hown'
     have HB':=hid (show Below w0.heap.size w0 w5 from HBL.out.trans ((((Ch.refl (fun k=>(Value.slice A0 xs.length cap0).ownBlock=some k) wr).alloc _).alloc _ |>.grown hgrow (fun k hk _=>hk)).belowB HBL.out.size (fun k _ hk=>(HOW.out.lt k hk).1)))
     clear hown' hgrow hfresh
     go_wp2_with fail
     go_roundw
     case rel=>exact ⟨k+1,hlt,by go_num,by rw [HKT.out,HKE.out,if_pos (by decide),List.length_append,List.length_singleton,List.flatMap_append];exact HO'.out,HB'.out⟩
     case measure=>simp [intOf];omega
  | false=>
   have HKE:=hid (show keepE x=true from by unfold keepE;rw [hb7];rfl)
   go_wp2_with (at_builtin;refine wpList_app _ rfl (.tmp 36) (.tmp 38) 22 rfl w0.heap.size 29 i0 _ 10 104 Tryz.underlying22 hi hz0 hz1 hz2 hzs (by decide) _ _ _ rfl ((HOW.out.alloc _).alloc _) ⟨wr.heap.size+1,0,none⟩ 1 1 x.cells rfl rfl ?c1 ?c2 (by decide) ?c3 ?c4 ?c5 ?c6)
   case c1=>
    intro j u hu
    rw [addr_add0]
    have hb:Blk ((wr.alloc (.cells x.cells.toArray 29)).alloc (.cells x.cells.toArray 29)) (wr.heap.size+1) 29 x.cells.toArray:=by
     have:=Blk.new (wr.alloc (.cells x.cells.toArray 29)) 29 x.cells.toArray
     simpa using this
    exact (hb.cell j).trans (by rw [List.getElem?_toArray];exact hu)
   case c2=>intro u hu;simp [EvR.cells] at hu;rcases hu with rfl | rfl | rfl | rfl | rfl | rfl | rfl | rfl | rfl | rfl <;> rfl
   case c3=>have:=HNN.out;unfold maxLen;omega
   case c4=>have:=HNN.out;omega
   case c5=>have:=HBL.out.size;simp;omega
   case c6=>
    intro v' w5 hown' hgrow hfresh
    have HO':=hid hown'
    have HB':=hid (show Below w0.heap.size w0 w5 from HBL.out.trans ((((Ch.refl (fun k=>(Value.slice A0 xs.length cap0).ownBlock=some k) wr).alloc _).alloc _ |>.grown hgrow (fun k hk _=>hk)).belowB HBL.out.size (fun k _ hk=>(HOW.out.lt k hk).1)))
    clear hown' hgrow hfresh
    go_wp2_with fail
    go_roundw
    case rel=>exact ⟨k+1,hlt,by go_num,by rw [HKT.out,HKE.out,if_pos (by decide),List.length_append,List.length_singleton,List.flatMap_append];exact HO'.out,HB'.out⟩
    case measure=>simp [intOf];omega
 ·obtain rfl:k=nn:=by omega
  obtain ⟨d1,d2⟩:=dc_ltF (a:=k) (b:=k) (by omega)
  have htk:l.take k=l:=List.take_of_length_le (by rw [HE.out.1];exact Nat.le_refl _)
  rw [htk] at HOW |-
  obtain ⟨m,hm⟩:∃z,z=(l.filter keepE).length:=⟨_,rfl⟩
  rw [<-hm] at HOW |-
  have hml:m<=150:=by rw [hm];exact Nat.le_trans (List.length_filter_le _ _) (by rw [HE.out.1];exact HNN.out)
  have HM:=hid hm
  have hin:InEvR wr A0 m (l.filter keepE):=by
   refine ⟨HM.out.symm,fun x hx=>(HE.out.2.1 x (List.mem_filter.1 hx).1).below HBL.out,fun h0=>?_⟩
   obtain ⟨g,cap,hv,_,_,_,hg⟩:=own_form HOW.out h0
   injection hv with hA
   subst hA
   refine ⟨g,0,rfl,hg,fun i j x v hi hj=>?_⟩
   have:=HOW.out.cells (g:=g) rfl (i * 10+j) v (flatP ev_len _ i j x v hi hj)
   rw [addr_add0] at this
   rw [Nat.zero_add]
   exact this
  have HIN:=hid hin
  have HML:=hid hml
  clear hin hm hml htk
  go_wp2_with fail
  refine (walk_any s n A0 m cap0 (l.filter keepE) wr HIN.out HS1.out HS2.out HN4.out HML.out (fun x hx=>HS6.out x (List.mem_filter.1 hx).1) (Nat.le_trans ?_ HS7.out)).mono ?_
  ·unfold cnt6
   exact (List.Sublist.filter _ List.filter_sublist).length_le
  ·rintro e w3 ⟨rfl,hb⟩
   have HB3:=hid (HBL.out.trans (hb.mono HBL.out.size))
   clear hb
   go_wp2_with fail
   go_ret
   exact ⟨rfl,HB3.out⟩
 )
end Go.Proofs.YtjcdknhejcbpiaaGreat
