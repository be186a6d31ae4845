/- Lemmas; no condition. -/
import Derived.Test.YtjcdknhejcbpiaaGreatSb05
import Derived.Test.YtjcdknhejcbpiaaGreatRows
import Derived.BigGuardPart
import Derived.ProofKit
import Derived.OpenShut
import Derived.ShutString
import Derived.ChangeOld
import Derived.Below
import Derived.Deep.Slices
import Derived.Deep.Fields
import Derived.ChangeSame
import Derived.Laws.CopyOwn
set_option maxRecDepth 100000
set_option maxHeartbeats 400000
namespace Go.Proofs.YtjcdknhejcbpiaaGreat
open Go.RowKit
set_option linter.unusedVariables false
def ofInts (zs:List Int):ByteArray:=⟨(zs.map fun z=>UInt8.ofNat z.toNat).toArray⟩
theorem bs_ofInts (zs:List Int) (h:∀z ∈ zs,0<=z/\z < 256):bs (ofInts zs)=zs:=by
 unfold bs ofInts
 simp only [List.map_map]
 conv=>rhs;rw [<-List.map_id zs]
 apply List.map_congr_left
 intro z hz
 have:=h z hz
 simp only [Function.comp,UInt8.toNat_ofNat',id]
 omega
theorem bs_inj {a b:ByteArray} (h:bs a=bs b):a=b:=by
 apply ByteArray.ext
 apply Array.toList_inj.1
 unfold bs at h
 have hl:a.data.toList.length=b.data.toList.length:=by simpa using congrArg List.length h
 apply List.ext_getElem hl
 intro i h1 h2
 have h3:((a.data.toList.map fun c=>(c.toNat:Int)))[i]'(by simpa using h1)=((b.data.toList.map fun c=>(c.toNat:Int)))[i]'(by simpa using h2):=by simp only [h]
 simp only [List.getElem_map] at h3
 exact UInt8.toNat_inj.1 (by omega)
theorem conv_bytes (w:World) (zs:List Int) (hz:∀z ∈ zs,0<=z/\z < 256) (n cap:Nat) (hn:zs.length=n) (b:Nat) (hc:∀(j:Nat) z,zs[j]?=some z->w.cell? ⟨b,j,none⟩=some (.int .u8 z)) :
  Sem.run Tryz.prog (convert 27 9 (.slice (some ⟨b,0,none⟩) n cap)) w=.ok (.string (ofInts zs)) w:=by
 have h:=run_convert_bytes_back (P:=Tryz.prog) w 27 9 5 ⟨b,0,none⟩ cap (zs.map fun z=>UInt8.ofNat z.toNat) Tryz.underlying27 Tryz.underlying5 Tryz.underlying9 ?_
 ·rw [List.length_map,hn] at h
  exact h
 ·intro j hj
  rw [addr_add0]
  have hj':j < zs.length:=by simpa using hj
  rw [hc j _ (List.getElem?_eq_getElem hj')]
  have:=hz _ (List.getElem_mem hj')
  simp only [List.getElem_map,UInt8.toNat_ofNat']
  congr 2
  omega
def encL (r:Int):List Int:=
 if r < 128 then [r] else if r < 2048 then [192+r / 64,128+r % 64] else if r < 65536 then [224+r / 4096,128+r / 64 % 64,128+r % 64]
 else [240+r / 262144,128+r / 4096 % 64,128+r / 64 % 64,128+r % 64]
def EncP (r:Int) (w:World) (e:Ending) (w':World):Prop:=e=.returned (.tuple #[.string (ofInts (encL r)),.int .i64 0])/\Below w.heap.size w w'
theorem enc1_any (r:Int) (w:World) (hr:runeB r=true) (h1:0<=r) (h2:r < 128):Calls Tryz.prog 89 #[.int .i64 r] w (EncP r w):=by
 have he:encL r=[r]:=by
  unfold encL
  repeat (first | rw [if_pos (by omega)] | rw [if_neg (by omega)])
 unfold EncP
 rw [he]
 have hcv:=conv_bytes (w.alloc (.cells #[.int .u8 (r)] 5)) [r] (by intro z hz;simp at hz;omega) 1 1 rfl w.heap.size (by intro j z hj;rw [(Blk.new w 5 _).cell j];match j,hj with | 0,hj=>simp at hj |-;exact hj | j+1,hj=>simp at hj)
 generalize ofInts [r]=S at hcv |-
 clear he
 go_enter Tryz.func89,Tryz.ntmps89
 go_wp2_with fail
 refine (rrune_any _ _).mono ?_
 rintro e w0 ⟨rfl,rfl⟩
 rw [hr]
 go_wp2_with fail
 go_ret2
 exact ⟨rfl,(Below.refl _ _).alloc (Nat.le_refl _) _⟩
theorem enc2_any (r:Int) (w:World) (hr:runeB r=true) (h1:128<=r) (h2:r < 2048):Calls Tryz.prog 89 #[.int .i64 r] w (EncP r w):=by
 have he:encL r=[192+r / 64,128+r % 64]:=by
  unfold encL
  repeat (first | rw [if_pos (by omega)] | rw [if_neg (by omega)])
 unfold EncP
 rw [he]
 have hcv:=conv_bytes (w.alloc (.cells #[.int .u8 (192+r / 64),.int .u8 (128+r % 64)] 5)) [192+r / 64,128+r % 64] (by intro z hz;simp at hz;rcases hz with rfl | rfl <;> omega) 2 2 rfl w.heap.size (by intro j z hj;rw [(Blk.new w 5 _).cell j];match j,hj with | 0,hj=>simp at hj |-;exact hj | 1,hj=>simp at hj |-;exact hj | j+2,hj=>simp at hj)
 generalize ofInts [192+r / 64,128+r % 64]=S at hcv |-
 clear he
 go_enter Tryz.func89,Tryz.ntmps89
 go_wp2_with fail
 refine (rrune_any _ _).mono ?_
 rintro e w0 ⟨rfl,rfl⟩
 rw [hr]
 go_wp2_with fail
 go_ret2
 exact ⟨rfl,(Below.refl _ _).alloc (Nat.le_refl _) _⟩
theorem enc3_any (r:Int) (w:World) (hr:runeB r=true) (h1:2048<=r) (h2:r < 65536):Calls Tryz.prog 89 #[.int .i64 r] w (EncP r w):=by
 have he:encL r=[224+r / 4096,128+r / 64 % 64,128+r % 64]:=by
  unfold encL
  repeat (first | rw [if_pos (by omega)] | rw [if_neg (by omega)])
 unfold EncP
 rw [he]
 have hcv:=conv_bytes (w.alloc (.cells #[.int .u8 (224+r / 4096),.int .u8 (128+r / 64 % 64),.int .u8 (128+r % 64)] 5)) [224+r / 4096,128+r / 64 % 64,128+r % 64] (by intro z hz;simp at hz;rcases hz with rfl | rfl | rfl <;> omega) 3 3 rfl w.heap.size (by intro j z hj;rw [(Blk.new w 5 _).cell j];match j,hj with | 0,hj=>simp at hj |-;exact hj | 1,hj=>simp at hj |-;exact hj | 2,hj=>simp at hj |-;exact hj | j+3,hj=>simp at hj)
 generalize ofInts [224+r / 4096,128+r / 64 % 64,128+r % 64]=S at hcv |-
 clear he
 go_enter Tryz.func89,Tryz.ntmps89
 go_wp2_with fail
 refine (rrune_any _ _).mono ?_
 rintro e w0 ⟨rfl,rfl⟩
 rw [hr]
 go_wp2_with fail
 go_ret2
 exact ⟨rfl,(Below.refl _ _).alloc (Nat.le_refl _) _⟩
theorem enc4_any (r:Int) (w:World) (hr:runeB r=true) (h1:65536<=r) (h2:r<=1114111):Calls Tryz.prog 89 #[.int .i64 r] w (EncP r w):=by
 have he:encL r=[240+r / 262144,128+r / 4096 % 64,128+r / 64 % 64,128+r % 64]:=by
  unfold encL
  repeat (first | rw [if_pos (by omega)] | rw [if_neg (by omega)])
 unfold EncP
 rw [he]
 have hcv:=conv_bytes (w.alloc (.cells #[.int .u8 (240+r / 262144),.int .u8 (128+r / 4096 % 64),.int .u8 (128+r / 64 % 64),.int .u8 (128+r % 64)] 5)) [240+r / 262144,128+r / 4096 % 64,128+r / 64 % 64,128+r % 64] (by intro z hz;simp at hz;rcases hz with rfl | rfl | rfl | rfl <;> omega) 4 4 rfl w.heap.size (by intro j z hj;rw [(Blk.new w 5 _).cell j];match j,hj with | 0,hj=>simp at hj |-;exact hj | 1,hj=>simp at hj |-;exact hj | 2,hj=>simp at hj |-;exact hj | 3,hj=>simp at hj |-;exact hj | j+4,hj=>simp at hj)
 generalize ofInts [240+r / 262144,128+r / 4096 % 64,128+r / 64 % 64,128+r % 64]=S at hcv |-
 clear he
 go_enter Tryz.func89,Tryz.ntmps89
 go_wp2_with fail
 refine (rrune_any _ _).mono ?_
 rintro e w0 ⟨rfl,rfl⟩
 rw [hr]
 go_wp2_with fail
 go_ret2
 exact ⟨rfl,(Below.refl _ _).alloc (Nat.le_refl _) _⟩
theorem enc_bad (r:Int) (w:World) (hr:runeB r=false):Calls Tryz.prog 89 #[.int .i64 r] w fun e w'=>e=.returned (.tuple #[.string ⟨#[]⟩,.int .i64 2])/\w=w':=by
 go_enter Tryz.func89,Tryz.ntmps89
 go_wp2_with fail
 refine (rrune_any _ _).mono ?_
 rintro e w0 ⟨rfl,rfl⟩
 rw [hr]
 go_wp2_with fail
 go_ret2
 exact ⟨rfl,rfl⟩
theorem runeB_bd {r:Int} (h:runeB r=true):0<=r/\r<=1114111:=by simp [runeB] at h;omega
theorem enc_any (r:Int) (w:World) (hr:runeB r=true):Calls Tryz.prog 89 #[.int .i64 r] w (EncP r w):=by
 have:=runeB_bd hr
 by_cases h1:r < 128
 ·exact enc1_any r w hr (by omega) h1
 ·by_cases h2:r < 2048
  ·exact enc2_any r w hr (by omega) h2
  ·by_cases h3:r < 65536
   ·exact enc3_any r w hr (by omega) h3
   ·exact enc4_any r w hr (by omega) (by omega)
def racc (l:List Int) (x:Int):Nat->Int
 | 0=>0
 | 1=>x
 | k+2=>64 * racc l x (k+1)+lk l (k+1) - 128
theorem racc_succ (l:List Int) (x:Int) (k:Nat) (h:1<=k):racc l x (k+1)=64 * racc l x k+lk l k - 128:=by
 obtain ⟨k,rfl⟩:∃j,k=j+1:=⟨k - 1,by omega⟩
 rfl
theorem bs_take (s:ByteArray) (n:Nat):bs (s.extract 0 n)=(bs s).take n:=by
 unfold bs
 rw [<-List.map_take]
 congr 1
 simp [ByteArray.data_extract]
theorem eqb_of {a b:ByteArray} (h:bs a=bs b):(a.toList == b.toList)=true:=by rw [bs_inj h];simp
theorem eqb_not {a b:ByteArray} (h:bs a≠bs b):(a.toList == b.toList)=false:=by
 cases hx:(a.toList == b.toList) with
 | false=>rfl
 | true=>
  have h1:=eq_of_beq hx
  rw [ByteArray.toList_eq,ByteArray.toList_eq] at h1
  exact absurd (by unfold bs;rw [h1]) h
theorem encL_bd {r:Int} (h:runeB r=true):∀z ∈ encL r,0<=z/\z < 256:=by
 have:=runeB_bd h
 unfold encL
 intro z hz
 split at hz
 ·simp at hz;omega
 ·split at hz
  ·simp at hz;rcases hz with rfl | rfl <;> omega
  ·split at hz
   ·simp at hz;rcases hz with rfl | rfl | rfl <;> omega
   ·simp at hz;rcases hz with rfl | rfl | rfl | rfl <;> omega
def rgood (l:List Int) (n:Nat) (x:Int):Prop:=n<=l.length/\contTo l n/\runeB (racc l x n)=true/\encL (racc l x n)=l.take n
def RDecP (l:List Int) (n:Nat) (x:Int) (w:World) (e:Ending) (w':World):Prop:=
 Below w.heap.size w w'/\(rgood l n x/\e=.returned (.tuple #[.int .i64 (racc l x n),.int .i64 n,.int .i64 0])\/¬rgood l n x/\e=.returned (.tuple #[.int .i64 0,.int .i64 0,.int .i64 11]))
theorem rdecP_bad {l:List Int} {n:Nat} {x:Int} {w w':World} (hb:Below w.heap.size w w') (h:¬rgood l n x):RDecP l n x w (.returned (.tuple #[.int .i64 0,.int .i64 0,.int .i64 11])) w':=⟨hb,.inr ⟨h,rfl⟩⟩
theorem rdec4_any (s:ByteArray) (w:World) (hs:0 < s.size) (hm:s.size<=1000000) (h1:240<=lk (bs s) 0) (h2:lk (bs s) 0 < 256) :
  Calls Tryz.prog 54 #[.string s] w (RDecP (bs s) 4 (lk (bs s) 0 - 240) w):=by
 have he:=size_data hs
 have hb:=bs_bd s 0
 have h0:=bs_get s 0 hs
 have hl0:racc (bs s) (lk (bs s) 0 - 240) 1=(lk (bs s) 0 - 240):=rfl
 go_enter Tryz.func54,Tryz.ntmps54
 go_wp2_with fail
 have H0:=hid h0
 clear h0
 go_loop [5,7] (fun r i=>∃k:Nat,1<=k/\k<=4/\i=.int .i64 k/\r=.int .i64 (racc (bs s) (lk (bs s) 0 - 240) k)/\contTo (bs s) k/\(k=1\/k<=s.size)/\0<=racc (bs s) (lk (bs s) 0 - 240) k/\racc (bs s) (lk (bs s) 0 - 240) k < (256 * 64 ^ (k - 1):Nat)) (fun _ i=>4 - (intOf i).toNat)
 case atStart=>exact ⟨1,by omega,by omega,rfl,by rw [hl0],fun j h1 h2=>by omega,by omega,by rw [hl0];omega,by rw [hl0];simp;omega⟩
 case round=>
  clear hl0 he hb
  obtain ⟨k,hk1,hkn,rfl,rfl,hct,hks,hr0,hr1⟩:=hrel
  have hr2:racc (bs s) (lk (bs s) 0 - 240) k < 67108864:=by
   have:k - 1=0\/k - 1=1\/k - 1=2\/k - 1=3:=by omega
   rcases this with h | h | h | h <;> rw [h] at hr1 <;> simp at hr1 <;> omega
  have Hct:=hid hct
  have Hr1:=hid hr1
  clear hct hr1
  by_cases hlt:k < 4
  {
 have hbk:=bs_bd s k
 by_cases hsz:k < s.size
 ·have h3:=bs_get s k hsz
  by_cases hc:cont (lk (bs s) k)=true
  {
 have hcb:=cont_bd hc
 have d1:decide (s.size<=k)=false:=by simp;omega
 have d2:decide ((s.size:Int)<=(k:Int))=false:=by simp;omega
 go_wp2_with fail
 refine (rcont_any _ _).mono ?_
 rintro e w0 ⟨rfl,rfl⟩
 rw [hc]
 go_wp2_with fail
 go_round
 case rel=>
  have hac:racc (bs s) (lk (bs s) 0 - 240) (k+1)=64 * racc (bs s) (lk (bs s) 0 - 240) k+lk (bs s) k - 128:=racc_succ _ _ _ hk1
  refine ⟨k+1,by omega,by omega,by go_num,by rw [hac],contTo_succ Hct.out hc,by omega,by rw [hac];omega,?_⟩
  rw [hac]
  have:=Hr1.out
  have e1:256 * 64 ^ (k+1 - 1)=64 * (256 * 64 ^ (k - 1)):=by
   obtain ⟨j,rfl⟩:∃j,k=j+1:=⟨k - 1,by omega⟩
   simp only [Nat.add_sub_cancel]
   rw [Nat.pow_succ]
   omega
  rw [e1]
  have e2:((64 * (256 * 64 ^ (k - 1)):Nat):Int)=64 * ((256 * 64 ^ (k - 1):Nat):Int):=by rw [Int.natCast_mul];rfl
  rw [e2]
  generalize ((256 * 64 ^ (k - 1):Nat):Int)=z at *
  omega
 case measure=>simp [intOf];omega
 }
  ·have hc':cont (lk (bs s) k)=false:=by simpa using hc
   have d1:decide (s.size<=k)=false:=by simp;omega
   have d2:decide ((s.size:Int)<=(k:Int))=false:=by simp;omega
   go_wp2_with fail
   refine (rcont_any _ _).mono ?_
   rintro e w0 ⟨rfl,rfl⟩
   rw [hc']
   go_wp2_with fail
   go_ret3
   exact rdecP_bad (Below.refl _ _) (fun h=>hc (h.2.1 k hk1 hlt))
 ·have d1:decide (s.size<=k)=true:=by simp;omega
  have d2:decide ((s.size:Int)<=(k:Int))=true:=by simp;omega
  go_wp2_with fail
  go_ret3
  exact rdecP_bad (Below.refl _ _) (fun h=>by have:=h.1;rw [bs_length] at this;omega)
 }
  {
 obtain rfl:k=4:=by omega
 have hsn:4<=s.size:=by omega
 go_wp2_with fail
 cases hr:runeB (racc (bs s) (lk (bs s) 0 - 240) 4) with
 | false=>
  refine (enc_bad _ _ hr).mono ?_
  rintro e w0 ⟨rfl,rfl⟩
  go_wp2_with fail
  go_ret3
  exact rdecP_bad (Below.refl _ _) (fun h=>by have h3:=h.2.2.1;rw [hr] at h3;cases h3)
 | true=>
  refine (enc_any _ _ hr).mono ?_
  rintro e w1 ⟨rfl,hbel⟩
  have Hr:=hid hr
  by_cases heq:encL (racc (bs s) (lk (bs s) 0 - 240) 4)=(bs s).take 4
  ·have hq:((ofInts (encL (racc (bs s) (lk (bs s) 0 - 240) 4))).toList == (s.extract 0 4).toList)=true:=eqb_of (by rw [bs_ofInts _ (encL_bd hr),bs_take,heq])
   have Hq:=hid heq
   clear heq hr
   go_wp2_with fail
   go_ret3
   exact ⟨hbel,.inl ⟨⟨by rw [bs_length];omega,Hct.out,Hr.out,Hq.out⟩,rfl⟩⟩
  ·have hq:((ofInts (encL (racc (bs s) (lk (bs s) 0 - 240) 4))).toList == (s.extract 0 4).toList)=false:=eqb_not (by rw [bs_ofInts _ (encL_bd hr),bs_take];exact heq)
   clear hr
   go_wp2_with fail
   go_ret3
   exact rdecP_bad hbel (fun h=>heq h.2.2.2)
 }
theorem rdec3_any (s:ByteArray) (w:World) (hs:0 < s.size) (hm:s.size<=1000000) (h1:224<=lk (bs s) 0) (h2:lk (bs s) 0 < 240) :
  Calls Tryz.prog 54 #[.string s] w (RDecP (bs s) 3 (lk (bs s) 0 - 224) w):=by
 have he:=size_data hs
 have hb:=bs_bd s 0
 have h0:=bs_get s 0 hs
 have hl0:racc (bs s) (lk (bs s) 0 - 224) 1=(lk (bs s) 0 - 224):=rfl
 go_enter Tryz.func54,Tryz.ntmps54
 go_wp2_with fail
 have H0:=hid h0
 clear h0
 go_loop [5,7] (fun r i=>∃k:Nat,1<=k/\k<=3/\i=.int .i64 k/\r=.int .i64 (racc (bs s) (lk (bs s) 0 - 224) k)/\contTo (bs s) k/\(k=1\/k<=s.size)/\0<=racc (bs s) (lk (bs s) 0 - 224) k/\racc (bs s) (lk (bs s) 0 - 224) k < (256 * 64 ^ (k - 1):Nat)) (fun _ i=>3 - (intOf i).toNat)
 case atStart=>exact ⟨1,by omega,by omega,rfl,by rw [hl0],fun j h1 h2=>by omega,by omega,by rw [hl0];omega,by rw [hl0];simp;omega⟩
 case round=>
  clear hl0 he hb
  obtain ⟨k,hk1,hkn,rfl,rfl,hct,hks,hr0,hr1⟩:=hrel
  have hr2:racc (bs s) (lk (bs s) 0 - 224) k < 67108864:=by
   have:k - 1=0\/k - 1=1\/k - 1=2\/k - 1=3:=by omega
   rcases this with h | h | h | h <;> rw [h] at hr1 <;> simp at hr1 <;> omega
  have Hct:=hid hct
  have Hr1:=hid hr1
  clear hct hr1
  by_cases hlt:k < 3
  {
 have hbk:=bs_bd s k
 by_cases hsz:k < s.size
 ·have h3:=bs_get s k hsz
  by_cases hc:cont (lk (bs s) k)=true
  {
 have hcb:=cont_bd hc
 have d1:decide (s.size<=k)=false:=by simp;omega
 have d2:decide ((s.size:Int)<=(k:Int))=false:=by simp;omega
 go_wp2_with fail
 refine (rcont_any _ _).mono ?_
 rintro e w0 ⟨rfl,rfl⟩
 rw [hc]
 go_wp2_with fail
 go_round
 case rel=>
  have hac:racc (bs s) (lk (bs s) 0 - 224) (k+1)=64 * racc (bs s) (lk (bs s) 0 - 224) k+lk (bs s) k - 128:=racc_succ _ _ _ hk1
  refine ⟨k+1,by omega,by omega,by go_num,by rw [hac],contTo_succ Hct.out hc,by omega,by rw [hac];omega,?_⟩
  rw [hac]
  have:=Hr1.out
  have e1:256 * 64 ^ (k+1 - 1)=64 * (256 * 64 ^ (k - 1)):=by
   obtain ⟨j,rfl⟩:∃j,k=j+1:=⟨k - 1,by omega⟩
   simp only [Nat.add_sub_cancel]
   rw [Nat.pow_succ]
   omega
  rw [e1]
  have e2:((64 * (256 * 64 ^ (k - 1)):Nat):Int)=64 * ((256 * 64 ^ (k - 1):Nat):Int):=by rw [Int.natCast_mul];rfl
  rw [e2]
  generalize ((256 * 64 ^ (k - 1):Nat):Int)=z at *
  omega
 case measure=>simp [intOf];omega
 }
  ·have hc':cont (lk (bs s) k)=false:=by simpa using hc
   have d1:decide (s.size<=k)=false:=by simp;omega
   have d2:decide ((s.size:Int)<=(k:Int))=false:=by simp;omega
   go_wp2_with fail
   refine (rcont_any _ _).mono ?_
   rintro e w0 ⟨rfl,rfl⟩
   rw [hc']
   go_wp2_with fail
   go_ret3
   exact rdecP_bad (Below.refl _ _) (fun h=>hc (h.2.1 k hk1 hlt))
 ·have d1:decide (s.size<=k)=true:=by simp;omega
  have d2:decide ((s.size:Int)<=(k:Int))=true:=by simp;omega
  go_wp2_with fail
  go_ret3
  exact rdecP_bad (Below.refl _ _) (fun h=>by have:=h.1;rw [bs_length] at this;omega)
 }
  {
 obtain rfl:k=3:=by omega
 have hsn:3<=s.size:=by omega
 go_wp2_with fail
 cases hr:runeB (racc (bs s) (lk (bs s) 0 - 224) 3) with
 | false=>
  refine (enc_bad _ _ hr).mono ?_
  rintro e w0 ⟨rfl,rfl⟩
  go_wp2_with fail
  go_ret3
  exact rdecP_bad (Below.refl _ _) (fun h=>by have h3:=h.2.2.1;rw [hr] at h3;cases h3)
 | true=>
  refine (enc_any _ _ hr).mono ?_
  rintro e w1 ⟨rfl,hbel⟩
  have Hr:=hid hr
  by_cases heq:encL (racc (bs s) (lk (bs s) 0 - 224) 3)=(bs s).take 3
  ·have hq:((ofInts (encL (racc (bs s) (lk (bs s) 0 - 224) 3))).toList == (s.extract 0 3).toList)=true:=eqb_of (by rw [bs_ofInts _ (encL_bd hr),bs_take,heq])
   have Hq:=hid heq
   clear heq hr
   go_wp2_with fail
   go_ret3
   exact ⟨hbel,.inl ⟨⟨by rw [bs_length];omega,Hct.out,Hr.out,Hq.out⟩,rfl⟩⟩
  ·have hq:((ofInts (encL (racc (bs s) (lk (bs s) 0 - 224) 3))).toList == (s.extract 0 3).toList)=false:=eqb_not (by rw [bs_ofInts _ (encL_bd hr),bs_take];exact heq)
   clear hr
   go_wp2_with fail
   go_ret3
   exact rdecP_bad hbel (fun h=>heq h.2.2.2)
 }
theorem rdec2_any (s:ByteArray) (w:World) (hs:0 < s.size) (hm:s.size<=1000000) (h1:192<=lk (bs s) 0) (h2:lk (bs s) 0 < 224) :
  Calls Tryz.prog 54 #[.string s] w (RDecP (bs s) 2 (lk (bs s) 0 - 192) w):=by
 have he:=size_data hs
 have hb:=bs_bd s 0
 have h0:=bs_get s 0 hs
 have hl0:racc (bs s) (lk (bs s) 0 - 192) 1=(lk (bs s) 0 - 192):=rfl
 go_enter Tryz.func54,Tryz.ntmps54
 go_wp2_with fail
 have H0:=hid h0
 clear h0
 go_loop [5,7] (fun r i=>∃k:Nat,1<=k/\k<=2/\i=.int .i64 k/\r=.int .i64 (racc (bs s) (lk (bs s) 0 - 192) k)/\contTo (bs s) k/\(k=1\/k<=s.size)/\0<=racc (bs s) (lk (bs s) 0 - 192) k/\racc (bs s) (lk (bs s) 0 - 192) k < (256 * 64 ^ (k - 1):Nat)) (fun _ i=>2 - (intOf i).toNat)
 case atStart=>exact ⟨1,by omega,by omega,rfl,by rw [hl0],fun j h1 h2=>by omega,by omega,by rw [hl0];omega,by rw [hl0];simp;omega⟩
 case round=>
  clear hl0 he hb
  obtain ⟨k,hk1,hkn,rfl,rfl,hct,hks,hr0,hr1⟩:=hrel
  have hr2:racc (bs s) (lk (bs s) 0 - 192) k < 67108864:=by
   have:k - 1=0\/k - 1=1\/k - 1=2\/k - 1=3:=by omega
   rcases this with h | h | h | h <;> rw [h] at hr1 <;> simp at hr1 <;> omega
  have Hct:=hid hct
  have Hr1:=hid hr1
  clear hct hr1
  by_cases hlt:k < 2
  {
 have hbk:=bs_bd s k
 by_cases hsz:k < s.size
 ·have h3:=bs_get s k hsz
  by_cases hc:cont (lk (bs s) k)=true
  {
 have hcb:=cont_bd hc
 have d1:decide (s.size<=k)=false:=by simp;omega
 have d2:decide ((s.size:Int)<=(k:Int))=false:=by simp;omega
 go_wp2_with fail
 refine (rcont_any _ _).mono ?_
 rintro e w0 ⟨rfl,rfl⟩
 rw [hc]
 go_wp2_with fail
 go_round
 case rel=>
  have hac:racc (bs s) (lk (bs s) 0 - 192) (k+1)=64 * racc (bs s) (lk (bs s) 0 - 192) k+lk (bs s) k - 128:=racc_succ _ _ _ hk1
  refine ⟨k+1,by omega,by omega,by go_num,by rw [hac],contTo_succ Hct.out hc,by omega,by rw [hac];omega,?_⟩
  rw [hac]
  have:=Hr1.out
  have e1:256 * 64 ^ (k+1 - 1)=64 * (256 * 64 ^ (k - 1)):=by
   obtain ⟨j,rfl⟩:∃j,k=j+1:=⟨k - 1,by omega⟩
   simp only [Nat.add_sub_cancel]
   rw [Nat.pow_succ]
   omega
  rw [e1]
  have e2:((64 * (256 * 64 ^ (k - 1)):Nat):Int)=64 * ((256 * 64 ^ (k - 1):Nat):Int):=by rw [Int.natCast_mul];rfl
  rw [e2]
  generalize ((256 * 64 ^ (k - 1):Nat):Int)=z at *
  omega
 case measure=>simp [intOf];omega
 }
  ·have hc':cont (lk (bs s) k)=false:=by simpa using hc
   have d1:decide (s.size<=k)=false:=by simp;omega
   have d2:decide ((s.size:Int)<=(k:Int))=false:=by simp;omega
   go_wp2_with fail
   refine (rcont_any _ _).mono ?_
   rintro e w0 ⟨rfl,rfl⟩
   rw [hc']
   go_wp2_with fail
   go_ret3
   exact rdecP_bad (Below.refl _ _) (fun h=>hc (h.2.1 k hk1 hlt))
 ·have d1:decide (s.size<=k)=true:=by simp;omega
  have d2:decide ((s.size:Int)<=(k:Int))=true:=by simp;omega
  go_wp2_with fail
  go_ret3
  exact rdecP_bad (Below.refl _ _) (fun h=>by have:=h.1;rw [bs_length] at this;omega)
 }
  {
 obtain rfl:k=2:=by omega
 have hsn:2<=s.size:=by omega
 go_wp2_with fail
 cases hr:runeB (racc (bs s) (lk (bs s) 0 - 192) 2) with
 | false=>
  refine (enc_bad _ _ hr).mono ?_
  rintro e w0 ⟨rfl,rfl⟩
  go_wp2_with fail
  go_ret3
  exact rdecP_bad (Below.refl _ _) (fun h=>by have h3:=h.2.2.1;rw [hr] at h3;cases h3)
 | true=>
  refine (enc_any _ _ hr).mono ?_
  rintro e w1 ⟨rfl,hbel⟩
  have Hr:=hid hr
  by_cases heq:encL (racc (bs s) (lk (bs s) 0 - 192) 2)=(bs s).take 2
  ·have hq:((ofInts (encL (racc (bs s) (lk (bs s) 0 - 192) 2))).toList == (s.extract 0 2).toList)=true:=eqb_of (by rw [bs_ofInts _ (encL_bd hr),bs_take,heq])
   have Hq:=hid heq
   clear heq hr
   go_wp2_with fail
   go_ret3
   exact ⟨hbel,.inl ⟨⟨by rw [bs_length];omega,Hct.out,Hr.out,Hq.out⟩,rfl⟩⟩
  ·have hq:((ofInts (encL (racc (bs s) (lk (bs s) 0 - 192) 2))).toList == (s.extract 0 2).toList)=false:=eqb_not (by rw [bs_ofInts _ (encL_bd hr),bs_take];exact heq)
   clear hr
   go_wp2_with fail
   go_ret3
   exact rdecP_bad hbel (fun h=>heq h.2.2.2)
 }
theorem rdec1_any (s:ByteArray) (w:World) (hs:0 < s.size) (hm:s.size<=1000000) (h1:0<=lk (bs s) 0) (h2:lk (bs s) 0 < 192) :
  Calls Tryz.prog 54 #[.string s] w (RDecP (bs s) 1 (lk (bs s) 0) w):=by
 have he:=size_data hs
 have hb:=bs_bd s 0
 have h0:=bs_get s 0 hs
 have hl0:racc (bs s) (lk (bs s) 0) 1=(lk (bs s) 0):=rfl
 go_enter Tryz.func54,Tryz.ntmps54
 go_wp2_with fail
 have H0:=hid h0
 clear h0
 go_loop [5,7] (fun r i=>∃k:Nat,1<=k/\k<=1/\i=.int .i64 k/\r=.int .i64 (racc (bs s) (lk (bs s) 0) k)/\contTo (bs s) k/\(k=1\/k<=s.size)/\0<=racc (bs s) (lk (bs s) 0) k/\racc (bs s) (lk (bs s) 0) k < (256 * 64 ^ (k - 1):Nat)) (fun _ i=>1 - (intOf i).toNat)
 case atStart=>exact ⟨1,by omega,by omega,rfl,by rw [hl0],fun j h1 h2=>by omega,by omega,by rw [hl0];omega,by rw [hl0];simp;omega⟩
 case round=>
  clear hl0 he hb
  obtain ⟨k,hk1,hkn,rfl,rfl,hct,hks,hr0,hr1⟩:=hrel
  have hr2:racc (bs s) (lk (bs s) 0) k < 67108864:=by
   have:k - 1=0\/k - 1=1\/k - 1=2\/k - 1=3:=by omega
   rcases this with h | h | h | h <;> rw [h] at hr1 <;> simp at hr1 <;> omega
  have Hct:=hid hct
  have Hr1:=hid hr1
  clear hct hr1
  by_cases hlt:k < 1
  ·exact absurd hlt (by omega)
  {
 obtain rfl:k=1:=by omega
 have hsn:1<=s.size:=by omega
 go_wp2_with fail
 cases hr:runeB (racc (bs s) (lk (bs s) 0) 1) with
 | false=>
  refine (enc_bad _ _ hr).mono ?_
  rintro e w0 ⟨rfl,rfl⟩
  go_wp2_with fail
  go_ret3
  exact rdecP_bad (Below.refl _ _) (fun h=>by have h3:=h.2.2.1;rw [hr] at h3;cases h3)
 | true=>
  refine (enc_any _ _ hr).mono ?_
  rintro e w1 ⟨rfl,hbel⟩
  have Hr:=hid hr
  by_cases heq:encL (racc (bs s) (lk (bs s) 0) 1)=(bs s).take 1
  ·have hq:((ofInts (encL (racc (bs s) (lk (bs s) 0) 1))).toList == (s.extract 0 1).toList)=true:=eqb_of (by rw [bs_ofInts _ (encL_bd hr),bs_take,heq])
   have Hq:=hid heq
   clear heq hr
   go_wp2_with fail
   go_ret3
   exact ⟨hbel,.inl ⟨⟨by rw [bs_length];omega,Hct.out,Hr.out,Hq.out⟩,rfl⟩⟩
  ·have hq:((ofInts (encL (racc (bs s) (lk (bs s) 0) 1))).toList == (s.extract 0 1).toList)=false:=eqb_not (by rw [bs_ofInts _ (encL_bd hr),bs_take];exact heq)
   clear hr
   go_wp2_with fail
   go_ret3
   exact rdecP_bad hbel (fun h=>heq h.2.2.2)
 }
set_option linter.unusedSimpArgs false
structure Acc where
 t:Int
 c:Int
 k:Int
 o:Int
 n:Int
 s:Bool
def Acc.cells (x:Acc):List Value:=[.int .i64 x.t,.int .i64 x.c,.int .u8 x.k,.int .u64 x.o,.int .u64 x.n,.bool x.s]
def logCells (l:List Acc):List Value:=l.flatMap Acc.cells
def u64s (l:List Int):Array Value:=(l.map (Value.int .u64)).toArray
theorem u64s_getD (l:List Int) (i:Nat) (h:i < l.length):(u64s l)[i]?=some (.int .u64 (lk l i)):=by simp [u64s,lk,h]
theorem u64s_set (l:List Int) (i:Nat) (v:Int):(u64s l).setIfInBounds i (.int .u64 v)=u64s (l.set i v):=by
 simp [u64s,List.map_set]
theorem logCells_snoc (l:List Acc) (x:Acc):logCells (l++[x])=logCells l++x.cells:=by simp [logCells]
structure Bank (B:Nat) (w:World) (p cb:Nat) (lv:Value) (vs:List Int) (lg:List Acc):Prop where
 hp:Blk w p 147 #[.slice (some ⟨cb,0,none⟩) vs.length vs.length,lv]
 hc:Blk w cb 152 (u64s vs)
 hl:w.ownsRow B 89 6 lv lg.length (logCells lg)
 hv:∀x ∈ vs,0<=x/\x < 18446744073709551616
 hn:vs.length<=4096
 bp:B<=p
 bc:B<=cb
theorem Tryz.cells_cell:Tryz.prog.cellsOf 152=1:=by kernel_rfl
theorem Tryz.infoAcc:(Tryz.prog.info? 89).map (fun i=>(i.zero,i.size,i.bytes))=some (some (.agg #[.int .i64 0,.int .i64 0,.int .u8 0,.int .u64 0,.int .u64 0,.bool false]),6,48):=by kernel_rfl
theorem Bank.ch {B:Nat} {w w':World} {p cb:Nat} {lv:Value} {vs:List Int} {lg:List Acc} {fp:Nat->Prop} (h:Bank B w p cb lv vs lg) (c:Ch fp w w')
  (h1:¬fp p) (h2:¬fp cb) (h3:∀k,lv.ownBlock=some k->¬fp k):Bank B w' p cb lv vs lg:=
 ⟨c.blk h.hp h1,c.blk h.hc h2,c.own h.hl h3,h.hv,h.hn,h.bp,h.bc⟩
def chk (n:Nat) (t c:Int):Int:=if t < 0\/16<=t then 2 else if c < 0\/(n:Int)<=c then 3 else 0
theorem check_any (p:Nat) (t c:Int) (n cp:Nat) (a:Option Addr) (w:World) (h0:w.cell? ⟨p,0,none⟩=some (.slice a n cp)) :
  Calls Tryz.prog 74 #[.pointer (some ⟨p,0,none⟩),.int .i64 t,.int .i64 c] w fun e w'=>e=.returned (.int .i64 (chk n t c))/\w=w':=by
 unfold chk
 by_cases h1:t < 0
 ·go_enter Tryz.func74,Tryz.ntmps74
  go_wp2
  go_ret
  exact ⟨by simp,rfl⟩
 ·have h1':0<=t:=by omega
  by_cases h2:t < 16
  {
 have h2':¬16<=t:=by omega
 by_cases h3:c < 0
 ·go_enter Tryz.func74,Tryz.ntmps74
  go_wp2
  go_ret
  exact ⟨by simp,rfl⟩
 ·have h3':0<=c:=by omega
  by_cases h4:c < n
  ·have h4':¬(n:Int)<=c:=by omega
   go_enter Tryz.func74,Tryz.ntmps74
   go_wp2
   go_ret
   exact ⟨by simp,rfl⟩
  ·have h4':(n:Int)<=c:=by omega
   go_enter Tryz.func74,Tryz.ntmps74
   go_wp2
   go_ret
   exact ⟨by simp,rfl⟩
 }
  ·have h2':16<=t:=by omega
   go_enter Tryz.func74,Tryz.ntmps74
   go_wp2
   go_ret
   exact ⟨by simp,rfl⟩
theorem aload_run (w:World) (a:Addr) (x:Int) (h:w.cell? a=some (.int .u64 x)):Sem.run Tryz.prog (callFunc 87 #[.pointer (some a)]) w=.ok (.value (.int .u64 x)) w:=
 run_call_load Tryz.func87 (by kernel_rfl) (by kernel_rfl) (by kernel_rfl) .u64 (by kernel_rfl) h
theorem aload (w:World) (b o:Nat) (x:Int) (h:w.cell? ⟨b,o,none⟩=some (.int .u64 x)) :
  Calls Tryz.prog 53 #[.pointer (some ⟨b,o,none⟩)] w fun e w'=>e=.returned (.int .u64 x)/\w=w':=by
 have hr:=aload_run w ⟨b,o,none⟩ x h
 go_enter Tryz.func53,Tryz.ntmps53
 go_wp2
 go_ret
 exact ⟨rfl,rfl⟩
theorem note_any (B p cb:Nat) (lv:Value) (vs:List Int) (lg:List Acc) (t:Int) (c:Nat) (k o:Int) (s:Bool) (w:World) (h:Bank B w p cb lv vs lg) (hc:c < vs.length) (hlen:lg.length < 1000000) (hB:B<=w.heap.size) :
  Calls Tryz.prog 76 #[.pointer (some ⟨p,0,none⟩),.int .i64 t,.int .i64 c,.int .u8 k,.int .u64 o,.bool s] w fun e w'=>e=.returned (.tuple #[])/\
   ∃lv',Bank B w' p cb lv' vs (lg++[⟨t,c,k,o,lk vs c,s⟩])/\Ch (fun b=>b=p\/lv.ownBlock=some b) w w'/\(lv'.ownBlock=lv.ownBlock\/∀b,lv'.ownBlock=some b->w.heap.size<=b):=by
 obtain ⟨i0,hi,hz0,hz1,hz2⟩:=info_parts Tryz.infoAcc
 obtain ⟨A,cap,rfl,_⟩:=own_slice h.hl
 have hplt:=h.hp.lt
 have h0:=h.hp.cell 0
 have h1:=h.hp.cell 1
 have hcell:=(h.hc.cell c).trans (u64s_getD vs c hc)
 simp only [List.getElem?_toArray,List.getElem?_cons_zero,List.getElem?_cons_succ] at h0 h1
 go_enter Tryz.func76,Tryz.ntmps76
 obtain ⟨S,hS⟩:∃S:Nat->Prop,∀k,S k↔k < w.heap.size:=⟨_,fun _=>Iff.rfl⟩
 have hSp:Mix.Has S p:=(hS p).2 h.hp.lt
 have HS:=hid hS
 clear hS
 refine Mix.rg S [1,1,1,1,4,0,0,0,0,0,0,0,0,0,0,0,0,0,3,2,0,0,2] [0,1,2,3,4,5,6,7,8,9,10,11,12,13,14,15,16,17,18,19,20,21,22] ?_
 repeat (first | (refine Mix.zq ?_;go_big_quiet_step ((go_at_call 53;refine Calls.mono (aload _ _ _ _ (by assumption)) ?_;rintro e w' ⟨rfl,rfl⟩;exact ⟨rfl,_,rfl⟩));refine wpQuiet_nil ?_) | (refine Mix.zp ?_;go_big_quiet_step (fail);refine wpQuiet_nil ?_) | (refine Mix.zs ?_;go_big_quiet_step (fail);refine wpQuiet_nil ?_))
 refine Mix.za fun W0 hW0=>?_
 obtain ⟨n1,rfl⟩:=hW0
 go_wp2_with fail
 refine ⟨fun k hk=>Below.heap_alloc _ _ k ((HS.out k).1 hk),Mix.mix_world fun W1 hW1=>?_⟩
 have cW:Ch (fun _=>False) w W1:=by rw [hW1];exact Ch.push rfl rfl rfl rfl
 have nW:Blk W1 w.heap.size 89 #[.int .i64 t,.int .i64 c,.int .u8 k,.int .u64 o,.int .u64 (lk vs c),.bool s]:=by rw [hW1];exact Blk.push rfl
 clear hW1
 refine Mix.ze fun W2 hW2=>?_
 obtain ⟨n2,rfl⟩:=hW2
 refine wpList_app _ rfl _ _ 86 rfl B 89 i0 _ 6 48 Tryz.underlying86 hi hz0 hz1 hz2 rfl (by decide) _ _ _ rfl ((cW.drewN n2).own h.hl (fun _ _=>id)) ⟨w.heap.size,0,none⟩ 1 1 (Acc.cells ⟨t,c,k,o,lk vs c,s⟩) rfl rfl ?c1 ?c2 (by decide) ?c3 ?c4 ?c5 ?_
 case c1=>
  intro j u hu
  rw [addr_add0,(nW.drewN n2).cell j]
  simpa [Acc.cells] using hu
 case c2=>intro u hu;simp [Acc.cells] at hu;rcases hu with rfl | rfl | rfl | rfl | rfl | rfl <;> rfl
 case c3=>unfold maxLen;omega
 case c4=>omega
 case c5=>have:=cW.size;exact Nat.le_trans hB this
 intro v' w' hown hgrow hfresh
 have c1:Ch (fun b=>(Value.slice A lg.length cap).ownBlock=some b) w w':=((cW.drewN n2).mono (fun _ _ h=>h.elim)).grown hgrow (fun k hk _=>hk)
 have hp':Blk w' p 147 #[.slice (some ⟨cb,0,none⟩) vs.length vs.length,.slice A lg.length cap]:=c1.blk h.hp (h.hp.own h.hl (by decide))
 have hc':Blk w' cb 152 (u64s vs):=c1.blk h.hc (h.hc.own h.hl (by decide))
 obtain ⟨g,cap',rfl,_,_,hg1,hg2⟩:=own_form hown (by omega)
 have hrow:(Value.slice (some ⟨g,0,none⟩) (lg.length+1) cap').ownBlock=(Value.slice A lg.length cap).ownBlock\/w.heap.size<=g:=by
  rcases hfresh with h | h
  ·exact .inl h
  ·exact .inr (Nat.le_trans cW.size (h g rfl))
 clear cW nW hgrow
 go_wp2_with fail
 have h1':=hp'.cell 1
 have f1':=hp'.free 1
 simp only [List.getElem?_toArray,List.getElem?_cons_zero,List.getElem?_cons_succ] at h1'
 repeat (refine Mix.zq ?_;go_big_quiet_step (fail);refine wpQuiet_nil ?_)
 refine Mix.ze fun W4 hW4=>?_
 obtain ⟨n4,rfl⟩:=hW4
 go_wp2_with fail
 intro n5
 go_end0
 refine ⟨rfl,.slice (some ⟨g,0,none⟩) (lg.length+1) cap',⟨(hp'.drewN n4).put 1 _,((hc'.drewN n4).far (hc'.ne hp' (by decide)) _),?_,h.hv,h.hn,h.bp,h.bc⟩,?_,?_⟩
 ·rw [logCells_snoc,List.length_append]
  exact (Ch.refl (fun b=>b=p) _).setCell (fun _=>rfl) _ |>.own hown (fun k hk e=>hp'.own hown (by decide) (by rw [hk,e]))
 ·have c2:Ch (fun b=>b=p\/(Value.slice A lg.length cap).ownBlock=some b) w w':=c1.mono (fun _ _ h=>Or.inr h)
  exact ((c2.drewN n4).set (fun _=>.inl rfl) _).drewN n5
 ·rcases hrow with h | h
  ·exact .inl h
  ·refine .inr fun b hb=>?_
   simp [Value.ownBlock] at hb
   omega
structure BS where
 vs:List Int
 lg:List Acc
def w64 (x:Int):Int:=x % 18446744073709551616
theorem w64_wrap (x:Int):IntKind.u64.wrap x=w64 x:=by simp [IntKind.wrap,w64,IntKind.signed,IntKind.bits]
theorem w64_bd (x:Int):0<=w64 x/\w64 x < 18446744073709551616:=by unfold w64;omega
def BS.log (s:BS) (x:Acc):BS:=⟨s.vs,s.lg++[x]⟩
def BS.setlog (s:BS) (c:Nat) (v:Int) (x:Acc):BS:=⟨s.vs.set c v,s.lg++[x]⟩
def BS.fine (s:BS) (t c:Int):Prop:=0<=t/\t < 16/\0<=c/\c < s.vs.length
theorem chk_fine {s:BS} {t c:Int} (h:s.fine t c):chk s.vs.length t c=0:=by
 obtain ⟨h1,h2,h3,h4⟩:=h
 unfold chk
 rw [if_neg (by omega),if_neg (by omega)]
def FP (p cb:Nat) (lv:Value):Nat->Prop:=fun b=>b=p\/b=cb\/lv.ownBlock=some b
def BStep (B:Nat) (w w':World) (p cb:Nat) (lv:Value) (s:BS):Prop:=∃lv',Bank B w' p cb lv' s.vs s.lg/\Ch (FP p cb lv) w w'/\Fresh w lv lv'
theorem lk_set {vs:List Int} {c:Nat} (v:Int) (h:c < vs.length):lk (vs.set c v) c=v:=by simp [lk,h]
theorem set_bd {vs:List Int} (h:∀x ∈ vs,0<=x/\x < 18446744073709551616) (c:Nat) {v:Int} (hv:0<=v/\v < 18446744073709551616):∀x ∈ vs.set c v,0<=x/\x < 18446744073709551616:=by
 intro x hx
 rcases List.mem_or_eq_of_mem_set hx with h1 | h1
 ·exact h x h1
 ·rw [h1];exact hv
theorem Bank.set {B:Nat} {w:World} {p cb:Nat} {lv:Value} {vs:List Int} {lg:List Acc} (h:Bank B w p cb lv vs lg) (c:Nat) {v:Int} (hv:0<=v/\v < 18446744073709551616) :
  Bank B (w.setCell ⟨cb,c,none⟩ (.int .u64 v)) p cb lv (vs.set c v) lg:=by
 refine ⟨?_,?_,?_,set_bd h.hv c hv,by rw [List.length_set];exact h.hn,h.bp,h.bc⟩
 ·rw [List.length_set];exact h.hp.far (h.hp.ne h.hc (by decide)) _
 ·rw [<-u64s_set];exact h.hc.put c _
 ·exact ((Ch.refl (fun b=>b=cb) _).set (fun _=>rfl) _).own h.hl (fun k hk e=>h.hc.own h.hl (by decide) (by rw [hk,e]))
theorem astore_run (w:World) (a:Addr) (x y:Int) (h:w.cell? a=some (.int .u64 x)) (hf:w.frozen? a=false):Sem.run Tryz.prog (callFunc 113 #[.pointer (some a),.int .u64 y]) w=.ok (.value (.tuple #[])) (w.setCell a (.int .u64 y)):=
 run_call_store Tryz.func113 (by kernel_rfl) (by kernel_rfl) (by kernel_rfl) (by kernel_rfl) h hf
theorem astore (w:World) (b o:Nat) (x y:Int) (h:w.cell? ⟨b,o,none⟩=some (.int .u64 x)) (hf:w.frozen? ⟨b,o,none⟩=false) :
  Calls Tryz.prog 75 #[.pointer (some ⟨b,o,none⟩),.int .u64 y] w fun e w'=>e=.returned (.tuple #[])/\w.setCell ⟨b,o,none⟩ (.int .u64 y)=w':=by
 have hr:=astore_run w ⟨b,o,none⟩ x y h hf
 go_enter Tryz.func75,Tryz.ntmps75
 go_wp2
 go_end0
 exact ⟨rfl,rfl⟩
theorem fresh_set {w:World} {p:Addr} {u v v':Value} (h:Fresh (w.setCell p u) v v'):Fresh w v v':=h.imp id (fun h b hb=>by have:=h b hb;simpa [World.setCell] using this)
def BS.load (s:BS) (t c:Int):BS:=s.log ⟨t,c,1,lk s.vs c.toNat,lk s.vs c.toNat,false⟩
theorem load_ok (B p cb:Nat) (lv:Value) (s:BS) (t c:Int) (w:World) (h:Bank B w p cb lv s.vs s.lg) (hk:s.fine t c) (hlen:s.lg.length < 1000000) (hB:B<=w.heap.size) :
  Calls Tryz.prog 95 #[.pointer (some ⟨p,0,none⟩),.int .i64 t,.int .i64 c] w fun e w'=>e=.returned (.tuple #[.int .u64 (lk s.vs c.toNat),.int .i64 0])/\BStep B w w' p cb lv (s.load t c):=by
 have h0:=h.hp.cell 0
 simp only [List.getElem?_toArray,List.getElem?_cons_zero] at h0
 have hb:(chk s.vs.length t c != 0)=false:=by rw [chk_fine hk];rfl
 have hbb:chk s.vs.length t c=0:=chk_fine hk
 obtain ⟨_,_,hc0,hc1⟩:=hk
 obtain ⟨c,rfl⟩:=Int.eq_ofNat_of_zero_le hc0
 try simp only [Int.toNat_natCast]
 have hcl:c < s.vs.length:=by omega
 have hcell:=(h.hc.cell c).trans (u64s_getD s.vs c hcl)
 have Hbb:=hid hbb
 clear hbb
 go_enter Tryz.func95,Tryz.ntmps95
 go_wp2_with (first | (go_at_call 74;refine (check_any _ _ _ _ _ _ _ h0).mono ?_;rintro e w' ⟨rfl,rfl⟩) | (go_at_call 53;refine (aload _ _ _ _ hcell).mono ?_;rintro e w' ⟨rfl,rfl⟩))
 go_at_call 76
 refine (note_any B p cb lv s.vs s.lg t c 1 _ false _ h hcl hlen hB).mono ?_
 rintro e w' ⟨rfl,lv',hb',hc',hf'⟩
 go_wp2_with fail
 go_ret2
 exact ⟨rfl,lv',hb',hc'.mono (fun _ _ h=>h.elim .inl (fun h=>.inr (.inr h))),hf'⟩
def BS.store (s:BS) (t c v:Int):BS:=s.setlog c.toNat v ⟨t,c,2,lk s.vs c.toNat,v,false⟩
theorem store_ok (B p cb:Nat) (lv:Value) (s:BS) (t c:Int) (v:Int) (w:World) (h:Bank B w p cb lv s.vs s.lg) (hk:s.fine t c) (hlen:s.lg.length < 1000000) (hB:B<=w.heap.size) (hv:0<=v/\v < 18446744073709551616) :
  Calls Tryz.prog 42 #[.pointer (some ⟨p,0,none⟩),.int .i64 t,.int .i64 c,.int .u64 v] w fun e w'=>e=.returned (.int .i64 0)/\BStep B w w' p cb lv (s.store t c v):=by
 have h0:=h.hp.cell 0
 simp only [List.getElem?_toArray,List.getElem?_cons_zero] at h0
 have hb:(chk s.vs.length t c != 0)=false:=by rw [chk_fine hk];rfl
 obtain ⟨_,_,hc0,hc1⟩:=hk
 obtain ⟨c,rfl⟩:=Int.eq_ofNat_of_zero_le hc0
 try simp only [Int.toNat_natCast]
 have hcl:c < s.vs.length:=by omega
 have hcell:=(h.hc.cell c).trans (u64s_getD s.vs c hcl)
 have hfree:=h.hc.free c
 go_enter Tryz.func42,Tryz.ntmps42
 go_wp2_with (first | (go_at_call 74;refine (check_any _ _ _ _ _ _ _ h0).mono ?_;rintro e w' ⟨rfl,rfl⟩) | (go_at_call 53;refine (aload _ _ _ _ hcell).mono ?_;rintro e w' ⟨rfl,rfl⟩))
 go_at_call 75
 refine (astore _ _ _ _ v hcell hfree).mono ?_
 rintro e w' ⟨rfl,rfl⟩
 go_wp2_with fail
 go_at_call 76
 refine (note_any B p cb lv (s.vs.set c v) s.lg t c 2 _ false _ (h.set c hv) (by rw [List.length_set];exact hcl) hlen (by simpa [World.setCell] using hB)).mono ?_
 rintro e w' ⟨rfl,lv',hb',hc',hf'⟩
 go_wp2_with fail
 go_ret
 refine ⟨rfl,lv',?_,?_,fresh_set hf'⟩
 ·simpa only [BS.setlog,lk_set _ hcl,List.length_set,BS.store,Int.toNat_natCast] using hb'
 ·exact ((Ch.refl (FP p cb lv) w).set (fun _=>.inr (.inl rfl)) _).trans hc' (fun _ _ h=>h.elim .inl (fun h=>.inr (.inr h)))
theorem made_u64 (n:Nat):madeCells #[.int .u64 0] n=u64s (List.replicate n 0):=by
 unfold madeCells u64s
 apply Array.ext
 ·simp
 ·intro i h1 h2
  simp only [Array.getElem_map,List.map_replicate,List.getElem_toArray,List.getElem_replicate]
  rw [getElem!_pos #[Value.int .u64 0] _ (by simp [Nat.mod_one])]
  simp [Nat.mod_one]
theorem run_make_u64 {P:Program} (t e:TypeId) (i:TypeInfo) (z:Value) (ht:P.underlying t=some (.slice e)) (hi:(P.info? e).map (fun i=>(i.zero,i.size,i.bytes))=some (some z,1,8)) (hz:z.cells=#[.int .u64 0])
  (n:Nat) (hn:n<=1000000) (w:World):(Instr.makeSlice t (.int .i64 (n:Int)) (.int .i64 (n:Int))).run P w=.ok (.slice (some ⟨w.heap.size,0,none⟩) n n) (w.alloc (.cells (u64s (List.replicate n 0)) e)):=by
 obtain ⟨i,hi,hz0,hz1,hz2⟩:=info_parts hi
 have hr:=run_make (P:=P) w t e i z ht hi hz0 .i64 .i64 n n (by omega) (Int.le_refl _) (by rw [hz2];omega) (by omega)
 simp only [Int.toNat_natCast] at hr
 rw [hr,hz1,Nat.mul_one,hz,made_u64]
theorem Tryz.infoCell:(Tryz.prog.info? 152).map (fun i=>(i.zero,i.size,i.bytes))=some (some (.agg #[.int .u64 0]),1,8):=by kernel_rfl
theorem Tryz.infoU64:(Tryz.prog.info? 54).map (fun i=>(i.zero,i.size,i.bytes))=some (some (.int .u64 0),1,8):=by kernel_rfl
def NewBank (B n:Nat) (w:World) (e:Ending) (w':World):Prop:=
 ∃p cb,e=.returned (.tuple #[.pointer (some ⟨p,0,none⟩),.int .i64 0])/\Bank B w' p cb (.slice none 0 0) (List.replicate n 0) []/\Ch (fun _=>False) w w'/\w.heap.size<=p/\w.heap.size<=cb
theorem new_ok (B n:Nat) (h1:1<=n) (h2:n<=4096) (w:World) (hB:B<=w.heap.size):Calls Tryz.prog 45 #[.int .i64 n] w (NewBank B n w):=by
 have hmk:=run_make_u64 (P:=Tryz.prog) 145 152 default _ Tryz.underlying145 Tryz.infoCell rfl n (by omega)
 go_enter Tryz.func45,Tryz.ntmps45
 go_wp2
 go_ret2
 refine ⟨w.heap.size+1,w.heap.size,rfl,⟨?_,?_,World.ownsRow_nil _ _ _ _,?_,by simpa using h2,by omega,hB⟩,((Ch.refl _ w).alloc _).alloc _,by omega,Nat.le_refl _⟩
 ·rw [List.length_replicate]
  have:=Blk.new (w.alloc (.cells (u64s (List.replicate n 0)) 152)) 147 #[.slice (some ⟨w.heap.size,0,none⟩) n n,.slice none 0 0]
  simpa using this
 ·exact (Blk.new w _ _).alloc _
 ·intro x hx
  rw [List.eq_of_mem_replicate hx]
  decide
theorem len_any (B p cb:Nat) (lv:Value) (s:BS) (w:World) (h:Bank B w p cb lv s.vs s.lg) :
  Calls Tryz.prog 28 #[.pointer (some ⟨p,0,none⟩)] w fun e w'=>e=.returned (.int .i64 s.lg.length)/\w=w':=by
 obtain ⟨A,cap,rfl,_⟩:=own_slice h.hl
 have h1:=h.hp.cell 1
 simp only [List.getElem?_toArray,List.getElem?_cons_zero,List.getElem?_cons_succ] at h1
 go_enter Tryz.func28,Tryz.ntmps28
 go_wp2
 go_ret
 exact ⟨rfl,rfl⟩
def Words (B:Nat) (w w':World) (vs:List Int) (e:Ending):Prop:=∃b,e=.returned (.slice (some ⟨b,0,none⟩) vs.length vs.length)/\Blk w' b 54 (u64s vs)/\Ch (fun _=>False) w w'/\w.heap.size<=b
theorem values_fill (vs:List Int) (k:Nat) (h:k < vs.length):(u64s (vs.take k++List.replicate (vs.length - k) 0)).setIfInBounds k (.int .u64 (lk vs k))=u64s (vs.take (k+1)++List.replicate (vs.length - (k+1)) 0):=by
 rw [u64s_set]
 congr 1
 apply List.ext_getElem?
 intro i
 rw [List.getElem?_set]
 simp only [List.length_append,List.length_take,List.length_replicate]
 by_cases hi:k=i
 ·subst hi
  rw [if_pos rfl,if_pos (by omega),List.getElem?_append_left (by simp;omega),List.getElem?_take,if_pos (by omega),List.getElem?_eq_getElem h]
  simp [lk,h]
 ·rw [if_neg hi]
  rcases Nat.lt_or_ge i k with h1 | h1
  ·rw [List.getElem?_append_left (by simp;omega),List.getElem?_append_left (by simp;omega),List.getElem?_take,List.getElem?_take,if_pos h1,if_pos (by omega)]
  ·rw [List.getElem?_append_right (by simp;omega),List.getElem?_append_right (by simp;omega)]
   simp only [List.length_take,List.getElem?_replicate]
   congr 1
   simp only [eq_iff_iff]
   omega
theorem values_any (B p cb:Nat) (lv:Value) (s:BS) (w:World) (h:Bank B w p cb lv s.vs s.lg) :
  Calls Tryz.prog 82 #[.pointer (some ⟨p,0,none⟩)] w fun e w'=>Words B w w' s.vs e:=by
 have h0:=h.hp.cell 0
 have hplt:=h.hp.lt
 simp only [List.getElem?_toArray,List.getElem?_cons_zero] at h0
 have hn:=h.hn
 have hmk:=run_make_u64 (P:=Tryz.prog) 189 54 default _ Tryz.underlying189 Tryz.infoU64 rfl s.vs.length (by omega)
 go_enter Tryz.func82,Tryz.ntmps82
 go_wp2
 go_loopw [15] (fun i wr=>∃k:Nat,k<=s.vs.length/\i=.int .i64 k/\Blk wr w.heap.size 54 (u64s (s.vs.take k++List.replicate (s.vs.length - k) 0))/\Ch (fun _=>False) w wr) (fun i _=>s.vs.length - (intOf i).toNat)
 case atStart=>exact ⟨0,Nat.zero_le _,rfl,by simpa using Blk.new w _ _,(Ch.refl _ w).alloc _⟩
 case round=>
  obtain ⟨k,hk,rfl,hb,hch⟩:=hrel
  have h0':=(hch.cell (p:=⟨p,0,none⟩) hplt id).trans h0
  by_cases hlt:k < s.vs.length
  ·have hcell:=((hch.blk h.hc id).cell k).trans (u64s_getD s.vs k hlt)
   have hold:∃u,wr.cell? ⟨w.heap.size,k,none⟩=some u:=by
    rw [hb.cell k]
    refine ⟨_,Array.getElem?_eq_getElem ?_⟩
    simp [u64s];omega
   obtain ⟨u,hu⟩:=hold
   have hfr:=hb.free k
   have Hb:=hid hb
   clear hb
   go_wp2_with (go_at_call 53;refine (aload _ _ _ _ hcell).mono ?_;rintro e w' ⟨rfl,rfl⟩)
   go_roundw
   case rel=>exact ⟨k+1,by omega,by go_num,by have:=Hb.out.put k (.int .u64 (lk s.vs k));rw [values_fill _ _ hlt] at this;exact this,hch.set (fun h=>absurd h (Nat.lt_irrefl _)) _⟩
   case measure=>simp [intOf];omega
  ·have:k=s.vs.length:=by omega
   subst this
   go_wp2
   go_ret
   refine ⟨w.heap.size,rfl,by simpa using hb,hch,Nat.le_refl _⟩
open Go.RowKit Go.ChangeShapes Go.WideShapes Go.Deep
section
variable {H:Type} {enc:TypeId × Value->H} {P:Program} {w:World} {base:Nat} {spare:Nat->Bool} {held:Bool}
theorem exists_list {α:Type} {R:Nat->α->Prop}:∀n,(∀i,i < n->∃x,R i x)->∃l:List α,l.length=n/\∀i x,l[i]?=some x->R i x
 | 0,_=>⟨[],rfl,by simp⟩
 | n+1,h=>by
  obtain ⟨l,hl,hr⟩:=exists_list n (fun i hi=>h i (by omega))
  obtain ⟨x,hx⟩:=h n (by omega)
  refine ⟨l++[x],by simp [hl],fun i y hy=>?_⟩
  by_cases hi:i < n
  ·rw [List.getElem?_append_left (by omega)] at hy;exact hr i y hy
  ·have:i=n:=by
    have:=(List.getElem?_eq_some_iff.1 hy).1
    simp [hl] at this;omega
   subst this
   rw [List.getElem?_append_right (by omega),hl] at hy
   simp at hy
   subst hy
   exact hx
end
theorem wf_u8 {n:Int} (h:(Lit.int .u8 n).wf=true):0<=n/\n < 256:=by
 simp [Lit.wf,IntKind.min,IntKind.max,IntKind.signed,IntKind.bits] at h;omega
theorem wf_i64 {n:Int} (h:(Lit.int .i64 n).wf=true):-9223372036854775808<=n/\n < 9223372036854775808:=by
 simp [Lit.wf,IntKind.min,IntKind.max,IntKind.signed,IntKind.bits] at h;omega
instance (s:BS) (t c:Int):Decidable (s.fine t c):=by unfold BS.fine;infer_instance
section
variable (B p cb:Nat) (lv:Value) (s:BS) (t c:Int) (w:World) (h:Bank B w p cb lv s.vs s.lg) (hlen:s.lg.length < 1000000) (hB:B<=w.heap.size)
include h hlen hB
end
theorem run_min {P:Program} (tys:Array TypeId) (t:TypeId) (m n:Nat) (w:World):(Builtin.min_ tys t #[.int .i64 (m:Int),.int .i64 (n:Int)]).run P w=.ok (.int .i64 ((min m n:Nat):Int)) w:=by
 simp only [Builtin.min_,List.foldlM_cons,List.foldlM_nil,Builtin.min2]
 simp
 split <;> omega
theorem run_slice_low {P:Program} (t e:TypeId) (size:Nat) (ht:P.underlying t=some (.slice e)) (hz:(P.info? e).map (·.size)=some size) (A:Option Addr) (n cap i:Nat) (hi:i<=n) (hc:n<=cap) (w:World) :
  (Instr.sliceAt t (.slice A n cap) (some (.int .i64 (i:Int))) none none).run P w=.ok (.slice (if cap=i then A else A.map (·.add (i * size))) (n - i) (cap - i)) w:=by
 cases hq:P.info? e with
 | none=>simp [hq] at hz
 | some inf=>
  have hsz:inf.size=size:=by simpa [hq] using hz
  have h1:(0:Int)<=(i:Int)/\(i:Int)<=(n:Int):=by omega
  simp only [Instr.sliceAt,Sem.run_bind,run_underlying ht,Result.andThen_ok,Instr.slice,Instr.sliceBounds,Instr.sliceBound,asIntOf,Sem.run_pure,h1,and_self,if_true,Int.toNat_natCast,sizeOf,typeInfo,hq]
  simp [program,Sem.run,hq,hsz]
end Go.Proofs.YtjcdknhejcbpiaaGreat
