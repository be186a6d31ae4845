/- Lemmas; no condition. -/
import Derived.Test.YtjcdknhejcbpiaaGreatRows
import Derived.Test.YtjcdknhejcbpiaaGreatSb02
import Derived.BigGuardPart
import Derived.Lib.EndianBits
import Derived.MapKept
set_option maxHeartbeats 400000
namespace Go.Proofs.YtjcdknhejcbpiaaGreat
open Go.RowKit
set_option linter.unusedVariables false
def ann (b:Int):Int:=if 244 < b then 0 else if 240<=b then 4 else if 224<=b then 3 else if 194<=b then 2 else if b < 128 then 1 else 0
def cont (b:Int):Bool:=decide (128<=b/\b < 192)
def runeB (r:Int):Bool:=decide (0<=r/\r<=1114111/\(r < 55296\/57343 < r))
def rlen (r:Int):Int:=if runeB r=false then 0 else if r < 128 then 1 else if r < 2048 then 2 else if r < 65536 then 3 else 4
theorem ann_any (b:Int) (w:World):Calls Tryz.prog 152 #[.int .u8 b] w fun e w'=>e=.returned (.int .i64 (ann b))/\w=w':=by
 by_cases h2:244 < b
 ·have hv:ann b=0:=by simp [ann, *]
  rw [hv]
  clear hv
  go_enter Tryz.func152,Tryz.ntmps152
  go_wp2_with fail
  go_ret
  exact ⟨rfl,rfl⟩
 ·by_cases h4:240<=b
  ·have hv:ann b=4:=by simp [ann, *]
   rw [hv]
   clear hv
   go_enter Tryz.func152,Tryz.ntmps152
   go_wp2_with fail
   go_ret
   exact ⟨rfl,rfl⟩
  {
 by_cases h6:224<=b
 ·have hv:ann b=3:=by simp [ann, *]
  rw [hv]
  clear hv
  go_enter Tryz.func152,Tryz.ntmps152
  go_wp2_with fail
  go_ret
  exact ⟨rfl,rfl⟩
 ·by_cases h8:194<=b
  ·have hv:ann b=2:=by simp [ann, *]
   rw [hv]
   clear hv
   go_enter Tryz.func152,Tryz.ntmps152
   go_wp2_with fail
   go_ret
   exact ⟨rfl,rfl⟩
  {
 by_cases h10:b < 128
 ·have hv:ann b=1:=by simp [ann, *]
  rw [hv]
  clear hv
  go_enter Tryz.func152,Tryz.ntmps152
  go_wp2_with fail
  go_ret
  exact ⟨rfl,rfl⟩
 ·have hv:ann b=0:=by simp [ann, *]
  rw [hv]
  clear hv
  go_enter Tryz.func152,Tryz.ntmps152
  go_wp2_with fail
  go_ret
  exact ⟨rfl,rfl⟩
 }
 }
theorem cont_any (b:Int) (w:World):Calls Tryz.prog 153 #[.int .u8 b] w fun e w'=>e=.returned (.bool (cont b))/\w=w':=by
 by_cases h2:128<=b
 ·by_cases h4:b<=191
  ·have hv:cont b=true:=by simp [cont];omega
   rw [hv]
   clear hv
   go_enter Tryz.func153,Tryz.ntmps153
   go_wp2_with fail
   go_ret
   exact ⟨rfl,rfl⟩
  ·have hv:cont b=false:=by simp [cont];omega
   rw [hv]
   clear hv
   go_enter Tryz.func153,Tryz.ntmps153
   go_wp2_with fail
   go_ret
   exact ⟨rfl,rfl⟩
 ·have hv:cont b=false:=by simp [cont];omega
  rw [hv]
  clear hv
  go_enter Tryz.func153,Tryz.ntmps153
  go_wp2_with fail
  go_ret
  exact ⟨rfl,rfl⟩
theorem rcont_any (b:Int) (w:World):Calls Tryz.prog 88 #[.int .u8 b] w fun e w'=>e=.returned (.bool (cont b))/\w=w':=by
 by_cases h2:128<=b
 ·by_cases h4:b < 192
  ·have hv:cont b=true:=by simp [cont];omega
   rw [hv]
   clear hv
   go_enter Tryz.func88,Tryz.ntmps88
   go_wp2_with fail
   go_ret
   exact ⟨rfl,rfl⟩
  ·have hv:cont b=false:=by simp [cont];omega
   rw [hv]
   clear hv
   go_enter Tryz.func88,Tryz.ntmps88
   go_wp2_with fail
   go_ret
   exact ⟨rfl,rfl⟩
 ·have hv:cont b=false:=by simp [cont];omega
  rw [hv]
  clear hv
  go_enter Tryz.func88,Tryz.ntmps88
  go_wp2_with fail
  go_ret
  exact ⟨rfl,rfl⟩
theorem rlen_any (r:Int) (w:World):Calls Tryz.prog 154 #[.int .i64 r] w fun e w'=>e=.returned (.int .i64 (rlen r))/\w=w':=by
 by_cases h2:r < 0
 ·have hv:rlen r=0:=by (unfold rlen runeB;(first | rw [if_pos (by simp;omega)] | rw [if_neg (by simp;omega)]);repeat (first | rw [if_pos (by omega)] | rw [if_neg (by omega)]))
  rw [hv]
  clear hv
  go_enter Tryz.func154,Tryz.ntmps154
  go_wp2_with fail
  go_ret
  exact ⟨rfl,rfl⟩
 ·by_cases h4:1114111 < r
  ·have hv:rlen r=0:=by (unfold rlen runeB;(first | rw [if_pos (by simp;omega)] | rw [if_neg (by simp;omega)]);repeat (first | rw [if_pos (by omega)] | rw [if_neg (by omega)]))
   rw [hv]
   clear hv
   go_enter Tryz.func154,Tryz.ntmps154
   go_wp2_with fail
   go_ret
   exact ⟨rfl,rfl⟩
  {
 by_cases h6:55296<=r
 ·by_cases h8:r<=57343
  ·have hv:rlen r=0:=by (unfold rlen runeB;(first | rw [if_pos (by simp;omega)] | rw [if_neg (by simp;omega)]);repeat (first | rw [if_pos (by omega)] | rw [if_neg (by omega)]))
   rw [hv]
   clear hv
   go_enter Tryz.func154,Tryz.ntmps154
   go_wp2_with fail
   go_ret
   exact ⟨rfl,rfl⟩
  {
 by_cases h10:r < 65536
 ·have hv:rlen r=3:=by (unfold rlen runeB;(first | rw [if_pos (by simp;omega)] | rw [if_neg (by simp;omega)]);repeat (first | rw [if_pos (by omega)] | rw [if_neg (by omega)]))
  rw [hv]
  clear hv
  go_enter Tryz.func154,Tryz.ntmps154
  go_wp2_with fail
  go_ret
  exact ⟨rfl,rfl⟩
 ·have hv:rlen r=4:=by (unfold rlen runeB;(first | rw [if_pos (by simp;omega)] | rw [if_neg (by simp;omega)]);repeat (first | rw [if_pos (by omega)] | rw [if_neg (by omega)]))
  rw [hv]
  clear hv
  go_enter Tryz.func154,Tryz.ntmps154
  go_wp2_with fail
  go_ret
  exact ⟨rfl,rfl⟩
 }
 ·by_cases h8:r < 128
  ·have hv:rlen r=1:=by (unfold rlen runeB;(first | rw [if_pos (by simp;omega)] | rw [if_neg (by simp;omega)]);repeat (first | rw [if_pos (by omega)] | rw [if_neg (by omega)]))
   rw [hv]
   clear hv
   go_enter Tryz.func154,Tryz.ntmps154
   go_wp2_with fail
   go_ret
   exact ⟨rfl,rfl⟩
  {
 by_cases h10:r < 2048
 ·have hv:rlen r=2:=by (unfold rlen runeB;(first | rw [if_pos (by simp;omega)] | rw [if_neg (by simp;omega)]);repeat (first | rw [if_pos (by omega)] | rw [if_neg (by omega)]))
  rw [hv]
  clear hv
  go_enter Tryz.func154,Tryz.ntmps154
  go_wp2_with fail
  go_ret
  exact ⟨rfl,rfl⟩
 ·have hv:rlen r=3:=by (unfold rlen runeB;(first | rw [if_pos (by simp;omega)] | rw [if_neg (by simp;omega)]);repeat (first | rw [if_pos (by omega)] | rw [if_neg (by omega)]))
  rw [hv]
  clear hv
  go_enter Tryz.func154,Tryz.ntmps154
  go_wp2_with fail
  go_ret
  exact ⟨rfl,rfl⟩
 }
 }
theorem rrune_any (r:Int) (w:World):Calls Tryz.prog 123 #[.int .i64 r] w fun e w'=>e=.returned (.bool (runeB r))/\w=w':=by
 by_cases h2:0<=r
 ·by_cases h4:r<=1114111
  {
 by_cases h6:r < 55296
 ·have hv:runeB r=true:=by simp [runeB];omega
  rw [hv]
  clear hv
  go_enter Tryz.func123,Tryz.ntmps123
  go_wp2_with fail
  go_ret
  exact ⟨rfl,rfl⟩
 ·by_cases h8:57343 < r
  ·have hv:runeB r=true:=by simp [runeB];omega
   rw [hv]
   clear hv
   go_enter Tryz.func123,Tryz.ntmps123
   go_wp2_with fail
   go_ret
   exact ⟨rfl,rfl⟩
  ·have hv:runeB r=false:=by simp [runeB];omega
   rw [hv]
   clear hv
   go_enter Tryz.func123,Tryz.ntmps123
   go_wp2_with fail
   go_ret
   exact ⟨rfl,rfl⟩
 }
  ·have hv:runeB r=false:=by simp [runeB];omega
   rw [hv]
   clear hv
   go_enter Tryz.func123,Tryz.ntmps123
   go_wp2_with fail
   go_ret
   exact ⟨rfl,rfl⟩
 ·have hv:runeB r=false:=by simp [runeB];omega
  rw [hv]
  clear hv
  go_enter Tryz.func123,Tryz.ntmps123
  go_wp2_with fail
  go_ret
  exact ⟨rfl,rfl⟩
def bs (s:ByteArray):List Int:=s.data.toList.map fun c=>(c.toNat:Int)
theorem bs_length (s:ByteArray):(bs s).length=s.size:=by simp [bs]
theorem bs_get (s:ByteArray) (k:Nat) (h:k < s.size):((s[k].toNat:Nat):Int)=lk (bs s) k:=by
 unfold lk bs
 rw [List.getD_eq_getElem?_getD,List.getElem?_map,List.getElem?_eq_getElem (by simpa using h)]
 rfl
theorem bs_bd (s:ByteArray) (k:Nat):0<=lk (bs s) k/\lk (bs s) k < 256:=by
 by_cases h:k < s.size
 ·rw [<-bs_get s k h]
  have:=s[k].toNat_lt
  omega
 ·unfold lk
  rw [List.getD_eq_getElem?_getD,List.getElem?_eq_none (by rw [bs_length];omega)]
  decide
def lead (b:Int) (n:Int):Int:=if n=1 then b else if n=2 then b % 32 else if n=3 then b % 16 else b % 8
def acc (l:List Int) (n:Int):Nat->Int
 | 0=>0
 | 1=>lead (lk l 0) n
 | k+2=>64 * acc l n (k+1)+(lk l (k+1) - 128)
def contTo (l:List Int) (k:Nat):Prop:=∀j,1<=j->j < k->cont (lk l j)=true
theorem contTo_succ {l:List Int} {k:Nat} (h:contTo l k) (hc:cont (lk l k)=true):contTo l (k+1):=fun j h1 h2=>by
 rcases Nat.lt_or_ge j k with h3 | h3
 ·exact h j h1 h3
 ·obtain rfl:j=k:=by omega
  exact hc
def good (l:List Int):Prop:=0 < l.length/\1<=ann (lk l 0)/\ann (lk l 0)<=l.length/\contTo l (ann (lk l 0)).toNat/\rlen (acc l (ann (lk l 0)) (ann (lk l 0)).toNat)=ann (lk l 0)
theorem cont_bd {b:Int} (h:cont b=true):128<=b/\b < 192:=by simpa [cont] using h
theorem ann_cases (b:Int):ann b=0\/ann b=1\/ann b=2\/ann b=3\/ann b=4:=by
 unfold ann
 repeat' split
 all_goals simp
theorem i64_or6 (y x:Int) (hy₀:0<=y) (hy:y < 64) (hx₀:0<=x) (hx:x % 64=0) (hx₁:x < 4294967296):bits .or .i64 x y=x+y:=by
 have:=bits_join .i64 32 (by decide) (fun n h0 h1=>by simp [IntKind.wrap,IntKind.bits,IntKind.signed];omega) 6 x y hx₀ (by simpa using hx) (by simpa using hx₁) hy₀ (by simpa using hy) (by simp;omega)
 exact this
theorem u8_and63 (x:Int) (h0:0<=x) (h1:x < 256):bits .and .u8 x 63=x % 64:=bits_mask .u8 8 (by decide) (fun n h0 h1=>by simp [IntKind.wrap,IntKind.bits,IntKind.signed];omega) 6 (by decide) x h0 (by simpa using h1)
theorem i64_and31 (x:Int) (h0:0<=x) (h1:x < 256):bits .and .i64 x 31=x % 32:=bits_mask .i64 32 (by decide) (fun n h0 h1=>by simp [IntKind.wrap,IntKind.bits,IntKind.signed];omega) 5 (by decide) x h0 (by simp;omega)
theorem i64_and15 (x:Int) (h0:0<=x) (h1:x < 256):bits .and .i64 x 15=x % 16:=bits_mask .i64 32 (by decide) (fun n h0 h1=>by simp [IntKind.wrap,IntKind.bits,IntKind.signed];omega) 4 (by decide) x h0 (by simp;omega)
theorem i64_and7 (x:Int) (h0:0<=x) (h1:x < 256):bits .and .i64 x 7=x % 8:=bits_mask .i64 32 (by decide) (fun n h0 h1=>by simp [IntKind.wrap,IntKind.bits,IntKind.signed];omega) 3 (by decide) x h0 (by simp;omega)
theorem size_data {s:ByteArray} (h:0 < s.size):s.toList.isEmpty=false:=by
 rw [ByteArray.toList_eq]
 cases hx:s.data.toList with
 | nil=>
      have:s.data.toList.length=s.size:=by simp
      rw [hx] at this;simp at this;omega
 | cons=>rfl
open Classical in
def DecP (l:List Int) (n:Nat) (ni:Int) (w:World) (e:Ending) (w':World):Prop:=
 w=w'/\((contTo l n/\rlen (acc l ni n)=ni)/\e=.returned (.tuple #[.int .i64 (acc l ni n),.int .i64 ni,.int .i64 0])\/¬(contTo l n/\rlen (acc l ni n)=ni)/\e=.returned (.tuple #[.int .i64 0,.int .i64 0,.int .i64 11]))
theorem decP_ok {l:List Int} {n:Nat} {ni:Int} {w:World} (h:contTo l n) (h':rlen (acc l ni n)=ni):DecP l n ni w (.returned (.tuple #[.int .i64 (acc l ni n),.int .i64 ni,.int .i64 0])) w:=⟨rfl,.inl ⟨⟨h,h'⟩,rfl⟩⟩
theorem decP_bad {l:List Int} {n:Nat} {ni:Int} {w:World} (h:¬(contTo l n/\rlen (acc l ni n)=ni)):DecP l n ni w (.returned (.tuple #[.int .i64 0,.int .i64 0,.int .i64 11])) w:=⟨rfl,.inr ⟨h,rfl⟩⟩
theorem acc_succ (l:List Int) (n:Int) (k:Nat) (h:1<=k):acc l n (k+1)=64 * acc l n k+(lk l k - 128):=by
 obtain ⟨k,rfl⟩:∃j,k=j+1:=⟨k - 1,by omega⟩
 rfl
theorem dec1_any (s:ByteArray) (w:World) (hs:1<=s.size) (hm:s.size<=1000000) (ha:ann (lk (bs s) 0)=1) :
  Calls Tryz.prog 141 #[.string s] w (DecP (bs s) 1 1 w):=by
 have he:=size_data (s:=s) (by omega)
 have hb:=bs_bd s 0
 have h0:=bs_get s 0 (by omega)
 have HA:=hid ha
 clear ha
 have hl0:acc (bs s) 1 1=lk (bs s) 0:=by simp [acc,lead]
 go_enter Tryz.func141,Tryz.ntmps141
 go_wp2_with fail
 refine (ann_any _ _).mono ?_
 rintro e w0 ⟨rfl,rfl⟩
 rw [HA.out]
 go_wp2_with fail
 have H0:=hid h0
 clear h0
 go_loop [2,6] (fun r i=>∃k:Nat,1<=k/\k<=1/\i=.int .i64 k/\r=.int .i64 (acc (bs s) 1 k)/\contTo (bs s) k/\0<=acc (bs s) 1 k/\acc (bs s) 1 k < (256 * 64 ^ (k - 1):Nat)) (fun _ i=>1 - (intOf i).toNat)
 case atStart=>exact ⟨1,by omega,by omega,rfl,by rw [hl0],fun j h1 h2=>by omega,by rw [hl0];omega,by rw [hl0];simp;omega⟩
 case round=>
  clear hl0 he hb
  obtain ⟨k,hk1,hkn,rfl,rfl,hct,hr0,hr1⟩:=hrel
  have hr2:acc (bs s) 1 k < 67108864:=by
   have:k - 1=0\/k - 1=1\/k - 1=2\/k - 1=3:=by omega
   rcases this with h | h | h | h <;> rw [h] at hr1 <;> simp at hr1 <;> omega
  have Hct:=hid hct
  have Hr1:=hid hr1
  clear hct hr1
  by_cases hlt:k < 1
  ·exact absurd hlt (by omega)
  ·obtain rfl:k=1:=by omega
   go_wp2_with fail
   refine (rlen_any _ _).mono ?_
   rintro e w0 ⟨rfl,rfl⟩
   by_cases hr:rlen (acc (bs s) 1 1)=1
   ·rw [hr]
    go_wp2_with fail
    go_ret3
    exact decP_ok Hct.out hr
   ·have hne:(rlen (acc (bs s) 1 1) != 1)=true:=by rw [bne_iff_ne];exact hr
    go_wp2_with fail
    go_ret3
    exact decP_bad (fun h=>hr h.2)
theorem dec2_any (s:ByteArray) (w:World) (hs:2<=s.size) (hm:s.size<=1000000) (ha:ann (lk (bs s) 0)=2) :
  Calls Tryz.prog 141 #[.string s] w (DecP (bs s) 2 2 w):=by
 have he:=size_data (s:=s) (by omega)
 have hb:=bs_bd s 0
 have h0:=bs_get s 0 (by omega)
 have hand:=i64_and31 (lk (bs s) 0) hb.1 hb.2
 have HA:=hid ha
 clear ha
 have hl0:acc (bs s) 2 1=lk (bs s) 0 % 32:=by simp [acc,lead]
 go_enter Tryz.func141,Tryz.ntmps141
 go_wp2_with fail
 refine (ann_any _ _).mono ?_
 rintro e w0 ⟨rfl,rfl⟩
 rw [HA.out]
 go_wp2_with fail
 have H0:=hid h0
 clear h0 hand
 go_loop [2,6] (fun r i=>∃k:Nat,1<=k/\k<=2/\i=.int .i64 k/\r=.int .i64 (acc (bs s) 2 k)/\contTo (bs s) k/\0<=acc (bs s) 2 k/\acc (bs s) 2 k < (256 * 64 ^ (k - 1):Nat)) (fun _ i=>2 - (intOf i).toNat)
 case atStart=>exact ⟨1,by omega,by omega,rfl,by rw [hl0],fun j h1 h2=>by omega,by rw [hl0];omega,by rw [hl0];simp;omega⟩
 case round=>
  clear hl0 he hb
  obtain ⟨k,hk1,hkn,rfl,rfl,hct,hr0,hr1⟩:=hrel
  have hr2:acc (bs s) 2 k < 67108864:=by
   have:k - 1=0\/k - 1=1\/k - 1=2\/k - 1=3:=by omega
   rcases this with h | h | h | h <;> rw [h] at hr1 <;> simp at hr1 <;> omega
  have Hct:=hid hct
  have Hr1:=hid hr1
  clear hct hr1
  by_cases hlt:k < 2
  {
 have hbk:=bs_bd s k
 have h2:=bs_get s k (by omega)
 have hu:=u8_and63 (lk (bs s) k) hbk.1 hbk.2
 have ho:=i64_or6 (lk (bs s) k % 64) (acc (bs s) 2 k * 64) (by omega) (by omega) (by omega) (by omega) (by omega)
 by_cases hc:cont (lk (bs s) k)=true
 ·go_wp2_with fail
  refine (cont_any _ _).mono ?_
  rintro e w0 ⟨rfl,rfl⟩
  rw [hc]
  go_wp2_with fail
  go_round
  case rel=>
   (
 have hcb:=cont_bd hc
 have hac:acc (bs s) 2 (k+1)=acc (bs s) 2 k * 64+lk (bs s) k % 64:=by rw [acc_succ _ _ _ hk1];omega
 refine ⟨k+1,by omega,by omega,by go_num,by rw [hac],contTo_succ Hct.out hc,by rw [hac];omega,?_⟩
 rw [hac]
 have:=Hr1.out
 have e1:256 * 64 ^ (k+1 - 1)=64 * (256 * 64 ^ (k - 1)):=by
  obtain ⟨j,rfl⟩:∃j,k=j+1:=⟨k - 1,by omega⟩
  simp only [Nat.add_sub_cancel]
  rw [Nat.pow_succ]
  omega
 rw [e1]
 have e2:((64 * (256 * 64 ^ (k - 1)):Nat):Int)=64 * ((256 * 64 ^ (k - 1):Nat):Int):=by rw [Int.natCast_mul];rfl
 rw [e2]
 generalize ((256 * 64 ^ (k - 1):Nat):Int)=z at *
 omega
 )
  case measure=>simp [intOf];omega
 ·have hc':cont (lk (bs s) k)=false:=by simpa using hc
  go_wp2_with fail
  refine (cont_any _ _).mono ?_
  rintro e w0 ⟨rfl,rfl⟩
  rw [hc']
  go_wp2_with fail
  go_ret3
  exact decP_bad (fun h=>hc (h.1 k hk1 hlt))
 }
  ·obtain rfl:k=2:=by omega
   go_wp2_with fail
   refine (rlen_any _ _).mono ?_
   rintro e w0 ⟨rfl,rfl⟩
   by_cases hr:rlen (acc (bs s) 2 2)=2
   ·rw [hr]
    go_wp2_with fail
    go_ret3
    exact decP_ok Hct.out hr
   ·have hne:(rlen (acc (bs s) 2 2) != 2)=true:=by rw [bne_iff_ne];exact hr
    go_wp2_with fail
    go_ret3
    exact decP_bad (fun h=>hr h.2)
theorem dec3_any (s:ByteArray) (w:World) (hs:3<=s.size) (hm:s.size<=1000000) (ha:ann (lk (bs s) 0)=3) :
  Calls Tryz.prog 141 #[.string s] w (DecP (bs s) 3 3 w):=by
 have he:=size_data (s:=s) (by omega)
 have hb:=bs_bd s 0
 have h0:=bs_get s 0 (by omega)
 have hand:=i64_and15 (lk (bs s) 0) hb.1 hb.2
 have HA:=hid ha
 clear ha
 have hl0:acc (bs s) 3 1=lk (bs s) 0 % 16:=by simp [acc,lead]
 go_enter Tryz.func141,Tryz.ntmps141
 go_wp2_with fail
 refine (ann_any _ _).mono ?_
 rintro e w0 ⟨rfl,rfl⟩
 rw [HA.out]
 go_wp2_with fail
 have H0:=hid h0
 clear h0 hand
 go_loop [2,6] (fun r i=>∃k:Nat,1<=k/\k<=3/\i=.int .i64 k/\r=.int .i64 (acc (bs s) 3 k)/\contTo (bs s) k/\0<=acc (bs s) 3 k/\acc (bs s) 3 k < (256 * 64 ^ (k - 1):Nat)) (fun _ i=>3 - (intOf i).toNat)
 case atStart=>exact ⟨1,by omega,by omega,rfl,by rw [hl0],fun j h1 h2=>by omega,by rw [hl0];omega,by rw [hl0];simp;omega⟩
 case round=>
  clear hl0 he hb
  obtain ⟨k,hk1,hkn,rfl,rfl,hct,hr0,hr1⟩:=hrel
  have hr2:acc (bs s) 3 k < 67108864:=by
   have:k - 1=0\/k - 1=1\/k - 1=2\/k - 1=3:=by omega
   rcases this with h | h | h | h <;> rw [h] at hr1 <;> simp at hr1 <;> omega
  have Hct:=hid hct
  have Hr1:=hid hr1
  clear hct hr1
  by_cases hlt:k < 3
  {
 have hbk:=bs_bd s k
 have h2:=bs_get s k (by omega)
 have hu:=u8_and63 (lk (bs s) k) hbk.1 hbk.2
 have ho:=i64_or6 (lk (bs s) k % 64) (acc (bs s) 3 k * 64) (by omega) (by omega) (by omega) (by omega) (by omega)
 by_cases hc:cont (lk (bs s) k)=true
 ·go_wp2_with fail
  refine (cont_any _ _).mono ?_
  rintro e w0 ⟨rfl,rfl⟩
  rw [hc]
  go_wp2_with fail
  go_round
  case rel=>
   (
 have hcb:=cont_bd hc
 have hac:acc (bs s) 3 (k+1)=acc (bs s) 3 k * 64+lk (bs s) k % 64:=by rw [acc_succ _ _ _ hk1];omega
 refine ⟨k+1,by omega,by omega,by go_num,by rw [hac],contTo_succ Hct.out hc,by rw [hac];omega,?_⟩
 rw [hac]
 have:=Hr1.out
 have e1:256 * 64 ^ (k+1 - 1)=64 * (256 * 64 ^ (k - 1)):=by
  obtain ⟨j,rfl⟩:∃j,k=j+1:=⟨k - 1,by omega⟩
  simp only [Nat.add_sub_cancel]
  rw [Nat.pow_succ]
  omega
 rw [e1]
 have e2:((64 * (256 * 64 ^ (k - 1)):Nat):Int)=64 * ((256 * 64 ^ (k - 1):Nat):Int):=by rw [Int.natCast_mul];rfl
 rw [e2]
 generalize ((256 * 64 ^ (k - 1):Nat):Int)=z at *
 omega
 )
  case measure=>simp [intOf];omega
 ·have hc':cont (lk (bs s) k)=false:=by simpa using hc
  go_wp2_with fail
  refine (cont_any _ _).mono ?_
  rintro e w0 ⟨rfl,rfl⟩
  rw [hc']
  go_wp2_with fail
  go_ret3
  exact decP_bad (fun h=>hc (h.1 k hk1 hlt))
 }
  ·obtain rfl:k=3:=by omega
   go_wp2_with fail
   refine (rlen_any _ _).mono ?_
   rintro e w0 ⟨rfl,rfl⟩
   by_cases hr:rlen (acc (bs s) 3 3)=3
   ·rw [hr]
    go_wp2_with fail
    go_ret3
    exact decP_ok Hct.out hr
   ·have hne:(rlen (acc (bs s) 3 3) != 3)=true:=by rw [bne_iff_ne];exact hr
    go_wp2_with fail
    go_ret3
    exact decP_bad (fun h=>hr h.2)
theorem dec4_any (s:ByteArray) (w:World) (hs:4<=s.size) (hm:s.size<=1000000) (ha:ann (lk (bs s) 0)=4) :
  Calls Tryz.prog 141 #[.string s] w (DecP (bs s) 4 4 w):=by
 have he:=size_data (s:=s) (by omega)
 have hb:=bs_bd s 0
 have h0:=bs_get s 0 (by omega)
 have hand:=i64_and7 (lk (bs s) 0) hb.1 hb.2
 have HA:=hid ha
 clear ha
 have hl0:acc (bs s) 4 1=lk (bs s) 0 % 8:=by simp [acc,lead]
 go_enter Tryz.func141,Tryz.ntmps141
 go_wp2_with fail
 refine (ann_any _ _).mono ?_
 rintro e w0 ⟨rfl,rfl⟩
 rw [HA.out]
 go_wp2_with fail
 have H0:=hid h0
 clear h0 hand
 go_loop [2,6] (fun r i=>∃k:Nat,1<=k/\k<=4/\i=.int .i64 k/\r=.int .i64 (acc (bs s) 4 k)/\contTo (bs s) k/\0<=acc (bs s) 4 k/\acc (bs s) 4 k < (256 * 64 ^ (k - 1):Nat)) (fun _ i=>4 - (intOf i).toNat)
 case atStart=>exact ⟨1,by omega,by omega,rfl,by rw [hl0],fun j h1 h2=>by omega,by rw [hl0];omega,by rw [hl0];simp;omega⟩
 case round=>
  clear hl0 he hb
  obtain ⟨k,hk1,hkn,rfl,rfl,hct,hr0,hr1⟩:=hrel
  have hr2:acc (bs s) 4 k < 67108864:=by
   have:k - 1=0\/k - 1=1\/k - 1=2\/k - 1=3:=by omega
   rcases this with h | h | h | h <;> rw [h] at hr1 <;> simp at hr1 <;> omega
  have Hct:=hid hct
  have Hr1:=hid hr1
  clear hct hr1
  by_cases hlt:k < 4
  {
 have hbk:=bs_bd s k
 have h2:=bs_get s k (by omega)
 have hu:=u8_and63 (lk (bs s) k) hbk.1 hbk.2
 have ho:=i64_or6 (lk (bs s) k % 64) (acc (bs s) 4 k * 64) (by omega) (by omega) (by omega) (by omega) (by omega)
 by_cases hc:cont (lk (bs s) k)=true
 ·go_wp2_with fail
  refine (cont_any _ _).mono ?_
  rintro e w0 ⟨rfl,rfl⟩
  rw [hc]
  go_wp2_with fail
  go_round
  case rel=>
   (
 have hcb:=cont_bd hc
 have hac:acc (bs s) 4 (k+1)=acc (bs s) 4 k * 64+lk (bs s) k % 64:=by rw [acc_succ _ _ _ hk1];omega
 refine ⟨k+1,by omega,by omega,by go_num,by rw [hac],contTo_succ Hct.out hc,by rw [hac];omega,?_⟩
 rw [hac]
 have:=Hr1.out
 have e1:256 * 64 ^ (k+1 - 1)=64 * (256 * 64 ^ (k - 1)):=by
  obtain ⟨j,rfl⟩:∃j,k=j+1:=⟨k - 1,by omega⟩
  simp only [Nat.add_sub_cancel]
  rw [Nat.pow_succ]
  omega
 rw [e1]
 have e2:((64 * (256 * 64 ^ (k - 1)):Nat):Int)=64 * ((256 * 64 ^ (k - 1):Nat):Int):=by rw [Int.natCast_mul];rfl
 rw [e2]
 generalize ((256 * 64 ^ (k - 1):Nat):Int)=z at *
 omega
 )
  case measure=>simp [intOf];omega
 ·have hc':cont (lk (bs s) k)=false:=by simpa using hc
  go_wp2_with fail
  refine (cont_any _ _).mono ?_
  rintro e w0 ⟨rfl,rfl⟩
  rw [hc']
  go_wp2_with fail
  go_ret3
  exact decP_bad (fun h=>hc (h.1 k hk1 hlt))
 }
  ·obtain rfl:k=4:=by omega
   go_wp2_with fail
   refine (rlen_any _ _).mono ?_
   rintro e w0 ⟨rfl,rfl⟩
   by_cases hr:rlen (acc (bs s) 4 4)=4
   ·rw [hr]
    go_wp2_with fail
    go_ret3
    exact decP_ok Hct.out hr
   ·have hne:(rlen (acc (bs s) 4 4) != 4)=true:=by rw [bne_iff_ne];exact hr
    go_wp2_with fail
    go_ret3
    exact decP_bad (fun h=>hr h.2)
set_option linter.unusedSimpArgs false
def grpN (n m:Nat):Nat:=n / m+(if 0 < n % m then 1 else 0)
def szAt (n g i:Nat):Nat:=if i < n % g then n / g+1 else n / g
def sizesN (n m:Nat):List Nat:=(List.range (grpN n m)).map (szAt n (grpN n m))
theorem sizes_len (n m:Nat):(sizesN n m).length=grpN n m:=by simp [sizesN]
theorem sizes_get (n m i:Nat) (h:i < grpN n m):(sizesN n m)[i]?=some (szAt n (grpN n m) i):=by simp [sizesN,h]
theorem sum_at (q r g:Nat):∀k,((List.range k).map fun i=>if i < r then q+1 else q).sum=q * k+min k r:=by
 intro k
 induction k with
 | zero=>simp
 | succ k ih=>
  rw [List.range_succ,List.map_append,List.sum_append,ih]
  simp only [List.map_cons,List.map_nil,List.sum_cons,List.sum_nil,Nat.mul_succ]
  split <;> omega
theorem grp_pos {n m:Nat} (hn:0 < n) (hm:0 < m):0 < grpN n m:=by
 unfold grpN
 split
 ·exact Nat.succ_pos _
 ·rename_i h
  have h1:n % m=0:=by omega
  have h2:=Nat.div_add_mod n m
  rw [h1,Nat.add_zero] at h2
  rcases Nat.eq_zero_or_pos (n / m) with e | e
  ·rw [e,Nat.mul_zero] at h2;omega
  ·omega
theorem sizes_sum (n m:Nat) (hm:0 < m):(sizesN n m).sum=n:=by
 rcases Nat.eq_zero_or_pos n with rfl | hn
 ·simp [sizesN,grpN]
 ·have hg:=grp_pos hn hm
  show ((List.range (grpN n m)).map fun i=>if i < n % grpN n m then n / grpN n m+1 else n / grpN n m).sum=n
  rw [sum_at _ _ 0]
  have h1:=Nat.mod_lt n hg
  have h2:=Nat.div_add_mod n (grpN n m)
  rw [Nat.min_eq_right (Nat.le_of_lt h1),Nat.mul_comm]
  exact h2
theorem grp_le {n m:Nat} (hm:0 < m):n<=m * grpN n m/\m * grpN n m < n+m:=by
 unfold grpN
 have h2:=Nat.div_add_mod n m
 have h3:=Nat.mod_lt n hm
 split
 ·rw [Nat.mul_add];omega
 ·rw [Nat.mul_add];omega
theorem sz_le {n m i:Nat} (hn:0 < n) (hm:0 < m):szAt n (grpN n m) i<=m:=by
 have hg:=grp_pos hn hm
 have h1:=(grp_le (n:=n) hm).1
 have h2:=Nat.div_add_mod n (grpN n m)
 unfold szAt
 split
 ·rename_i h
  have:grpN n m * (n / grpN n m) < grpN n m * m:=by rw [Nat.mul_comm (grpN n m) m];omega
  exact Nat.lt_of_mul_lt_mul_left this
 ·exact Nat.div_le_of_le_mul (by rw [Nat.mul_comm];exact h1)
theorem sz_ge {n m k i:Nat} (hm:m=2 * k) (hk:0 < k) (hg:1 < grpN n m):k<=szAt n (grpN n m) i:=by
 have h1:=(grp_le (n:=n) (m:=m) (by omega)).2
 have:k<=n / grpN n m:=by
  rw [Nat.le_div_iff_mul_le (by omega)]
  subst hm
  have h4:2 * k * 2<=2 * k * grpN n (2 * k):=Nat.mul_le_mul_left _ hg
  have h5:2 * k * grpN n (2 * k)=2 * (k * grpN n (2 * k)):=Nat.mul_assoc _ _ _
  omega
 unfold szAt
 split <;> omega
theorem sz_pos {n m i:Nat} (hn:0 < n) (hm:1 < m):0 < szAt n (grpN n m) i:=by
 have hg:=grp_pos hn (by omega:0 < m)
 have h1:=(grp_le (n:=n) (m:=m) (by omega)).2
 have:1<=n / grpN n m:=by
  rw [Nat.le_div_iff_mul_le hg,Nat.one_mul]
  rcases Nat.lt_or_ge n (grpN n m) with e | e
  ·exfalso
   have h2:m * (n+1)<=m * grpN n m:=Nat.mul_le_mul_left _ e
   have h3:m * (n+1)=m * n+m:=Nat.mul_succ _ _
   have h4:2 * n<=m * n:=Nat.mul_le_mul_right _ hm
   omega
  ·exact e
 unfold szAt
 split <;> omega
def cutL {α:Type}:List Nat->List α->List (List α)
 | [],_=>[]
 | n::ns,l=>l.take n::cutL ns (l.drop n)
theorem cutL_len {α:Type}:∀(ns:List Nat) (l:List α),(cutL ns l).length=ns.length
 | [],_=>rfl
 | n::ns,l=>by simp [cutL,cutL_len ns]
theorem cutL_flat {α:Type}:∀(ns:List Nat) (l:List α),ns.sum=l.length->(cutL ns l).flatten=l
 | [],l,h=>by
  have:l=[]:=List.eq_nil_of_length_eq_zero (by simpa using h.symm)
  subst this;rfl
 | n::ns,l,h=>by
  simp only [cutL,List.flatten_cons]
  rw [cutL_flat ns (l.drop n) (by simp at h |-;omega),List.take_append_drop]
theorem cutL_get {α:Type}:∀(ns:List Nat) (l:List α) (i k:Nat),ns[i]?=some k->(cutL ns l)[i]?=some ((l.drop ((ns.take i).sum)).take k)
 | [],_,i,k,h=>by simp at h
 | n::ns,l,0,k,h=>by simp at h;subst h;simp [cutL]
 | n::ns,l,i+1,k,h=>by
  have t:=cutL_get ns (l.drop n) i k (by simpa using h)
  simp only [cutL,List.getElem?_cons_succ,List.take_succ_cons,List.sum_cons]
  rw [t,List.drop_drop]
theorem cutL_size {α:Type}:∀(ns:List Nat) (l:List α),ns.sum=l.length->∀x ∈ cutL ns l,x.length ∈ ns
 | [],l,h,x,hx=>by simp [cutL] at hx
 | n::ns,l,h,x,hx=>by
  simp only [cutL,List.mem_cons] at hx
  simp at h
  rcases hx with rfl | hx
  ·rw [List.length_take,Nat.min_eq_left (by omega)];exact List.mem_cons_self
  ·exact List.mem_cons_of_mem _ (cutL_size ns (l.drop n) (by simp;omega) x hx)
def cutS:List Nat->ByteArray->List ByteArray
 | [],_=>[]
 | n::ns,s=>s.extract 0 n::cutS ns (s.extract n s.size)
theorem cutS_len:∀(ns:List Nat) (s:ByteArray),(cutS ns s).length=ns.length
 | [],_=>rfl
 | n::ns,s=>by simp [cutS,cutS_len ns]
theorem cutS_size:∀(ns:List Nat) (s:ByteArray),ns.sum=s.size->∀x ∈ cutS ns s,x.size ∈ ns
 | [],s,h,x,hx=>by simp [cutS] at hx
 | n::ns,s,h,x,hx=>by
  simp only [cutS,List.mem_cons] at hx
  simp at h
  rcases hx with rfl | hx
  ·rw [ByteArray.size_extract,Nat.min_eq_left (by omega)];exact List.mem_cons_self
  ·exact List.mem_cons_of_mem _ (cutS_size ns (s.extract n s.size) (by rw [ByteArray.size_extract];omega) x hx)
theorem cutS_sum:∀(ns:List Nat) (s:ByteArray),ns.sum=s.size->((cutS ns s).map ByteArray.size).sum=s.size
 | [],s,h=>by simpa [cutS] using h
 | n::ns,s,h=>by
  simp at h
  simp only [cutS,List.map_cons,List.sum_cons]
  rw [cutS_sum ns (s.extract n s.size) (by rw [ByteArray.size_extract];omega),ByteArray.size_extract,ByteArray.size_extract]
  omega
def chunksS (s:ByteArray):List ByteArray:=cutS (sizesN s.size 16) s
inductive T where
 | leaf (s:ByteArray)
 | node (h:Nat) (ks:List T)
def T.ht:T->Nat
 | .leaf _=>0
 | .node h _=>h
theorem T.ind {P:T->Prop} (hl:∀s,P (.leaf s)) (hn:∀h ks,(∀t ∈ ks,P t)->P (.node h ks)):∀t,P t
 | .leaf s=>hl s
 | .node h ks=>hn h ks fun t ht=>T.ind hl hn t
termination_by t=>SizeOf.sizeOf t
decreasing_by
 have:=List.sizeOf_lt_of_mem ht
 simp
 omega
mutual
def T.bytes:T->Nat
 | .leaf s=>s.size
 | .node _ ks=>T.bytesL ks
def T.bytesL:List T->Nat
 | []=>0
 | t::ts=>t.bytes+T.bytesL ts
end
mutual
def T.cnt:T->Nat
 | .leaf _=>1
 | .node _ ks=>T.cntL ks+1
def T.cntL:List T->Nat
 | []=>0
 | t::ts=>t.cnt+T.cntL ts
end
def groupT (ks:List T):T:=match ks with
 | [t]=>t
 | ks=>.node ((ks.headD (.leaf ByteArray.empty)).ht+1) ks
def rowUp (l:List T):List T:=(cutL (sizesN l.length 4) l).map groupT
def T.fit:Nat->T->Prop
 | 0,.leaf s=>8<=s.size/\s.size<=16
 | h+1,.node k ks=>k=h+1/\2<=ks.length/\ks.length<=4/\∀t ∈ ks,T.fit h t
 | _,_=>False
theorem T.fit_ht:∀{h:Nat} {t:T},T.fit h t->t.ht=h
 | 0,.leaf s,_=>rfl
 | h+1,.node k ks,e=>e.1
 | 0,.node _ _,e=>e.elim
 | h+1,.leaf _,e=>e.elim
def T.good (t:T):Prop:=(∃s:ByteArray,t=.leaf s/\1<=s.size/\s.size<=16)\/∃h,h<=16/\T.fit h t
theorem rowUp_len (l:List T):(rowUp l).length=grpN l.length 4:=by simp [rowUp,cutL_len,sizes_len]
theorem rowUp_lt {l:List T} (h:1 < l.length):(rowUp l).length < l.length:=by
 rw [rowUp_len]
 have:=(grp_le (n:=l.length) (m:=4) (by decide)).2
 omega
def topT (l:List T):List T:=if h:l.length<=1 then l else topT (rowUp l)
termination_by l.length
decreasing_by exact rowUp_lt (by omega)
theorem topT_le {l:List T} (h:l.length<=1):topT l=l:=by rw [topT,dif_pos h]
theorem topT_up {l:List T} (h:1 < l.length):topT l=topT (rowUp l):=by
 conv=>lhs;rw [topT]
 rw [dif_neg (by omega)]
theorem topT_len (l:List T) (h:0 < l.length):(topT l).length=1:=by
 by_cases h1:l.length<=1
 ·rw [topT_le h1];omega
 ·rw [topT_up (by omega)]
  exact topT_len (rowUp l) (by rw [rowUp_len];exact grp_pos h (by decide))
termination_by l.length
decreasing_by exact rowUp_lt (by omega)
def baseT (s:ByteArray):List T:=(chunksS s).map .leaf
def buildT (s:ByteArray):List T:=topT (baseT s)
theorem bytesL_sum (l:List T):T.bytesL l=(l.map T.bytes).sum:=by
 induction l with
 | nil=>rfl
 | cons t l ih=>simp [T.bytesL,ih]
theorem cntL_sum (l:List T):T.cntL l=(l.map T.cnt).sum:=by
 induction l with
 | nil=>rfl
 | cons t l ih=>simp [T.cntL,ih]
theorem group_bytes (l:List T) (h:l≠[]):(groupT l).bytes=T.bytesL l:=by
 unfold groupT
 split
 ·simp [T.bytesL]
 ·simp [T.bytes]
theorem rowUp_bytes (l:List T):T.bytesL (rowUp l)=T.bytesL l:=by
 have hs:=sizes_sum l.length 4 (by decide)
 have hp:∀x ∈ cutL (sizesN l.length 4) l,x≠[]:=by
  intro x hx
  have h1:=cutL_size _ _ hs x hx
  simp only [sizesN,List.mem_map,List.mem_range] at h1
  obtain ⟨i,hi,h1⟩:=h1
  rcases Nat.eq_zero_or_pos l.length with e | e
  ·rw [e] at hi;simp [grpN] at hi
  ·have:=sz_pos (m:=4) (i:=i) e (by decide)
   intro hn
   subst hn
   simp at h1
   omega
 have hf:=cutL_flat _ _ hs
 unfold rowUp
 conv=>rhs;rw [<-hf]
 generalize cutL (sizesN l.length 4) l=L at hp
 induction L with
 | nil=>rfl
 | cons x L ih=>
  simp only [List.map_cons,T.bytesL,List.flatten_cons,bytesL_sum,List.map_append,List.sum_append,List.sum_cons]
  rw [group_bytes x (hp x (by simp)),bytesL_sum]
  have:=ih (fun y hy=>hp y (by simp [hy]))
  simp only [bytesL_sum] at this
  rw [this]
theorem topT_bytes (l:List T):T.bytesL (topT l)=T.bytesL l:=by
 by_cases h1:l.length<=1
 ·rw [topT_le h1]
 ·rw [topT_up (by omega),topT_bytes (rowUp l),rowUp_bytes]
termination_by l.length
decreasing_by exact rowUp_lt (by omega)
theorem base_bytes (s:ByteArray):T.bytesL (baseT s)=s.size:=by
 have h:=cutS_sum (sizesN s.size 16) s (sizes_sum _ _ (by decide))
 rw [bytesL_sum]
 simpa [baseT,chunksS,Function.comp_def,T.bytes] using h
theorem base_len (s:ByteArray):(baseT s).length=grpN s.size 16:=by simp [baseT,chunksS,cutS_len,sizes_len]
theorem build_bytes (s:ByteArray):T.bytesL (buildT s)=s.size:=by rw [buildT,topT_bytes,base_bytes]
def fitRow (h:Nat) (l:List T):Prop:=∀t ∈ l,T.fit h t
theorem base_fit {s:ByteArray} (h:1 < (baseT s).length):fitRow 0 (baseT s):=by
 intro t ht
 rw [base_len] at h
 simp only [baseT,chunksS,List.mem_map] at ht
 obtain ⟨x,hx,rfl⟩:=ht
 have h1:=cutS_size _ _ (sizes_sum _ _ (by decide)) x hx
 simp only [sizesN,List.mem_map,List.mem_range] at h1
 obtain ⟨i,hi,h1⟩:=h1
 have hp:0 < s.size:=by
  rcases Nat.eq_zero_or_pos s.size with e | e
  ·rw [e] at h;simp [grpN] at h
  ·exact e
 have a:=sz_ge (n:=s.size) (m:=16) (k:=8) (i:=i) rfl (by decide) h
 have b:=sz_le (n:=s.size) (m:=16) (i:=i) hp (by decide)
 exact ⟨by omega,by omega⟩
theorem rowUp_parts {l:List T} (h:1 < l.length):∀x ∈ cutL (sizesN l.length 4) l,2<=x.length/\x.length<=4/\∀t ∈ x,t ∈ l:=by
 intro x hx
 have hs:=sizes_sum l.length 4 (by decide)
 have h1:=cutL_size _ _ hs x hx
 simp only [sizesN,List.mem_map,List.mem_range] at h1
 obtain ⟨i,hi,h1⟩:=h1
 have b:=sz_le (n:=l.length) (m:=4) (i:=i) (by omega) (by decide)
 have a:2<=szAt l.length (grpN l.length 4) i:=by
  by_cases hg:1 < grpN l.length 4
  ·exact sz_ge (n:=l.length) (m:=4) (k:=2) rfl (by decide) hg
  ·have hg1:grpN l.length 4=1:=by omega
   unfold szAt
   rw [hg1,Nat.mod_one,if_neg (by omega),Nat.div_one]
   exact h
 refine ⟨by omega,by omega,fun t ht=>?_⟩
 have hf:=cutL_flat _ _ hs
 rw [<-hf]
 exact List.mem_flatten.2 ⟨x,hx,ht⟩
theorem group_node {x:List T} (h:2<=x.length):groupT x=.node ((x.headD (.leaf ByteArray.empty)).ht+1) x:=by
 unfold groupT
 split
 ·simp at h
 ·rfl
theorem rowUp_fit {h:Nat} {l:List T} (hl:1 < l.length) (hf:fitRow h l):fitRow (h+1) (rowUp l):=by
 intro t ht
 simp only [rowUp,List.mem_map] at ht
 obtain ⟨x,hx,rfl⟩:=ht
 obtain ⟨h1,h2,h3⟩:=rowUp_parts hl x hx
 rw [group_node h1]
 refine ⟨?_,h1,h2,fun t ht=>hf t (h3 t ht)⟩
 match x,h1 with
 | y::_,_=>show y.ht+1=h+1;rw [T.fit_ht (hf y (h3 y (by simp)))]
theorem topT_fit:∀(l:List T) (h:Nat),fitRow h l->0 < l.length->∃k t,topT l=[t]/\T.fit (h+k) t/\l.length<=4 ^ k/\4 ^ k < 4 * l.length:=by
 intro l h hf hl
 by_cases h1:l.length<=1
 ·rw [topT_le h1]
  match l,h1,hl with
  | [t],_,_=>exact ⟨0,t,rfl,hf t (by simp),by simp,by simp⟩
 ·rw [topT_up (by omega)]
  obtain ⟨k,t,e,hk,a,b⟩:=topT_fit (rowUp l) (h+1) (rowUp_fit (by omega) hf) (by rw [rowUp_len];exact grp_pos hl (by decide))
  rw [rowUp_len] at a b
  have g:=grp_le (n:=l.length) (m:=4) (by decide)
  refine ⟨k+1,t,e,by rw [show h+(k+1)=h+1+k by omega];exact hk,by rw [Nat.pow_succ];omega,?_⟩
  rw [Nat.pow_succ]
  rcases Nat.eq_zero_or_pos k with rfl | hk0
  ·simp;omega
  ·obtain ⟨m,rfl⟩:∃m,k=m+1:=⟨k - 1,by omega⟩
   rw [Nat.pow_succ] at a b |-
   omega
termination_by l=>l.length
decreasing_by exact rowUp_lt (by omega)
theorem build_good {s:ByteArray} (h0:0 < s.size) (h1:s.size<=65536):∃t,buildT s=[t]/\t.good/\t.bytes=s.size:=by
 have hb:=build_bytes s
 have hl:0 < (baseT s).length:=by rw [base_len];exact grp_pos h0 (by decide)
 by_cases h2:1 < (baseT s).length
 ·obtain ⟨k,t,e,hf,a,b⟩:=topT_fit (baseT s) 0 (base_fit h2) hl
  refine ⟨t,e,.inr ⟨k,?_,by rw [Nat.zero_add] at hf;exact hf⟩,?_⟩
  ·rw [base_len] at b
   have g:=(grp_le (n:=s.size) (m:=16) (by decide)).2
   rcases Nat.lt_or_ge 16 k with e' | e'
   ·have:4 ^ 17<=4 ^ k:=Nat.pow_le_pow_right (by decide) e'
    have e17:4 ^ 17=17179869184:=by decide
    omega
   ·exact e'
  ·rw [show buildT s=topT (baseT s) from rfl,e] at hb
   simpa [T.bytesL] using hb
 ·have e1:(baseT s).length=1:=by omega
  have e:buildT s=baseT s:=topT_le (by omega)
  match hm:baseT s,e1 with
  | [t],_=>
   rw [hm] at e
   refine ⟨t,e,.inl ?_,by rw [e] at hb;simpa [T.bytesL] using hb⟩
   have ht:t ∈ baseT s:=by rw [hm];simp
   simp only [baseT,List.mem_map] at ht
   obtain ⟨x,hx,rfl⟩:=ht
   rw [e] at hb
   have hx':x.size=s.size:=by simpa [T.bytesL,T.bytes] using hb
   refine ⟨x,rfl,by omega,?_⟩
   rw [base_len] at e1
   have g:=(grp_le (n:=s.size) (m:=16) (by decide)).1
   omega
def MapAt (w:World) (B:Nat) (es:List (Int × Value)):Prop:=∃bs:List Nat,bs.length=es.length/\w.heap[B]?=some (.map ((es.zip bs).map fun x=>({ key:=.int .u64 x.1.1,val:=x.1.2,born:=x.2 }:MapEntry)).toArray es.length)
theorem MapAt.ch {fp:Nat->Prop} {w w':World} {B:Nat} {es:List (Int × Value)} (h:MapAt w B es) (c:Ch fp w w') (hn:¬fp B):MapAt w' B es:=by
 obtain ⟨bs,hl,hb⟩:=h
 exact ⟨bs,hl,(c.block B (Array.getElem?_eq_some_iff.1 hb).1 hn).trans hb⟩
def u64At (es:List (Int × Value)) (k:Int):Option Value:=(es.find? fun x=>k == x.1).map Prod.snd
theorem findNow_u64 (k:Int):∀(es:List (Int × Value)) (bs:List Nat) (i:Nat),bs.length=es.length->
  ∃r,Instr.findNow (.int .u64) (.int .u64 k) ((es.zip bs).map fun x=>({ key:=.int .u64 x.1.1,val:=x.1.2,born:=x.2 }:MapEntry)) i=some r/\r.map Prod.snd=u64At es k:=by
 intro es
 induction es with
 | nil=>intro bs i h;exact ⟨none,by simp [Instr.findNow],rfl⟩
 | cons e es ih=>
  intro bs i h
  match bs,h with
  | b::bs,h=>
   simp at h
   by_cases hk:k=e.1
   ·exact ⟨some (i,e.2),by simp [Instr.findNow,Instr.sameNow,hk],by simp [u64At,hk]⟩
   ·obtain ⟨r,h1,h2⟩:=ih bs (i+1) h
    have hk':(k == e.1)=false:=by rw [beq_eq_false_iff_ne];exact hk
    refine ⟨r,?_,?_⟩
    ·simp [Instr.findNow,Instr.sameNow,hk']
     exact h1
    ·rw [h2];simp [u64At,List.find?_cons,hk']
section
variable {P:Program} {w:World} {ops:Array Oper} {rest:List Oper} {o:Oper} {a:Act} {Q:Exit->Act->World->Prop}
theorem run_insert_u64 {T kt et:TypeId} (hT:P.underlying T=some (.map kt et)) (hkt:P.underlying kt=some (.int .u64)) {B:Nat} {es:List (Int × Value)} (h:MapAt w B es) (key:Int) (val:Value) (hn:u64At es key=none) :
  ∃w',(Instr.mapUpdate T (.map (some B)) (.int .u64 key) val).run P w=.ok () w'/\MapAt w' B (es++[(key,val)])/\Ch (fun b=>b=B) w w':=by
 obtain ⟨bs,hl,hb⟩:=h
 obtain ⟨r,h1,h2⟩:=findNow_u64 key es bs 0 hl
 have hr:r=none:=by
  cases r with
  | none=>rfl
  | some x=>rw [hn] at h2;simp at h2
 subst hr
 have hc:(Instr.checkKey false 10000 kt (.int .u64 key)).run P w=.ok () w:=MapKept.run_checkKey (k:=.int .u64 key) hkt (by simp [MapKept.IsKey]) false 9999
 refine ⟨{ w with heap:=w.heap.setIfInBounds B (.map (((es.zip bs).map fun x=>({ key:=.int .u64 x.1.1,val:=x.1.2,born:=x.2 }:MapEntry)).toArray.push { key:=.int .u64 key,val,born:=es.length }) (es.length+1)) },?_,?_,?_⟩
 ·simp only [Instr.mapUpdate,Sem.run_bind,run_underlying hT,Result.andThen_ok,MapKept.run_getObj_map hb,hc]
  rw [MapKept.run_findKey hkt h1]
  simp only [Result.andThen_ok]
  exact MapKept.run_setObj_map _ hb
 ·refine ⟨bs++[es.length],by simp [hl],?_⟩
  have:=(MapKept.heap_set (o':=.map (((es.zip bs).map fun x=>({ key:=.int .u64 x.1.1,val:=x.1.2,born:=x.2 }:MapEntry)).toArray.push { key:=.int .u64 key,val,born:=es.length }) (es.length+1)) hb).1
  rw [this]
  simp [List.zip_append hl.symm]
 ·refine ⟨rfl,rfl,rfl,by simp,fun k _ hk=>(MapKept.heap_set hb).2 k hk⟩
end
end Go.Proofs.YtjcdknhejcbpiaaGreat
