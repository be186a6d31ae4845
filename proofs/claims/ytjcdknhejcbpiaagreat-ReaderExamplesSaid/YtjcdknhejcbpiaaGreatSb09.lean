/- Lemmas; no condition. -/
import Derived.Test.YtjcdknhejcbpiaaGreatSb08
set_option maxHeartbeats 4000000
namespace Go.Proofs.YtjcdknhejcbpiaaGreat
open Go.RowKit
set_option linter.unusedVariables false
set_option linter.unusedSimpArgs false
def dlen (l:List Int):Int:=ann (lk l 0)
def dval (l:List Int):Int:=acc l (dlen l) (dlen l).toNat
def dgood (l:List Int):Prop:=0 < l.length/\1<=dlen l/\dlen l<=l.length/\contTo l (dlen l).toNat/\rlen (dval l)=dlen l
theorem contTo1 (l:List Int):contTo l 1:=fun j h1 h2=>by omega
theorem contTo2 (l:List Int):contTo l 2↔cont (lk l 1)=true:=by
 constructor
 ·exact fun h=>h 1 (by omega) (by omega)
 ·intro h j h1 h2
  obtain rfl:j=1:=by omega
  exact h
theorem contTo3 (l:List Int):contTo l 3↔cont (lk l 1)=true/\cont (lk l 2)=true:=by
 constructor
 ·exact fun h=>⟨h 1 (by omega) (by omega),h 2 (by omega) (by omega)⟩
 ·intro h j h1 h2
  have:j=1\/j=2:=by omega
  rcases this with rfl | rfl
  ·exact h.1
  ·exact h.2
theorem contTo4 (l:List Int):contTo l 4↔cont (lk l 1)=true/\cont (lk l 2)=true/\cont (lk l 3)=true:=by
 constructor
 ·exact fun h=>⟨h 1 (by omega) (by omega),h 2 (by omega) (by omega),h 3 (by omega) (by omega)⟩
 ·intro h j h1 h2
  have:j=1\/j=2\/j=3:=by omega
  rcases this with rfl | rfl | rfl
  ·exact h.1
  ·exact h.2.1
  ·exact h.2.2
theorem lk0 (a:Int) (t:List Int):lk (a::t) 0=a:=rfl
theorem lk1 (a b:Int) (t:List Int):lk (a::b::t) 1=b:=rfl
theorem lk2 (a b c:Int) (t:List Int):lk (a::b::c::t) 2=c:=rfl
theorem lk3 (a b c d:Int) (t:List Int):lk (a::b::c::d::t) 3=d:=rfl
theorem cont_iff (b:Int):cont b=true↔128<=b/\b < 192:=by simp [cont]
theorem runeB_iff (r:Int):runeB r=true↔0<=r/\r<=1114111/\(r < 55296\/57343 < r):=by simp [runeB]
theorem rlen_of {r:Int} (h:runeB r=true):rlen r=if r < 128 then 1 else if r < 2048 then 2 else if r < 65536 then 3 else 4:=by unfold rlen;rw [if_neg (by simp [h])]
theorem rlen_no {r:Int} (h:runeB r=false):rlen r=0:=by unfold rlen;rw [if_pos h]
theorem ann4 {b:Int} (h1:240<=b) (h2:b<=244):ann b=4:=by unfold ann;rw [if_neg (by omega),if_pos (by omega)]
theorem ann3 {b:Int} (h1:224<=b) (h2:b < 240):ann b=3:=by unfold ann;rw [if_neg (by omega),if_neg (by omega),if_pos (by omega)]
theorem ann2 {b:Int} (h1:194<=b) (h2:b < 224):ann b=2:=by unfold ann;rw [if_neg (by omega),if_neg (by omega),if_neg (by omega),if_pos (by omega)]
theorem ann1 {b:Int} (h2:b < 128):ann b=1:=by unfold ann;rw [if_neg (by omega),if_neg (by omega),if_neg (by omega),if_neg (by omega),if_pos (by omega)]
theorem ann0 {b:Int} (h:244 < b\/(128<=b/\b < 194)):ann b=0:=by
 unfold ann
 by_cases h1:244 < b
 ·rw [if_pos h1]
 ·rw [if_neg h1,if_neg (by omega),if_neg (by omega),if_neg (by omega),if_neg (by omega)]
theorem dg4 (a b c d:Int) (t:List Int) (h1:240<=a) (h2:a < 256):rgood (a::b::c::d::t) 4 (a - 240)↔dgood (a::b::c::d::t):=by
 unfold rgood
 rw [contTo4,lk1,lk2,lk3]
 simp only [racc,Nat.zero_add,Nat.reduceAdd,lk0,lk1,lk2,lk3,List.length_cons]
 by_cases ha:a<=244
 ·have hn:dlen (a::b::c::d::t)=4:=by rw [dlen,lk0,ann4 h1 ha]
  have hv:dval (a::b::c::d::t)=64 * (64 * (64 * (a - 240)+(b - 128))+(c - 128))+(d - 128):=by
   unfold dval
   rw [hn]
   simp only [show (4:Int).toNat=4 from rfl,acc,Nat.zero_add,Nat.reduceAdd,lk0,lk1,lk2,lk3,lead]
   simp
   omega
  unfold dgood
  rw [hn,hv,show (4:Int).toNat=4 from rfl,contTo4,lk1,lk2,lk3,List.length_cons]
  have e:64 * (64 * (64 * (a - 240)+b - 128)+c - 128)+d - 128=64 * (64 * (64 * (a - 240)+(b - 128))+(c - 128))+(d - 128):=by omega
  rw [e]
  generalize hr:64 * (64 * (64 * (a - 240)+(b - 128))+(c - 128))+(d - 128)=r
  simp only [cont_iff]
  constructor
  ·rintro ⟨_,hc,hrb,he⟩
   refine ⟨by omega,by omega,by simp only [List.length_cons];omega,hc,?_⟩
   rw [rlen_of hrb]
   have:=runeB_bd hrb
   unfold encL at he
   repeat' split at he
   all_goals simp at he
   rw [if_neg (by omega),if_neg (by omega),if_neg (by omega)]
  ·rintro ⟨_,_,_,hc,hl⟩
   have hrb:runeB r=true:=by
    cases hx:runeB r with
    | true=>rfl
    | false=>rw [rlen_no hx] at hl;omega
   have hbd:=runeB_bd hrb
   refine ⟨by omega,hc,hrb,?_⟩
   rw [rlen_of hrb] at hl
   unfold encL
   repeat' split at hl
   all_goals first | omega | skip
   rw [if_neg (by omega),if_neg (by omega),if_neg (by omega)]
   simp
   omega
 ·have hn:dlen (a::b::c::d::t)=0:=by rw [dlen,lk0,ann0 (by omega)]
  constructor
  ·rintro ⟨_,hc,hrb,he⟩
   rw [runeB_iff] at hrb
   simp only [cont_iff] at hc
   omega
  ·rintro ⟨_,h,_⟩
   rw [hn] at h
   omega
theorem dg3 (a b c:Int) (t:List Int) (h1:224<=a) (h2:a < 240):rgood (a::b::c::t) 3 (a - 224)↔dgood (a::b::c::t):=by
 unfold rgood
 rw [contTo3,lk1,lk2]
 simp only [racc,Nat.zero_add,Nat.reduceAdd,lk0,lk1,lk2,List.length_cons]
 have hn:dlen (a::b::c::t)=3:=by rw [dlen,lk0,ann3 h1 h2]
 have hv:dval (a::b::c::t)=64 * (64 * (a - 224)+(b - 128))+(c - 128):=by
  unfold dval
  rw [hn]
  simp only [show (3:Int).toNat=3 from rfl,acc,Nat.zero_add,Nat.reduceAdd,lk0,lk1,lk2,lead]
  simp
  omega
 unfold dgood
 rw [hn,hv,show (3:Int).toNat=3 from rfl,contTo3,lk1,lk2,List.length_cons]
 have e:64 * (64 * (a - 224)+b - 128)+c - 128=64 * (64 * (a - 224)+(b - 128))+(c - 128):=by omega
 rw [e]
 generalize hr:64 * (64 * (a - 224)+(b - 128))+(c - 128)=r
 simp only [cont_iff]
 constructor
 ·rintro ⟨_,hc,hrb,he⟩
  refine ⟨by omega,by omega,by simp only [List.length_cons];omega,hc,?_⟩
  rw [rlen_of hrb]
  have:=runeB_bd hrb
  unfold encL at he
  repeat' split at he
  all_goals simp at he
  rw [if_neg (by omega),if_neg (by omega),if_pos (by omega)]
 ·rintro ⟨_,_,_,hc,hl⟩
  have hrb:runeB r=true:=by
   cases hx:runeB r with
   | true=>rfl
   | false=>rw [rlen_no hx] at hl;omega
  have hbd:=runeB_bd hrb
  refine ⟨by omega,hc,hrb,?_⟩
  rw [rlen_of hrb] at hl
  unfold encL
  repeat' split at hl
  all_goals first | omega | skip
  rw [if_neg (by omega),if_neg (by omega),if_pos (by omega)]
  simp
  omega
theorem dg2 (a b:Int) (t:List Int) (h1:192<=a) (h2:a < 224):rgood (a::b::t) 2 (a - 192)↔dgood (a::b::t):=by
 unfold rgood
 rw [contTo2,lk1]
 simp only [racc,Nat.zero_add,Nat.reduceAdd,lk0,lk1,List.length_cons]
 by_cases ha:194<=a
 ·have hn:dlen (a::b::t)=2:=by rw [dlen,lk0,ann2 ha h2]
  have hv:dval (a::b::t)=64 * (a - 192)+(b - 128):=by
   unfold dval
   rw [hn]
   simp only [show (2:Int).toNat=2 from rfl,acc,Nat.zero_add,Nat.reduceAdd,lk0,lk1,lead]
   simp
   omega
  unfold dgood
  rw [hn,hv,show (2:Int).toNat=2 from rfl,contTo2,lk1,List.length_cons]
  have e:64 * (a - 192)+b - 128=64 * (a - 192)+(b - 128):=by omega
  rw [e]
  generalize hr:64 * (a - 192)+(b - 128)=r
  simp only [cont_iff]
  constructor
  ·rintro ⟨_,hc,hrb,he⟩
   refine ⟨by omega,by omega,by simp only [List.length_cons];omega,hc,?_⟩
   rw [rlen_of hrb]
   have:=runeB_bd hrb
   rw [if_neg (by omega),if_pos (by omega)]
  ·rintro ⟨_,_,_,hc,hl⟩
   have hrb:runeB r=true:=by
    cases hx:runeB r with
    | true=>rfl
    | false=>rw [rlen_no hx] at hl;omega
   have hbd:=runeB_bd hrb
   refine ⟨by omega,hc,hrb,?_⟩
   unfold encL
   rw [if_neg (by omega),if_pos (by omega)]
   simp
   omega
 ·have hn:dlen (a::b::t)=0:=by rw [dlen,lk0,ann0 (by omega)]
  constructor
  ·rintro ⟨_,hc,hrb,he⟩
   simp only [cont_iff] at hc
   have hbd:=runeB_bd hrb
   unfold encL at he
   repeat' split at he
   all_goals simp at he
   all_goals omega
  ·rintro ⟨_,h,_⟩
   rw [hn] at h
   omega
theorem dg1 (a:Int) (t:List Int) (h1:0<=a) (h2:a < 192):rgood (a::t) 1 a↔dgood (a::t):=by
 unfold rgood
 simp only [racc,Nat.zero_add,Nat.reduceAdd,List.length_cons]
 by_cases ha:a < 128
 ·have hn:dlen (a::t)=1:=by rw [dlen,lk0,ann1 ha]
  have hv:dval (a::t)=a:=by
   unfold dval
   rw [hn]
   simp [acc,lk0,lead]
  unfold dgood
  rw [hn,hv,show (1:Int).toNat=1 from rfl,List.length_cons]
  have hrb:runeB a=true:=by rw [runeB_iff];omega
  constructor
  ·rintro _
   refine ⟨by omega,by omega,by omega,contTo1 _,?_⟩
   rw [rlen_of hrb,if_pos ha]
  ·rintro _
   refine ⟨by omega,contTo1 _,hrb,?_⟩
   unfold encL
   rw [if_pos ha]
   simp
 ·have hn:dlen (a::t)=0:=by rw [dlen,lk0,ann0 (by omega)]
  constructor
  ·rintro ⟨_,hc,hrb,he⟩
   unfold encL at he
   rw [if_neg ha,if_pos (by omega)] at he
   simp at he
  ·rintro ⟨_,h,_⟩
   rw [hn] at h
   omega
def DecAny (l:List Int) (w:World) (e:Ending) (w':World):Prop:=
 Below w.heap.size w w'/\(dgood l/\e=.returned (.tuple #[.int .i64 (dval l),.int .i64 (dlen l),.int .i64 0])\/¬dgood l/\e=.returned (.tuple #[.int .i64 0,.int .i64 0,.int .i64 (if l.length=0 then 3 else 11)]))
theorem size_nil {s:ByteArray} (h:s.size=0):s.toList.isEmpty=true:=by
 rw [ByteArray.toList_eq]
 have:s.data.toList.length=0:=by simpa using h
 rw [List.eq_nil_of_length_eq_zero this];rfl
theorem dgood_nil {l:List Int} (h:l.length=0):¬dgood l:=fun hg=>by have:=hg.1;omega
theorem dec_nil (s:ByteArray) (w:World) (hs:s.size=0):Calls Tryz.prog 141 #[.string s] w fun e w'=>e=.returned (.tuple #[.int .i64 0,.int .i64 0,.int .i64 3])/\w=w':=by
 have he:=size_nil hs
 clear hs
 go_enter Tryz.func141,Tryz.ntmps141
 go_wp2_with fail
 go_ret3
 exact ⟨rfl,rfl⟩
theorem rdec_nil (s:ByteArray) (w:World) (hs:s.size=0):Calls Tryz.prog 54 #[.string s] w fun e w'=>e=.returned (.tuple #[.int .i64 0,.int .i64 0,.int .i64 3])/\w=w':=by
 have he:=size_nil hs
 clear hs
 go_enter Tryz.func54,Tryz.ntmps54
 go_wp2_with fail
 go_ret3
 exact ⟨rfl,rfl⟩
theorem dec_short (s:ByteArray) (w:World) (hs:0 < s.size) (hm:s.size<=1000000) (h:ann (lk (bs s) 0)=0\/(s.size:Int) < ann (lk (bs s) 0)):Calls Tryz.prog 141 #[.string s] w fun e w'=>e=.returned (.tuple #[.int .i64 0,.int .i64 0,.int .i64 11])/\w=w':=by
 have he:=size_data hs
 have h0:=bs_get s 0 hs
 go_enter Tryz.func141,Tryz.ntmps141
 go_wp2_with fail
 refine (ann_any _ _).mono ?_
 rintro e w0 ⟨rfl,rfl⟩
 rcases h with h | h
 ·rw [h]
  go_wp2_with fail
  go_ret3
  exact ⟨rfl,rfl⟩
 ·have d0:(ann (lk (bs s) 0) == 0)=false:=by rw [beq_eq_false_iff_ne];omega
  have d1:decide ((s.size:Int) < ann (lk (bs s) 0))=true:=by simpa using h
  go_wp2_with fail
  go_ret3
  exact ⟨rfl,rfl⟩
theorem decP_any {l:List Int} {n:Nat} {ni:Int} {w w':World} {e:Ending} (hi:ni=n) (hn:dlen l=ni) (h0:0 < l.length) (h1:1<=n) (h2:n<=l.length) (h:DecP l n ni w e w'):DecAny l w e w':=by
 obtain ⟨rfl,h⟩:=h
 refine ⟨Below.refl _ _,?_⟩
 have hg:dgood l↔contTo l n/\rlen (acc l ni n)=ni:=by
  unfold dgood dval
  rw [hn,show ni.toNat=n by omega]
  constructor
  ·exact fun h=>h.2.2.2
  ·exact fun h=>⟨h0,by omega,by omega,h⟩
 rcases h with ⟨h,rfl⟩ | ⟨h,rfl⟩
 ·refine .inl ⟨hg.2 h,?_⟩
  unfold dval
  rw [hn,show ni.toNat=n by omega]
 ·refine .inr ⟨fun h'=>h (hg.1 h'),?_⟩
  rw [if_neg (by omega)]
theorem dec_any (s:ByteArray) (w:World) (hm:s.size<=1000000):Calls Tryz.prog 141 #[.string s] w (DecAny (bs s) w):=by
 have hl:=bs_length s
 by_cases h0:s.size=0
 ·exact (dec_nil s w h0).mono fun e w' ⟨he,hw⟩=>hw ▸ ⟨Below.refl _ _,.inr ⟨dgood_nil (by omega),by rw [he,if_pos (by omega)]⟩⟩
 ·by_cases hn:ann (lk (bs s) 0)=0\/(s.size:Int) < ann (lk (bs s) 0)
  ·refine (dec_short s w (by omega) hm hn).mono fun e w' ⟨he,hw⟩=>hw ▸ ⟨Below.refl _ _,.inr ⟨fun hg=>?_,by rw [he,if_neg (by omega)]⟩⟩
   have h1:=hg.2.1
   have h2:=hg.2.2.1
   unfold dlen at h1 h2
   omega
  ·rcases ann_cases (lk (bs s) 0) with h | h | h | h | h
   ·exact absurd (.inl h) hn
   ·exact (dec1_any s w (by omega) hm h).mono fun e w' hp=>decP_any (by rfl) h (by omega) (by omega) (by omega) hp
   ·exact (dec2_any s w (by omega) hm h).mono fun e w' hp=>decP_any (by rfl) h (by omega) (by omega) (by omega) hp
   ·exact (dec3_any s w (by omega) hm h).mono fun e w' hp=>decP_any (by rfl) h (by omega) (by omega) (by omega) hp
   ·exact (dec4_any s w (by omega) hm h).mono fun e w' hp=>decP_any (by rfl) h (by omega) (by omega) (by omega) hp
theorem rdecP_any {l:List Int} {n:Nat} {x:Int} {w w':World} {e:Ending} (h0:0 < l.length) (hg:rgood l n x↔dgood l) (hv:dgood l->racc l x n=dval l/\(n:Int)=dlen l) (h:RDecP l n x w e w'):DecAny l w e w':=by
 obtain ⟨hb,h⟩:=h
 refine ⟨hb,?_⟩
 rcases h with ⟨h,rfl⟩ | ⟨h,rfl⟩
 ·have hd:=hg.1 h
  refine .inl ⟨hd,?_⟩
  rw [(hv hd).1,(hv hd).2]
 ·refine .inr ⟨fun h'=>h (hg.2 h'),?_⟩
  rw [if_neg (by omega)]
theorem short4 {l:List Int} (h:l.length < 4) (h1:240<=lk l 0):¬dgood l:=fun hg=>by
 have a:=hg.2.1
 have b:=hg.2.2.1
 unfold dlen at a b
 by_cases h2:lk l 0<=244
 ·rw [ann4 h1 h2] at b;omega
 ·rw [ann0 (by omega)] at a;omega
theorem short3 {l:List Int} (h:l.length < 3) (h1:224<=lk l 0) (h2:lk l 0 < 240):¬dgood l:=fun hg=>by
 have b:=hg.2.2.1
 unfold dlen at b
 rw [ann3 h1 h2] at b;omega
theorem short2 {l:List Int} (h:l.length < 2) (h1:192<=lk l 0) (h2:lk l 0 < 224):¬dgood l:=fun hg=>by
 have a:=hg.2.1
 have b:=hg.2.2.1
 unfold dlen at a b
 by_cases h3:194<=lk l 0
 ·rw [ann2 h3 h2] at b;omega
 ·rw [ann0 (by omega)] at a;omega
theorem dv4 {l:List Int} (h:dgood l) (h1:240<=lk l 0):racc l (lk l 0 - 240) 4=dval l/\((4:Nat):Int)=dlen l:=by
 have a:=h.2.1
 have h2:lk l 0<=244:=by
  unfold dlen at a
  by_cases h2:lk l 0<=244
  ·exact h2
  ·rw [ann0 (by omega)] at a;omega
 have hn:dlen l=4:=ann4 h1 h2
 refine ⟨?_,by rw [hn];rfl⟩
 unfold dval
 rw [hn]
 simp only [show (4:Int).toNat=4 from rfl,acc,racc,lead]
 simp
 omega
theorem dv3 {l:List Int} (h:dgood l) (h1:224<=lk l 0) (h2:lk l 0 < 240):racc l (lk l 0 - 224) 3=dval l/\((3:Nat):Int)=dlen l:=by
 have hn:dlen l=3:=ann3 h1 h2
 refine ⟨?_,by rw [hn];rfl⟩
 unfold dval
 rw [hn]
 simp only [show (3:Int).toNat=3 from rfl,acc,racc,lead]
 simp
 omega
theorem dv2 {l:List Int} (h:dgood l) (h1:192<=lk l 0) (h2:lk l 0 < 224):racc l (lk l 0 - 192) 2=dval l/\((2:Nat):Int)=dlen l:=by
 have a:=h.2.1
 have h3:194<=lk l 0:=by
  unfold dlen at a
  by_cases h3:194<=lk l 0
  ·exact h3
  ·rw [ann0 (by omega)] at a;omega
 have hn:dlen l=2:=ann2 h3 h2
 refine ⟨?_,by rw [hn];rfl⟩
 unfold dval
 rw [hn]
 simp only [show (2:Int).toNat=2 from rfl,acc,racc,lead]
 simp
 omega
theorem dv1 {l:List Int} (h:dgood l) (h2:lk l 0 < 192) (h0:0<=lk l 0):racc l (lk l 0) 1=dval l/\((1:Nat):Int)=dlen l:=by
 have a:=h.2.1
 have h3:lk l 0 < 128:=by
  unfold dlen at a
  by_cases h3:lk l 0 < 128
  ·exact h3
  ·rw [ann0 (by omega)] at a;omega
 have hn:dlen l=1:=ann1 h3
 refine ⟨?_,by rw [hn];rfl⟩
 unfold dval
 rw [hn]
 simp only [show (1:Int).toNat=1 from rfl,acc,racc,lead]
 simp
theorem rg4 (l:List Int) (h0:0 < l.length) (h1:240<=lk l 0) (h2:lk l 0 < 256):rgood l 4 (lk l 0 - 240)↔dgood l:=by
 match l,h0,h1,h2 with
 | a::b::c::d::t,_,h1,h2=>exact dg4 a b c d t h1 h2
 | [a,b,c],_,h1,_=>exact ⟨fun h=>absurd h.1 (by simp),fun h=>absurd h (short4 (by simp) h1)⟩
 | [a,b],_,h1,_=>exact ⟨fun h=>absurd h.1 (by simp),fun h=>absurd h (short4 (by simp) h1)⟩
 | [a],_,h1,_=>exact ⟨fun h=>absurd h.1 (by simp),fun h=>absurd h (short4 (by simp) h1)⟩
theorem rg3 (l:List Int) (h0:0 < l.length) (h1:224<=lk l 0) (h2:lk l 0 < 240):rgood l 3 (lk l 0 - 224)↔dgood l:=by
 match l,h0,h1,h2 with
 | a::b::c::t,_,h1,h2=>exact dg3 a b c t h1 h2
 | [a,b],_,h1,h2=>exact ⟨fun h=>absurd h.1 (by simp),fun h=>absurd h (short3 (by simp) h1 h2)⟩
 | [a],_,h1,h2=>exact ⟨fun h=>absurd h.1 (by simp),fun h=>absurd h (short3 (by simp) h1 h2)⟩
theorem rg2 (l:List Int) (h0:0 < l.length) (h1:192<=lk l 0) (h2:lk l 0 < 224):rgood l 2 (lk l 0 - 192)↔dgood l:=by
 match l,h0,h1,h2 with
 | a::b::t,_,h1,h2=>exact dg2 a b t h1 h2
 | [a],_,h1,h2=>exact ⟨fun h=>absurd h.1 (by simp),fun h=>absurd h (short2 (by simp) h1 h2)⟩
theorem rg1 (l:List Int) (h0:0 < l.length) (h1:0<=lk l 0) (h2:lk l 0 < 192):rgood l 1 (lk l 0)↔dgood l:=by
 match l,h0,h1,h2 with
 | a::t,_,h1,h2=>exact dg1 a t h1 h2
theorem rdec_any (s:ByteArray) (w:World) (hm:s.size<=1000000):Calls Tryz.prog 54 #[.string s] w (DecAny (bs s) w):=by
 have hl:=bs_length s
 have hb:=bs_bd s 0
 by_cases h0:s.size=0
 ·exact (rdec_nil s w h0).mono fun e w' ⟨he,hw⟩=>hw ▸ ⟨Below.refl _ _,.inr ⟨dgood_nil (by omega),by rw [he,if_pos (by omega)]⟩⟩
 ·by_cases h4:240<=lk (bs s) 0
  ·exact (rdec4_any s w (by omega) hm h4 hb.2).mono fun e w' hp=>rdecP_any (by omega) (rg4 _ (by omega) h4 hb.2) (fun h=>dv4 h h4) hp
  ·by_cases h3:224<=lk (bs s) 0
   ·exact (rdec3_any s w (by omega) hm h3 (by omega)).mono fun e w' hp=>rdecP_any (by omega) (rg3 _ (by omega) h3 (by omega)) (fun h=>dv3 h h3 (by omega)) hp
   ·by_cases h2:192<=lk (bs s) 0
    ·exact (rdec2_any s w (by omega) hm h2 (by omega)).mono fun e w' hp=>rdecP_any (by omega) (rg2 _ (by omega) h2 (by omega)) (fun h=>dv2 h h2 (by omega)) hp
    ·exact (rdec1_any s w (by omega) hm hb.1 (by omega)).mono fun e w' hp=>rdecP_any (by omega) (rg1 _ (by omega) hb.1 (by omega)) (fun h=>dv1 h (by omega) hb.1) hp
inductive Vd:List Int->Prop
 | nil {l:List Int}:l.length=0->Vd l
 | step {l:List Int}:dgood l->Vd (l.drop (dlen l).toNat)->Vd l
theorem vd_step {l:List Int} (h:dgood l):Vd l↔Vd (l.drop (dlen l).toNat):=by
 constructor
 ·intro hv
  cases hv with
  | nil h0=>exact absurd h.1 (by omega)
  | step _ hv=>exact hv
 ·exact Vd.step h
theorem vd_not {l:List Int} (h:¬dgood l) (h0:0 < l.length):¬Vd l:=fun hv=>by
 cases hv with
 | nil h1=>omega
 | step hg _=>exact h hg
open Classical in
noncomputable def vdB (l:List Int):Bool:=decide (Vd l)
open Classical in
theorem vdB_true {l:List Int} (h:Vd l):vdB l=true:=decide_eq_true h
open Classical in
theorem vdB_false {l:List Int} (h:¬Vd l):vdB l=false:=decide_eq_false h
def strSize:Value->Nat
 | .string s=>s.size
 | _=>0
theorem bs_drop (s:ByteArray) (n:Nat):bs (s.extract n s.size)=(bs s).drop n:=by
 unfold bs
 rw [<-List.map_drop]
 congr 1
 simp only [ByteArray.data_extract,Array.toList_extract,List.extract_eq_take_drop]
 rw [List.take_of_length_le (by simp)]
theorem valid_any (s:ByteArray) (w:World) (hm:s.size<=1000000):Calls Tryz.prog 115 #[.string s] w fun e w'=>e=.returned (.bool (vdB (bs s)))/\Below w.heap.size w w':=by
 go_enter Tryz.func115,Tryz.ntmps115
 go_wp2_with fail
 go_loopw [0] (fun v wr=>∃t:ByteArray,v=.string t/\t.size<=s.size/\(Vd (bs s)↔Vd (bs t))/\Below w.heap.size w wr) (fun v _=>strSize v)
 case atStart=>exact ⟨s,rfl,Nat.le_refl _,Iff.rfl,Below.refl _ _⟩
 case round=>
  obtain ⟨t,rfl,hts,hv,hbel⟩:=hrel
  have Hv:=hid hv
  clear hv
  by_cases h0:t.size=0
  ·have he:=size_nil h0
   go_wp2_with fail
   go_ret
   exact ⟨by rw [vdB_true (Hv.out.2 (Vd.nil (by rw [bs_length];exact h0)))];rfl,hbel⟩
  {
 have he:=size_data (s:=t) (by omega)
 go_wp2_with fail
 refine (dec_any t _ (by omega)).mono ?_
 rintro e w1 ⟨hb1,⟨hg,rfl⟩ | ⟨hg,rfl⟩⟩
 ·obtain ⟨n,hn⟩:=Int.eq_ofNat_of_zero_le (by have:=hg.2.1;omega:0<=dlen (bs t))
  have hn1:=hg.2.1
  have hn2:=hg.2.2.1
  rw [bs_length] at hn2
  have hn3:1<=n/\n<=t.size:=by omega
  obtain ⟨g1,g2⟩:=hn3
  have Hg:=hid hg
  have Hn:=hid hn
  rw [hn]
  clear hg hn hn1 hn2
  go_wp2_with fail
  go_roundw
  case rel=>
   refine ⟨t.extract n t.size,rfl,?_,?_,hbel.trans (hb1.mono hbel.size)⟩
   ·simp [ByteArray.size_extract];omega
   ·rw [Hv.out,vd_step Hg.out,Hn.out,bs_drop];rfl
  case measure=>simp [strSize,ByteArray.size_extract];omega
 ·have h3:(if (bs t).length=0 then (3:Int) else 11)=11:=by rw [if_neg (by rw [bs_length];exact h0)]
  rw [h3]
  go_wp2_with fail
  go_ret
  exact ⟨by rw [vdB_false (fun h=>vd_not hg (by rw [bs_length];omega) (Hv.out.1 h))];rfl,hbel.trans (hb1.mono hbel.size)⟩
 }
theorem rvalid_any (s:ByteArray) (w:World) (hm:s.size<=1000000):Calls Tryz.prog 31 #[.string s] w fun e w'=>e=.returned (.bool (vdB (bs s)))/\Below w.heap.size w w':=by
 go_enter Tryz.func31,Tryz.ntmps31
 go_wp2_with fail
 go_loopw [3] (fun v wr=>∃k:Nat,v=.int .i64 k/\k<=s.size/\(Vd (bs s)↔Vd ((bs s).drop k))/\Below w.heap.size w wr) (fun v _=>s.size - (intOf v).toNat)
 case atStart=>exact ⟨0,rfl,by omega,Iff.rfl,Below.refl _ _⟩
 case round=>
  obtain ⟨k,rfl,hks,hv,hbel⟩:=hrel
  have Hv:=hid hv
  clear hv
  by_cases h0:k < s.size
  {
 go_wp2_with fail
 have hsz:(s.extract k s.size).size=s.size - k:=by simp [ByteArray.size_extract]
 refine (rdec_any (s.extract k s.size) _ (by omega)).mono ?_
 rintro e w1 ⟨hb1,hd⟩
 rw [bs_drop] at hd
 have hll:((bs s).drop k).length=s.size - k:=by rw [List.length_drop,bs_length]
 clear hsz
 rcases hd with ⟨hg,rfl⟩ | ⟨hg,rfl⟩
 ·obtain ⟨n,hn⟩:=Int.eq_ofNat_of_zero_le (by have:=hg.2.1;omega:0<=dlen ((bs s).drop k))
  have hn1:=hg.2.1
  have hn2:=hg.2.2.1
  rw [hll] at hn2
  have g1:1<=n:=by omega
  have g2:k+n<=s.size:=by omega
  have Hg:=hid hg
  have Hn:=hid hn
  rw [hn]
  clear hg hn hn1 hn2 hll
  go_wp2_with fail
  go_roundw
  case rel=>
   refine ⟨k+n,by go_num,by omega,?_,hbel.trans (hb1.mono hbel.size)⟩
   rw [Hv.out,vd_step Hg.out,Hn.out,List.drop_drop];rfl
  case measure=>simp [intOf];omega
 ·have h3:(if ((bs s).drop k).length=0 then (3:Int) else 11)=11:=by rw [if_neg (by rw [hll];omega)]
  rw [h3]
  clear h3
  have Hll:=hid hll
  clear hll
  go_wp2_with fail
  go_ret
  exact ⟨by rw [vdB_false (fun h=>vd_not hg (by rw [Hll.out];omega) (Hv.out.1 h))];rfl,hbel.trans (hb1.mono hbel.size)⟩
 }
  ·obtain rfl:k=s.size:=by omega
   go_wp2_with fail
   go_ret
   exact ⟨by rw [vdB_true (Hv.out.2 (Vd.nil (by rw [List.length_drop,bs_length];omega)))];rfl,hbel⟩
structure Cf where
 sl:Int
 ge:Int
 cl:Int
 re:Int
 qu:Int
 ba:Int
 fe:Int
 tx:ByteArray
def Cf.v (c:Cf):Value:=.agg #[.int .i64 c.sl,.int .u64 c.ge,.int .i64 c.cl,.int .i64 c.re,.int .i64 c.qu,.int .i64 c.ba,.int .i64 c.fe,.string c.tx]
def Cf.nums (c:Cf):Prop:=(1<=c.sl/\c.sl<=16384)/\(1<=c.ge/\c.ge<=4294967295)/\(0<=c.cl/\c.cl<=8)/\(0<=c.re/\c.re<=8)/\(1<=c.qu/\c.qu<=64)/\(1<=c.ba/\c.ba<=16)/\(1<=c.fe/\c.fe<=64)
open Classical in
noncomputable def ckE (c:Cf):Int:=if ¬c.nums then 2 else if 65536 < c.tx.size then 5 else if vdB (bs c.tx)=false then 11 else 0
def winB (n lo hi:Int):Bool:=decide (lo<=n/\n<=hi)
theorem cwithin_any (n lo hi:Int) (w:World):Calls Tryz.prog 114 #[.int .i64 n,.int .i64 lo,.int .i64 hi] w fun e w'=>e=.returned (.bool (winB n lo hi))/\w=w':=by
 by_cases h1:lo<=n
 ·by_cases h2:n<=hi
  ·rw [show winB n lo hi=true by simp [winB,h1,h2]]
   go_enter Tryz.func114,Tryz.ntmps114
   go_wp2_with fail
   go_ret
   exact ⟨rfl,rfl⟩
  ·rw [show winB n lo hi=false by simp [winB,h2]]
   go_enter Tryz.func114,Tryz.ntmps114
   go_wp2_with fail
   go_ret
   exact ⟨rfl,rfl⟩
 ·rw [show winB n lo hi=false by simp [winB,h1]]
  go_enter Tryz.func114,Tryz.ntmps114
  go_wp2_with fail
  go_ret
  exact ⟨rfl,rfl⟩
theorem check_f00 (sl ge cl re qu ba fe:Int) (tx:ByteArray) (w:World) (hsl:winB sl 1 16384=false):Calls Tryz.prog 78 #[.agg #[.int .i64 sl,.int .u64 ge,.int .i64 cl,.int .i64 re,.int .i64 qu,.int .i64 ba,.int .i64 fe,.string tx]] w (fun e w'=>e=.returned (.int .i64 2)/\Below w.heap.size w w'):=by
 go_enter Tryz.func78,Tryz.ntmps78
 go_wp2_with (go_at_call 114;refine (cwithin_any _ _ _ _).mono ?_;rintro e w' ⟨rfl,rfl⟩)
 go_ret
 exact ⟨rfl,(Below.refl _ _).alloc (Nat.le_refl _) _⟩
theorem check_f10 (sl ge cl re qu ba fe:Int) (tx:ByteArray) (w:World) (hsl:winB sl 1 16384=true) (hge:decide (ge < 1)=true):Calls Tryz.prog 78 #[.agg #[.int .i64 sl,.int .u64 ge,.int .i64 cl,.int .i64 re,.int .i64 qu,.int .i64 ba,.int .i64 fe,.string tx]] w (fun e w'=>e=.returned (.int .i64 2)/\Below w.heap.size w w'):=by
 go_enter Tryz.func78,Tryz.ntmps78
 go_wp2_with (go_at_call 114;refine (cwithin_any _ _ _ _).mono ?_;rintro e w' ⟨rfl,rfl⟩)
 go_ret
 exact ⟨rfl,(Below.refl _ _).alloc (Nat.le_refl _) _⟩
theorem check_f11 (sl ge cl re qu ba fe:Int) (tx:ByteArray) (w:World) (hsl:winB sl 1 16384=true) (hge:decide (ge < 1)=false) (kge:decide ((4294967295:Int) < ge)=true):Calls Tryz.prog 78 #[.agg #[.int .i64 sl,.int .u64 ge,.int .i64 cl,.int .i64 re,.int .i64 qu,.int .i64 ba,.int .i64 fe,.string tx]] w (fun e w'=>e=.returned (.int .i64 2)/\Below w.heap.size w w'):=by
 go_enter Tryz.func78,Tryz.ntmps78
 go_wp2_with (go_at_call 114;refine (cwithin_any _ _ _ _).mono ?_;rintro e w' ⟨rfl,rfl⟩)
 go_ret
 exact ⟨rfl,(Below.refl _ _).alloc (Nat.le_refl _) _⟩
theorem check_f20 (sl ge cl re qu ba fe:Int) (tx:ByteArray) (w:World) (hsl:winB sl 1 16384=true) (hge:decide (ge < 1)=false) (kge:decide ((4294967295:Int) < ge)=false) (hcl:winB cl 0 8=false):Calls Tryz.prog 78 #[.agg #[.int .i64 sl,.int .u64 ge,.int .i64 cl,.int .i64 re,.int .i64 qu,.int .i64 ba,.int .i64 fe,.string tx]] w (fun e w'=>e=.returned (.int .i64 2)/\Below w.heap.size w w'):=by
 go_enter Tryz.func78,Tryz.ntmps78
 go_wp2_with (go_at_call 114;refine (cwithin_any _ _ _ _).mono ?_;rintro e w' ⟨rfl,rfl⟩)
 go_ret
 exact ⟨rfl,(Below.refl _ _).alloc (Nat.le_refl _) _⟩
theorem check_f30 (sl ge cl re qu ba fe:Int) (tx:ByteArray) (w:World) (hsl:winB sl 1 16384=true) (hge:decide (ge < 1)=false) (kge:decide ((4294967295:Int) < ge)=false) (hcl:winB cl 0 8=true) (hre:winB re 0 8=false):Calls Tryz.prog 78 #[.agg #[.int .i64 sl,.int .u64 ge,.int .i64 cl,.int .i64 re,.int .i64 qu,.int .i64 ba,.int .i64 fe,.string tx]] w (fun e w'=>e=.returned (.int .i64 2)/\Below w.heap.size w w'):=by
 go_enter Tryz.func78,Tryz.ntmps78
 go_wp2_with (go_at_call 114;refine (cwithin_any _ _ _ _).mono ?_;rintro e w' ⟨rfl,rfl⟩)
 go_ret
 exact ⟨rfl,(Below.refl _ _).alloc (Nat.le_refl _) _⟩
theorem check_f40 (sl ge cl re qu ba fe:Int) (tx:ByteArray) (w:World) (hsl:winB sl 1 16384=true) (hge:decide (ge < 1)=false) (kge:decide ((4294967295:Int) < ge)=false) (hcl:winB cl 0 8=true) (hre:winB re 0 8=true) (hqu:winB qu 1 64=false):Calls Tryz.prog 78 #[.agg #[.int .i64 sl,.int .u64 ge,.int .i64 cl,.int .i64 re,.int .i64 qu,.int .i64 ba,.int .i64 fe,.string tx]] w (fun e w'=>e=.returned (.int .i64 2)/\Below w.heap.size w w'):=by
 go_enter Tryz.func78,Tryz.ntmps78
 go_wp2_with (go_at_call 114;refine (cwithin_any _ _ _ _).mono ?_;rintro e w' ⟨rfl,rfl⟩)
 go_ret
 exact ⟨rfl,(Below.refl _ _).alloc (Nat.le_refl _) _⟩
theorem check_f50 (sl ge cl re qu ba fe:Int) (tx:ByteArray) (w:World) (hsl:winB sl 1 16384=true) (hge:decide (ge < 1)=false) (kge:decide ((4294967295:Int) < ge)=false) (hcl:winB cl 0 8=true) (hre:winB re 0 8=true) (hqu:winB qu 1 64=true) (hba:winB ba 1 16=false):Calls Tryz.prog 78 #[.agg #[.int .i64 sl,.int .u64 ge,.int .i64 cl,.int .i64 re,.int .i64 qu,.int .i64 ba,.int .i64 fe,.string tx]] w (fun e w'=>e=.returned (.int .i64 2)/\Below w.heap.size w w'):=by
 go_enter Tryz.func78,Tryz.ntmps78
 go_wp2_with (go_at_call 114;refine (cwithin_any _ _ _ _).mono ?_;rintro e w' ⟨rfl,rfl⟩)
 go_ret
 exact ⟨rfl,(Below.refl _ _).alloc (Nat.le_refl _) _⟩
theorem check_f60 (sl ge cl re qu ba fe:Int) (tx:ByteArray) (w:World) (hsl:winB sl 1 16384=true) (hge:decide (ge < 1)=false) (kge:decide ((4294967295:Int) < ge)=false) (hcl:winB cl 0 8=true) (hre:winB re 0 8=true) (hqu:winB qu 1 64=true) (hba:winB ba 1 16=true) (hfe:winB fe 1 64=false):Calls Tryz.prog 78 #[.agg #[.int .i64 sl,.int .u64 ge,.int .i64 cl,.int .i64 re,.int .i64 qu,.int .i64 ba,.int .i64 fe,.string tx]] w (fun e w'=>e=.returned (.int .i64 2)/\Below w.heap.size w w'):=by
 go_enter Tryz.func78,Tryz.ntmps78
 go_wp2_with (go_at_call 114;refine (cwithin_any _ _ _ _).mono ?_;rintro e w' ⟨rfl,rfl⟩)
 go_ret
 exact ⟨rfl,(Below.refl _ _).alloc (Nat.le_refl _) _⟩
theorem check_long (sl ge cl re qu ba fe:Int) (tx:ByteArray) (w:World) (hsl:winB sl 1 16384=true) (hge:decide (ge < 1)=false) (kge:decide ((4294967295:Int) < ge)=false) (hcl:winB cl 0 8=true) (hre:winB re 0 8=true) (hqu:winB qu 1 64=true) (hba:winB ba 1 16=true) (hfe:winB fe 1 64=true) (hz:65536 < tx.size):Calls Tryz.prog 78 #[.agg #[.int .i64 sl,.int .u64 ge,.int .i64 cl,.int .i64 re,.int .i64 qu,.int .i64 ba,.int .i64 fe,.string tx]] w (fun e w'=>e=.returned (.int .i64 5)/\Below w.heap.size w w'):=by
 go_enter Tryz.func78,Tryz.ntmps78
 go_wp2_with (go_at_call 114;refine (cwithin_any _ _ _ _).mono ?_;rintro e w' ⟨rfl,rfl⟩)
 go_ret
 exact ⟨rfl,(Below.refl _ _).alloc (Nat.le_refl _) _⟩
theorem check_text_false (sl ge cl re qu ba fe:Int) (tx:ByteArray) (w:World) (hsl:winB sl 1 16384=true) (hge:decide (ge < 1)=false) (kge:decide ((4294967295:Int) < ge)=false) (hcl:winB cl 0 8=true) (hre:winB re 0 8=true) (hqu:winB qu 1 64=true) (hba:winB ba 1 16=true) (hfe:winB fe 1 64=true) (hz:tx.size<=65536) (hv:vdB (bs tx)=false):Calls Tryz.prog 78 #[.agg #[.int .i64 sl,.int .u64 ge,.int .i64 cl,.int .i64 re,.int .i64 qu,.int .i64 ba,.int .i64 fe,.string tx]] w (fun e w'=>e=.returned (.int .i64 11)/\Below w.heap.size w w'):=by
 go_enter Tryz.func78,Tryz.ntmps78
 go_wp2_with (go_at_call 114;refine (cwithin_any _ _ _ _).mono ?_;rintro e w' ⟨rfl,rfl⟩)
 refine (valid_any tx _ (by omega)).mono ?_
 rintro e w1 ⟨rfl,hb⟩
 have hbel:Below w.heap.size w w1:=((Below.refl _ _).alloc (Nat.le_refl _) _).trans (hb.mono (by simp))
 go_wp2_with fail
 go_ret
 exact ⟨rfl,hbel⟩
theorem check_text_true (sl ge cl re qu ba fe:Int) (tx:ByteArray) (w:World) (hsl:winB sl 1 16384=true) (hge:decide (ge < 1)=false) (kge:decide ((4294967295:Int) < ge)=false) (hcl:winB cl 0 8=true) (hre:winB re 0 8=true) (hqu:winB qu 1 64=true) (hba:winB ba 1 16=true) (hfe:winB fe 1 64=true) (hz:tx.size<=65536) (hv:vdB (bs tx)=true):Calls Tryz.prog 78 #[.agg #[.int .i64 sl,.int .u64 ge,.int .i64 cl,.int .i64 re,.int .i64 qu,.int .i64 ba,.int .i64 fe,.string tx]] w (fun e w'=>e=.returned (.int .i64 0)/\Below w.heap.size w w'):=by
 go_enter Tryz.func78,Tryz.ntmps78
 go_wp2_with (go_at_call 114;refine (cwithin_any _ _ _ _).mono ?_;rintro e w' ⟨rfl,rfl⟩)
 refine (valid_any tx _ (by omega)).mono ?_
 rintro e w1 ⟨rfl,hb⟩
 have hbel:Below w.heap.size w w1:=((Below.refl _ _).alloc (Nat.le_refl _) _).trans (hb.mono (by simp))
 go_wp2_with fail
 go_ret
 exact ⟨rfl,hbel⟩
theorem check_all (c:Cf) (w:World) (hm:c.tx.size<=1000000):Calls Tryz.prog 78 #[c.v] w fun e w'=>e=.returned (.int .i64 (ckE c))/\Below w.heap.size w w':=by
 obtain ⟨sl,ge,cl,re,qu,ba,fe,tx⟩:=c
 simp only [Cf.v]
 by_cases csl:¬(1<=sl/\sl<=16384)
 ·have hv:ckE ⟨sl,ge,cl,re,qu,ba,fe,tx⟩=2:=by unfold ckE Cf.nums;rw [if_pos];simp only;omega
  rw [hv]
  exact check_f00 sl ge cl re qu ba fe tx w (by simp [winB];omega)
 have csl:=Decidable.not_not.1 csl
 have hsl:winB sl 1 16384=true:=by simp [winB];omega
 by_cases cge:¬(1<=ge/\ge<=4294967295)
 ·have hv:ckE ⟨sl,ge,cl,re,qu,ba,fe,tx⟩=2:=by unfold ckE Cf.nums;rw [if_pos];simp only;omega
  rw [hv]
  by_cases d:ge < 1
  ·exact check_f10 sl ge cl re qu ba fe tx w hsl (by simpa using d)
  ·exact check_f11 sl ge cl re qu ba fe tx w hsl (by simpa using d) (by simp;omega)
 have cge:=Decidable.not_not.1 cge
 have hge:decide (ge < 1)=false:=by simp;omega
 have kge:decide ((4294967295:Int) < ge)=false:=by simp;omega
 by_cases ccl:¬(0<=cl/\cl<=8)
 ·have hv:ckE ⟨sl,ge,cl,re,qu,ba,fe,tx⟩=2:=by unfold ckE Cf.nums;rw [if_pos];simp only;omega
  rw [hv]
  exact check_f20 sl ge cl re qu ba fe tx w hsl hge kge (by simp [winB];omega)
 have ccl:=Decidable.not_not.1 ccl
 have hcl:winB cl 0 8=true:=by simp [winB];omega
 by_cases cre:¬(0<=re/\re<=8)
 ·have hv:ckE ⟨sl,ge,cl,re,qu,ba,fe,tx⟩=2:=by unfold ckE Cf.nums;rw [if_pos];simp only;omega
  rw [hv]
  exact check_f30 sl ge cl re qu ba fe tx w hsl hge kge hcl (by simp [winB];omega)
 have cre:=Decidable.not_not.1 cre
 have hre:winB re 0 8=true:=by simp [winB];omega
 by_cases cqu:¬(1<=qu/\qu<=64)
 ·have hv:ckE ⟨sl,ge,cl,re,qu,ba,fe,tx⟩=2:=by unfold ckE Cf.nums;rw [if_pos];simp only;omega
  rw [hv]
  exact check_f40 sl ge cl re qu ba fe tx w hsl hge kge hcl hre (by simp [winB];omega)
 have cqu:=Decidable.not_not.1 cqu
 have hqu:winB qu 1 64=true:=by simp [winB];omega
 by_cases cba:¬(1<=ba/\ba<=16)
 ·have hv:ckE ⟨sl,ge,cl,re,qu,ba,fe,tx⟩=2:=by unfold ckE Cf.nums;rw [if_pos];simp only;omega
  rw [hv]
  exact check_f50 sl ge cl re qu ba fe tx w hsl hge kge hcl hre hqu (by simp [winB];omega)
 have cba:=Decidable.not_not.1 cba
 have hba:winB ba 1 16=true:=by simp [winB];omega
 by_cases cfe:¬(1<=fe/\fe<=64)
 ·have hv:ckE ⟨sl,ge,cl,re,qu,ba,fe,tx⟩=2:=by unfold ckE Cf.nums;rw [if_pos];simp only;omega
  rw [hv]
  exact check_f60 sl ge cl re qu ba fe tx w hsl hge kge hcl hre hqu hba (by simp [winB];omega)
 have cfe:=Decidable.not_not.1 cfe
 have hfe:winB fe 1 64=true:=by simp [winB];omega
 have hn:Cf.nums ⟨sl,ge,cl,re,qu,ba,fe,tx⟩:=⟨csl,cge,ccl,cre,cqu,cba,cfe⟩
 by_cases hz:65536 < tx.size
 ·have hv:ckE ⟨sl,ge,cl,re,qu,ba,fe,tx⟩=5:=by unfold ckE;rw [if_neg (fun h=>h hn),if_pos hz]
  rw [hv]
  exact check_long sl ge cl re qu ba fe tx w hsl hge kge hcl hre hqu hba hfe hz
 ·have hv:ckE ⟨sl,ge,cl,re,qu,ba,fe,tx⟩=(if vdB (bs tx)=false then 11 else 0):=by unfold ckE;rw [if_neg (fun h=>h hn),if_neg hz]
  rw [hv]
  cases hv2:vdB (bs tx) with
  | false=>exact check_text_false sl ge cl re qu ba fe tx w hsl hge kge hcl hre hqu hba hfe (by omega) hv2
  | true=>exact check_text_true sl ge cl re qu ba fe tx w hsl hge kge hcl hre hqu hba hfe (by omega) hv2
theorem bcell {W w1:World} (hb:Below W.heap.size W w1):(∀b o,b < W.heap.size->w1.cell? ⟨b,o,none⟩=W.cell? ⟨b,o,none⟩)/\(∀b o,b < W.heap.size->w1.frozen? ⟨b,o,none⟩=W.frozen? ⟨b,o,none⟩):=
 ⟨fun b o h=>hb.cell (p:=⟨b,o,none⟩) h,fun b o h=>hb.frozen (p:=⟨b,o,none⟩) h⟩
def layV (sl re fe ce:Int):Value:=.agg #[.int .i64 0,.int .i64 1,.int .i64 2,.int .i64 3,.int .i64 4,.int .i64 5,.int .i64 sl,.int .i64 re,.int .i64 fe,.int .i64 ce]
def Cf.l6 (c:Cf):Int:=5+c.qu
def Cf.l7 (c:Cf):Int:=5+c.qu+c.cl * c.re
def Cf.l8 (c:Cf):Int:=5+c.qu+c.cl * c.re+c.cl
def Cf.l9 (c:Cf):Int:=5+c.qu+c.cl * c.re+c.cl+c.cl * (4+c.fe)
theorem ck_nums {c:Cf} (h:ckE c=0):c.nums:=by
 unfold ckE at h
 split at h
 ·cases h
 ·rename_i hn;exact Classical.not_not.1 hn
theorem mul_bd {a b m n:Int} (h1:0<=a) (h2:a<=m) (h3:0<=b) (h4:b<=n):0<=a * b/\a * b<=m * n:=by
 refine ⟨Int.mul_nonneg h1 h3,?_⟩
 exact Int.mul_le_mul h2 h4 h3 (by omega)
theorem place_ok (c:Cf) (w:World) (hm:c.tx.size<=1000000) (h:ckE c=0):Calls Tryz.prog 44 #[c.v] w fun e w'=>e=.returned (.tuple #[layV c.l6 c.l7 c.l8 c.l9,.int .i64 0])/\Below w.heap.size w w':=by
 have hc:=check_all c
 obtain ⟨-,-,⟨c1,c2⟩,⟨r1,r2⟩,⟨q1,q2⟩,-,⟨f1,f2⟩⟩:=ck_nums h
 rw [h] at hc
 clear h
 obtain ⟨sl,ge,cl,re,qu,ba,fe,tx⟩:=c
 simp only [Cf.v,Cf.l6,Cf.l7,Cf.l8,Cf.l9] at hc c1 c2 r1 r2 q1 q2 f1 f2 |-
 obtain ⟨m1,m2⟩:=mul_bd c1 c2 r1 r2
 obtain ⟨m3,m4⟩:=mul_bd c1 c2 (by omega:0<=4+fe) (by omega:4+fe<=68)
 have HC:=hid hc
 clear hc
 go_enter Tryz.func44,Tryz.ntmps44
 go_wp2_with fail
 refine (HC.out _ hm).mono ?_
 rintro e w1 ⟨rfl,hbel⟩
 obtain ⟨hcell,hfr⟩:=bcell hbel
 have hsz:=hbel.size
 simp only [World.size_alloc] at hsz
 have e1:w1.cell? ⟨w.heap.size,4,none⟩=some (.int .i64 qu):=by rw [hcell _ _ (by simp;omega)];simp
 have e2:w1.cell? ⟨w.heap.size,2,none⟩=some (.int .i64 cl):=by rw [hcell _ _ (by simp;omega)];simp
 have e3:w1.cell? ⟨w.heap.size,3,none⟩=some (.int .i64 re):=by rw [hcell _ _ (by simp;omega)];simp
 have e4:w1.cell? ⟨w.heap.size,6,none⟩=some (.int .i64 fe):=by rw [hcell _ _ (by simp;omega)];simp
 have hlt:w.heap.size < w1.heap.size:=by omega
 have hlt1:w.heap.size+1 < w1.heap.size:=by omega
 go_wp2_with fail
 refine bodyPost_ret (v:=.tuple #[layV (5+qu) (5+qu+cl * re) (5+qu+cl * re+cl) (5+qu+cl * re+cl+cl * (4+fe)),.int .i64 0]) ?_ rfl ⟨rfl,?_⟩
 ·simp [results,Tryz.results44,go_sem,layV,hcell,hfr,hlt1]
 ·refine Below.alloc ?_ (by simp;omega) _
  iterate 10 refine Below.setCell ?_ (by simp) _
  exact (((Below.refl _ _).alloc (Nat.le_refl _) _).alloc (by simp) _).trans (hbel.mono (by simp;omega))
set_option linter.unusedSectionVars false
structure StC (w:World) (sb:Nat) (hd:List Value) (a b c d e f:Value) (cs:Array Value):Prop where
 blk:Blk w sb 125 cs
 h:∀k,k < 18->cs[k]?=hd[k]?
 c18:cs[18]?=some a
 c19:cs[19]?=some b
 c20:cs[20]?=some c
 c21:cs[21]?=some d
 c22:cs[22]?=some e
 c23:cs[23]?=some f
 z:∀k,24<=k->cs[k]?=(Tryz.zeroCells125)[k]?
section
variable {w w':World} {sb:Nat} {hd:List Value} {a b c d e f:Value} {cs:Array Value}
theorem StC.keep (h:StC w sb hd a b c d e f cs) {fp:Nat->Prop} (ch:Ch fp w w') (hn:¬fp sb):StC w' sb hd a b c d e f cs:={ h with blk:=ch.blk h.blk hn }
theorem StC.drewN (h:StC w sb hd a b c d e f cs) (m:Nat):StC (w.drewN m) sb hd a b c d e f cs:={ h with blk:=h.blk.drewN m }
theorem StC.put18 (h:StC w sb hd a b c d e f cs) (x:Value):StC (w.setCell ⟨sb,18,none⟩ x) sb hd x b c d e f (cs.setIfInBounds 18 x):=
 ⟨h.blk.put 18 x,fun k hk=>by rw [Array.getElem?_setIfInBounds,if_neg (by omega)];exact h.h k hk,
  by rw [Array.getElem?_setIfInBounds,if_pos rfl,if_pos (Array.getElem?_eq_some_iff.1 h.c18).1],
  by rw [Array.getElem?_setIfInBounds,if_neg (by decide)];exact h.c19,
  by rw [Array.getElem?_setIfInBounds,if_neg (by decide)];exact h.c20,
  by rw [Array.getElem?_setIfInBounds,if_neg (by decide)];exact h.c21,
  by rw [Array.getElem?_setIfInBounds,if_neg (by decide)];exact h.c22,
  by rw [Array.getElem?_setIfInBounds,if_neg (by decide)];exact h.c23,
  fun k hk=>by rw [Array.getElem?_setIfInBounds,if_neg (by omega)];exact h.z k hk⟩
theorem StC.put19 (h:StC w sb hd a b c d e f cs) (x:Value):StC (w.setCell ⟨sb,19,none⟩ x) sb hd a x c d e f (cs.setIfInBounds 19 x):=
 ⟨h.blk.put 19 x,fun k hk=>by rw [Array.getElem?_setIfInBounds,if_neg (by omega)];exact h.h k hk,
  by rw [Array.getElem?_setIfInBounds,if_neg (by decide)];exact h.c18,
  by rw [Array.getElem?_setIfInBounds,if_pos rfl,if_pos (Array.getElem?_eq_some_iff.1 h.c19).1],
  by rw [Array.getElem?_setIfInBounds,if_neg (by decide)];exact h.c20,
  by rw [Array.getElem?_setIfInBounds,if_neg (by decide)];exact h.c21,
  by rw [Array.getElem?_setIfInBounds,if_neg (by decide)];exact h.c22,
  by rw [Array.getElem?_setIfInBounds,if_neg (by decide)];exact h.c23,
  fun k hk=>by rw [Array.getElem?_setIfInBounds,if_neg (by omega)];exact h.z k hk⟩
theorem StC.put20 (h:StC w sb hd a b c d e f cs) (x:Value):StC (w.setCell ⟨sb,20,none⟩ x) sb hd a b x d e f (cs.setIfInBounds 20 x):=
 ⟨h.blk.put 20 x,fun k hk=>by rw [Array.getElem?_setIfInBounds,if_neg (by omega)];exact h.h k hk,
  by rw [Array.getElem?_setIfInBounds,if_neg (by decide)];exact h.c18,
  by rw [Array.getElem?_setIfInBounds,if_neg (by decide)];exact h.c19,
  by rw [Array.getElem?_setIfInBounds,if_pos rfl,if_pos (Array.getElem?_eq_some_iff.1 h.c20).1],
  by rw [Array.getElem?_setIfInBounds,if_neg (by decide)];exact h.c21,
  by rw [Array.getElem?_setIfInBounds,if_neg (by decide)];exact h.c22,
  by rw [Array.getElem?_setIfInBounds,if_neg (by decide)];exact h.c23,
  fun k hk=>by rw [Array.getElem?_setIfInBounds,if_neg (by omega)];exact h.z k hk⟩
theorem StC.put21 (h:StC w sb hd a b c d e f cs) (x:Value):StC (w.setCell ⟨sb,21,none⟩ x) sb hd a b c x e f (cs.setIfInBounds 21 x):=
 ⟨h.blk.put 21 x,fun k hk=>by rw [Array.getElem?_setIfInBounds,if_neg (by omega)];exact h.h k hk,
  by rw [Array.getElem?_setIfInBounds,if_neg (by decide)];exact h.c18,
  by rw [Array.getElem?_setIfInBounds,if_neg (by decide)];exact h.c19,
  by rw [Array.getElem?_setIfInBounds,if_neg (by decide)];exact h.c20,
  by rw [Array.getElem?_setIfInBounds,if_pos rfl,if_pos (Array.getElem?_eq_some_iff.1 h.c21).1],
  by rw [Array.getElem?_setIfInBounds,if_neg (by decide)];exact h.c22,
  by rw [Array.getElem?_setIfInBounds,if_neg (by decide)];exact h.c23,
  fun k hk=>by rw [Array.getElem?_setIfInBounds,if_neg (by omega)];exact h.z k hk⟩
theorem StC.put23 (h:StC w sb hd a b c d e f cs) (x:Value):StC (w.setCell ⟨sb,23,none⟩ x) sb hd a b c d e x (cs.setIfInBounds 23 x):=
 ⟨h.blk.put 23 x,fun k hk=>by rw [Array.getElem?_setIfInBounds,if_neg (by omega)];exact h.h k hk,
  by rw [Array.getElem?_setIfInBounds,if_neg (by decide)];exact h.c18,
  by rw [Array.getElem?_setIfInBounds,if_neg (by decide)];exact h.c19,
  by rw [Array.getElem?_setIfInBounds,if_neg (by decide)];exact h.c20,
  by rw [Array.getElem?_setIfInBounds,if_neg (by decide)];exact h.c21,
  by rw [Array.getElem?_setIfInBounds,if_neg (by decide)];exact h.c22,
  by rw [Array.getElem?_setIfInBounds,if_pos rfl,if_pos (Array.getElem?_eq_some_iff.1 h.c23).1],
  fun k hk=>by rw [Array.getElem?_setIfInBounds,if_neg (by omega)];exact h.z k hk⟩
end
theorem lk_rep (m c:Nat):lk (List.replicate m (0:Int)) c=0:=by
 simp only [lk,List.getD_eq_getElem?_getD,List.getElem?_replicate]
 split <;> rfl
theorem below_ch {w w':World} (h:Below w.heap.size w w'):Ch (fun _=>False) w w':=⟨h.os,h.tape,h.output,h.size,fun k hk _=>h.block k hk⟩
noncomputable def stArr (v0 v1 v2 v3 v4 v5 v6 v7 v8 v9 v10 v11 v12 v13 v14 v15 v16 v17:Value):Array Value:=(((((((((((((((((((Tryz.zeroCells125).setIfInBounds 0 (v0)).setIfInBounds 1 (v1)).setIfInBounds 2 (v2)).setIfInBounds 3 (v3)).setIfInBounds 4 (v4)).setIfInBounds 5 (v5)).setIfInBounds 6 (v6)).setIfInBounds 7 (v7)).setIfInBounds 8 (v8)).setIfInBounds 9 (v9)).setIfInBounds 10 (v10)).setIfInBounds 11 (v11)).setIfInBounds 12 (v12)).setIfInBounds 13 (v13)).setIfInBounds 14 (v14)).setIfInBounds 15 (v15)).setIfInBounds 16 (v16)).setIfInBounds 17 (v17))
theorem st_size:(Tryz.zeroCells125).size=184:=by kernel_rfl
theorem st_z18:(Tryz.zeroCells125)[18]?=some (.pointer none):=by kernel_rfl
theorem st_z19:(Tryz.zeroCells125)[19]?=some (.pointer none):=by kernel_rfl
theorem st_z20:(Tryz.zeroCells125)[20]?=some (.pointer none):=by kernel_rfl
theorem st_z21:(Tryz.zeroCells125)[21]?=some (.pointer none):=by kernel_rfl
theorem st_z22:(Tryz.zeroCells125)[22]?=some (.slice none 0 0):=by kernel_rfl
theorem st_z23:(Tryz.zeroCells125)[23]?=some (.slice none 0 0):=by kernel_rfl
theorem st_hd (v0 v1 v2 v3 v4 v5 v6 v7 v8 v9 v10 v11 v12 v13 v14 v15 v16 v17:Value):∀k,k < 18->(stArr v0 v1 v2 v3 v4 v5 v6 v7 v8 v9 v10 v11 v12 v13 v14 v15 v16 v17)[k]?=[v0,v1,v2,v3,v4,v5,v6,v7,v8,v9,v10,v11,v12,v13,v14,v15,v16,v17][k]?:=by
 intro k hk
 match k,hk with
 | 0,_=>simp [stArr,Array.getElem?_setIfInBounds,st_size]
 | 1,_=>simp [stArr,Array.getElem?_setIfInBounds,st_size]
 | 2,_=>simp [stArr,Array.getElem?_setIfInBounds,st_size]
 | 3,_=>simp [stArr,Array.getElem?_setIfInBounds,st_size]
 | 4,_=>simp [stArr,Array.getElem?_setIfInBounds,st_size]
 | 5,_=>simp [stArr,Array.getElem?_setIfInBounds,st_size]
 | 6,_=>simp [stArr,Array.getElem?_setIfInBounds,st_size]
 | 7,_=>simp [stArr,Array.getElem?_setIfInBounds,st_size]
 | 8,_=>simp [stArr,Array.getElem?_setIfInBounds,st_size]
 | 9,_=>simp [stArr,Array.getElem?_setIfInBounds,st_size]
 | 10,_=>simp [stArr,Array.getElem?_setIfInBounds,st_size]
 | 11,_=>simp [stArr,Array.getElem?_setIfInBounds,st_size]
 | 12,_=>simp [stArr,Array.getElem?_setIfInBounds,st_size]
 | 13,_=>simp [stArr,Array.getElem?_setIfInBounds,st_size]
 | 14,_=>simp [stArr,Array.getElem?_setIfInBounds,st_size]
 | 15,_=>simp [stArr,Array.getElem?_setIfInBounds,st_size]
 | 16,_=>simp [stArr,Array.getElem?_setIfInBounds,st_size]
 | 17,_=>simp [stArr,Array.getElem?_setIfInBounds,st_size]
 | m+18,h=>exact absurd h (by omega)
theorem st_new (sb:Nat) (w:World) (v0 v1 v2 v3 v4 v5 v6 v7 v8 v9 v10 v11 v12 v13 v14 v15 v16 v17:Value) (h:Blk w sb 125 (stArr v0 v1 v2 v3 v4 v5 v6 v7 v8 v9 v10 v11 v12 v13 v14 v15 v16 v17)):StC w sb [v0,v1,v2,v3,v4,v5,v6,v7,v8,v9,v10,v11,v12,v13,v14,v15,v16,v17] (.pointer none) (.pointer none) (.pointer none) (.pointer none) (.slice none 0 0) (.slice none 0 0) (stArr v0 v1 v2 v3 v4 v5 v6 v7 v8 v9 v10 v11 v12 v13 v14 v15 v16 v17):=
 ⟨h,st_hd v0 v1 v2 v3 v4 v5 v6 v7 v8 v9 v10 v11 v12 v13 v14 v15 v16 v17,by rw [<-st_z18];simp [stArr,Array.getElem?_setIfInBounds],by rw [<-st_z19];simp [stArr,Array.getElem?_setIfInBounds],by rw [<-st_z20];simp [stArr,Array.getElem?_setIfInBounds],by rw [<-st_z21];simp [stArr,Array.getElem?_setIfInBounds],by rw [<-st_z22];simp [stArr,Array.getElem?_setIfInBounds],by rw [<-st_z23];simp [stArr,Array.getElem?_setIfInBounds],fun k hk=>by
  unfold stArr
  iterate 18 rw [Array.getElem?_setIfInBounds,if_neg (by omega)]⟩
end Go.Proofs.YtjcdknhejcbpiaaGreat
