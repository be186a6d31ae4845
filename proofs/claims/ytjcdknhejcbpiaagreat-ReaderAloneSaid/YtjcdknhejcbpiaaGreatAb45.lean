/- Lemmas that the proof of the last text leans on; no condition. -/
import Derived.Test.YtjcdknhejcbpiaaGreatAb20
import Derived.Test.YtjcdknhejcbpiaaGreatAb21
set_option maxRecDepth 100000
set_option maxHeartbeats 2000000
namespace Go.Proofs.YtjcdknhejcbpiaaGreat
open Go.RowKit
set_option linter.unusedVariables false
set_option linter.unusedSimpArgs false
set_option linter.unusedSectionVars false
theorem tmod_pos {a b:Int} (hb:0 < b) (hb2:b≤150):∃k:Nat,(wrap64 (a.tmod b+b)).tmod b=(k:Int)∧(k:Int) < b:=by
 have h1:a.tmod b < b:=Int.tmod_lt_of_pos a hb
 have h2:-b < a.tmod b:=by
  have:=Int.tmod_lt_of_pos (-a) hb
  rw [Int.neg_tmod] at this
  omega
 have hw:wrap64 (a.tmod b+b)=a.tmod b+b:=by unfold wrap64;omega
 rw [hw]
 have h3:0≤a.tmod b+b:=by omega
 have h4:=Int.tmod_nonneg b h3
 have h5:=Int.tmod_lt_of_pos (a.tmod b+b) hb
 exact ⟨((a.tmod b+b).tmod b).toNat,by omega,by omega⟩
def ClnOut (rd:Nat) (w:World) (e:Ending) (w':World):Prop:=
 ∃(op':OpV) (b:Bool),e=.returned (.tuple #[op'.v,.bool b])∧Ch (fun _=>False) w w'∧((b=true∧∃c:Cop,op'=c.op∧c.small rd)∨(b=false∧rd=0))
theorem lclean_5 (k:Int) (h0:0≤k) (h3:k < 256) (hk:k=5∨(decide (k < 5)=true∧5+k % 9=5)∨(13 < k∧decide (k < 5)=false∧decide (13 < k)=true∧IntKind.u8.wrap (5+k % 9)=5+k % 9∧5+k % 9=5)) (sl pos num id' gr:Int) (s:ByteArray) (hid':0≤id'∧id' < 4294967296) (rd:Nat) (hr:rd≤4) (w:World):Calls Tryz.prog 10 #[OpV.v ⟨k,sl,pos,num,id',gr,s⟩,.int .i64 rd] w (ClnOut rd w):=by
 rcases hk with rfl | ⟨d3,h2⟩ | ⟨h1,d3,d4,w8,h2⟩
 all_goals
  simp only [OpV.v]
  go_enter Tryz.func10,Tryz.ntmps10
  go_wp2_with fail
  refine bodyPost_ret (v:=.tuple #[OpV.v (Cop.op (.acq)),.bool true]) (by simp [results,Tryz.results10,go_sem,OpV.v,Cop.op,acqOp]) rfl ⟨_,true,rfl,?_,.inl ⟨rfl,.acq,rfl,trivial⟩⟩
  repeat (refine Ch.alloc ?_ _)
  exact Ch.refl _ w
theorem lclean_6 (k:Int) (h0:0≤k) (h3:k < 256) (hk:k=6∨(decide (k < 5)=true∧5+k % 9=6)∨(13 < k∧decide (k < 5)=false∧decide (13 < k)=true∧IntKind.u8.wrap (5+k % 9)=5+k % 9∧5+k % 9=6)) (sl pos num id' gr:Int) (s:ByteArray) (hid':0≤id'∧id' < 4294967296) (rd:Nat) (hr:rd≤4) (w:World):Calls Tryz.prog 10 #[OpV.v ⟨k,sl,pos,num,id',gr,s⟩,.int .i64 rd] w (ClnOut rd w):=by
 rcases hk with rfl | ⟨d3,h2⟩ | ⟨h1,d3,d4,w8,h2⟩
 all_goals
  rcases Nat.eq_zero_or_pos rd with h9 | h9
  ·subst h9
   simp only [OpV.v]
   go_enter Tryz.func10,Tryz.ntmps10
   go_wp2_with fail
   refine bodyPost_ret (v:=.tuple #[OpV.v ⟨6,0,0,0,0,0,⟨#[]⟩⟩,.bool false]) (by simp [results,Tryz.results10,go_sem,OpV.v]) rfl ⟨_,false,rfl,?_,.inr ⟨rfl,rfl⟩⟩
   repeat (refine Ch.alloc ?_ _)
   exact Ch.refl _ w
  ·have hr1:(rd:Int)≠0:=by omega
   have d1:decide ((rd:Int) < 1)=false:=decide_eq_false (by omega)
   have d2:decide (rd < 1)=false:=decide_eq_false (by omega)
   obtain ⟨sk,eS,hsk⟩:=tmod_pos (a:=sl) (b:=(rd:Int)) (by omega) (by omega)
   have hsk:sk < rd:=by omega
   simp only [OpV.v]
   go_enter Tryz.func10,Tryz.ntmps10
   go_wp2_with fail
   refine bodyPost_ret (v:=.tuple #[OpV.v (Cop.op (.len sk)),.bool true]) (by simp [results,Tryz.results10,go_sem,OpV.v,Cop.op,acqOp]) rfl ⟨_,true,rfl,?_,.inl ⟨rfl,.len sk,rfl,hsk⟩⟩
   repeat (refine Ch.alloc ?_ _)
   exact Ch.refl _ w
theorem lclean_7 (k:Int) (h0:0≤k) (h3:k < 256) (hk:k=7∨(decide (k < 5)=true∧5+k % 9=7)∨(13 < k∧decide (k < 5)=false∧decide (13 < k)=true∧IntKind.u8.wrap (5+k % 9)=5+k % 9∧5+k % 9=7)) (sl pos num id' gr:Int) (s:ByteArray) (hid':0≤id'∧id' < 4294967296) (rd:Nat) (hr:rd≤4) (w:World):Calls Tryz.prog 10 #[OpV.v ⟨k,sl,pos,num,id',gr,s⟩,.int .i64 rd] w (ClnOut rd w):=by
 rcases hk with rfl | ⟨d3,h2⟩ | ⟨h1,d3,d4,w8,h2⟩
 all_goals
  rcases Nat.eq_zero_or_pos rd with h9 | h9
  ·subst h9
   simp only [OpV.v]
   go_enter Tryz.func10,Tryz.ntmps10
   go_wp2_with fail
   refine bodyPost_ret (v:=.tuple #[OpV.v ⟨7,0,0,0,0,0,⟨#[]⟩⟩,.bool false]) (by simp [results,Tryz.results10,go_sem,OpV.v]) rfl ⟨_,false,rfl,?_,.inr ⟨rfl,rfl⟩⟩
   repeat (refine Ch.alloc ?_ _)
   exact Ch.refl _ w
  ·have hr1:(rd:Int)≠0:=by omega
   have d1:decide ((rd:Int) < 1)=false:=decide_eq_false (by omega)
   have d2:decide (rd < 1)=false:=decide_eq_false (by omega)
   obtain ⟨sk,eS,hsk⟩:=tmod_pos (a:=sl) (b:=(rd:Int)) (by omega) (by omega)
   have hsk:sk < rd:=by omega
   obtain ⟨sa,eA,hsa⟩:=tmod_pos (a:=pos) (b:=150) (by decide) (by decide)
   have hsa:sa < 150:=by omega
   obtain ⟨sb,eB,hsb⟩:=tmod_pos (a:=num) (b:=150) (by decide) (by decide)
   have hsb:sb < 150:=by omega
   simp only [OpV.v]
   go_enter Tryz.func10,Tryz.ntmps10
   go_wp2_with fail
   refine bodyPost_ret (v:=.tuple #[OpV.v (Cop.op (.read sk sa sb)),.bool true]) (by simp [results,Tryz.results10,go_sem,OpV.v,Cop.op,acqOp]) rfl ⟨_,true,rfl,?_,.inl ⟨rfl,.read sk sa sb,rfl,⟨hsk,hsa,hsb⟩⟩⟩
   repeat (refine Ch.alloc ?_ _)
   exact Ch.refl _ w
theorem lclean_8 (k:Int) (h0:0≤k) (h3:k < 256) (hk:k=8∨(decide (k < 5)=true∧5+k % 9=8)∨(13 < k∧decide (k < 5)=false∧decide (13 < k)=true∧IntKind.u8.wrap (5+k % 9)=5+k % 9∧5+k % 9=8)) (sl pos num id' gr:Int) (s:ByteArray) (hid':0≤id'∧id' < 4294967296) (rd:Nat) (hr:rd≤4) (w:World):Calls Tryz.prog 10 #[OpV.v ⟨k,sl,pos,num,id',gr,s⟩,.int .i64 rd] w (ClnOut rd w):=by
 rcases hk with rfl | ⟨d3,h2⟩ | ⟨h1,d3,d4,w8,h2⟩
 all_goals
  rcases Nat.eq_zero_or_pos rd with h9 | h9
  ·subst h9
   simp only [OpV.v]
   go_enter Tryz.func10,Tryz.ntmps10
   go_wp2_with fail
   refine bodyPost_ret (v:=.tuple #[OpV.v ⟨8,0,0,0,0,0,⟨#[]⟩⟩,.bool false]) (by simp [results,Tryz.results10,go_sem,OpV.v]) rfl ⟨_,false,rfl,?_,.inr ⟨rfl,rfl⟩⟩
   repeat (refine Ch.alloc ?_ _)
   exact Ch.refl _ w
  ·have hr1:(rd:Int)≠0:=by omega
   have d1:decide ((rd:Int) < 1)=false:=decide_eq_false (by omega)
   have d2:decide (rd < 1)=false:=decide_eq_false (by omega)
   obtain ⟨sk,eS,hsk⟩:=tmod_pos (a:=sl) (b:=(rd:Int)) (by omega) (by omega)
   have hsk:sk < rd:=by omega
   obtain ⟨sb,eB,hsb⟩:=tmod_pos (a:=num) (b:=150) (by decide) (by decide)
   have hsb:sb < 150:=by omega
   simp only [OpV.v]
   go_enter Tryz.func10,Tryz.ntmps10
   go_wp2_with fail
   refine bodyPost_ret (v:=.tuple #[OpV.v (Cop.op (.rune sk sb)),.bool true]) (by simp [results,Tryz.results10,go_sem,OpV.v,Cop.op,acqOp]) rfl ⟨_,true,rfl,?_,.inl ⟨rfl,.rune sk sb,rfl,⟨hsk,hsb⟩⟩⟩
   repeat (refine Ch.alloc ?_ _)
   exact Ch.refl _ w
theorem lclean_9 (k:Int) (h0:0≤k) (h3:k < 256) (hk:k=9∨(decide (k < 5)=true∧5+k % 9=9)∨(13 < k∧decide (k < 5)=false∧decide (13 < k)=true∧IntKind.u8.wrap (5+k % 9)=5+k % 9∧5+k % 9=9)) (sl pos num id' gr:Int) (s:ByteArray) (hid':0≤id'∧id' < 4294967296) (rd:Nat) (hr:rd≤4) (w:World):Calls Tryz.prog 10 #[OpV.v ⟨k,sl,pos,num,id',gr,s⟩,.int .i64 rd] w (ClnOut rd w):=by
 rcases hk with rfl | ⟨d3,h2⟩ | ⟨h1,d3,d4,w8,h2⟩
 all_goals
  rcases Nat.eq_zero_or_pos rd with h9 | h9
  ·subst h9
   simp only [OpV.v]
   go_enter Tryz.func10,Tryz.ntmps10
   go_wp2_with fail
   refine bodyPost_ret (v:=.tuple #[OpV.v ⟨9,0,0,0,0,0,⟨#[]⟩⟩,.bool false]) (by simp [results,Tryz.results10,go_sem,OpV.v]) rfl ⟨_,false,rfl,?_,.inr ⟨rfl,rfl⟩⟩
   repeat (refine Ch.alloc ?_ _)
   exact Ch.refl _ w
  ·have hr1:(rd:Int)≠0:=by omega
   have d1:decide ((rd:Int) < 1)=false:=decide_eq_false (by omega)
   have d2:decide (rd < 1)=false:=decide_eq_false (by omega)
   obtain ⟨sk,eS,hsk⟩:=tmod_pos (a:=sl) (b:=(rd:Int)) (by omega) (by omega)
   have hsk:sk < rd:=by omega
   obtain ⟨sb,eB,hsb⟩:=tmod_pos (a:=num) (b:=150) (by decide) (by decide)
   have hsb:sb < 150:=by omega
   simp only [OpV.v]
   go_enter Tryz.func10,Tryz.ntmps10
   go_wp2_with fail
   refine bodyPost_ret (v:=.tuple #[OpV.v (Cop.op (.line sk sb)),.bool true]) (by simp [results,Tryz.results10,go_sem,OpV.v,Cop.op,acqOp]) rfl ⟨_,true,rfl,?_,.inl ⟨rfl,.line sk sb,rfl,⟨hsk,hsb⟩⟩⟩
   repeat (refine Ch.alloc ?_ _)
   exact Ch.refl _ w
theorem lclean_10 (k:Int) (h0:0≤k) (h3:k < 256) (hk:k=10∨(13 < k∧decide (k < 5)=false∧decide (13 < k)=true∧IntKind.u8.wrap (5+k % 9)=5+k % 9∧5+k % 9=10)) (sl pos num id' gr:Int) (s:ByteArray) (hid':0≤id'∧id' < 4294967296) (rd:Nat) (hr:rd≤4) (w:World):Calls Tryz.prog 10 #[OpV.v ⟨k,sl,pos,num,id',gr,s⟩,.int .i64 rd] w (ClnOut rd w):=by
 rcases hk with rfl | ⟨h1,d3,d4,w8,h2⟩
 all_goals
  rcases Nat.eq_zero_or_pos rd with h9 | h9
  ·subst h9
   simp only [OpV.v]
   go_enter Tryz.func10,Tryz.ntmps10
   go_wp2_with fail
   refine bodyPost_ret (v:=.tuple #[OpV.v ⟨10,0,0,0,0,0,⟨#[]⟩⟩,.bool false]) (by simp [results,Tryz.results10,go_sem,OpV.v]) rfl ⟨_,false,rfl,?_,.inr ⟨rfl,rfl⟩⟩
   repeat (refine Ch.alloc ?_ _)
   exact Ch.refl _ w
  ·have hr1:(rd:Int)≠0:=by omega
   have d1:decide ((rd:Int) < 1)=false:=decide_eq_false (by omega)
   have d2:decide (rd < 1)=false:=decide_eq_false (by omega)
   obtain ⟨sk,eS,hsk⟩:=tmod_pos (a:=sl) (b:=(rd:Int)) (by omega) (by omega)
   have hsk:sk < rd:=by omega
   have w32:IntKind.u32.wrap (id' % 6+1)=id' % 6+1:=by simp [IntKind.wrap,IntKind.signed,IntKind.bits];omega
   simp only [OpV.v]
   go_enter Tryz.func10,Tryz.ntmps10
   go_wp2_with fail
   refine bodyPost_ret (v:=.tuple #[OpV.v (Cop.op (.mark sk (id' % 6+1))),.bool true]) (by simp [results,Tryz.results10,go_sem,OpV.v,Cop.op,acqOp]) rfl ⟨_,true,rfl,?_,.inl ⟨rfl,.mark sk (id' % 6+1),rfl,⟨hsk,by omega,by omega⟩⟩⟩
   repeat (refine Ch.alloc ?_ _)
   exact Ch.refl _ w
theorem lclean_11 (k:Int) (h0:0≤k) (h3:k < 256) (hk:k=11∨(13 < k∧decide (k < 5)=false∧decide (13 < k)=true∧IntKind.u8.wrap (5+k % 9)=5+k % 9∧5+k % 9=11)) (sl pos num id' gr:Int) (s:ByteArray) (hid':0≤id'∧id' < 4294967296) (rd:Nat) (hr:rd≤4) (w:World):Calls Tryz.prog 10 #[OpV.v ⟨k,sl,pos,num,id',gr,s⟩,.int .i64 rd] w (ClnOut rd w):=by
 rcases hk with rfl | ⟨h1,d3,d4,w8,h2⟩
 all_goals
  rcases Nat.eq_zero_or_pos rd with h9 | h9
  ·subst h9
   simp only [OpV.v]
   go_enter Tryz.func10,Tryz.ntmps10
   go_wp2_with fail
   refine bodyPost_ret (v:=.tuple #[OpV.v ⟨11,0,0,0,0,0,⟨#[]⟩⟩,.bool false]) (by simp [results,Tryz.results10,go_sem,OpV.v]) rfl ⟨_,false,rfl,?_,.inr ⟨rfl,rfl⟩⟩
   repeat (refine Ch.alloc ?_ _)
   exact Ch.refl _ w
  ·have hr1:(rd:Int)≠0:=by omega
   have d1:decide ((rd:Int) < 1)=false:=decide_eq_false (by omega)
   have d2:decide (rd < 1)=false:=decide_eq_false (by omega)
   obtain ⟨sk,eS,hsk⟩:=tmod_pos (a:=sl) (b:=(rd:Int)) (by omega) (by omega)
   have hsk:sk < rd:=by omega
   obtain ⟨sa,eA,hsa⟩:=tmod_pos (a:=pos) (b:=150) (by decide) (by decide)
   have hsa:sa < 150:=by omega
   simp only [OpV.v]
   go_enter Tryz.func10,Tryz.ntmps10
   go_wp2_with fail
   refine bodyPost_ret (v:=.tuple #[OpV.v (Cop.op (.seek sk sa)),.bool true]) (by simp [results,Tryz.results10,go_sem,OpV.v,Cop.op,acqOp]) rfl ⟨_,true,rfl,?_,.inl ⟨rfl,.seek sk sa,rfl,⟨hsk,hsa⟩⟩⟩
   repeat (refine Ch.alloc ?_ _)
   exact Ch.refl _ w
theorem lclean_12 (k:Int) (h0:0≤k) (h3:k < 256) (hk:k=12∨(13 < k∧decide (k < 5)=false∧decide (13 < k)=true∧IntKind.u8.wrap (5+k % 9)=5+k % 9∧5+k % 9=12)) (sl pos num id' gr:Int) (s:ByteArray) (hid':0≤id'∧id' < 4294967296) (rd:Nat) (hr:rd≤4) (w:World):Calls Tryz.prog 10 #[OpV.v ⟨k,sl,pos,num,id',gr,s⟩,.int .i64 rd] w (ClnOut rd w):=by
 rcases hk with rfl | ⟨h1,d3,d4,w8,h2⟩
 all_goals
  rcases Nat.eq_zero_or_pos rd with h9 | h9
  ·subst h9
   simp only [OpV.v]
   go_enter Tryz.func10,Tryz.ntmps10
   go_wp2_with fail
   refine bodyPost_ret (v:=.tuple #[OpV.v ⟨12,0,0,0,0,0,⟨#[]⟩⟩,.bool false]) (by simp [results,Tryz.results10,go_sem,OpV.v]) rfl ⟨_,false,rfl,?_,.inr ⟨rfl,rfl⟩⟩
   repeat (refine Ch.alloc ?_ _)
   exact Ch.refl _ w
  ·have hr1:(rd:Int)≠0:=by omega
   have d1:decide ((rd:Int) < 1)=false:=decide_eq_false (by omega)
   have d2:decide (rd < 1)=false:=decide_eq_false (by omega)
   obtain ⟨sk,eS,hsk⟩:=tmod_pos (a:=sl) (b:=(rd:Int)) (by omega) (by omega)
   have hsk:sk < rd:=by omega
   obtain ⟨sb,eB,hsb⟩:=tmod_pos (a:=num) (b:=150) (by decide) (by decide)
   have hsb:sb < 150:=by omega
   simp only [OpV.v]
   go_enter Tryz.func10,Tryz.ntmps10
   go_wp2_with fail
   refine bodyPost_ret (v:=.tuple #[OpV.v (Cop.op (.next sk sb)),.bool true]) (by simp [results,Tryz.results10,go_sem,OpV.v,Cop.op,acqOp]) rfl ⟨_,true,rfl,?_,.inl ⟨rfl,.next sk sb,rfl,⟨hsk,hsb⟩⟩⟩
   repeat (refine Ch.alloc ?_ _)
   exact Ch.refl _ w
theorem lclean_13 (k:Int) (h0:0≤k) (h3:k < 256) (hk:k=13∨(13 < k∧decide (k < 5)=false∧decide (13 < k)=true∧IntKind.u8.wrap (5+k % 9)=5+k % 9∧5+k % 9=13)) (sl pos num id' gr:Int) (s:ByteArray) (hid':0≤id'∧id' < 4294967296) (rd:Nat) (hr:rd≤4) (w:World):Calls Tryz.prog 10 #[OpV.v ⟨k,sl,pos,num,id',gr,s⟩,.int .i64 rd] w (ClnOut rd w):=by
 rcases hk with rfl | ⟨h1,d3,d4,w8,h2⟩
 all_goals
  rcases Nat.eq_zero_or_pos rd with h9 | h9
  ·subst h9
   simp only [OpV.v]
   go_enter Tryz.func10,Tryz.ntmps10
   go_wp2_with fail
   refine bodyPost_ret (v:=.tuple #[OpV.v ⟨13,0,0,0,0,0,⟨#[]⟩⟩,.bool false]) (by simp [results,Tryz.results10,go_sem,OpV.v]) rfl ⟨_,false,rfl,?_,.inr ⟨rfl,rfl⟩⟩
   repeat (refine Ch.alloc ?_ _)
   exact Ch.refl _ w
  ·have hr1:(rd:Int)≠0:=by omega
   have d1:decide ((rd:Int) < 1)=false:=decide_eq_false (by omega)
   have d2:decide (rd < 1)=false:=decide_eq_false (by omega)
   obtain ⟨sk,eS,hsk⟩:=tmod_pos (a:=sl) (b:=(rd:Int)) (by omega) (by omega)
   have hsk:sk < rd:=by omega
   simp only [OpV.v]
   go_enter Tryz.func10,Tryz.ntmps10
   go_wp2_with fail
   refine bodyPost_ret (v:=.tuple #[OpV.v (Cop.op (.rel sk)),.bool true]) (by simp [results,Tryz.results10,go_sem,OpV.v,Cop.op,acqOp]) rfl ⟨_,true,rfl,?_,.inl ⟨rfl,.rel sk,rfl,hsk⟩⟩
   repeat (refine Ch.alloc ?_ _)
   exact Ch.refl _ w
theorem lclean_any (x:OpV) (hx:x.ok) (rd:Nat) (hr:rd≤4) (w:World):Calls Tryz.prog 10 #[x.v,.int .i64 rd] w (ClnOut rd w):=by
 obtain ⟨k,sl,pos,num,id',gr,s⟩:=x
 have hk:=hx.k
 have hi:=hx.id
 simp only at hk hi
 clear hx
 have W8:13 < k→IntKind.u8.wrap (5+k % 9)=5+k % 9:=fun _=>by simp [IntKind.wrap,IntKind.signed,IntKind.bits];omega
 rcases Int.lt_or_le k 5 with h1 | h1
 ·have:5+k % 9=5∨5+k % 9=6∨5+k % 9=7∨5+k % 9=8∨5+k % 9=9:=by omega
  rcases this with h | h | h | h | h
  ·exact lclean_5 k hk.1 hk.2 (.inr (.inl ⟨decide_eq_true h1,h⟩)) sl pos num id' gr s hi rd hr w
  ·exact lclean_6 k hk.1 hk.2 (.inr (.inl ⟨decide_eq_true h1,h⟩)) sl pos num id' gr s hi rd hr w
  ·exact lclean_7 k hk.1 hk.2 (.inr (.inl ⟨decide_eq_true h1,h⟩)) sl pos num id' gr s hi rd hr w
  ·exact lclean_8 k hk.1 hk.2 (.inr (.inl ⟨decide_eq_true h1,h⟩)) sl pos num id' gr s hi rd hr w
  ·exact lclean_9 k hk.1 hk.2 (.inr (.inl ⟨decide_eq_true h1,h⟩)) sl pos num id' gr s hi rd hr w
 ·rcases Int.lt_or_le 13 k with h2 | h2
  ·have:5+k % 9=5∨5+k % 9=6∨5+k % 9=7∨5+k % 9=8∨5+k % 9=9∨5+k % 9=10∨5+k % 9=11∨5+k % 9=12∨5+k % 9=13:=by omega
   rcases this with h | h | h | h | h | h | h | h | h
   ·exact lclean_5 k hk.1 hk.2 (.inr (.inr ⟨h2,decide_eq_false (by omega),decide_eq_true h2,W8 h2,h⟩)) sl pos num id' gr s hi rd hr w
   ·exact lclean_6 k hk.1 hk.2 (.inr (.inr ⟨h2,decide_eq_false (by omega),decide_eq_true h2,W8 h2,h⟩)) sl pos num id' gr s hi rd hr w
   ·exact lclean_7 k hk.1 hk.2 (.inr (.inr ⟨h2,decide_eq_false (by omega),decide_eq_true h2,W8 h2,h⟩)) sl pos num id' gr s hi rd hr w
   ·exact lclean_8 k hk.1 hk.2 (.inr (.inr ⟨h2,decide_eq_false (by omega),decide_eq_true h2,W8 h2,h⟩)) sl pos num id' gr s hi rd hr w
   ·exact lclean_9 k hk.1 hk.2 (.inr (.inr ⟨h2,decide_eq_false (by omega),decide_eq_true h2,W8 h2,h⟩)) sl pos num id' gr s hi rd hr w
   ·exact lclean_10 k hk.1 hk.2 (.inr (⟨h2,decide_eq_false (by omega),decide_eq_true h2,W8 h2,h⟩)) sl pos num id' gr s hi rd hr w
   ·exact lclean_11 k hk.1 hk.2 (.inr (⟨h2,decide_eq_false (by omega),decide_eq_true h2,W8 h2,h⟩)) sl pos num id' gr s hi rd hr w
   ·exact lclean_12 k hk.1 hk.2 (.inr (⟨h2,decide_eq_false (by omega),decide_eq_true h2,W8 h2,h⟩)) sl pos num id' gr s hi rd hr w
   ·exact lclean_13 k hk.1 hk.2 (.inr (⟨h2,decide_eq_false (by omega),decide_eq_true h2,W8 h2,h⟩)) sl pos num id' gr s hi rd hr w
  ·have:k=5∨k=6∨k=7∨k=8∨k=9∨k=10∨k=11∨k=12∨k=13:=by omega
   rcases this with rfl | rfl | rfl | rfl | rfl | rfl | rfl | rfl | rfl
   ·exact lclean_5 _ hk.1 hk.2 (.inl rfl) sl pos num id' gr s hi rd hr w
   ·exact lclean_6 _ hk.1 hk.2 (.inl rfl) sl pos num id' gr s hi rd hr w
   ·exact lclean_7 _ hk.1 hk.2 (.inl rfl) sl pos num id' gr s hi rd hr w
   ·exact lclean_8 _ hk.1 hk.2 (.inl rfl) sl pos num id' gr s hi rd hr w
   ·exact lclean_9 _ hk.1 hk.2 (.inl rfl) sl pos num id' gr s hi rd hr w
   ·exact lclean_10 _ hk.1 hk.2 (.inl rfl) sl pos num id' gr s hi rd hr w
   ·exact lclean_11 _ hk.1 hk.2 (.inl rfl) sl pos num id' gr s hi rd hr w
   ·exact lclean_12 _ hk.1 hk.2 (.inl rfl) sl pos num id' gr s hi rd hr w
   ·exact lclean_13 _ hk.1 hk.2 (.inl rfl) sl pos num id' gr s hi rd hr w
end Go.Proofs.YtjcdknhejcbpiaaGreat
