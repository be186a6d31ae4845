/- Lemmas; no condition. -/
import Derived.WalkKit
import Derived.WalkSpells
import Derived.WalkLawsBesides
import Derived.Deep.Draws
import Derived.Test.YtjcdknhejcbpiaaGreatProg
import Derived.Test.YtjcdknhejcbpiaaGreatSb01
import Derived.Laws.StructEq
import Derived.Laws.Cover3
set_option maxRecDepth 100000
set_option maxHeartbeats 1000000
namespace Go.Proofs.YtjcdknhejcbpiaaGreat
open Go.RowKit
set_option linter.unusedSimpArgs false
theorem hid {p:Prop} (h:p):Hid p:=h
def Blk (w:World) (g:Nat) (t:TypeId) (cs:Array Value):Prop:=w.heap[g]?=some (.cells cs t (0,0))
section
variable {w w':World} {g g':Nat} {t t':TypeId} {cs cs':Array Value}
theorem Blk.lt (h:Blk w g t cs):g < w.heap.size:=(Array.getElem?_eq_some_iff.1 h).1
theorem Blk.cell (h:Blk w g t cs) (i:Nat):w.cell? ⟨g,i,none⟩=cs[i]?:=cell_of_row w g i cs t (0,0) h
theorem Blk.free (h:Blk w g t cs) (i:Nat):w.frozen? ⟨g,i,none⟩=false:=by
 unfold Blk at h
 simp [World.frozen?,h]
theorem Blk.c2 {w:World} {g:Nat} {t:TypeId} {a0 a1:Value} {l:List Value} (h:Blk w g t ⟨a0::a1::l⟩):w.cell? ⟨g,0,none⟩=some a0/\w.cell? ⟨g,1,none⟩=some a1:=⟨h.cell 0,h.cell 1⟩
theorem Blk.c3 {w:World} {g:Nat} {t:TypeId} {a0 a1 a2:Value} {l:List Value} (h:Blk w g t ⟨a0::a1::a2::l⟩):w.cell? ⟨g,0,none⟩=some a0/\w.cell? ⟨g,1,none⟩=some a1/\w.cell? ⟨g,2,none⟩=some a2:=⟨h.cell 0,h.cell 1,h.cell 2⟩
theorem Blk.c4 {w:World} {g:Nat} {t:TypeId} {a0 a1 a2 a3:Value} {l:List Value} (h:Blk w g t ⟨a0::a1::a2::a3::l⟩):w.cell? ⟨g,0,none⟩=some a0/\w.cell? ⟨g,1,none⟩=some a1/\w.cell? ⟨g,2,none⟩=some a2/\w.cell? ⟨g,3,none⟩=some a3:=⟨h.cell 0,h.cell 1,h.cell 2,h.cell 3⟩
theorem Blk.c5 {w:World} {g:Nat} {t:TypeId} {a0 a1 a2 a3 a4:Value} {l:List Value} (h:Blk w g t ⟨a0::a1::a2::a3::a4::l⟩):w.cell? ⟨g,0,none⟩=some a0/\w.cell? ⟨g,1,none⟩=some a1/\w.cell? ⟨g,2,none⟩=some a2/\w.cell? ⟨g,3,none⟩=some a3/\w.cell? ⟨g,4,none⟩=some a4:=⟨h.cell 0,h.cell 1,h.cell 2,h.cell 3,h.cell 4⟩
theorem Blk.c6 {w:World} {g:Nat} {t:TypeId} {a0 a1 a2 a3 a4 a5:Value} {l:List Value} (h:Blk w g t ⟨a0::a1::a2::a3::a4::a5::l⟩):w.cell? ⟨g,0,none⟩=some a0/\w.cell? ⟨g,1,none⟩=some a1/\w.cell? ⟨g,2,none⟩=some a2/\w.cell? ⟨g,3,none⟩=some a3/\w.cell? ⟨g,4,none⟩=some a4/\w.cell? ⟨g,5,none⟩=some a5:=⟨h.cell 0,h.cell 1,h.cell 2,h.cell 3,h.cell 4,h.cell 5⟩
theorem Blk.c7 {w:World} {g:Nat} {t:TypeId} {a0 a1 a2 a3 a4 a5 a6:Value} {l:List Value} (h:Blk w g t ⟨a0::a1::a2::a3::a4::a5::a6::l⟩):w.cell? ⟨g,0,none⟩=some a0/\w.cell? ⟨g,1,none⟩=some a1/\w.cell? ⟨g,2,none⟩=some a2/\w.cell? ⟨g,3,none⟩=some a3/\w.cell? ⟨g,4,none⟩=some a4/\w.cell? ⟨g,5,none⟩=some a5/\w.cell? ⟨g,6,none⟩=some a6:=⟨h.cell 0,h.cell 1,h.cell 2,h.cell 3,h.cell 4,h.cell 5,h.cell 6⟩
theorem Blk.c8 {w:World} {g:Nat} {t:TypeId} {a0 a1 a2 a3 a4 a5 a6 a7:Value} {l:List Value} (h:Blk w g t ⟨a0::a1::a2::a3::a4::a5::a6::a7::l⟩):w.cell? ⟨g,0,none⟩=some a0/\w.cell? ⟨g,1,none⟩=some a1/\w.cell? ⟨g,2,none⟩=some a2/\w.cell? ⟨g,3,none⟩=some a3/\w.cell? ⟨g,4,none⟩=some a4/\w.cell? ⟨g,5,none⟩=some a5/\w.cell? ⟨g,6,none⟩=some a6/\w.cell? ⟨g,7,none⟩=some a7:=⟨h.cell 0,h.cell 1,h.cell 2,h.cell 3,h.cell 4,h.cell 5,h.cell 6,h.cell 7⟩
theorem Blk.c9 {w:World} {g:Nat} {t:TypeId} {a0 a1 a2 a3 a4 a5 a6 a7 a8:Value} {l:List Value} (h:Blk w g t ⟨a0::a1::a2::a3::a4::a5::a6::a7::a8::l⟩):w.cell? ⟨g,0,none⟩=some a0/\w.cell? ⟨g,1,none⟩=some a1/\w.cell? ⟨g,2,none⟩=some a2/\w.cell? ⟨g,3,none⟩=some a3/\w.cell? ⟨g,4,none⟩=some a4/\w.cell? ⟨g,5,none⟩=some a5/\w.cell? ⟨g,6,none⟩=some a6/\w.cell? ⟨g,7,none⟩=some a7/\w.cell? ⟨g,8,none⟩=some a8:=⟨h.cell 0,h.cell 1,h.cell 2,h.cell 3,h.cell 4,h.cell 5,h.cell 6,h.cell 7,h.cell 8⟩
theorem Blk.c10 {w:World} {g:Nat} {t:TypeId} {a0 a1 a2 a3 a4 a5 a6 a7 a8 a9:Value} {l:List Value} (h:Blk w g t ⟨a0::a1::a2::a3::a4::a5::a6::a7::a8::a9::l⟩):w.cell? ⟨g,0,none⟩=some a0/\w.cell? ⟨g,1,none⟩=some a1/\w.cell? ⟨g,2,none⟩=some a2/\w.cell? ⟨g,3,none⟩=some a3/\w.cell? ⟨g,4,none⟩=some a4/\w.cell? ⟨g,5,none⟩=some a5/\w.cell? ⟨g,6,none⟩=some a6/\w.cell? ⟨g,7,none⟩=some a7/\w.cell? ⟨g,8,none⟩=some a8/\w.cell? ⟨g,9,none⟩=some a9:=⟨h.cell 0,h.cell 1,h.cell 2,h.cell 3,h.cell 4,h.cell 5,h.cell 6,h.cell 7,h.cell 8,h.cell 9⟩
theorem Blk.c13 {w:World} {g:Nat} {t:TypeId} {a0 a1 a2 a3 a4 a5 a6 a7 a8 a9 a10 a11 a12:Value} {l:List Value} (h:Blk w g t ⟨a0::a1::a2::a3::a4::a5::a6::a7::a8::a9::a10::a11::a12::l⟩):w.cell? ⟨g,0,none⟩=some a0/\w.cell? ⟨g,1,none⟩=some a1/\w.cell? ⟨g,2,none⟩=some a2/\w.cell? ⟨g,3,none⟩=some a3/\w.cell? ⟨g,4,none⟩=some a4/\w.cell? ⟨g,5,none⟩=some a5/\w.cell? ⟨g,6,none⟩=some a6/\w.cell? ⟨g,7,none⟩=some a7/\w.cell? ⟨g,8,none⟩=some a8/\w.cell? ⟨g,9,none⟩=some a9/\w.cell? ⟨g,10,none⟩=some a10/\w.cell? ⟨g,11,none⟩=some a11/\w.cell? ⟨g,12,none⟩=some a12:=⟨h.cell 0,h.cell 1,h.cell 2,h.cell 3,h.cell 4,h.cell 5,h.cell 6,h.cell 7,h.cell 8,h.cell 9,h.cell 10,h.cell 11,h.cell 12⟩
theorem Blk.c14 {w:World} {g:Nat} {t:TypeId} {a0 a1 a2 a3 a4 a5 a6 a7 a8 a9 a10 a11 a12 a13:Value} {l:List Value} (h:Blk w g t ⟨a0::a1::a2::a3::a4::a5::a6::a7::a8::a9::a10::a11::a12::a13::l⟩):w.cell? ⟨g,0,none⟩=some a0/\w.cell? ⟨g,1,none⟩=some a1/\w.cell? ⟨g,2,none⟩=some a2/\w.cell? ⟨g,3,none⟩=some a3/\w.cell? ⟨g,4,none⟩=some a4/\w.cell? ⟨g,5,none⟩=some a5/\w.cell? ⟨g,6,none⟩=some a6/\w.cell? ⟨g,7,none⟩=some a7/\w.cell? ⟨g,8,none⟩=some a8/\w.cell? ⟨g,9,none⟩=some a9/\w.cell? ⟨g,10,none⟩=some a10/\w.cell? ⟨g,11,none⟩=some a11/\w.cell? ⟨g,12,none⟩=some a12/\w.cell? ⟨g,13,none⟩=some a13:=⟨h.cell 0,h.cell 1,h.cell 2,h.cell 3,h.cell 4,h.cell 5,h.cell 6,h.cell 7,h.cell 8,h.cell 9,h.cell 10,h.cell 11,h.cell 12,h.cell 13⟩
theorem Blk.f3 {w:World} {g:Nat} {t:TypeId} {cs:Array Value} (h:Blk w g t cs):w.frozen? ⟨g,0,none⟩=false/\w.frozen? ⟨g,1,none⟩=false/\w.frozen? ⟨g,2,none⟩=false:=⟨h.free 0,h.free 1,h.free 2⟩
theorem Blk.f5 {w:World} {g:Nat} {t:TypeId} {cs:Array Value} (h:Blk w g t cs):w.frozen? ⟨g,0,none⟩=false/\w.frozen? ⟨g,1,none⟩=false/\w.frozen? ⟨g,2,none⟩=false/\w.frozen? ⟨g,3,none⟩=false/\w.frozen? ⟨g,4,none⟩=false:=⟨h.free 0,h.free 1,h.free 2,h.free 3,h.free 4⟩
theorem Blk.f6 {w:World} {g:Nat} {t:TypeId} {cs:Array Value} (h:Blk w g t cs):w.frozen? ⟨g,0,none⟩=false/\w.frozen? ⟨g,1,none⟩=false/\w.frozen? ⟨g,2,none⟩=false/\w.frozen? ⟨g,3,none⟩=false/\w.frozen? ⟨g,4,none⟩=false/\w.frozen? ⟨g,5,none⟩=false:=⟨h.free 0,h.free 1,h.free 2,h.free 3,h.free 4,h.free 5⟩
theorem Blk.f7 {w:World} {g:Nat} {t:TypeId} {cs:Array Value} (h:Blk w g t cs):w.frozen? ⟨g,0,none⟩=false/\w.frozen? ⟨g,1,none⟩=false/\w.frozen? ⟨g,2,none⟩=false/\w.frozen? ⟨g,3,none⟩=false/\w.frozen? ⟨g,4,none⟩=false/\w.frozen? ⟨g,5,none⟩=false/\w.frozen? ⟨g,6,none⟩=false:=⟨h.free 0,h.free 1,h.free 2,h.free 3,h.free 4,h.free 5,h.free 6⟩
theorem Blk.f8 {w:World} {g:Nat} {t:TypeId} {cs:Array Value} (h:Blk w g t cs):w.frozen? ⟨g,0,none⟩=false/\w.frozen? ⟨g,1,none⟩=false/\w.frozen? ⟨g,2,none⟩=false/\w.frozen? ⟨g,3,none⟩=false/\w.frozen? ⟨g,4,none⟩=false/\w.frozen? ⟨g,5,none⟩=false/\w.frozen? ⟨g,6,none⟩=false/\w.frozen? ⟨g,7,none⟩=false:=⟨h.free 0,h.free 1,h.free 2,h.free 3,h.free 4,h.free 5,h.free 6,h.free 7⟩
theorem Blk.f13 {w:World} {g:Nat} {t:TypeId} {cs:Array Value} (h:Blk w g t cs):w.frozen? ⟨g,0,none⟩=false/\w.frozen? ⟨g,1,none⟩=false/\w.frozen? ⟨g,2,none⟩=false/\w.frozen? ⟨g,3,none⟩=false/\w.frozen? ⟨g,4,none⟩=false/\w.frozen? ⟨g,5,none⟩=false/\w.frozen? ⟨g,6,none⟩=false/\w.frozen? ⟨g,7,none⟩=false/\w.frozen? ⟨g,8,none⟩=false/\w.frozen? ⟨g,9,none⟩=false/\w.frozen? ⟨g,10,none⟩=false/\w.frozen? ⟨g,11,none⟩=false/\w.frozen? ⟨g,12,none⟩=false:=⟨h.free 0,h.free 1,h.free 2,h.free 3,h.free 4,h.free 5,h.free 6,h.free 7,h.free 8,h.free 9,h.free 10,h.free 11,h.free 12⟩
theorem dc_ltT {a b:Nat} (h:a < b):decide (a < b)=true/\decide ((a:Int) < (b:Int))=true:=⟨decide_eq_true h,decide_eq_true (by omega)⟩
theorem dc_ltF {a b:Nat} (h:¬a < b):decide (a < b)=false/\decide ((a:Int) < (b:Int))=false:=⟨decide_eq_false h,decide_eq_false (by omega)⟩
theorem dc_leT {a b:Nat} (h:a<=b):decide (a<=b)=true/\decide ((a:Int)<=(b:Int))=true:=⟨decide_eq_true h,decide_eq_true (by omega)⟩
theorem dc_leF {a b:Nat} (h:¬a<=b):decide (a<=b)=false/\decide ((a:Int)<=(b:Int))=false:=⟨decide_eq_false h,decide_eq_false (by omega)⟩
theorem Blk.inj (h:Blk w g t cs) (h':Blk w g t' cs'):t=t'/\cs=cs':=by
 have e:=h.symm.trans h'
 injection e with e
 injection e with e1 e2
 exact ⟨e2,e1⟩
theorem Blk.ne (h:Blk w g t cs) (h':Blk w g' t' cs') (ht:t≠t'):g≠g':=fun e=>by subst e;exact ht (h.inj h').1
theorem Blk.new (w:World) (t:TypeId) (cs:Array Value):Blk (w.alloc (.cells cs t)) w.heap.size t cs:=heap_alloc_new w _
theorem Blk.drewN (h:Blk w g t cs) (n:Nat):Blk (w.drewN n) g t cs:=h
theorem Blk.alloc (h:Blk w g t cs) (o:Obj):Blk (w.alloc o) g t cs:=(Below.heap_alloc w o g h.lt).trans h
theorem Blk.put (h:Blk w g t cs) (i:Nat) (u:Value):Blk (w.setCell ⟨g,i,none⟩ u) g t (cs.setIfInBounds i u):=by
 unfold Blk at h |-
 simp [World.setCell,Array.getElem?_modify,h]
theorem Blk.far (h:Blk w g t cs) {p:Addr} (hp:g≠p.block) (u:Value):Blk (w.setCell p u) g t cs:=(Below.heap_setCell w p u g hp).trans h
theorem Blk.own {B e size n:Nat} {v:Value} {xs:List Value} (h:Blk w g t cs) (ho:w.ownsRow B e size v n xs) (ht:t≠e):v.ownBlock≠some g:=by
 intro hv
 rcases ho.2 with ⟨rfl,_⟩ | ⟨k,cap,cur,rfl,_,hk,_⟩
 ·simp [Value.ownBlock] at hv
 ·simp [Value.ownBlock] at hv
  subst hv
  exact ht (h.inj hk).1
end
structure Ch (fp:Nat->Prop) (w w':World):Prop where
 os:w'.os=w.os
 tape:w'.tape=w.tape
 output:w'.output=w.output
 size:w.heap.size<=w'.heap.size
 block:∀k,k < w.heap.size->¬fp k->w'.heap[k]?=w.heap[k]?
section
variable {fp fp':Nat->Prop} {a w w':World}
theorem Ch.refl (fp:Nat->Prop) (w:World):Ch fp w w:=⟨rfl,rfl,rfl,Nat.le_refl _,fun _ _ _=>rfl⟩
theorem Ch.trans (h:Ch fp a w) (k:Ch fp' w w') (hf:∀i,i < a.heap.size->fp' i->fp i):Ch fp a w':=
 ⟨k.os.trans h.os,k.tape.trans h.tape,k.output.trans h.output,Nat.le_trans h.size k.size,fun i hi hn=>(k.block i (Nat.lt_of_lt_of_le hi h.size) (fun e=>hn (hf i hi e))).trans (h.block i hi hn)⟩
theorem Ch.mono (h:Ch fp a w) (hf:∀i,i < a.heap.size->fp i->fp' i):Ch fp' a w:=⟨h.os,h.tape,h.output,h.size,fun i hi hn=>h.block i hi (fun e=>hn (hf i hi e))⟩
theorem Ch.drewN (h:Ch fp a w) (n:Nat):Ch fp a (w.drewN n):=⟨h.os,h.tape,h.output,h.size,h.block⟩
theorem Ch.ofDrewN {n:Nat} (h:Ch fp (a.drewN n) w):Ch fp a w:=⟨h.os,h.tape,h.output,h.size,h.block⟩
theorem Ch.alloc (h:Ch fp a w) (o:Obj):Ch fp a (w.alloc o):=
 ⟨h.os,h.tape,h.output,Nat.le_trans h.size (by simp),fun i hi hn=>(Below.heap_alloc w o i (Nat.lt_of_lt_of_le hi h.size)).trans (h.block i hi hn)⟩
theorem Ch.setCell (h:Ch fp a w) {p:Addr} (hp:p.block < a.heap.size->fp p.block) (u:Value):Ch fp a (w.setCell p u):=
 ⟨h.os,h.tape,h.output,by simpa [World.setCell] using h.size,fun i hi hn=>(Below.heap_setCell w p u i (fun e=>by subst e;exact hn (hp hi))).trans (h.block i hi hn)⟩
theorem Ch.set (h:Ch fp a w) {b o:Nat} (hp:b < a.heap.size->fp b) (u:Value):Ch fp a (w.setCell ⟨b,o,none⟩ u):=h.setCell hp u
theorem Ch.push {o:Obj} (h1:w'.os=w.os) (h2:w'.tape=w.tape) (h3:w'.output=w.output) (h:w'.heap=w.heap.push o):Ch fp w w':=
 ⟨h1,h2,h3,by rw [h];simp,fun i hi _=>by rw [h,Array.getElem?_push,if_neg (by omega)]⟩
theorem Blk.push {t:TypeId} {cs:Array Value} (h:w'.heap=w.heap.push (.cells cs t (0,0))):Blk w' w.heap.size t cs:=by
 unfold Blk
 rw [h]
 simp
theorem Ch.grown {row:Option Nat} (h:Ch fp a w) (hg:w.grownBy w' row) (hr:∀k,row=some k->k < a.heap.size->fp k):Ch fp a w':=
 ⟨hg.os.trans h.os,hg.tape.trans h.tape,hg.output.trans h.output,Nat.le_trans h.size hg.size,fun i hi hn=>(hg.block i (Nat.lt_of_lt_of_le hi h.size) (fun e=>hn (hr i e.symm hi))).trans (h.block i hi hn)⟩
theorem Ch.blk (h:Ch fp w w') {g:Nat} {t:TypeId} {cs:Array Value} (hb:Blk w g t cs) (hn:¬fp g):Blk w' g t cs:=(h.block g hb.lt hn).trans hb
theorem Ch.own (h:Ch fp w w') {B e size n:Nat} {v:Value} {xs:List Value} (ho:w.ownsRow B e size v n xs) (hn:∀k,v.ownBlock=some k->¬fp k):w'.ownsRow B e size v n xs:=by
 refine ⟨ho.1,?_⟩
 rcases ho.2 with hv | ⟨g,cap,cur,rfl,hB,hg,rest⟩
 ·exact .inl hv
 ·exact .inr ⟨g,cap,cur,rfl,hB,(h.block g (Array.getElem?_eq_some_iff.1 hg).1 (hn g rfl)).trans hg,rest⟩
theorem Ch.cell (h:Ch fp w w') {p:Addr} (hp:p.block < w.heap.size) (hn:¬fp p.block):w'.cell? p=w.cell? p:=World.cell?_of_block (w:=w) (h.block p.block hp hn)
theorem own_grown {B e size n:Nat} {v:Value} {xs:List Value} {row:Option Nat} (ho:w.ownsRow B e size v n xs) (hg:w.grownBy w' row) (hn:∀k,v.ownBlock=some k->row≠some k):w'.ownsRow B e size v n xs:=by
 refine ho.kept hg ?_
 cases hv:v.ownBlock with
 | none=>exact .inl rfl
 | some k=>exact .inr (fun e=>hn k hv e.symm)
theorem Blk.grown {row:Option Nat} {g:Nat} {t:TypeId} {cs:Array Value} (h:Blk w g t cs) (hb:w.grownBy w' row) (hg:row≠some g):Blk w' g t cs:=(hb.block g h.lt (fun e=>hg e.symm)).trans h
theorem own_form {B e size n:Nat} {v:Value} {xs:List Value} (ho:w.ownsRow B e size v n xs) (h:0 < n):∃g cap,v=.slice (some ⟨g,0,none⟩) n cap/\n<=cap/\cap<=maxLen/\B<=g/\g < w.heap.size:=by
 rcases ho.2 with ⟨_,hn⟩ | ⟨g,cap,cur,rfl,hB,hg,h1,h2,_⟩
 ·omega
 ·exact ⟨g,cap,rfl,h1,h2,hB,(Array.getElem?_eq_some_iff.1 hg).1⟩
theorem own_slice {B e size n:Nat} {v:Value} {xs:List Value} (ho:w.ownsRow B e size v n xs):∃A cap,v=.slice A n cap/\n<=cap:=by
 rcases ho.2 with ⟨rfl,rfl⟩ | ⟨g,cap,cur,rfl,hB,hg,h1,h2,_⟩
 ·exact ⟨_,_,rfl,Nat.le_refl _⟩
 ·exact ⟨_,cap,rfl,h1⟩
end
theorem own_mono {w:World} {B B' e size n:Nat} {v:Value} {xs:List Value} (h:w.ownsRow B e size v n xs) (hB:B'<=B):w.ownsRow B' e size v n xs:=by
 refine ⟨h.1,?_⟩
 rcases h.2 with hv | ⟨g,cap,cur,hv,hg,rest⟩
 ·exact .inl hv
 ·exact .inr ⟨g,cap,cur,hv,by omega,rest⟩
def Fresh (w:World) (v v':Value):Prop:=v'.ownBlock=v.ownBlock\/∀b,v'.ownBlock=some b->w.heap.size<=b
theorem wpList_app {P:Program} (w:World) {ops:Array Oper} {rest:List Oper} {o:Oper} {a:Act} {Q:Exit->Act->World->Prop} (hgd:o.guard=none) (s x:Operand) (t:TypeId)
  (ho:o.op=.call { callee:=.builtin .append,args:=#[s,x],argTypes:=#[t,t] }) (base:Nat) (e:TypeId) (i:TypeInfo) (z:Value) (size bytes:Nat)
  (ht:P.underlying t=some (.slice e)) (hi:P.info? e=some i) (hz:i.zero=some z) (hs:i.size=size) (hb:i.bytes=bytes) (hzs:z.cells.size=size) (hsz:0 < size)
  (v:Value) (n:Nat) (xs:List Value) (hv:a.eval s=v) (hown:w.ownsRow base e size v n xs) (ad:Addr) (m c:Nat) (news:List Value) (hx:a.eval x=.slice (some ad) m c)
  (hl:news.length=m * size) (hn:∀(j:Nat) (u:Value),news[j]?=some u->w.cell? (ad.add j)=some u) (h1:∀u ∈ news,u.oneCell'=true) (hm0:0 < m) (hm:n+m<=maxLen)
  (hr:(n+m) * bytes<=140737488355328) (hB:base<=w.heap.size)
  (h:∀(v':Value) (w':World),w'.ownsRow base e size v' (n+m) (xs++news)->w.grownBy w' v.ownBlock->Fresh w v v'->wpList P ops Q rest (a.put o.dst v') w'):wpList P ops Q (o::rest) a w:=by
 rcases hown.2 with ⟨rfl,rfl⟩ | ⟨g,cap,cur,rfl,hg,hh,hnc,hcm,hcs,htk⟩
 ·have hx0:xs=[]:=by have:=hown.1;simpa using this
  subst hx0
  refine wpList_append_grows w hgd s x t ho e i z size bytes ht hi hz hs hb hzs hsz none 0 0 [] hv (fun _=>⟨rfl,rfl⟩) (by simp) (by intro b hb;cases hb) ad m c news hx hl hn h1 (by omega) hm hr ?_
  intro v' w' h2 h3
  refine h v' w' (own_mono h2 hB) h3 (.inr fun b hb=>?_)
  exact (h2.lt b hb).1
 ·by_cases hroom:n+m<=cap
  ·refine wpList_append_fits w hgd s x t ho base e i size ht hi hs g n cap xs hv hown ad m c news hx hl hn h1 hroom ?_
   intro w' h2 h3
   exact h _ w' h2 h3 (.inl rfl)
  ·refine wpList_append_grows w hgd s x t ho e i z size bytes ht hi hz hs hb hzs hsz (some ⟨g,0,none⟩) n cap xs hv (by intro hc;cases hc) hown.1 ?_ ad m c news hx hl hn h1 (by omega) hm hr ?_
   ·intro b hb j u hu
    obtain rfl:=Option.some.inj hb
    exact hown.cells (g:=g) rfl j u hu
   ·intro v' w' h2 h3
    refine h v' w' (own_mono h2 hB) ⟨h3.os,h3.tape,h3.output,h3.size,fun k hk _=>h3.block k hk (by simp)⟩ (.inr fun b hb=>?_)
    exact (h2.lt b hb).1
theorem addr_add0 (b j:Nat):(⟨b,0,none⟩:Addr).add j=⟨b,j,none⟩:=by unfold Addr.add;split <;> simp_all
theorem addr_add (b o j:Nat):(⟨b,o,none⟩:Addr).add j=⟨b,o+j,none⟩:=by unfold Addr.add;split <;> simp_all
def lk (l:List Int) (i:Nat):Int:=l.getD i 0
theorem run_copy_full {P:Program} (w:World) (dT sT ty elem:TypeId) (hu:P.underlying dT=some (.slice elem)) (size:Nat) (hsz:(P.info? elem).map (·.size)=some size)
  (g n dCap:Nat) (sp:Option Addr) (sCap:Nat) (cur:Array Value) (t:TypeId) (hg:w.heap[g]?=some (.cells cur t (0,0))) (hcur:cur.size=n * size) (cs:List Value) (hl:cs.length=n * size)
  (hsrc:0 < n->∃ad,sp=some ad/\∀j v,cs[j]?=some v->w.cell? (ad.add j)=some v) (h1:∀v ∈ cs,v.oneCell'=true) :
  (Builtin.copy_ #[dT,sT] ty #[.slice (some ⟨g,0,none⟩) n dCap,.slice sp n sCap]).run P w=.ok (goInt n) (w.setRow g cs.toArray):=by
 cases hq:P.info? elem with
 | none=>simp [hq] at hsz
 | some i=>
  have hi:i.size=size:=by simpa [hq] using hsz
  have hsize:(sizeOf elem).run P w=.ok size w:=by simp [sizeOf,typeInfo,hq,hi]
  have hst:(storeCells ⟨g,0,none⟩ cs).run P w=.ok () (w.setRow g cs.toArray):=by
   have:=run_storeCells_at P g 0 t cs 0 cur w hg (by omega) h1
   rw [this]
   congr 2
   simp
   omega
  have hfc:(Builtin.firstCells size n (.slice sp n sCap)).run P w=.ok cs.toArray w:=by
   by_cases h0:0 < n
   ·obtain ⟨ad,rfl,hc⟩:=hsrc h0
    exact run_firstCells_some w size n ad n sCap cs hl hc
   ·have hn:n=0:=by omega
    subst hn
    have:cs=[]:=List.eq_nil_of_length_eq_zero (by simpa using hl)
    subst this
    cases sp with
    | none=>exact run_firstCells_none w size 0 0 sCap
    | some ad=>exact run_firstCells_some w size 0 ad 0 sCap [] (by simp) (by simp)
  unfold Builtin.copy_
  simp only [List.getElem?_toArray,List.getElem?_cons_zero,List.getElem?_cons_succ,Sem.run_bind,run_underlying hu,Result.andThen_ok,Builtin.lenOf,Sem.run_pure,hsize,Nat.min_self,hfc,hst]
theorem wpList_copy_full {P:Program} {w:World} {ops:Array Oper} {rest:List Oper} {o:Oper} {a:Act} {Q:Exit->Act->World->Prop} (hgd:o.guard=none) (d s:Operand) (dT sT:TypeId)
  (ho:o.op=.call { callee:=.builtin .copy,args:=#[d,s],argTypes:=#[dT,sT] }) (elem:TypeId) (hu:P.underlying dT=some (.slice elem)) (size:Nat) (hsz:(P.info? elem).map (·.size)=some size)
  (g n dCap:Nat) (sp:Option Addr) (sCap:Nat) (hd:a.eval d=.slice (some ⟨g,0,none⟩) n dCap) (hs:a.eval s=.slice sp n sCap) (cur:Array Value) (t:TypeId) (hg:Blk w g t cur) (hcur:cur.size=n * size)
  (cs:List Value) (hl:cs.length=n * size) (hsrc:0 < n->∃ad,sp=some ad/\∀j v,cs[j]?=some v->w.cell? (ad.add j)=some v) (h1:∀v ∈ cs,v.oneCell'=true)
  (h:∀w',Blk w' g t cs.toArray->Ch (fun b=>b=g) w w'->wpList P ops Q rest (a.put o.dst (goInt n)) w'):wpList P ops Q (o::rest) a w:=by
 refine wpList_plain hgd fun K hK=>?_
 have hrun:=run_copy_full (P:=P) w dT sT o.type elem hu size hsz g n dCap sp sCap cur t hg hcur cs hl hsrc h1
 unfold Oper.wp
 simp [execOp,ho,resolve,invoke,builtin,hd,hs,hrun,Result.andThen]
 exact hK _ _ (h _ (setRow_heap w g cur _ t _ hg) ⟨rfl,rfl,rfl,by simp [World.setRow],fun k hk hn=>setRow_other w g k _ hn⟩)
def madeX (z:Array Value) (n:Nat):Array Value:=madeCells z n
theorem madeX_size (z:Array Value) (n:Nat):(madeX z n).size=n:=by simp [madeX,madeCells]
theorem run_make_x {P:Program} (t e:TypeId) (z:Value) (size bytes:Nat) (ht:P.underlying t=some (.slice e)) (hi:(P.info? e).map (fun i=>(i.zero,i.size,i.bytes))=some (some z,size,bytes)) (hb:bytes<=1000)
  (n:Nat) (hn:n<=1000000) (w:World):(Instr.makeSlice t (.int .i64 (n:Int)) (.int .i64 (n:Int))).run P w=.ok (.slice (some ⟨w.heap.size,0,none⟩) n n) (w.alloc (.cells (madeX z.cells (n * size)) e)):=by
 obtain ⟨i,hi,hz0,hz1,hz2⟩:=info_parts hi
 have hle:bytes * n<=1000000000:=Nat.mul_le_mul hb hn
 have hle':(bytes:Int) * (n:Int)<=281474976710656:=by rw [<-Int.natCast_mul];omega
 have hr:=run_make (P:=P) w t e i z ht hi hz0 .i64 .i64 n n (by omega) (Int.le_refl _) (by rw [hz2];exact hle') (by omega)
 simp only [Int.toNat_natCast] at hr
 rw [hr,hz1]
 rfl
theorem calls_world {P:Program} {f:FuncId} {args:Array Value} {w:World} {R:Ending->World->Prop} (h:∀W,W=w->Calls P f args W R):Calls P f args w R:=h w rfl
set_option linter.unusedVariables false
set_option linter.unusedSectionVars false
structure Mk where
 id:Int
 at':Int
 g:Int
structure Pc where
 k:Int
 n:Int
 s:ByteArray
def Mk.cells (x:Mk):List Value:=[.int .u32 x.id,.int .i64 x.at',.int .u8 x.g]
def Mk.agg (x:Mk):Value:=.agg #[.int .u32 x.id,.int .i64 x.at',.int .u8 x.g]
def mkCells (l:List Mk):List Value:=l.flatMap Mk.cells
theorem mkCells_snoc (l:List Mk) (x:Mk):mkCells (l++[x])=mkCells l++x.cells:=by simp [mkCells]
theorem mkCells_length (l:List Mk):(mkCells l).length=l.length * 3:=by
 induction l with
 | nil=>rfl
 | cons x l ih=>simp only [mkCells,List.flatMap_cons,List.length_append,List.length_cons] at ih |-;rw [ih];simp [Mk.cells];omega
theorem mkCells_get (l:List Mk) (i:Nat) (x:Mk) (hi:l[i]?=some x) (j:Nat) (v:Value) (hj:x.cells[j]?=some v):(mkCells l)[i * 3+j]?=some v:=by
 induction l generalizing i with
 | nil=>simp at hi
 | cons y l ih=>
  cases i with
  | zero=>
   injection hi with hi
   subst hi
   have hlt:j < y.cells.length:=(List.getElem?_eq_some_iff.1 hj).1
   simp only [mkCells,List.flatMap_cons,Nat.zero_mul,Nat.zero_add]
   rw [List.getElem?_append_left hlt]
   exact hj
  | succ i=>
   have h:=ih i (by simpa using hi)
   simp only [mkCells,List.flatMap_cons] at h |-
   rw [List.getElem?_append_right (by simp [Mk.cells];omega),show (i+1) * 3+j - y.cells.length=i * 3+j by simp [Mk.cells];omega]
   exact h
theorem mk_one (l:List Mk):∀u ∈ mkCells l,u.oneCell'=true:=by
 intro u hu
 simp only [mkCells,List.mem_flatMap] at hu
 obtain ⟨x,_,hx⟩:=hu
 simp only [Mk.cells,List.mem_cons,List.not_mem_nil,or_false] at hx
 rcases hx with rfl | rfl | rfl <;> rfl
def InMk (w:World) (a:Option Addr) (n:Nat) (xs:List Mk):Prop:=xs.length=n/\(0 < n->∃b off,a=some ⟨b,off,none⟩/\b < w.heap.size/\∀(i j:Nat) x v,xs[i]?=some x->x.cells[j]?=some v->w.cell? ⟨b,off+(i * 3+j),none⟩=some v)
theorem InMk.keep {w w':World} {a:Option Addr} {n:Nat} {xs:List Mk} {fp:Nat->Prop} (h:InMk w a n xs) (c:Ch fp w w') (hn:∀b off,a=some ⟨b,off,none⟩->0 < n->¬fp b):InMk w' a n xs:=
 ⟨h.1,fun h0=>by
  obtain ⟨b,off,rfl,hb,hc⟩:=h.2 h0
  exact ⟨b,off,rfl,Nat.lt_of_lt_of_le hb c.size,fun i j x v hi hj=>(c.cell (p:=⟨b,_,none⟩) hb (hn b off rfl h0)).trans (hc i j x v hi hj)⟩⟩
theorem own_mk {w:World} {B n:Nat} {v:Value} {l:List Mk} (h:w.ownsRow B 160 3 v n (mkCells l)):∃A cap,v=.slice A n cap/\n<=cap/\(A=none->cap=0)/\InMk w A n l:=by
 have hl:l.length=n:=by have:=h.1;rw [mkCells_length] at this;omega
 rcases h.2 with ⟨rfl,hn⟩ | ⟨g,cap,cur,rfl,hB,hg,hnc,_,_,_⟩
 ·subst hn
  exact ⟨none,0,rfl,Nat.le_refl _,fun _=>rfl,hl,fun h0=>absurd h0 (by omega)⟩
 ·refine ⟨some ⟨g,0,none⟩,cap,rfl,hnc,(fun e=>by cases e),hl,fun h0=>⟨g,0,rfl,(Array.getElem?_eq_some_iff.1 hg).1,fun i j x v hi hj=>?_⟩⟩
  have:=h.cells (g:=g) rfl (i * 3+j) v (mkCells_get l i x hi j v hj)
  rw [addr_add0] at this
  rw [Nat.zero_add];exact this
def OwnMk (w w':World) (l:List Mk) (e:Ending):Prop:=∃v,e=.returned v/\w'.ownsRow w.heap.size 160 3 v l.length (mkCells l)/\Ch (fun _=>False) w w'
theorem infoMk:(Tryz.prog.info? 160).map (fun i=>(i.zero,i.size,i.bytes))=some (some (Value.agg #[.int .u32 0,.int .i64 0,.int .u8 0]),3,24):=by kernel_rfl
theorem mk_nil_run (w:World):(binOp .eql 47 (.slice none 0 0) (.slice none 0 0)).run Tryz.prog w=.ok (.bool true) w:=by
 simp only [binOp]
 simp [run_equal_slice_nil w 47 160 none 0 0 Tryz.underlying47]
theorem mk_not_nil_run (a:Addr) (n c:Nat) (w:World):(binOp .eql 47 (.slice (some a) n c) (.slice none 0 0)).run Tryz.prog w=.ok (.bool false) w:=by
 simp only [binOp]
 simp [run_equal_slice_nil w 47 160 (some a) n c Tryz.underlying47]
theorem cloneMarks_any (a:Option Addr) (n ca:Nat) (xs:List Mk) (w:World) (ha:InMk w a n xs) (hn:n < 1000000) (hz:a=none->ca=0) :
  Calls Tryz.prog 91 #[.slice a n ca] w fun e w'=>OwnMk w w' xs e:=by
 obtain ⟨i0,hi,hz0,hz1,hz2⟩:=info_parts infoMk
 cases a with
 | none=>
  obtain rfl:=hz rfl
  have h0:n=0:=by
   rcases Nat.eq_zero_or_pos n with h | h
   ·exact h
   ·obtain ⟨b,off,hb,_⟩:=ha.2 h
    cases hb
  subst h0
  have hx:xs=[]:=List.eq_nil_of_length_eq_zero ha.1
  subst hx
  go_enter Tryz.func91,Tryz.ntmps91
  go_wp2_with fail
  rw [mk_nil_run]
  go_wp2_with fail
  go_ret
  exact ⟨_,rfl,World.ownsRow_nil _ _ _ _,Ch.refl _ _⟩
 | some ad=>
  have hne:(Value.slice (some ad) n ca)≠.slice none 0 0:=by intro h;cases h
  go_enter Tryz.func91,Tryz.ntmps91
  go_wp2_with fail
  rw [mk_not_nil_run]
  go_wp2_with (at_builtin;refine wpList_append_own _ rfl (.tmp 5) (.tmp 6) 47 rfl w.heap.size 160 i0 _ 3 24 Tryz.underlying47 hi hz0 hz1 hz2 rfl (by decide) (.slice (some ⟨w.heap.size,0,none⟩) 0 0) 0 [] rfl (World.ownsRow_made w #[] 0 (Nat.le_refl _) (Nat.zero_le _) rfl) ad n ca (mkCells xs) rfl ?c0 ?c1 ?c2 ?c3 ?c4 ?c5 ?c6)
  case c0=>rw [mkCells_length,ha.1]
  case c1=>
   (
 intro j u hu
 have hl:j < n * 3:=by have:=(List.getElem?_eq_some_iff.1 hu).1;rw [mkCells_length,ha.1] at this;exact this
 obtain ⟨b1,o1,hb,hbl,h1⟩:=ha.2 (by omega)
 injection hb with hb
 subst hb
 rw [addr_add]
 obtain ⟨x,hx⟩:∃x,xs[j / 3]?=some x:=⟨_,List.getElem?_eq_getElem (by rw [ha.1];omega)⟩
 have hxc:x.cells[j % 3]?=some u:=by
  have hm:j % 3 < x.cells.length:=by simp [Mk.cells];omega
  have:=mkCells_get xs (j / 3) x hx (j % 3) _ (List.getElem?_eq_getElem hm)
  rw [show j / 3 * 3+j % 3=j by omega,hu] at this
  rw [List.getElem?_eq_getElem hm,<-Option.some.inj this]
 have:=h1 (j / 3) (j % 3) x u hx hxc
 rw [show j / 3 * 3+j % 3=j by omega] at this
 exact (World.cell?_alloc_lt _ _ _ hbl).trans this
 )
  case c2=>exact mk_one xs
  case c3=>unfold maxLen;omega
  case c4=>omega
  case c5=>simp
  case c6=>
   intro v' w' hown' hgrow _
   have hch':Ch (fun _=>False) w w':=((Ch.refl (fun _=>False) w).alloc _).grown hgrow (fun g hg hl=>by
    injection hg with hg
    have hg2:w.heap.size=g:=hg
    omega)
   go_wp2_with fail
   go_ret
   first | rw [Nat.zero_add,List.nil_append] at hown' | skip
   exact ⟨_,rfl,by rw [ha.1];exact hown',hch'⟩
def Pc.cells (x:Pc):List Value:=[.int .u8 x.k,.int .i64 x.n,.string x.s]
def Pc.agg (x:Pc):Value:=.agg #[.int .u8 x.k,.int .i64 x.n,.string x.s]
def pcCells (l:List Pc):List Value:=l.flatMap Pc.cells
theorem pcCells_length (l:List Pc):(pcCells l).length=l.length * 3:=by
 induction l with
 | nil=>rfl
 | cons x l ih=>simp only [pcCells,List.flatMap_cons,List.length_append,List.length_cons] at ih |-;rw [ih];simp [Pc.cells];omega
theorem pcCells_get (l:List Pc) (i:Nat) (x:Pc) (hi:l[i]?=some x) (j:Nat) (v:Value) (hj:x.cells[j]?=some v):(pcCells l)[i * 3+j]?=some v:=by
 induction l generalizing i with
 | nil=>simp at hi
 | cons y l ih=>
  cases i with
  | zero=>
   injection hi with hi
   subst hi
   have hlt:j < y.cells.length:=(List.getElem?_eq_some_iff.1 hj).1
   simp only [pcCells,List.flatMap_cons,Nat.zero_mul,Nat.zero_add]
   rw [List.getElem?_append_left hlt]
   exact hj
  | succ i=>
   have h:=ih i (by simpa using hi)
   simp only [pcCells,List.flatMap_cons] at h |-
   rw [List.getElem?_append_right (by simp [Pc.cells];omega),show (i+1) * 3+j - y.cells.length=i * 3+j by simp [Pc.cells];omega]
   exact h
theorem pc_one (l:List Pc):∀u ∈ pcCells l,u.oneCell'=true:=by
 intro u hu
 simp only [pcCells,List.mem_flatMap] at hu
 obtain ⟨x,_,hx⟩:=hu
 simp only [Pc.cells,List.mem_cons,List.not_mem_nil,or_false] at hx
 rcases hx with rfl | rfl | rfl <;> rfl
def InPc (w:World) (a:Option Addr) (n:Nat) (xs:List Pc):Prop:=xs.length=n/\(0 < n->∃b off,a=some ⟨b,off,none⟩/\b < w.heap.size/\∀(i j:Nat) x v,xs[i]?=some x->x.cells[j]?=some v->w.cell? ⟨b,off+(i * 3+j),none⟩=some v)
theorem InPc.keep {w w':World} {a:Option Addr} {n:Nat} {xs:List Pc} {fp:Nat->Prop} (h:InPc w a n xs) (c:Ch fp w w') (hn:∀b off,a=some ⟨b,off,none⟩->0 < n->¬fp b):InPc w' a n xs:=
 ⟨h.1,fun h0=>by
  obtain ⟨b,off,rfl,hb,hc⟩:=h.2 h0
  exact ⟨b,off,rfl,Nat.lt_of_lt_of_le hb c.size,fun i j x v hi hj=>(c.cell (p:=⟨b,_,none⟩) hb (hn b off rfl h0)).trans (hc i j x v hi hj)⟩⟩
theorem own_pc {w:World} {B n:Nat} {v:Value} {l:List Pc} (h:w.ownsRow B 217 3 v n (pcCells l)):∃A cap,v=.slice A n cap/\n<=cap/\(A=none->cap=0)/\InPc w A n l:=by
 have hl:l.length=n:=by have:=h.1;rw [pcCells_length] at this;omega
 rcases h.2 with ⟨rfl,hn⟩ | ⟨g,cap,cur,rfl,hB,hg,hnc,_,_,_⟩
 ·subst hn
  exact ⟨none,0,rfl,Nat.le_refl _,fun _=>rfl,hl,fun h0=>absurd h0 (by omega)⟩
 ·refine ⟨some ⟨g,0,none⟩,cap,rfl,hnc,(fun e=>by cases e),hl,fun h0=>⟨g,0,rfl,(Array.getElem?_eq_some_iff.1 hg).1,fun i j x v hi hj=>?_⟩⟩
  have:=h.cells (g:=g) rfl (i * 3+j) v (pcCells_get l i x hi j v hj)
  rw [addr_add0] at this
  rw [Nat.zero_add];exact this
def OwnPc (w w':World) (l:List Pc) (e:Ending):Prop:=∃v,e=.returned v/\w'.ownsRow w.heap.size 217 3 v l.length (pcCells l)/\Ch (fun _=>False) w w'
theorem infoPc:(Tryz.prog.info? 217).map (fun i=>(i.zero,i.size,i.bytes))=some (some (Value.agg #[.int .u8 0,.int .i64 0,.string ⟨#[]⟩]),3,32):=by kernel_rfl
theorem pc_neq_run (x:Pc) (w:World):(binOp .neq 217 x.agg x.agg).run Tryz.prog w=.ok (.bool false) w:=by
 unfold Pc.agg
 go_simp
 repeat' split
 all_goals simp_all
theorem exec_pc_neq {o:Oper} {a:Act} {s t:Operand} {ty:TypeId} (ho:o.op=.binOp .neq 217 s t ty) {x:Pc} (hs:a.eval s=x.agg) (ht:a.eval t=x.agg) (W:World):(execOp a.eval o).run Tryz.prog W=.ok (.value (.bool false)) W:=by
 have hr:=pc_neq_run x W
 have hg:=run_eqGuard_agg (P:=Tryz.prog) W .neq 217 s t #[.int .u8 x.k,.int .i64 x.n,.string x.s] #[.int .u8 x.k,.int .i64 x.n,.string x.s] (by kernel_rfl)
 have hg':(eqGuard .neq 217 s t x.agg x.agg).run Tryz.prog W=.ok () W:=hg
 simp [execOp,ho,hs,ht,hr,hg']
theorem eqPieces_any (a b:Option Addr) (n ca cb:Nat) (xs:List Pc) (w:World) (ha:InPc w a n xs) (hb:InPc w b n xs) (hn:n < 1000000) :
  Calls Tryz.prog 77 #[.slice a n ca,.slice b n cb] w fun e w'=>e=.returned (.bool true)/\∃k,w'=w.drewN k:=by
 have hne:((n:Int) != (n:Int))=false:=by simp
 go_enter Tryz.func77,Tryz.ntmps77
 go_wp2_with fail
 go_loopw [5] (fun i wr=>∃k:Nat,k<=n/\i=.int .i64 k/\∃d,wr=w.drewN d) (fun i _=>n - (intOf i).toNat)
 case atStart=>exact ⟨0,Nat.zero_le _,rfl,0,rfl⟩
 case round=>
  obtain ⟨k,hk,rfl,d,rfl⟩:=hrel
  by_cases hlt:k < n
  {
 obtain ⟨b1,o1,rfl,_,h1⟩:=ha.2 (by omega)
 obtain ⟨b2,o2,rfl,_,h2⟩:=hb.2 (by omega)
 obtain ⟨x,hx⟩:∃x,xs[k]?=some x:=⟨_,List.getElem?_eq_getElem (by have:=ha.1;omega)⟩
 have c0:w.cell? ⟨b1,o1+k * 3,none⟩=some (.int .u8 x.k):=h1 k 0 x _ hx rfl
 have c1:w.cell? ⟨b1,o1+k * 3+1,none⟩=some (.int .i64 x.n):=h1 k 1 x _ hx rfl
 have c2:w.cell? ⟨b1,o1+k * 3+2,none⟩=some (.string x.s):=h1 k 2 x _ hx rfl
 have e0:w.cell? ⟨b2,o2+k * 3,none⟩=some (.int .u8 x.k):=h2 k 0 x _ hx rfl
 have e1:w.cell? ⟨b2,o2+k * 3+1,none⟩=some (.int .i64 x.n):=h2 k 1 x _ hx rfl
 have e2:w.cell? ⟨b2,o2+k * 3+2,none⟩=some (.string x.s):=h2 k 2 x _ hx rfl
 clear h1 h2 hx
 go_wp2_with fail
 refine Mix.rt [0,0,0,0,0,0,0,0,0] [0,1,2,3,4,5,6,7,8] ?_
 iterate 8 (refine Mix.zq ?_;go_big_quiet_step (fail);refine wpQuiet_nil ?_)
 refine Mix.mix_v (by simp only [List.getElem?_toArray,List.getElem?_cons_zero,List.getElem?_cons_succ];exact rfl) rfl (.bool false) rfl (fun W _=>by rw [exec_pc_neq (x:=x) rfl rfl rfl W]) ?_
 simp only [Act.put,List.setIfInBounds_toArray,List.set_cons_succ,List.set_cons_zero]
 intro n1
 go_wp2_with fail
 go_roundw
 case rel=>exact ⟨k+1,by omega,by go_num,_,rfl⟩
 case measure=>simp [intOf];omega
 }
  ·obtain rfl:k=n:=by omega
   go_wp2_with fail
   go_ret
   exact ⟨rfl,_,rfl⟩
theorem pc_nil_run (w:World):(binOp .eql 37 (.slice none 0 0) (.slice none 0 0)).run Tryz.prog w=.ok (.bool true) w:=by
 simp only [binOp]
 simp [run_equal_slice_nil w 37 217 none 0 0 Tryz.underlying37]
theorem pc_not_nil_run (a:Addr) (n c:Nat) (w:World):(binOp .eql 37 (.slice (some a) n c) (.slice none 0 0)).run Tryz.prog w=.ok (.bool false) w:=by
 simp only [binOp]
 simp [run_equal_slice_nil w 37 217 (some a) n c Tryz.underlying37]
theorem clonePieces_any (a:Option Addr) (n ca:Nat) (xs:List Pc) (w:World) (ha:InPc w a n xs) (hn:n < 1000000) (hz:a=none->ca=0) :
  Calls Tryz.prog 92 #[.slice a n ca] w fun e w'=>OwnPc w w' xs e:=by
 obtain ⟨i0,hi,hz0,hz1,hz2⟩:=info_parts infoPc
 cases a with
 | none=>
  obtain rfl:=hz rfl
  have h0:n=0:=by
   rcases Nat.eq_zero_or_pos n with h | h
   ·exact h
   ·obtain ⟨b,off,hb,_⟩:=ha.2 h
    cases hb
  subst h0
  have hx:xs=[]:=List.eq_nil_of_length_eq_zero ha.1
  subst hx
  go_enter Tryz.func92,Tryz.ntmps92
  go_wp2_with fail
  rw [pc_nil_run]
  go_wp2_with fail
  go_ret
  exact ⟨_,rfl,World.ownsRow_nil _ _ _ _,Ch.refl _ _⟩
 | some ad=>
  have hne:(Value.slice (some ad) n ca)≠.slice none 0 0:=by intro h;cases h
  go_enter Tryz.func92,Tryz.ntmps92
  go_wp2_with fail
  rw [pc_not_nil_run]
  go_wp2_with (at_builtin;refine wpList_append_own _ rfl (.tmp 5) (.tmp 6) 37 rfl w.heap.size 217 i0 _ 3 32 Tryz.underlying37 hi hz0 hz1 hz2 rfl (by decide) (.slice (some ⟨w.heap.size,0,none⟩) 0 0) 0 [] rfl (World.ownsRow_made w #[] 0 (Nat.le_refl _) (Nat.zero_le _) rfl) ad n ca (pcCells xs) rfl ?c0 ?c1 ?c2 ?c3 ?c4 ?c5 ?c6)
  case c0=>rw [pcCells_length,ha.1]
  case c1=>
   (
 intro j u hu
 have hl:j < n * 3:=by have:=(List.getElem?_eq_some_iff.1 hu).1;rw [pcCells_length,ha.1] at this;exact this
 obtain ⟨b1,o1,hb,hbl,h1⟩:=ha.2 (by omega)
 injection hb with hb
 subst hb
 rw [addr_add]
 obtain ⟨x,hx⟩:∃x,xs[j / 3]?=some x:=⟨_,List.getElem?_eq_getElem (by rw [ha.1];omega)⟩
 have hxc:x.cells[j % 3]?=some u:=by
  have hm:j % 3 < x.cells.length:=by simp [Pc.cells];omega
  have:=pcCells_get xs (j / 3) x hx (j % 3) _ (List.getElem?_eq_getElem hm)
  rw [show j / 3 * 3+j % 3=j by omega,hu] at this
  rw [List.getElem?_eq_getElem hm,<-Option.some.inj this]
 have:=h1 (j / 3) (j % 3) x u hx hxc
 rw [show j / 3 * 3+j % 3=j by omega] at this
 exact (World.cell?_alloc_lt _ _ _ hbl).trans this
 )
  case c2=>exact pc_one xs
  case c3=>unfold maxLen;omega
  case c4=>omega
  case c5=>simp
  case c6=>
   intro v' w' hown' hgrow _
   have hch':Ch (fun _=>False) w w':=((Ch.refl (fun _=>False) w).alloc _).grown hgrow (fun g hg hl=>by
    injection hg with hg
    have hg2:w.heap.size=g:=hg
    omega)
   go_wp2_with fail
   go_ret
   first | rw [Nat.zero_add,List.nil_append] at hown' | skip
   exact ⟨_,rfl,by rw [ha.1];exact hown',hch'⟩
end Go.Proofs.YtjcdknhejcbpiaaGreat
