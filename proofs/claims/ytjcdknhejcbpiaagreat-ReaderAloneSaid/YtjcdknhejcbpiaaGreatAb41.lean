/- Lemmas that the proof of the last text leans on; no condition. -/
import Derived.Test.YtjcdknhejcbpiaaGreatAb40
import Derived.Test.YtjcdknhejcbpiaaGreatAb39
namespace Go.Proofs.YtjcdknhejcbpiaaGreat
open Go.RowKit
set_option linter.unusedVariables false
set_option linter.unusedSimpArgs false
set_option linter.unusedSectionVars false
theorem build_ht {s:ByteArray} {t:T} (h:buildT s=[t]) (h0:0 < s.size):4 ^ t.ht < 4 * grpN s.size 16:=by
 have hl:=base_len s
 have hg:0 < grpN s.size 16:=grp_pos h0 (by decide)
 by_cases h1:(baseT s).length≤1
 ·rw [buildT,topT_le h1] at h
  have ht:t ∈ baseT s:=by rw [h];simp
  simp only [baseT,List.mem_map] at ht
  obtain ⟨x,_,rfl⟩:=ht
  show 4 ^ 0 < _
  omega
 ·obtain ⟨k,t',e,hf,_,hk⟩:=topT_fit (baseT s) 0 (base_fit (by omega)) (by omega)
  rw [buildT] at h
  rw [h] at e
  injection e with e _
  subst e
  rw [T.fit_ht hf,Nat.zero_add,←hl]
  exact hk
theorem build_ht3 {s:ByteArray} {t:T} (h:buildT s=[t]) (h0:0 < s.size) (h3:s.size≤300):t.ht≤3:=by
 have a:=build_ht h h0
 have b:=(grp_le (n:=s.size) (m:=16) (by decide)).2
 rcases Nat.lt_or_ge 3 t.ht with hlt | hge
 ·have:4 ^ 4≤4 ^ t.ht:=Nat.pow_le_pow_right (by decide) hlt
  omega
 ·exact hge
theorem fit_lvs:∀{h:Nat} {t:T},T.fit h t→t.lvs≠[]
 | 0,.leaf s,_=>by simp [T.lvs]
 | 0,.node k ks,hf=>hf.elim
 | h+1,.leaf s,hf=>hf.elim
 | h+1,.node k ks,hf=>by
  intro e
  cases ks with
  | nil=>have:=hf.2.1;simp at this
  | cons a l=>
   rw [T.lvs,T.lvsL] at e
   exact fit_lvs (hf.2.2.2 a (by simp)) (List.append_eq_nil_iff.1 e).1
theorem cntP_nil (p:Int→Bool):cntP p (u8s [])=0:=rfl
theorem leaf_good:(T.leaf ⟨#[0]⟩).good:=.inl ⟨⟨#[0]⟩,rfl,by decide,by decide⟩
theorem start_rd {σ:RS} {y:Ly} {n m:Nat} {ts:List (List UInt8)} {c:Cop} {pg:Pg} (K:RnOk σ y n m ts none) (hc:c≠.acq) (hr:∀k,c≠.rel k) (hk:c.slot < n) (h3:∀tx ∈ ts,tx.length≤300) (h:StartP σ ts c pg) :
  ∃t f,t.good∧RdK t σ f pg∧pg.reads=true∧f≤200:=by
 rcases h with ⟨h,_⟩ | ⟨_,⟨_,rfl⟩ | ⟨s,i,tx,hs,hi,ht,hp⟩⟩
 ·exact absurd h hc
 ·exact ⟨_,1,leaf_good,.loc _,rfl,by decide⟩
 ·rcases slot_case K hk with h0 | ⟨s',i',tx',hs',hi',ht',hrv,_,_,_,_⟩
  ·rw [hs] at h0;cases h0
  ·rw [hs] at hs'
   injection hs' with hs';injection hs' with hs';subst hs'
   obtain rfl:i=i':=by rw [hi] at hi';omega
   rw [ht] at ht'
   injection ht' with ht';subst ht'
   have hlen:=h3 tx (List.mem_of_getElem? ht)
   rcases hrv.2.2.2 with ⟨rfl,_⟩ | ⟨ix,t,e1,e2,e3,e4,hg,sb,hb⟩
   ·have L:∀x,∃t f,t.good∧RdK t σ f (.loc x)∧(Pg.loc x).reads=true∧f≤200:=fun x=>⟨_,1,leaf_good,.loc _,rfl,by decide⟩
    cases c with
    | acq=>exact absurd rfl hc
    | rel k=>exact absurd rfl (hr k)
    | len k=>rw [show pg=_ from hp];exact L _
    | read k a b=>
     rcases hp with ⟨_,rfl⟩ | ⟨_,_,rfl⟩ | ⟨h1,h2,_⟩
     ·exact L _
     ·exact ⟨_,1,leaf_good,.take _ _ _,rfl,by decide⟩
     ·rw [List.length_nil] at h1;omega
    | rune k b=>
     rcases hp with ⟨_,rfl⟩ | ⟨_,rfl⟩ | ⟨h1,_⟩
     ·exact L _
     ·exact L _
     ·rw [cntP_nil] at h1;omega
    | line k b=>
     rcases hp with ⟨_,rfl⟩ | ⟨_,rfl⟩ | ⟨h1,h2,_⟩
     ·exact L _
     ·exact L _
     ·rw [cntP_nil] at h1;omega
    | mark k i=>
     rcases hp with ⟨_,rfl⟩ | ⟨_,_,_,rfl⟩
     ·exact L _
     ·exact L _
    | seek k a=>
     rcases hp with ⟨_,rfl⟩ | ⟨_,rfl⟩
     ·exact L _
     ·exact ⟨_,1,leaf_good,.seek _ _,rfl,by decide⟩
    | next k b=>
     obtain ⟨c,_,⟨_,rfl⟩ | ⟨h1,_⟩⟩:=hp
     ·exact ⟨_,1,leaf_good,.take _ _ _,rfl,by decide⟩
     ·rw [List.length_nil] at h1;omega
   ·have hsz:sb.size=tx.length:=by rw [←e3,build_text hb];exact (dsize sb).symm
    have hpos:0 < sb.size:=by
     rcases Nat.eq_zero_or_pos sb.size with h0 | h0
     ·exfalso
      have:=build_bytes sb
      rw [hb,h0] at this
      have h1:=lvs_pos hg
      have h2:t.text.length=0:=by rw [e3];omega
      have h4:t.lvs≠[]:=by
       rcases hg with ⟨s,rfl,_⟩ | ⟨k,_,hf⟩
       ·simp [T.lvs]
       ·exact fit_lvs hf
      rw [lvs_text] at h2
      cases hl:t.lvs with
      | nil=>exact h4 hl
      | cons a l=>
       rw [hl,flatS_cons,List.length_append,dsize] at h2
       have:=h1 a (by rw [hl];simp)
       omega
     ·exact h0
    have hht:=build_ht3 hb hpos (by omega)
    have L:∀x,∃t f,t.good∧RdK t σ f (.loc x)∧(Pg.loc x).reads=true∧f≤200:=fun x=>⟨_,1,leaf_good,.loc _,rfl,by decide⟩
    have BY:∀(k:Nat) (a:Bool) (p0 N jx:Nat),c.slot=k→s.x.at'=hdl jx→0 < N→p0+N≤tx.length→∃t f,t.good∧RdK t σ f (.byte k a tx p0 N 0 jx p0 ⟨0,0,0⟩)∧(Pg.byte k a tx p0 N 0 jx p0 ⟨0,0,0⟩).reads=true∧f≤200:=by
     intro k a p0 N jx hk hj hN hl
     obtain rfl:jx=ix:=hdl_inj (by rw [←hj,e1])
     have hl':p0+N≤t.text.length:=by rw [e3];exact hl
     refine ⟨t,t.ht+1+(t.ht+1) * remB N 0,hg,.byte t (Wy.start e2 (by omega)) (.inl rfl) ⟨s,jx,by rw [←hk];exact hs,e1,e2⟩ hN hl',rfl,?_⟩
     have hr1:remB N 0≤38:=by unfold remB;rw [if_pos rfl];omega
     have:(t.ht+1) * remB N 0≤4 * 38:=Nat.mul_le_mul (by omega) hr1
     omega
    cases c with
    | acq=>exact absurd rfl hc
    | rel k=>exact absurd rfl (hr k)
    | len k=>rw [show pg=_ from hp];exact L _
    | read k a b=>
     rcases hp with ⟨_,rfl⟩ | ⟨_,_,rfl⟩ | ⟨h1,h2,jx,hj,rfl⟩
     ·exact L _
     ·exact ⟨_,1,leaf_good,.take _ _ _,rfl,by decide⟩
     ·exact BY k false a b jx rfl hj h2 h1
    | rune k b=>
     rcases hp with ⟨_,rfl⟩ | ⟨_,rfl⟩ | ⟨h1,jx,hj,rfl⟩
     ·exact L _
     ·exact L _
     ·obtain rfl:jx=ix:=hdl_inj (by rw [←hj,e1])
      exact ⟨t,t.ht+1,hg,.rune t e2,rfl,by omega⟩
    | line k b=>
     rcases hp with ⟨_,rfl⟩ | ⟨_,rfl⟩ | ⟨h1,h2,jx,hj,rfl⟩
     ·exact L _
     ·exact L _
     ·obtain rfl:jx=ix:=hdl_inj (by rw [←hj,e1])
      exact ⟨t,t.ht+1,hg,.line t e2,rfl,by omega⟩
    | mark k i=>
     rcases hp with ⟨_,rfl⟩ | ⟨_,_,_,rfl⟩
     ·exact L _
     ·exact L _
    | seek k a=>
     rcases hp with ⟨_,rfl⟩ | ⟨_,rfl⟩
     ·exact L _
     ·exact ⟨_,1,leaf_good,.seek _ _,rfl,by decide⟩
    | next k b=>
     obtain ⟨c,_,⟨_,rfl⟩ | ⟨h1,jx,hj,rfl⟩⟩:=hp
     ·exact ⟨_,1,leaf_good,.take _ _ _,rfl,by decide⟩
     ·exact BY k true c _ jx rfl hj h1 (by omega)
section
variable {B:Nat} {w0 w:World} {R:List Res} {σ:RS} {bs':List Bx} {y:Ly} {n m:Nat} {ts:List (List UInt8)}
end
def Pg.ph:Pg→Int
 | .fin _=>0
 | .loc _=>1
 | .clos=>2
 | .ep _=>9
 | .ann _ _=>10
 | .root _=>11
 | .rel _=>10
 | .seek _ _=>1
 | .take _ _ _=>1
 | .byte _ _ _ _ _ _ _ _ _=>12
 | .rune _ _ _ _ _ _=>12
 | .line _ _ _ _ _ _=>12
theorem PgAt.phase {σ:RS} {bs:List Bx} {n m:Nat} {ts:List (List UInt8)} {pg:Pg} (h:PgAt σ bs n m ts pg):σ.r.ph=pg.ph:=by
 cases pg with
 | fin x=>exact h.2.1
 | loc x=>exact h.2.2.1
 | clos=>exact h.2.2.1
 | ep k=>exact h.2.2.1
 | ann k v=>exact h.2.2.1
 | root k=>exact h.2.2.1
 | rel k=>exact h.2.2.1
 | seek k pos=>exact h.2.2.1
 | take k a pos=>exact h.2.2.1
 | byte k a tx p0 N d ix rest base=>exact h.2.2.1
 | rune k tx q ix rest base=>exact h.2.2.1
 | line k tx q ix rest base=>exact h.2.2.1
theorem mL_nn (l:List UInt8):0≤(mL l).b∧0≤(mL l).r∧0≤(mL l).l:=⟨Int.natCast_nonneg _,Int.natCast_nonneg _,Int.natCast_nonneg _⟩
structure Adds (f:Ms→Int):Prop where
 z:f ⟨0,0,0⟩=0
 add:∀a b,f (a.add b)=f a+f b
 nn:∀l,0≤f (mL l)
theorem adds_b:Adds fun m=>m.b:=⟨rfl,fun _ _=>rfl,fun l=>(mL_nn l).1⟩
theorem adds_r:Adds fun m=>m.r:=⟨rfl,fun _ _=>rfl,fun l=>(mL_nn l).2.1⟩
theorem adds_l:Adds fun m=>m.l:=⟨rfl,fun _ _=>rfl,fun l=>(mL_nn l).2.2⟩
theorem msum_app (a b:List Ms):msum (a++b)=(msum a).add (msum b):=by
 induction a with
 | nil=>rw [List.nil_append];exact (ms_zero _).symm
 | cons x l ih=>rw [List.cons_append,msum_cons,msum_cons,ih,ms_assoc]
theorem msum_nn {f:Ms→Int} (hf:Adds f):∀(l:List Ms),(∀m ∈ l,0≤f m)→0≤f (msum l)
 | [],_=>by show 0≤f ⟨0,0,0⟩;rw [hf.z];exact Int.le_refl _
 | x::l,h=>by
  rw [msum_cons,hf.add]
  have:=h x (by simp)
  have:=msum_nn hf l (fun m hm=>h m (by simp [hm]))
  omega
theorem chosen_lt {f:Ms→Int} (hf:Adds f) {ms:List Ms} (hn:∀m ∈ ms,0≤f m) {n:Int} {i j:Nat} {r s:Int} (h:Chosen f ms n i r) (g:Chosen f ms n j s) (hlt:i < j):False:=by
 obtain ⟨⟨m,hm,hr⟩,h0,he⟩:=h
 obtain ⟨_,g0,ge⟩:=g
 have hi:=(List.getElem?_eq_some_iff.1 hm)
 have e:ms.take j=ms.take i++(m::(ms.drop (i+1)).take (j - (i+1))):=by
  apply List.ext_getElem?
  intro k
  rw [List.getElem?_take,List.getElem?_append,List.length_take,Nat.min_eq_left (Nat.le_of_lt hi.1)]
  by_cases hk:k < j
  ·rw [if_pos hk]
   by_cases hki:k < i
   ·rw [if_pos hki,List.getElem?_take,if_pos hki]
   ·rw [if_neg hki]
    rcases Nat.eq_or_lt_of_le (Nat.le_of_not_lt hki) with h1 | h1
    ·rw [←h1,Nat.sub_self,hm];rfl
    ·obtain ⟨d,rfl⟩:∃d,k=i+(d+1):=⟨k - i - 1,by omega⟩
     rw [Nat.add_sub_cancel_left,List.getElem?_cons_succ,List.getElem?_take,if_pos (by omega),List.getElem?_drop]
     congr 1
     omega
  ·rw [if_neg hk,if_neg (by omega)]
   obtain ⟨d,rfl⟩:∃d,k=i+(d+1):=⟨k - i - 1,by omega⟩
   rw [Nat.add_sub_cancel_left,List.getElem?_cons_succ,List.getElem?_take,if_neg (by omega)]
 rw [e,msum_app,hf.add,msum_cons,hf.add] at ge
 have:=msum_nn hf ((ms.drop (i+1)).take (j - (i+1))) (fun x hx=>hn x (List.mem_of_mem_drop (List.mem_of_mem_take hx)))
 omega
theorem chosen_eq {f:Ms→Int} (hf:Adds f) {ms:List Ms} (hn:∀m ∈ ms,0≤f m) {n:Int} {i j:Nat} {r s:Int} (h:Chosen f ms n i r) (g:Chosen f ms n j s):i=j∧r=s:=by
 have hij:i=j:=by
  rcases Nat.lt_trichotomy i j with h1 | h1 | h1
  ·exact (chosen_lt hf hn h g h1).elim
  ·exact h1
  ·exact (chosen_lt hf hn g h h1).elim
 subst hij
 have a:=h.eq
 have b:=g.eq
 exact ⟨rfl,by omega⟩
theorem nt_two {ns ns':List An} {i j:Nat} {u:T} (h:Nt ns i u) (g:Nt ns' j u) {y z:An} (hy:ns[i]?=some y) (hz:ns'[j]?=some z) :
  y.x.h=z.x.h∧y.x.s=z.x.s∧y.x.ks.map Kd.m=z.x.ks.map Kd.m∧(∀m ∈ y.x.ks.map Kd.m,∃l,m=mL l)∧∀(c:Nat) (a b:Kd),y.x.ks[c]?=some a→z.x.ks[c]?=some b→∃t,Nt ns a.at' t∧Nt ns' b.at' t:=by
 cases h with
 | leaf hi e=>
  rw [hy] at hi;injection hi with hi;subst hi
  cases g with
  | leaf hj e'=>
   rw [hz] at hj;injection hj with hj;subst hj
   rw [e,e']
   exact ⟨rfl,rfl,rfl,fun m hm=>(by cases hm),fun c a b ha=>(by cases ha)⟩
 | node hi e hl hm hk=>
  rename_i hh ks y' kd
  rw [hy] at hi;injection hi with hi;subst hi
  cases g with
  | node hj e' hl' hm' hk'=>
   rename_i z' kd'
   rw [hz] at hj;injection hj with hj;subst hj
   rw [e,e']
   have M:∀(d:List Kd),d.length=ks.length→(∀(j:Nat) (k:Kd) (t:T),d[j]?=some k→ks[j]?=some t→k.m=t.meas)→d.map Kd.m=ks.map T.meas:=fun d h1 h2=>by
    apply List.ext_getElem?
    intro j
    rw [List.getElem?_map,List.getElem?_map]
    by_cases hj:j < ks.length
    ·rw [List.getElem?_eq_getElem hj,List.getElem?_eq_getElem (by omega:j < d.length)]
     simp only [Option.map_some]
     rw [h2 j _ _ (List.getElem?_eq_getElem (by omega)) (List.getElem?_eq_getElem hj)]
    ·rw [List.getElem?_eq_none (by omega),List.getElem?_eq_none (by omega)]
     rfl
   refine ⟨rfl,rfl,by rw [M kd hl hm,M kd' hl' hm'],fun m h=>?_,fun c a b ha hb=>?_⟩
   ·rw [M kd hl hm] at h
    obtain ⟨t,_,rfl⟩:=List.mem_map.1 h
    exact ⟨t.text,meas_text t⟩
   ·have hc:c < ks.length:=by rw [←hl];exact (List.getElem?_eq_some_iff.1 ha).1
    exact ⟨ks[c],hk c a _ ha (List.getElem?_eq_getElem hc),hk' c b _ hb (List.getElem?_eq_getElem hc)⟩
def Rt2 (np nq:List An) (sp sq:List (Option Snp)) (k:Nat):Prop:=∃(a b:Snp) (i j:Nat) (t:T),sp[k]?=some (some a)∧sq[k]?=some (some b)∧a.x.at'=hdl i∧b.x.at'=hdl j∧Nt np i t∧Nt nq j t
inductive Lk (np nq:List An) (sp sq:List (Option Snp)):Pg→Pg→Prop
 | fin (x:RsV):Lk np nq sp sq (.fin x) (.fin x)
 | loc (x:RsV):Lk np nq sp sq (.loc x) (.loc x)
 | rel (k:Nat):Lk np nq sp sq (.rel k) (.rel k)
 | seek (k:Nat) (pos:Int):Lk np nq sp sq (.seek k pos) (.seek k pos)
 | take (k:Nat) (a:Bool) (pos:Int):Lk np nq sp sq (.take k a pos) (.take k a pos)
 | byte {k:Nat} {a:Bool} {tx:List UInt8} {p0 N d i j:Nat} {rest:Int} {base:Ms} (u:T) (h:Nt np i u) (g:Nt nq j u) (r:Rt2 np nq sp sq k):Lk np nq sp sq (.byte k a tx p0 N d i rest base) (.byte k a tx p0 N d j rest base)
 | rune {k:Nat} {tx:List UInt8} {q i j:Nat} {rest:Int} {base:Ms} (u:T) (h:Nt np i u) (g:Nt nq j u):Lk np nq sp sq (.rune k tx q i rest base) (.rune k tx q j rest base)
 | line {k:Nat} {tx:List UInt8} {q i j:Nat} {rest:Int} {base:Ms} (u:T) (h:Nt np i u) (g:Nt nq j u):Lk np nq sp sq (.line k tx q i rest base) (.line k tx q j rest base)
theorem Lk.ph {np nq:List An} {sp sq:List (Option Snp)} {a b:Pg} (h:Lk np nq sp sq a b):a.ph=b.ph∧a.ended=b.ended:=by
 cases h <;> exact ⟨rfl,rfl⟩
theorem Lk.app {np nq:List An} {sp sq:List (Option Snp)} {a b:Pg} (h:Lk np nq sp sq a b) (ys:List An):Lk np (nq++ys) sp sq a b:=by
 cases h with
 | fin x=>exact .fin x
 | loc x=>exact .loc x
 | rel k=>exact .rel k
 | seek k pos=>exact .seek k pos
 | take k a pos=>exact .take k a pos
 | byte u h g r=>
  obtain ⟨x,y,i,j,t,h1,h2,h3,h4,h5,h6⟩:=r
  exact .byte u h g.app ⟨x,y,i,j,t,h1,h2,h3,h4,h5,h6.app⟩
 | rune u h g=>exact .rune u h g.app
 | line u h g=>exact .line u h g.app
theorem bsK_map {m:Ms} {a b:List Kd} (h:a.map Kd.m=b.map Kd.m) (c:Nat):bsK m a c=bsK m b c:=by
 rw [bsK_eq,bsK_eq,h]
theorem Lk.step {np nq:List An} {sp sq:List (Option Snp)} {σ σ' τ τ':RS} {m m':Nat} {hv hv':Int} {a a' b b':Pg} (h:Lk np nq sp sq a b) (ha:Nxt σ σ' m hv a' a) (hb:Nxt τ τ' m' hv' b' b) (e1:σ.ns=np) (e2:τ.ns=nq) (e3:σ.sl=sp) (e4:τ.sl=sq):Lk np nq sp sq a' b':=by
 subst e1
 subst e2
 subst e3
 subst e4
 cases h with
 | fin x=>exact ha.elim
 | loc x=>
  obtain ⟨_,_,_,rfl⟩:=ha
  obtain ⟨_,_,_,rfl⟩:=hb
  exact .fin x
 | rel k=>
  obtain ⟨_,_,_,rfl⟩:=ha
  obtain ⟨_,_,_,rfl⟩:=hb
  exact .fin _
 | seek k pos=>
  obtain ⟨_,_,_,rfl⟩:=ha
  obtain ⟨_,_,_,rfl⟩:=hb
  exact .fin _
 | take k v pos=>
  obtain ⟨_,_,_,rfl⟩:=ha
  obtain ⟨_,_,_,rfl⟩:=hb
  exact .fin _
 | byte u h g r=>
  obtain ⟨_,_,y,hy,ha⟩:=ha
  obtain ⟨_,_,z,hz,hb⟩:=hb
  obtain ⟨e1,e2,e3,e4,e5⟩:=nt_two h g hy hz
  rcases ha with ⟨h0,_,ci,k',q,hk,hc,rfl⟩ | ⟨h0,c,rn,hrn,hcm,ha⟩
  ·rcases hb with ⟨_,_,ci',k2,q',hk',hc',rfl⟩ | ⟨g0,_⟩
   ·rw [←e3] at hc'
    obtain ⟨rfl,rfl⟩:=chosen_eq adds_b (fun m hm=>by obtain ⟨l,rfl⟩:=e4 m hm;exact adds_b.nn l) hc hc'
    obtain ⟨t,t1,t2⟩:=e5 ci k' k2 hk hk'
    rw [bsK_map e3]
    exact .byte t t1 t2 r
   ·rw [←e1] at g0
    exact absurd g0 h0
  ·rcases hb with ⟨g0,_⟩ | ⟨_,c',rn',hrn',hcm',hb⟩
   ·rw [←e1] at g0
    exact absurd h0 g0
   ·have hrr:rn=rn':=by omega
    subst hrr
    have hcc:c=c':=by rw [hcm,hcm',e2]
    subst hcc
    rcases ha with ⟨hlt,_,jx,rfl,s,hs,hsj⟩ | ⟨heq,_,rfl⟩
    ·rcases hb with ⟨_,_,jy,rfl,s',hs',hsj'⟩ | ⟨heq,_⟩
     ·obtain ⟨a,b,i,j,t,h1,h2,h3,h4,h5,h6⟩:=r
      have r:Rt2 σ.ns τ.ns σ.sl τ.sl _:=⟨a,b,i,j,t,h1,h2,h3,h4,h5,h6⟩
      rw [hs] at h1
      rw [hs'] at h2
      injection h1 with h1
      injection h1 with h1
      injection h2 with h2
      injection h2 with h2
      subst h1
      subst h2
      rw [hsj] at h3
      rw [hsj'] at h4
      rw [←hdl_inj h3] at h5
      rw [←hdl_inj h4] at h6
      exact .byte t h5 h6 r
     ·omega
    ·rcases hb with ⟨hlt,_⟩ | ⟨_,_,rfl⟩
     ·omega
     ·exact .fin _
 | rune u h g=>
  obtain ⟨_,_,_,y,hy,ha⟩:=ha
  obtain ⟨_,_,_,z,hz,hb⟩:=hb
  obtain ⟨e1,e2,e3,e4,e5⟩:=nt_two h g hy hz
  rcases ha with ⟨h0,ci,k',q,hk,hc,rfl⟩ | ⟨h0,rfl⟩
  ·rcases hb with ⟨_,ci',k2,q',hk',hc',rfl⟩ | ⟨g0,_⟩
   ·rw [←e3] at hc'
    obtain ⟨rfl,rfl⟩:=chosen_eq adds_r (fun m hm=>by obtain ⟨l,rfl⟩:=e4 m hm;exact adds_r.nn l) hc hc'
    obtain ⟨t,t1,t2⟩:=e5 ci k' k2 hk hk'
    rw [bsK_map e3]
    exact .rune t t1 t2
   ·rw [←e1] at g0
    exact absurd g0 h0
  ·rcases hb with ⟨g0,_⟩ | ⟨_,rfl⟩
   ·rw [←e1] at g0
    exact absurd h0 g0
   ·exact .fin _
 | line u h g=>
  obtain ⟨_,_,_,y,hy,ha⟩:=ha
  obtain ⟨_,_,_,z,hz,hb⟩:=hb
  obtain ⟨e1,e2,e3,e4,e5⟩:=nt_two h g hy hz
  rcases ha with ⟨h0,ci,k',q,hk,hc,rfl⟩ | ⟨h0,rfl⟩
  ·rcases hb with ⟨_,ci',k2,q',hk',hc',rfl⟩ | ⟨g0,_⟩
   ·rw [←e3] at hc'
    obtain ⟨rfl,rfl⟩:=chosen_eq adds_l (fun m hm=>by obtain ⟨l,rfl⟩:=e4 m hm;exact adds_l.nn l) hc hc'
    obtain ⟨t,t1,t2⟩:=e5 ci k' k2 hk hk'
    rw [bsK_map e3]
    exact .line t t1 t2
   ·rw [←e1] at g0
    exact absurd g0 h0
  ·rcases hb with ⟨g0,_⟩ | ⟨_,rfl⟩
   ·rw [←e1] at g0
    exact absurd h0 g0
   ·exact .fin _
structure Pth (m:Nat) (ns:List An) (sl:List (Option Snp)) (pg0:Pg) (ps:Nat→Pg) (phs:List Int) (pg:Pg):Prop where
 s0:ps 0=pg0
 sn:ps phs.length=pg
 st:∀i,i < phs.length→∃σ σ' hv,σ.ns=ns∧σ.sl=sl∧Nxt σ σ' m hv (ps (i+1)) (ps i)∧phs[i]?=some (ps i).ph∧(ps i).ended=false
theorem Pth.nil (m:Nat) (ns:List An) (sl:List (Option Snp)) (pg0:Pg):Pth m ns sl pg0 (fun _=>pg0) [] pg0:=⟨rfl,rfl,fun i hi=>by cases hi⟩
theorem Pth.snoc {m:Nat} {ns:List An} {sl:List (Option Snp)} {pg0:Pg} {ps:Nat→Pg} {phs:List Int} {pg pg':Pg} (h:Pth m ns sl pg0 ps phs pg) {σ σ':RS} {hv:Int} (hn:Nxt σ σ' m hv pg' pg) (e1:σ.ns=ns) (e2:σ.sl=sl) (he:pg.ended=false):∃ps',Pth m ns sl pg0 ps' (phs++[pg.ph]) pg':=by
 refine ⟨fun j=>if j≤phs.length then ps j else pg',?_,?_,fun i hi=>?_⟩
 ·show (if 0≤phs.length then ps 0 else pg')=pg0
  rw [if_pos (Nat.zero_le _)]
  exact h.s0
 ·show (if (phs++[pg.ph]).length≤phs.length then ps (phs++[pg.ph]).length else pg')=pg'
  rw [if_neg (by simp)]
 ·rw [List.length_append,List.length_singleton] at hi
  show ∃σ σ' hv,σ.ns=ns∧σ.sl=sl∧Nxt σ σ' m hv (if i+1≤phs.length then ps (i+1) else pg') (if i≤phs.length then ps i else pg')∧(phs++[pg.ph])[i]?=some (if i≤phs.length then ps i else pg').ph∧(if i≤phs.length then ps i else pg').ended=false
  rw [if_pos (by omega:i≤phs.length)]
  by_cases hlt:i < phs.length
  ·rw [if_pos (by omega:i+1≤phs.length),List.getElem?_append_left hlt]
   exact h.st i hlt
  ·obtain rfl:i=phs.length:=by omega
   rw [if_neg (by omega),h.sn,List.getElem?_append_right (Nat.le_refl _),Nat.sub_self]
   exact ⟨σ,σ',hv,e1,e2,hn,rfl,he⟩
theorem nil_len {tx:List UInt8} (h:0 < tx.length):tx≠[]:=by
 intro e
 rw [e] at h
 cases h
theorem cnt_ne {p:Int→Bool} {tx:List UInt8} {b:Nat} (h:b < cntP p (u8s tx)):tx≠[]:=by
 intro e
 rw [e] at h
 cases h
theorem run_lk {np nq:List An} {sp sq:List (Option Snp)} {k:Nat} {s s':Snp} {tx:List UInt8} {pg pg':Pg} (c:Cop) (hk:c.slot=k) (h:RunP s tx pg c) (g:RunP s' tx pg' c) (m1:s.ms=[]) (m2:s'.ms=[]) (hc:s.cu=s'.cu) (hs:sp[k]?=some (some s)) (hs':sq[k]?=some (some s')) (ht:tx≠[]→Rt2 np nq sp sq k):Lk np nq sp sq pg pg':=by
 subst hk
 have R:tx≠[]→∃t i j,s.x.at'=hdl i∧s'.x.at'=hdl j∧Nt np i t∧Nt nq j t:=fun e=>by
  obtain ⟨a,b,i,j,t,h1,h2,h3,h4,h5,h6⟩:=ht e
  rw [hs] at h1
  rw [hs'] at h2
  injection h1 with h1
  injection h1 with h1
  injection h2 with h2
  injection h2 with h2
  subst h1
  subst h2
  exact ⟨t,i,j,h3,h4,h5,h6⟩
 have BY:∀(a:Bool) (p0 N i j:Nat),tx≠[]→s.x.at'=hdl i→s'.x.at'=hdl j→Lk np nq sp sq (.byte c.slot a tx p0 N 0 i p0 ⟨0,0,0⟩) (.byte c.slot a tx p0 N 0 j p0 ⟨0,0,0⟩):=fun a p0 N i j e hi hj=>by
  obtain ⟨t,i',j',h3,h4,h5,h6⟩:=R e
  rw [hi] at h3
  rw [hj] at h4
  rw [←hdl_inj h3] at h5
  rw [←hdl_inj h4] at h6
  exact .byte t h5 h6 (ht e)
 cases c with
 | acq=>exact h.elim
 | len k=>rw [show pg=_ from h,show pg'=_ from g];exact .loc _
 | read k a b=>
  rcases h with ⟨h1,rfl⟩ | ⟨h1,h2,rfl⟩ | ⟨h1,h2,jx,hj,rfl⟩
  ·rcases g with ⟨g1,rfl⟩ | ⟨g1,g2,rfl⟩ | ⟨g1,g2,jy,gj,rfl⟩
   ·exact .loc _
   ·omega
   ·omega
  ·rcases g with ⟨g1,rfl⟩ | ⟨g1,g2,rfl⟩ | ⟨g1,g2,jy,gj,rfl⟩
   ·omega
   ·exact .take _ _ _
   ·omega
  ·rcases g with ⟨g1,rfl⟩ | ⟨g1,g2,rfl⟩ | ⟨g1,g2,jy,gj,rfl⟩
   ·omega
   ·omega
   ·exact BY false a b jx jy (nil_len (by omega)) hj gj
 | rune k b=>
  rcases h with ⟨h1,rfl⟩ | ⟨h1,rfl⟩ | ⟨h1,jx,hj,rfl⟩
  ·rcases g with ⟨g1,rfl⟩ | ⟨g1,rfl⟩ | ⟨g1,jy,gj,rfl⟩
   ·exact .loc _
   ·omega
   ·omega
  ·rcases g with ⟨g1,rfl⟩ | ⟨g1,rfl⟩ | ⟨g1,jy,gj,rfl⟩
   ·omega
   ·exact .loc _
   ·omega
  ·rcases g with ⟨g1,rfl⟩ | ⟨g1,rfl⟩ | ⟨g1,jy,gj,rfl⟩
   ·omega
   ·omega
   ·obtain ⟨t,i',j',h3,h4,h5,h6⟩:=R (cnt_ne h1)
    rw [hj] at h3
    rw [gj] at h4
    rw [←hdl_inj h3] at h5
    rw [←hdl_inj h4] at h6
    exact .rune t h5 h6
 | line k b=>
  rcases h with ⟨h1,rfl⟩ | ⟨h1,rfl⟩ | ⟨h0,h1,jx,hj,rfl⟩
  ·rcases g with ⟨g1,rfl⟩ | ⟨g1,rfl⟩ | ⟨g0,g1,jy,gj,rfl⟩
   ·exact .loc _
   ·omega
   ·omega
  ·rcases g with ⟨g1,rfl⟩ | ⟨g1,rfl⟩ | ⟨g0,g1,jy,gj,rfl⟩
   ·omega
   ·exact .loc _
   ·omega
  ·rcases g with ⟨g1,rfl⟩ | ⟨g1,rfl⟩ | ⟨g0,g1,jy,gj,rfl⟩
   ·omega
   ·omega
   ·obtain ⟨t,i',j',h3,h4,h5,h6⟩:=R (cnt_ne (p:=isLF) (b:=b - 1) (by omega))
    rw [hj] at h3
    rw [gj] at h4
    rw [←hdl_inj h3] at h5
    rw [←hdl_inj h4] at h6
    exact .line t h5 h6
 | mark k i=>
  rcases h with ⟨h1,rfl⟩ | ⟨x,hx,_⟩
  ·rcases g with ⟨g1,rfl⟩ | ⟨x,hx,_⟩
   ·exact .loc _
   ·rw [m2] at hx;cases hx
  ·rw [m1] at hx;cases hx
 | seek k a=>
  rcases h with ⟨h1,rfl⟩ | ⟨h1,rfl⟩
  ·rcases g with ⟨g1,rfl⟩ | ⟨g1,rfl⟩
   ·exact .loc _
   ·omega
  ·rcases g with ⟨g1,rfl⟩ | ⟨g1,rfl⟩
   ·omega
   ·exact .seek _ _
 | next k b=>
  obtain ⟨c1,e1,h⟩:=h
  obtain ⟨c2,e2,g⟩:=g
  have e:c1=c2:=by omega
  subst e
  rcases h with ⟨h1,rfl⟩ | ⟨h1,jx,hj,rfl⟩
  ·rcases g with ⟨g1,rfl⟩ | ⟨g1,jy,gj,rfl⟩
   ·exact .take _ _ _
   ·omega
  ·rcases g with ⟨g1,rfl⟩ | ⟨g1,jy,gj,rfl⟩
   ·omega
   ·exact BY true c1 _ jx jy (nil_len (by omega)) hj gj
 | rel k=>rw [show pg=_ from h,show pg'=_ from g];exact .rel _
section
variable {B:Nat} {w0 w:World} {R:List Res} {σ:RS} {bs':List Bx} {y:Ly} {n m:Nat} {ts:List (List UInt8)}
theorem fin_way {c:Cop} (M:Mem B w0 (σ.L B++(boxR bs'::R)) w) (K:RnOk σ y n m ts none) (hl:σ.s.lg.length < 700000) (hc:c≠.acq) (hk:c.slot < n) (h3:∀tx ∈ ts,tx.length≤300)
  (hbeg:∀R W,Mem B w0 (σ.L B++(boxR bs'::R)) W→Calls Tryz.prog 13 #[.pointer (some ⟨σ.g,0,none⟩),c.op.v] W (BegTo B w0 R σ y n m ts c)) :
  Calls Tryz.prog 12 #[.pointer (some ⟨σ.g,0,none⟩),c.op.v] w (FinTo B w0 R σ y n m ts (fun phs σ' x=>(∃pg0 ps,StartP σ ts c pg0∧Pth m σ.ns σ.sl pg0 ps phs (.fin x))∧phs.length≤200)):=by
 refine finish_all c (fun f phs σ1 pg=>σ1.sl=σ.sl∧f+phs.length≤200∧(∃t,t.good∧RdK t σ1 f pg)∧∃pg0 ps,StartP σ ts c pg0∧Pth m σ.ns σ.sl pg0 ps phs pg) _ M hl (fun R' W M'=>hbeg R' W M') (fun σ1 bs1 pg S h1 h2 K1 _ hs=>?_) (fun f phs σ1 σ2 hv pg pg' hK hP K1 K2 S1 S2 hn=>?_) (fun f phs σ1 pg hK=>?_)
 ·by_cases hr:∃k,c=.rel k
  ·obtain ⟨k,rfl⟩:=hr
   have e:∃t f,t.good∧RdK t σ1 f pg∧f≤200:=by
    rcases hs with ⟨h,_⟩ | ⟨_,⟨_,rfl⟩ | ⟨s,i,tx,_,_,_,hp⟩⟩
    ·cases h
    ·exact ⟨_,1,leaf_good,.loc _,by decide⟩
    ·rw [show pg=.rel k from hp]
     exact ⟨_,1,leaf_good,.rel k,by decide⟩
   obtain ⟨t,f,hg,hk,hf⟩:=e
   exact ⟨f,hf,h2,by simpa using hf,⟨t,hg,hk⟩,pg,_,hs,Pth.nil m σ.ns σ.sl pg⟩
  ·obtain ⟨t,f,hg,hk,_,hf⟩:=start_rd K hc (fun k e=>hr ⟨k,e⟩) hk h3 hs
   exact ⟨f,hf,h2,by simpa using hf,⟨t,hg,hk.move (ys:=[]) (by rw [S.ns,List.append_nil]) h2⟩,pg,_,hs,Pth.nil m σ.ns σ.sl pg⟩
 ·obtain ⟨a1,a2,⟨t,hg,hk⟩,pg0,ps,b1,b2⟩:=hK
  obtain ⟨bb,hP⟩:=hP
  obtain ⟨ps',hp'⟩:=b2.snoc hn S1.ns a1 hk.run.1
  rw [←hP.phase] at hp'
  rcases rdK_step hk S2 K1.P hg hn with h | ⟨he,f',hf,hk'⟩
  ·obtain ⟨x,rfl⟩:∃x,pg'=.fin x:=by
    cases pg' <;> first | exact ⟨_,rfl⟩ | cases h
   exact .inl ⟨x,rfl,⟨pg0,ps',b1,hp'⟩,by have:=hk.pos;rw [List.length_append,List.length_singleton];omega⟩
  ·refine .inr ⟨he,f',hf,?_,by rw [List.length_append,List.length_singleton];omega,⟨t,hg,hk'⟩,pg0,ps',b1,hp'⟩
   by_cases hrd:pg.reads=true
   ·obtain ⟨_,_,h | ⟨_,_,h,_⟩⟩:=nxt_out hrd hn
    ·rw [h.1] at he;cases he
    ·exact h.trans a1
   ·cases hk with
    | rel k=>obtain ⟨_,_,_,rfl⟩:=hn;cases he
    | loc x=>exact absurd rfl hrd
    | seek k pos=>exact absurd rfl hrd
    | take k a pos=>exact absurd rfl hrd
    | rune u h=>exact absurd rfl hrd
    | line u h=>exact absurd rfl hrd
    | byte u h hb hs hd hl=>exact absurd rfl hrd
 ·obtain ⟨_,_,⟨_,_,hk⟩,_⟩:=hK
  exact hk.pos
end
end Go.Proofs.YtjcdknhejcbpiaaGreat
