/- A step of the proofs of the seat's theorems. -/
import Derived.Test.YtgclflkhpkdecaaGreatDoorV10
import Derived.WalkSpells
import Derived.Lib.ConvBytes
import Derived.Shelf.Bits.Mul64
import Derived.Shelf.Strings.Split
set_option linter.unusedSimpArgs false
set_option linter.unusedVariables false
section
namespace Go.Abs
open Go.RowKit
section
variable {P:Program} {G:World→Nat→Prop} {n:iw} {aC:St} {Q:AX→Fr→St→Prop} {fr:Fr} {st:St} {c:Ctx} {w:World} {all:Array Oper}
def OPW (P:Program) (G:World→Nat→Prop) (n:iw) (aC:St) (all:Array Oper) (o:Oper) (K:Fr→St→Prop) (fr:Fr) (st:St):Prop:=
 ∀ (r:List Oper) (Q:AX→Fr→St→Prop),(∀ fr st,K fr st→OW P G n aC all Q r fr st)→OW P G n aC all Q (o::r) fr st
theorem OPW.of {o:Oper} {K:Fr→St→Prop} (hg:goes all o fr=some true) (hd:fC n o.dst=true)
  (h:∀ (c0 c:Ctx) (w:World) (a:Act),TW c0 aC→Ext c0 c→bf c w st→cC c a.tmps fr→∃ cv w' c' fr' v st',(execOp a.eval o).run P w= .ok (.value cv) w'∧Ext c0 c'∧bf c' w' st'∧cC c' a.tmps fr'∧Rel c' cv v∧K (eC fr' o.dst v) st'):OPW P G n aC all o K fr st:=by
 intro r Q hK c0 c w a h0 he hc hG hf hs hdf
 obtain ⟨cv,w',c',fr',v,st',h1,h2,h3,h4,h5,h6⟩:=h c0 c w a h0 he hc hf
 unfold wpList
 rw [if_pos (ZC hf hg)]
 refine .inl ?_
 unfold Oper.wp
 rw [h1]
 have hg':G c'.w0 c'.base:=by rw [h2.w0,h2.base,←he.w0,←he.base];exact hG
 exact hK _ _ h6 c0 c' w' (a.put o.dst cv) h0 h2 h3 hg' (h4.eC hs hd h5) ((iy _ _ _).trans hs) ((put_defers _ _ _).trans hdf)
theorem OPW.const {o:Oper} {K:Fr→St→Prop} (cv:Value) (hg:goes all o fr=some true) (hd:fC n o.dst=true) (h:∀ (a:Act) (w:World),(execOp a.eval o).run P w= .ok (.value cv) w) (hk:K (eC fr o.dst (ofConst cv)) st):OPW P G n aC all o K fr st:=
 OPW.of hg hd fun c0 c w a h0 he hc hf=>⟨cv,w,c,fr,_,st,h a w,he,hc,hf,mO cv,hk⟩
theorem bf.adopt {w':World} {row:Option Nat} {g:Nat} {B:aJ} (h:bf c w st) (hgr:w.grownBy w' row) (hrow:row=none∨row=some g) (hH:∀ o,c.H g o=none) (hmu:g ∉ c.mu)
  (htk:∀ (id:Nat) (t:Tok),c.tok[id]?=some t→t.val.ownBlock≠some g) (hb:c.base≤g) (hB:∃ o,w'.heap[g]?=some o∧eS c o B):bf (c.c7 g) w' { st with aj:=st.aj++[B] } where
 cN:=by simp [Ctx.c7,h.cN]
 dH:=by
  intro i j k hi0 hj0
  rcases bH hi0 with hi|⟨hi,hk⟩<;>rcases bH hj0 with hj|⟨hj,hk'⟩
  ·exact h.dH i j k hi hj
  ·exact absurd (show g∈c.mu from hk'▸aaP hi) hmu
  ·exact absurd (show g∈c.mu from hk▸aaP hj) hmu
  ·omega
 cI:=by
  intro i k hi
  rcases bH hi with hi|⟨_,hk⟩
  ·exact h.cI i k hi
  ·subst hk;exact hb
 mS:=by
  intro i k o hi
  rcases bH hi with hi|⟨_,hk⟩
  ·exact h.mS i k o hi
  ·subst hk;exact hH o
 blk:=by
  intro b k B' hk hB'
  rcases bH hk with hk|⟨hb',hk⟩
  ·have hbl:b<st.aj.length:=by rw [←h.cN];exact (aaw.1 hk).1
   obtain ⟨o',ho',hr⟩:=h.blk b k B' hk (by rw [aaC hbl] at hB';exact hB')
   have hne:k≠g:=fun e=>hmu (e▸aaP hk)
   have hlt:k<w.heap.size:=(aaV.1 ho').1
   exact ⟨o',by rw [hgr.block k hlt (by rcases hrow with e|e<;>rw [e]<;>simp [hne])];exact ho',hr.mono (Ext.c7 c _)⟩
  ·subst hk
   rw [hb',h.cN] at hB'
   simp at hB'
   subst hB'
   obtain ⟨o,ho,hr⟩:=hB
   exact ⟨o,ho,hr.mono (Ext.c7 c _)⟩
 cu:=h.cu
 cz:=by
  intro id t ht
  obtain ⟨h0,hd|⟨xs,ho,hg⟩⟩:=h.cz id t ht
  ·exact ⟨h0,.inl hd⟩
  have hne:=htk id t ht
  refine ⟨h0,.inr ⟨xs,ho.kept hgr ?_,fun g' hgb=>?_⟩⟩
  ·cases hv:t.val.ownBlock with
   |none=>exact .inl rfl
   |some g'=>
    refine .inr fun e=>?_
    rcases hrow with e'|e'
    ·rw [e'] at e;cases e
    ·rw [e'] at e;rw [hv,e] at hne;exact hne rfl
  ·obtain ⟨h1,h2,h3⟩:=hg g' hgb
   refine ⟨h1,h2,?_⟩
   simp only [Ctx.c7,List.mem_append,List.mem_singleton,not_or]
   exact ⟨h3,fun e=>hne (by rw [hgb,e])⟩
 cK:=h.cK
 cy:=by
  intro k o' v hv
  have h1:=h.cy k o' v hv
  have hne:k≠g:=by rintro rfl;rw [show (c.c7 k).H k o'=c.H k o' from rfl,hH o'] at hv;cases hv
  have hlt:k<w.heap.size:=World.block_lt_of_cell? w _ h1
  rw [←h1]
  simp only [World.cell?,hgr.block k hlt (by rcases hrow with e|e<;>rw [e]<;>simp [hne])]
 below:=h.below.trans ⟨hgr.os,hgr.tape,hgr.output,hgr.size,fun k hk=>hgr.block k (Nat.lt_of_lt_of_le hk h.cw) (by
  have hk:k<c.base:=hk
  rcases hrow with e|e<;>rw [e]
  ·simp
  ·simp only [ne_eq,aas];omega)⟩
 cw:=by
  have:=h.cw
  have:=hgr.size
  simp only [Ctx.c7]
  omega
theorem flatten_at {α:Type} {sz:Nat}:∀ {xs:List (List α)},(∀ r∈xs,r.length=sz)→∀ (i j:Nat),j<sz→xs.flatten[i*sz+j]?=(xs[i]?).bind (·[j]?)
 |[],_,i,j,_=>by simp
 |r::xs,h,0,j,hj=>by
  have:=h r (by simp)
  simp [aaC (show j<r.length by omega)]
 |r::xs,h,i+1,j,hj=>by
  have h1:=h r (by simp)
  rw [List.flatten_cons,aaz (by rw [aaW];omega),show (i+1)*sz+j - r.length=i*sz+j by rw [aaW];omega,flatten_at (fun r hr=>h r (by simp [hr])) i j hj]
  simp
theorem flatten_len {α:Type} {sz:Nat}:∀ {xs:List (List α)},(∀ r∈xs,r.length=sz)→xs.flatten.length=xs.length*sz
 |[],_=>by simp
 |r::xs,h=>by rw [List.flatten_cons,aaB,flatten_len fun r hr=>h r (by simp [hr]),h r (by simp),aaF,aaW,Nat.one_mul,Nat.add_comm]
def winCs (olds:List V) (xs:List (List D)) (m:Nat):List V:=olds++xs.flatten.map V.d++List.replicate (m - (olds.length+xs.flatten.length)) .aU
theorem append_free {t ty e:TypeId} {sz by_:Nat} (hc:bf c w st) (hsl:mU P t=some (e,sz,by_)) (hz:dy P e=some sz) (hpos:0<sz) {v:Value} {k:Nat} {old:List Value} {olds:List V}
  (hown:w.ownsRow c.base e sz v k old) (holds:olds.length=k*sz) (hrel:∀ i,i<olds.length→Rel c (old.getD i undef) (olds.getD i .aU))
  (hfree:∀ g,v.ownBlock=some g→(∀ o,c.H g o=none)∧g ∉ c.mu∧∀ (id:Nat) (t:Tok),c.tok[id]?=some t→t.val.ownBlock≠some g)
  {xv:Value} {xs:List (List D)} (hx:de c.H xv (.sl xs)) (hxs:dA sz xs=true) (hne:xs≠[]) (hb:(k+xs.length)*by_≤gP) (hm:k+xs.length≤maxLen):
  ∃ w' g cap,(Builtin.append_ #[t,t] ty #[v,xv]).run P w= .ok (.slice (some ⟨g,0,none⟩) (k+xs.length) cap) w'∧k+xs.length≤cap∧cap≤maxLen∧
   bf (c.c7 g) w' { st with aj:=st.aj++[.tc e (winCs olds xs (cap*sz))] }:=by
 obtain ⟨hu,ie,hie,hsz',hby⟩:=kz hsl
 unfold dy at hz
 obtain ⟨z,hz1,hz2⟩:=aaE.1 hz
 have hz3:ie.zero=some z:=by
  unfold zeroOf at hz1
  rw [hie] at hz1
  simpa using hz1
 cases hx with
 |slnil=>exact absurd rfl hne
 |uV a=>exact absurd rfl hne
 |sl k2 off m cap0 sz2 vs _ h1 h2 h3 h4 h5=>
  have hmpos:0<m:=by rw [←h1];exact List.length_pos_iff.2 hne
  have hrl:∀ r∈xs,r.length=sz:=fun r hr=>(gu hxs hr).1
  have hsz2:sz2=sz:=by
   obtain ⟨r,hr⟩:=List.exists_mem_of_ne_nil xs hne
   rw [←h3 r hr,hrl r hr]
  subst hsz2
  obtain ⟨news,hn1,hn2,hn3⟩:=tr (w:=w) hc.cy vs hpos h4
  have hat:∀ q,q<m*sz2→news[q]?=some (vs (q / sz2) (q % sz2))∧de c.H (vs (q / sz2) (q % sz2)) (xs.flatten.getD q .eX)∧(xs.flatten.getD q .eX).one=true:=by
   intro q hq
   have hd:q / sz2<m:=Nat.div_lt_of_lt_mul (by rw [Nat.mul_comm];exact hq)
   have hmod:=Nat.mod_lt q hpos
   have hqe:q / sz2*sz2+q % sz2=q:=by rw [Nat.mul_comm];exact Nat.div_add_mod q sz2
   have a1:=hn3 _ _ hd hmod
   have a2:=h5 _ _ hd hmod
   have a3:=flatten_at hrl (q / sz2) (q % sz2) hmod
   rw [hqe] at a1 a3
   have hdx:q / sz2<xs.length:=by omega
   have hmem:xs[q / sz2]∈xs:=aaQ _
   have hl:=hrl _ hmem
   have a4:xs.flatten.getD q .eX=(xs.getD (q / sz2) []).getD (q % sz2) .eX:=by
    simp only [aat,a3,aay hdx,Option.bind_some,aaI]
   refine ⟨a1,by rw [a4];exact a2,?_⟩
   rw [a4]
   simp only [aat,aay hdx,aaI]
   rw [aay (by omega),aaI]
   exact (gu hxs hmem).2 _ (aaQ _)
  have hone:∀ u∈news,u.oneCell'=true:=by
   intro u hu
   obtain ⟨q,hq,rfl⟩:=aa4.1 hu
   obtain ⟨a1,a2,a3⟩:=hat q (by omega)
   rw [aay hq] at a1
   simp only [aas] at a1
   rw [a1]
   exact a2.one a3
  obtain ⟨w',row,g,cap,hrun,hown2,hgr,hcap,hrow⟩:=lU (P:=P) c.base t ty e ie z hu hie hz3 (by rw [hz2,hsz']) v k old (by rw [hsz'];exact hown) ⟨k2,off,none⟩ m cap0 news (by rw [hn1,hsz']) hn2 hone hmpos
   (by omega) (by rw [hby,←h1];exact hb) hc.cw
  rw [hsz'] at hown2
  obtain ⟨ho1,hxx|⟨g1,cap1,cur,hv,hbg,hgc,hc1,hc2,hc3,hc4⟩⟩:=hown2
  ·simp at hxx
  simp only [Value.slice.injEq,aas,Addr.mk.injEq] at hv
  obtain ⟨⟨rfl,_,_⟩,_,rfl⟩:=hv
  have hfl:=flatten_len hrl
  have holdl:old.length=k*sz2:=hown.1
  have hm2:xs.length*sz2=m*sz2:=by rw [h1]
  have hfm:(xs.flatten.map V.d).length=xs.flatten.length:=aaO ..
  refine ⟨w',g,cap,by rw [h1];exact hrun,by omega,hc2,?_⟩
  have hg:(∀ o,c.H g o=none)∧g ∉ c.mu∧∀ (id:Nat) (t:Tok),c.tok[id]?=some t→t.val.ownBlock≠some g:=by
   rcases hrow with ⟨_,hge⟩|⟨_,hob⟩
   ·refine ⟨fun o=>hc.fresh hge o,fun hm=>?_,fun id t ht e=>?_⟩
    ·obtain ⟨i,hi,e⟩:=aa4.1 hm
     have:=hc.mult (i:=i) (k:=g) (by rw [aay hi,e])
     omega
    ·obtain ⟨_,hd|⟨ys,ho',_⟩⟩:=hc.cz id t ht
     ·rw [hd.2] at e;cases e
     ·have:=(ho'.lt g e).2;omega
   ·exact hfree g hob
  refine hc.adopt hgr (by rcases hrow with ⟨e,_⟩|⟨e,_⟩<;>simp [e]) hg.1 hg.2.1 hg.2.2 hbg ⟨_,hgc,?_⟩
  have hle:(k+xs.length)*sz2≤cap*sz2:=aa9 _ (by omega)
  rw [aaW] at hle
  have hlen:(winCs olds xs (cap*sz2)).length=cap*sz2:=by
   simp only [winCs,aaB,aaO,List.length_replicate,holds,hfl];omega
  refine .tc _ _ _ (by rw [hlen,hc3]) fun i hi=>?_
  have hcur:∀ i,i< (k+m)*sz2→cur.getD i undef=(old++news).getD i undef:=fun i hi=>by
   rw [←hc4,aat,abl,if_pos hi,aav,abj]
  by_cases h6:i<olds.length
  ·rw [hcur i (by rw [aaW];omega),aat,aaC (by omega),←aat]
   have:=hrel i h6
   rwa [show (winCs olds xs (cap*sz2)).getD i .aU=olds.getD i .aU by
    simp only [winCs,aat,aaG];rw [aaC h6]]
  ·by_cases h7:i - olds.length<xs.flatten.length
   ·obtain ⟨a1,a2,_⟩:=hat (i - olds.length) (by rw [←h1];omega)
    rw [hcur i (by rw [aaW];omega),aat,aaz (by omega),show i - old.length=i - olds.length by omega,a1,aaI]
    rw [show (winCs olds xs (cap*sz2)).getD i .aU= .d (xs.flatten.getD (i - olds.length) .eX) by
     simp only [winCs,aat,aaG]
     rw [aaz (by omega),aaC (by rw [hfm];exact h7),aaT,aay h7];simp [aay h7]]
    exact .d _ _ a2
   ·rw [show (winCs olds xs (cap*sz2)).getD i .aU= .aU by
     simp only [winCs,aat,aaG]
     rw [aaz (by omega),aaz (by rw [hfm];omega),List.getElem?_replicate];split<;>rfl]
    exact .aU _
theorem exec_append {d:Option Tmp} {x z:Operand} {t ty:TypeId} {pos:String} {after:Array Edge} {gd:Option (Nat×Bool)} {a:Act} {cv:Value} {w':World} (h:(Builtin.append_ #[t,t] ty #[a.eval x,a.eval z]).run P w= .ok cv w'):
  (execOp a.eval ⟨d,.call ⟨.builtin .append,#[x,z],#[t,t]⟩,ty,pos,after,gd⟩).run P w= .ok (.value cv) w':=by
 have hexec:execOp a.eval ⟨d,.call ⟨.builtin .append,#[x,z],#[t,t]⟩,ty,pos,after,gd⟩=(do pure (.value (←Builtin.append_ #[t,t] ty #[a.eval x,a.eval z])):Sem Next):=by
  simp only [execOp,resolve,pure_bind,invoke]
  simp [builtin]
 rw [hexec]
 simp [h]
theorem frCut {c':Ctx} {N m:Nat} {a:Act} {l:List (Nat×V)} (hf:cC c a.tmps fr) (he:Ext (c.cut N m) c') (hl:∀ p∈l,p.2=fr p.1∧(fr p.1).within N m=true):cC c' a.tmps (jO l):=fun t=>
 frOf_all (p:=fun t v=>Rel c' (a.tmps.getD t undef) v) (fun _=> .aU _) (fun p hp=>by
  obtain ⟨h1,h2⟩:=hl p hp
  rw [h1]
  exact ((hf p.1).cut h2).mono he) t
theorem OPW.jt {d:Option Tmp} {x z:Operand} {t ty:TypeId} {pos:String} {after:Array Edge} {gd:Option (Nat×Bool)} {K':Fr→St→Prop} {e sz by_:Nat} {M:List aJ} {K:List (Nat×Nat×Nat)} {xs:List (List D)}
  (hg:goes all ⟨d,.call ⟨.builtin .append,#[x,z],#[t,t]⟩,ty,pos,after,gd⟩ fr=some true) (hd:fC n d=true) (hsl:mU P t=some (e,sz,by_)) (hz:dy P e=some sz) (hpos:0<sz)
  (hst:st=⟨aC.aj++M,K++[(e,sz,0)]⟩) (hk0:aC.toks.length≤K.length) (hw:M.all (fun X=>X.within (aC.aj.length+M.length) K.length)=true) (hx:ev fr x= .own K.length []) (hzx:(ev fr z).me=some (.sl xs))
  (hxs:dA sz xs=true) (hne:xs≠[]) (hb:xs.length*by_≤gP) (hm:xs.length≤maxLen)
  (l:List (Nat×V)) (hl:∀ p∈l,p.2=fr p.1∧(fr p.1).within (aC.aj.length+M.length) K.length=true)
  (h:∀ cap',xs.length≤cap'→cap'≤maxLen→K' (eC (jO l) d (.win (aC.aj.length+M.length) xs.length cap')) ⟨aC.aj++(M++[.tc e (winCs [] xs (cap'*sz))]),K⟩):
  OPW P G n aC all ⟨d,.call ⟨.builtin .append,#[x,z],#[t,t]⟩,ty,pos,after,gd⟩ K' fr st:=by
 subst hst
 refine OPW.of hg hd fun c0 c w a h0 he hc hf=>?_
 have hcut:rV aC ⟨aC.aj++M,K++[(e,sz,0)]⟩ (aC.aj.length+M.length) K.length:=by
  refine ⟨by omega,hk0,fun b B hb hB=>?_⟩
  by_cases h1:b<aC.aj.length
  ·exact .inl (by simpa [aaC h1] using hB)
  ·refine .inr (aaM.1 hw B ?_)
   simp only at hB
   rw [aaz (by omega)] at hB
   exact aaP hB
 have k12:=hcut.DS h0 he hc
 have e0:(⟨aC.aj++M,K++[(e,sz,0)]⟩:St).cut (aC.aj.length+M.length) K.length=⟨aC.aj++M,K⟩:=by
  simp only [St.cut];rw [abv (by simp)];simp
 rw [e0] at k12
 obtain ⟨k1,k2⟩:=k12
 have hx1:=bJ hf x
 rw [hx] at hx1
 generalize hxv:a.eval x=xv at hx1
 cases hx1 with|own _ _ _ tk r htk hszr hle heq=>?_
 have htoks:=hc.cu
 have htl:tk.e=e∧tk.sz=sz∧tk.len=0:=by
  have:=congrArg (fun l=>l[K.length]?) htoks
  simp only [aaT,htk,aaR] at this
  simpa using this
 obtain ⟨rfl,rfl,hl0⟩:=htl
 have hval:=heq hl0.symm
 obtain ⟨_,hdd|⟨old,hold,hgg⟩⟩:=hc.cz _ tk htk
 ·exfalso;have:=hdd.1;omega
 rw [hl0] at hold
 have hold0:old=[]:=by have:=hold.1;simpa using this
 subst hold0
 have H:=append_free (c:=c.cut (aC.aj.length+M.length) K.length) (ty:=ty) k1 hsl hz hpos (olds:=[]) (k:=0) hold (by simp) (fun i hi=>by simp at hi) (fun g hgb=>?_) (xv:=a.eval z) ((bJ hf z).me hzx) hxs hne (by simpa using hb) (by simpa using hm)
 ·obtain ⟨w',g,cap',hrun,hc1,hc2,hc3⟩:=H
  have e1:Ext (c.cut (aC.aj.length+M.length) K.length) ((c.cut (aC.aj.length+M.length) K.length).c7 g):=Ext.c7 _ _
  have hmu:(c.cut (aC.aj.length+M.length) K.length).mu.length=aC.aj.length+M.length:=by have:=k1.cN;simpa using this
  rw [aaJ] at hrun hc1
  refine ⟨_,w',_,jO l,_,_,exec_append (by rw [hxv,hval];exact hrun),k2.trans e1,?_,frCut hf e1 hl,.win _ g _ _ (by simp only [Ctx.c7];rw [aaz (by omega),hmu];simp) hc1,h cap' hc1 hc2⟩
  simpa using hc3
 ·obtain ⟨a1,a2,a3⟩:=hgg g hgb
  refine ⟨fun o=>a2 o (by rw [hl0];simp),fun hmem=>a3 (List.mem_of_mem_take hmem),fun id t ht e=>?_⟩
  obtain ⟨b1,b2⟩:=gC ht
  have:=hc.cK id K.length t tk g b2 htk e hgb
  omega
def Ctx.ga (c:Ctx) (k m:Nat) (arr:Array Value):Ctx:= { c with H:=fun b o=>if b=k∧o<m then arr[o]? else c.H b o }
theorem bf.ga {k m:Nat} {arr:Array Value} {e:TypeId} (h:bf c w st) (hH:∀ o,c.H k o=none) (hmu:k ∉ c.mu) (htk:∀ (id:Nat) (t:Tok),c.tok[id]?=some t→t.val.ownBlock≠some k) (hk:w.heap[k]?=some (.cells arr e (0,0))):
  bf (c.ga k m arr) w st∧Ext c (c.ga k m arr):=by
 have hext:Ext c (c.ga k m arr):=by
  refine ⟨fun b o v hv=>?_,fun _ _ h=>h,fun _ t h=>⟨t,h,rfl,aax _,fun _=>rfl⟩,rfl,rfl⟩
  have:b≠k:=by rintro rfl;rw [hH] at hv;cases hv
  simp [Ctx.ga,this,hv]
 refine ⟨⟨h.cN,h.dH,h.cI,?_,?_,h.cu,?_,h.cK,?_,h.below,h.cw⟩,hext⟩
 ·intro i b o hi
  have:b≠k:=fun e=>hmu (e▸aaP hi)
  simp only [Ctx.ga,this,false_and,if_false]
  exact h.mS i b o hi
 ·intro b k' B hk' hB
  obtain ⟨o,ho,hr⟩:=h.blk b k' B hk' hB
  exact ⟨o,ho,hr.mono hext⟩
 ·intro id t ht
  obtain ⟨h0,hd|⟨xs,ho,hg⟩⟩:=h.cz id t ht
  ·exact ⟨h0,.inl hd⟩
  refine ⟨h0,.inr ⟨xs,ho,fun g hgb=>?_⟩⟩
  obtain ⟨h1,h2,h3⟩:=hg g hgb
  have hne:g≠k:=fun e=>htk id t ht (by rw [hgb,e])
  exact ⟨fun o ho=>by simp only [Ctx.ga,hne,false_and,if_false];exact h1 o ho,fun o ho=>by simp only [Ctx.ga,hne,false_and,if_false];exact h2 o ho,h3⟩
 ·intro b o v hv
  by_cases hb:b=k∧o<m
  ·obtain ⟨rfl,hlt⟩:=hb
   simp only [Ctx.ga,hlt,and_self,if_true] at hv
   simp [World.cell?,hk,hv]
  ·simp only [Ctx.ga,hb,if_false] at hv
   exact h.cy b o v hv
end
section
variable {P:Program} {G:World→Nat→Prop} {n:iw} {aC:St} {all:Array Oper} {fr:Fr} {st:St} {c:Ctx} {w:World}
theorem below_conv (w:World) (e:TypeId) (s:ByteArray):Below w.heap.size w (Lib.bytesWorld w e s):=by
 refine ⟨rfl,rfl,rfl,?_,fun k hk=>?_⟩
 ·simp [Lib.bytesWorld,World.freeze]
 ·have:(w.drew.alloc (.cells (Lib.bytesCells w e s) e)).heap[k]?=w.heap[k]?:=Below.heap_alloc w.drew _ k hk
  rw [←this]
  show ((w.drew.alloc (.cells (Lib.bytesCells w e s) e)).heap.modify w.heap.size _)[k]?=_
  rw [abq,if_neg (by omega)]
theorem bf.sealAtM {k m:Nat} {arr:Array Value} {e:TypeId} {mk:Nat×Nat} (h:bf c w st) (hH:∀ o,c.H k o=none) (hmu:k ∉ c.mu) (htk:∀ (id:Nat) (t:Tok),c.tok[id]?=some t→t.val.ownBlock≠some k) (hk:w.heap[k]?=some (.cells arr e mk)):
  bf (c.ga k m arr) w st∧Ext c (c.ga k m arr):=by
 have hext:Ext c (c.ga k m arr):=by
  refine ⟨fun b o v hv=>?_,fun _ _ h=>h,fun _ t h=>⟨t,h,rfl,aax _,fun _=>rfl⟩,rfl,rfl⟩
  have:b≠k:=by rintro rfl;rw [hH] at hv;cases hv
  simp [Ctx.ga,this,hv]
 refine ⟨⟨h.cN,h.dH,h.cI,?_,?_,h.cu,?_,h.cK,?_,h.below,h.cw⟩,hext⟩
 ·intro i b o hi
  have:b≠k:=fun e=>hmu (e▸aaP hi)
  simp only [Ctx.ga,this,false_and,if_false]
  exact h.mS i b o hi
 ·intro b k' B hk' hB
  obtain ⟨o,ho,hr⟩:=h.blk b k' B hk' hB
  exact ⟨o,ho,hr.mono hext⟩
 ·intro id t ht
  obtain ⟨h0,hd|⟨xs,ho,hg⟩⟩:=h.cz id t ht
  ·exact ⟨h0,.inl hd⟩
  refine ⟨h0,.inr ⟨xs,ho,fun g hgb=>?_⟩⟩
  obtain ⟨h1,h2,h3⟩:=hg g hgb
  have hne:g≠k:=fun e=>htk id t ht (by rw [hgb,e])
  exact ⟨fun o ho=>by simp only [Ctx.ga,hne,false_and,if_false];exact h1 o ho,fun o ho=>by simp only [Ctx.ga,hne,false_and,if_false];exact h2 o ho,h3⟩
 ·intro b o v hv
  by_cases hb:b=k∧o<m
  ·obtain ⟨rfl,hlt⟩:=hb
   simp only [Ctx.ga,hlt,and_self,if_true] at hv
   simp [World.cell?,hk,hv]
  ·simp only [Ctx.ga,hb,if_false] at hv
   exact h.cy b o v hv
theorem OPW.bytes {d:Option Tmp} {t1 t2 ty e:TypeId} {x:Operand} {pos:String} {after:Array Edge} {gd:Option (Nat×Bool)} {K:Fr→St→Prop} {l:List UInt8}
  (hg:goes all ⟨d,.convert t1 t2 x,ty,pos,after,gd⟩ fr=some true) (hd:fC n d=true) (h1:P.underlying t1=some .string) (h2:P.underlying t2=some (.slice e)) (h3:P.underlying e=some (.int .u8)) (hx:ev fr x= .d (.str l))
  (h:K (eC fr d (.d (.sl (l.map fun b=>[D.int .u8 (b.toNat:Int)])))) st):OPW P G n aC all ⟨d,.convert t1 t2 x,ty,pos,after,gd⟩ K fr st:=by
 refine OPW.of hg hd fun c0 c w a h0 he hc hf=>?_
 have hr:=bJ hf x
 rw [hx] at hr
 obtain ⟨s,hs,hsl⟩:∃ s:ByteArray,a.eval x= .string s∧s.data.toList=l:=by
  generalize a.eval x=q at hr
  cases hr with
  |d _ _ hr=>cases hr with|str s _ hs=>exact ⟨s,rfl,hs⟩
 have hc1:bf c (Lib.bytesWorld w e s) st:=hc.later (below_conv w e s)
 obtain ⟨hc2,hx2⟩:=hc1.sealAtM (k:=w.heap.size) (m:=s.size) (arr:=Lib.bytesCells w e s) (hc.fresh (aax _)) (fun hm=>by
   obtain ⟨i,hi⟩:=List.getElem?_of_mem hm
   have:=hc.mult hi
   omega) (fun id t ht hgb=>by
   obtain ⟨_,hdd|⟨xs,ho,_⟩⟩:=hc.cz id t ht
   ·rw [hdd.2] at hgb;cases hgb
   ·have:=(ho.lt _ hgb).2
    omega) (Lib.bytesWorld_at_new w e s)
 refine ⟨.slice (some ⟨w.heap.size,0,none⟩) s.size (grownCap w s.size 0 e),_,_,fr,_,st,?_,he.trans hx2,hc2,hf.mono hx2,.d _ _ ?_,h⟩
 ·simp only [execOp,hs]
  simp [Lib.run_convert_string_bytes w t1 t2 e s h1 h2 h3]
 ·have hsz:s.size=l.length:=by rw [←hsl];simp
  refine .sl w.heap.size 0 s.size _ 1 (fun i _=> .int .u8 ((l.getD i 0).toNat:Int)) _ (by simp [hsz]) ?_ (by simp) (fun i j hi hj=>?_) (fun i j hi hj=>?_)
  ·exact grownCap_ge w s.size 0 e
  ·obtain rfl:j=0:=by omega
   have hil:i<l.length:=by omega
   simp only [Ctx.ga,Nat.mul_one,abk,aaJ,true_and,hi,if_true,Lib.bytesCells]
   have e1:(s.data.map fun b=>Value.int .u8 (b.toNat:Int))=(l.map fun b=>Value.int .u8 (b.toNat:Int)).toArray:=by rw [←hsl,←abr,Array.toArray_toList]
   rw [e1,Array.getElem?_append_left (by simpa using hil)]
   simp [hil,aat]
  ·obtain rfl:j=0:=by omega
   have hil:i<l.length:=by omega
   have e2:((l.map fun b=>[D.int .u8 (b.toNat:Int)]).getD i []).getD 0 .eX=D.int .u8 ((l.getD i 0).toNat:Int):=by
    simp [aat,hil]
   rw [e2]
   exact .int _ _
variable {Q:AX→Fr→St→Prop}
end
section
variable {P:Program} {G:World→Nat→Prop} {st:St} {g:FuncId} {xs:List V} {K Kp:V→St→Prop}
def AcE (P:Program) (G:World→Nat→Prop) (g:FuncId) (xs:List V) (st:St) {τ:Type} (f:τ→V):Prop:=aA P G g xs st fun o s=>(∃ x,o= .ret (f x))∧s=st
theorem CQ_x {τ:Type} {f:τ→V} (h:AcE P G g xs st f):dQ P G false g xs st K Kp=@cq (fB fun x=>K (f x) st) ⟨dQ P G false g xs st K Kp⟩:=cq.of fun k=>by
 unfold dQ
 exact ⟨_,h,(fun v s ⟨⟨x,e⟩,hs⟩=>by cases e;subst hs;exact k x),(fun v s ⟨⟨_,e⟩,_⟩=>by cases e)⟩
theorem SB.lp {n:iw} {aC:St} {Q:AX→Fr→St→Prop} {fr:Fr} {x:Code} (h:AW P G n aC (.loop x) Q fr st): @SB P G n aC ⟨.loop x⟩ Q fr st:=(Ml ..).mpr h
theorem retB {fn:Func} {R:Out→St→Prop} {fr:Fr} {st':St} {l:List V} {v:V} (B:List aJ) (U:List (Nat×Nat×Nat)) (h0:st'.aj.take (st.aj.length+B.length)=st.aj++B∧st'.toks.take (st.toks.length+U.length)=st.toks++U)
  (hB:B.all (fun X=>X.within (st.aj.length+B.length) (st.toks.length+U.length))=true) (h:eT P fr st' fn.results.toList=some l∧eD l=v∧v.within (st.aj.length+B.length) (st.toks.length+U.length)=true) (hR:R (.ret v) ⟨st.aj++B,st.toks++U⟩):Abs.bodyN P fn st R .ret fr st':=by
 obtain ⟨h1,rfl,h2⟩:=h
 unfold Abs.bodyN
 refine ⟨st.aj.length+B.length,st.toks.length+U.length,⟨by omega,by omega,fun b X hb hX=>?_⟩,l,h1,h2,?_⟩
 ·have hX:(st.aj++B)[b]?=some X:=by rw [←h0.1,aa3 hb];exact hX
  by_cases h3:b<st.aj.length
  ·exact .inl (by rwa [aaC h3] at hX)
  ·rw [aaz (by omega)] at hX
   exact .inr (aaM.1 hB X (aaP hX))
 ·simp only [St.cut,h0.1,h0.2];exact hR
section
variable {n:iw} {aC gD:St} {Q:AX→Fr→St→Prop} {fr:Fr} {x y z:Code}
end
end
end Go.Abs
end
section
namespace Go.Proofs.YtgclflkhpkdecaaGreatDoor
open Tryz
open Go.Abs
attribute [local irreducible] AW OX GQ bK bO bz aY aA
def kV (a:az×Ex):List D:= .str a.1::a.2.enc
def Bk.enc:Bk→List D
 | .mk k n a l=>[.str k,.str n,.sl (a.map kV),.sl (oM l)]
where oM:List Bk→List (List D)
 |[]=>[]
 |b::r=>b.enc::oM r
theorem Bk.mh (l:List Bk):Bk.enc.oM l=l.map Bk.enc:=by induction l<;>simp_all [Bk.enc.oM]
theorem Bk.aP (b:Bk):b.enc=[.str b.kind,.str b.name,.sl (b.attrs.map kV),.sl (b.blocks.map Bk.enc)]:=by
 cases b;simp [Bk.enc,Bk.mh,Bk.kind,Bk.name,Bk.attrs,Bk.blocks]
theorem Bk.dN (b:Bk):b.enc.length=4:=by rw [Bk.aP];rfl
attribute [go_sem] Bk.dN
end Go.Proofs.YtgclflkhpkdecaaGreatDoor
end
section
set_option maxHeartbeats 8000000
set_option maxRecDepth 20000
namespace Go.Proofs.YtgclflkhpkdecaaGreatDoor
open Tryz
open Go.Abs
attribute [local irreducible] AW OX GQ bK bO bz aY aA
variable {G:World→Nat→Prop}
end Go.Proofs.YtgclflkhpkdecaaGreatDoor
end
section
set_option maxHeartbeats 8000000
set_option maxRecDepth 20000
namespace Go.Proofs.YtgclflkhpkdecaaGreatDoor
open Tryz
open Go.Abs Go.RowKit
variable {G:World→Nat→Prop}
theorem xC (a b:az):b8 G 35 [vs a,vs b] (vb (decide (b<+:a))):=by
 intro st
 refine aA.start func35 rfl ntmps35 (by simp) fun _ ag=>?_
 simp -implicitDefEqProofs (disch:=first|exact ⟨by kernel_rfl⟩|omega) only [go_sem,seval,wk,↓bu,↓bw,bx,↓aq,cX ag,wd];(repeat' first|apply cq.l|apply bg.i|refine cE.i fun hc=>?_|refine aQ.i ⟨?_,rfl⟩)<;>try subst ag
 ·refine aO ?_;rw [aaH,aaH,List.prefix_iff_eq_take];exact eq_comm
 ·refine aO ?_;simp only [aaS,false_iff,aaH];exact fun h=>hc h.length_le
theorem Ad (a b:az):b8 G 17 [vs a,vs b] (vb (decide (b<+:a))):=by
 intro st
 refine aA.start func17 rfl ntmps17 (by simp) fun _ ag=>?_
 simp -implicitDefEqProofs (disch:=first|exact ⟨by kernel_rfl⟩|omega) only [go_sem,seval,wk,↓bu,↓bw,bx,↓aq,cX ag,wd,bC (xC a b _)];(repeat' first|apply cq.l|refine aQ.i ⟨?_,rfl⟩)<;>try subst ag
 rfl
end Go.Proofs.YtgclflkhpkdecaaGreatDoor
end
section
set_option maxHeartbeats 8000000
set_option maxRecDepth 20000
namespace Go.Proofs.YtgclflkhpkdecaaGreatDoor
open Tryz
open Go.Abs
attribute [local irreducible] AW OX GQ bK bO bz aY aA
variable {G:World→Nat→Prop}
def pT (s:az) (b:UInt8):Nat→Int
 |0=> -1
 |n+1=>if s.getD n 0=b then n else pT s b n
theorem lastF_lt (s:az) (b:UInt8):∀ n,pT s b n<n
 |0=>by rw [pT];omega
 |n+1=>by
  rw [pT]
  split
  ·omega
  ·have:=lastF_lt s b n;omega
theorem st_Last (s:az) (hl:s.length≤1099511627776):b8 G 15 [vs s,.d (.int .u8 47)] (ai (pT s 47 s.length)):=by
 intro st
 have hx:b8 G 31 [vs s,.d (.int .u8 47)] (ai (pT s 47 s.length)):=by
  intro st
  refine aA.start func31 rfl ntmps31 (by simp) fun _ ag=>?_
  simp -implicitDefEqProofs (disch:=omega) only [go_sem,seval,wk,↓bu,↓bw,bx,↓aq,cX ag];(repeat' first|refine cq.l ?_|refine bg.i ?_ ?_|refine cE.i fun hc=>?_|refine aQ.i ⟨?_,rfl⟩|refine aZ.i ?_ ?_|refine cB.o ?_);all_goals (try subst ag)
  refine AW.zU (fun i:Nat=>[(0,vs s),(1,.d (.int .u8 47)),(5,ai (↑i - 1))]) (fun _=>[]) (fun _=>[]) (fun i=>i≤s.length∧pT s 47 i=pT s 47 s.length) (fun i=>i) s.length ⟨by simp,by simp -implicitDefEqProofs (disch:=first|omega|(simp only [go_sem,aaN,aa0];try omega)) only [go_sem,seval]⟩ (by simp) ?_
  intro i ⟨hi,g1⟩
  cases i with
  |zero=>
   refine Wk.go fun _ ag=>?_;simp -implicitDefEqProofs (disch:=omega) only [go_sem,seval,wk,↓bu,↓bw,bx,↓aq,cX ag];(repeat' first|refine cq.l ?_|refine bg.i ?_ ?_|refine cE.i fun hc=>?_|refine aQ.i ⟨?_,rfl⟩|refine aZ.i ?_ ?_|refine cB.o ?_);all_goals (try subst ag)
   refine bA ?_;rw [pT] at g1;exact g1
  |succ i=>
   rw [pT] at g1
   have e:(((i+1:Nat):Int) - 1)=(i:Int):=by omega
   simp only [e]
   refine Wk.go fun _ ag=>?_;simp -implicitDefEqProofs (disch:=omega) only [go_sem,seval,wk,↓bu,↓bw,bx,↓aq,cX ag];(repeat' first|refine cq.l ?_|refine bg.i ?_ ?_|refine cE.i fun hc=>?_|refine aQ.i ⟨?_,rfl⟩|refine aZ.i ?_ ?_|refine cB.o ?_);all_goals (try subst ag)
   ·rw [if_pos (UInt8.toNat_inj.1 (show (s.getD i 0).toNat=47 by omega))] at g1
    refine bA ?_;exact g1
   ·rw [if_neg (fun h=>hc (by rw [h];rfl))] at g1
    refine cB.i ⟨i,⟨by simp -implicitDefEqProofs (disch:=omega) only [go_sem,seval]<;>omega,?_,?_⟩⟩
    ·exact ⟨by omega,g1⟩
    ·omega
 refine aA.start func15 rfl ntmps15 (by simp) fun _ ag=>?_
 simp -implicitDefEqProofs (disch:=omega) only [go_sem,seval,wk,↓bu,↓bw,bx,↓aq,cX ag,bC (hx _)];(repeat' first|refine cq.l ?_|refine bg.i ?_ ?_|refine cE.i fun hc=>?_|refine aQ.i ⟨?_,rfl⟩|refine aZ.i ?_ ?_|refine cB.o ?_);all_goals (try subst ag)
 rfl
theorem l_Great19 (p:Pln) (g:gPln p) (st:St):AcE prog G 4 [vPln p] st vb:=by
 have h1:=g.jobs.1
 unfold AcE
 refine aA.start func4 rfl ntmps4 (by simp) fun _ ag=>?_
 simp -implicitDefEqProofs (disch:=omega) only [go_sem,seval,wk,↓bu,↓bw,bx,↓aq,cX ag];(repeat' first|refine cq.l ?_|refine bg.i ?_ ?_|refine cE.i fun hc=>?_|refine aQ.i ⟨?_,rfl⟩|refine aZ.i ?_ ?_|refine cB.o ?_);all_goals (try subst ag)
 all_goals first|exact ⟨_,rfl⟩|skip
 refine AW.zU (fun i:Nat=>[(1,.ptr st.aj.length 0),(3,ai ↑i)]) (fun _=>[.cells (p.enc.map .d)]) (fun _=>[]) (fun i=>i≤p.jobs.length) (fun i=>p.jobs.length - i) 0 ⟨by simp,by simp -implicitDefEqProofs (disch:=first|omega|(simp only [go_sem,aaN,aa0];try omega)) only [go_sem,seval]⟩ (by simp) ?_
 intro i hi
 by_cases hil:i<p.jobs.length
 ·have hj:=g.jobs.2 _ (aB hil)
  generalize p.jobs.getD i default=j at hj
  have j1:=hj.id;have j2:=hj.Ta.1;have j3:=hj.vars.1;have j4:=hj.steps.1;have j5:=hj.labels.1;have j6:=hj.group;have j7:=hj.retry.classes.1;have j8:=hj.oA.1
  have j9:=hj.uses.1;have j10:=hj.k5.1;have j11:=hj.caches.1;have j12:=hj.aah.1;have j13:=hj.k6;have j14:=hj.gate.ia.1;have j15:=hj.tests.1
  refine Wk.go fun _ ag=>?_;simp -implicitDefEqProofs (disch:=omega) only [go_sem,seval,wk,↓bu,↓bw,bx,↓aq,cX ag];(repeat' first|refine cq.l ?_|refine bg.i ?_ ?_|refine cE.i fun hc=>?_|refine aQ.i ⟨?_,rfl⟩|refine aZ.i ?_ ?_|refine cB.o ?_);all_goals (try subst ag)
  ·exact ⟨_,rfl⟩
  ·refine cB.i ⟨i+1,⟨by simp -implicitDefEqProofs (disch:=omega) only [go_sem,seval]<;>omega,?_,?_⟩⟩
   all_goals omega
 ·refine Wk.go fun _ ag=>?_;simp -implicitDefEqProofs (disch:=omega) only [go_sem,seval,wk,↓bu,↓bw,bx,↓aq,cX ag];(repeat' first|refine cq.l ?_|refine bg.i ?_ ?_|refine cE.i fun hc=>?_|refine aQ.i ⟨?_,rfl⟩|refine aZ.i ?_ ?_|refine cB.o ?_);all_goals (try subst ag)
  all_goals exact ⟨_,rfl⟩
theorem Cp (l:List az):dA 1 (bt l)=true:=by simp [dA,bt,D.one]
end Go.Proofs.YtgclflkhpkdecaaGreatDoor
end
section
namespace Go.Proofs
open Go.Shelf
def Tryz.lays146_ren:Go.Shelf.Ren:=⟨fun|146=>283|221=>345|268=>408|138=>16|143=>34|195=>32|197=>281|218=>33|219=>55|260=>343|217=>93|225=>94|224=>95|267=>96|266=>162|314=>163|n=>n,fun|9=>9|31=>31|3=>3|4=>4|0=>0|105=>358|21=>21|5=>5|46=>138|119=>464|139=>467|138=>466|146=>230|51=>212|n=>n,fun|1=>0|3=>3|4=>4|n=>n⟩
theorem Tryz.lays146:Go.Proofs.Lays.n146 prog Tryz.lays146_ren:= {
 mixed:=by kernel_rfl
 f138:=Tryz.func16.trans (congrArg some (by kernel_rfl))
 f143:=Tryz.func34.trans (congrArg some (by kernel_rfl))
 f146:=Tryz.func283.trans (congrArg some (by kernel_rfl))
 f195:=Tryz.func32.trans (congrArg some (by kernel_rfl))
 f197:=Tryz.func281.trans (congrArg some (by kernel_rfl))
 f217:=Tryz.func93.trans (congrArg some (by kernel_rfl))
 f218:=Tryz.func33.trans (congrArg some (by kernel_rfl))
 f219:=Tryz.func55.trans (congrArg some (by kernel_rfl))
 f221:=Tryz.func345.trans (congrArg some (by kernel_rfl))
 f224:=Tryz.func95.trans (congrArg some (by kernel_rfl))
 f225:=Tryz.func94.trans (congrArg some (by kernel_rfl))
 f260:=Tryz.func343.trans (congrArg some (by kernel_rfl))
 f266:=Tryz.func162.trans (congrArg some (by kernel_rfl))
 f267:=Tryz.func96.trans (congrArg some (by kernel_rfl))
 f268:=Tryz.func408.trans (congrArg some (by kernel_rfl))
 f314:=Tryz.func163.trans (congrArg some (by kernel_rfl))
 t0:=underlying0
 a0:=isAgg0
 z0:=sizeOf0
 v0:=zeroValue0
 t3:=underlying3
 a3:=isAgg3
 z3:=sizeOf3
 v3:=zeroValue3
 t4:=underlying4
 a4:=isAgg4
 z4:=sizeOf4
 v4:=zeroValue4
 t5:=underlying5
 a5:=isAgg5
 z5:=sizeOf5
 v5:=zeroValue5
 t9:=underlying9
 a9:=isAgg9
 z9:=sizeOf9
 v9:=zeroValue9
 t21:=underlying21
 a21:=isAgg21
 z21:=sizeOf21
 v21:=zeroValue21
 t31:=underlying31
 a31:=isAgg31
 z31:=sizeOf31
 v31:=zeroValue31
 t46:=underlying138
 a46:=isAgg138
 z46:=sizeOf138
 v46:=zeroValue138
 t51:=underlying212
 a51:=isAgg212
 z51:=sizeOf212
 v51:=zeroValue212
 t105:=underlying358
 a105:=isAgg358
 z105:=sizeOf358
 v105:=zeroValue358
 t119:=underlying464
 a119:=isAgg464
 z119:=sizeOf464
 t138:=underlying466
 a138:=isAgg466
 z138:=sizeOf466
 v138:=zeroValue466
 t139:=underlying467
 a139:=isAgg467
 z139:=sizeOf467
 v139:=zeroValue467
 t146:=underlying230
 a146:=isAgg230
 z146:=sizeOf230
 v146:=zeroValue230
 g1:=by kernel_rfl
 g3:=by kernel_rfl
 g4:=by kernel_rfl }
end Go.Proofs
end
section
set_option maxHeartbeats 8000000
set_option maxRecDepth 20000
namespace Go.Proofs.YtgclflkhpkdecaaGreatDoor
open Tryz
open Go.Abs Go.RowKit
variable {G:World→Nat→Prop}
def ownF (s:az):V:=if pT s 47 s.length<0 then .cF [vs [],vb false] else .cF [vs (s.take (pT s 47 s.length).toNat),vb true]
theorem d_Owner (s:az) (hl:s.length≤1048576):b8 G 6 [vs s] (ownF s):=by
 intro st
 have h1:=st_Last (G:=G) s (by omega)
 have h2:=lastF_lt s 47 s.length
 unfold ownF
 generalize pT s 47 s.length=k at h1 h2
 refine aA.start func6 rfl ntmps6 (by simp) fun _ ag=>?_
 simp -implicitDefEqProofs (disch:=omega) only [go_sem,seval,wk,↓bu,↓bw,bx,↓aq,cX ag,bC (h1 _)];(repeat' first|refine cq.l ?_|refine bg.i ?_ ?_|refine cE.i fun hc=>?_|refine aQ.i ⟨?_,rfl⟩|refine aZ.i ?_ ?_|refine cB.o ?_);all_goals (try subst ag)
 ·rw [if_pos (by assumption)]
 ·rw [if_neg (by assumption)]
theorem o_Owner (s:az) (hl:s.length≤1048576):b8 G 7 [vs s] (ownF s):=by
 intro st
 unfold ownF
 generalize hk:pT s 47 s.length=k
 refine aA.start func7 rfl ntmps7 (by simp) fun _ ag=>?_
 simp -implicitDefEqProofs (disch:=omega) only [go_sem,seval,wk,↓bu,↓bw,bx,↓aq,cX ag];(repeat' first|refine cq.l ?_|refine bg.i ?_ ?_|refine cE.i fun hc=>?_|refine aQ.i ⟨?_,rfl⟩|refine aZ.i ?_ ?_|refine cB.o ?_);all_goals (try subst ag)
 refine AW.zU (fun i:Nat=>[(0,vs s),(4,ai (↑i - 1))]) (fun _=>[]) (fun _=>[]) (fun i=>i≤s.length∧pT s 47 i=k) (fun i=>i) s.length ⟨by simp,by simp -implicitDefEqProofs (disch:=first|omega|(simp only [go_sem,aaN,aa0];try omega)) only [go_sem,seval]⟩ ⟨by simp,hk⟩ ?_
 intro i ⟨hi,g1⟩
 cases i with
 |zero=>
  rw [pT] at g1
  subst g1
  refine Wk.go fun _ ag=>?_;simp -implicitDefEqProofs (disch:=omega) only [go_sem,seval,wk,↓bu,↓bw,bx,↓aq,cX ag];(repeat' first|refine cq.l ?_|refine bg.i ?_ ?_|refine cE.i fun hc=>?_|refine aQ.i ⟨?_,rfl⟩|refine aZ.i ?_ ?_|refine cB.o ?_);all_goals (try subst ag)
  rfl
 |succ i=>
  rw [pT] at g1
  have e:(((i+1:Nat):Int) - 1)=(i:Int):=by omega
  simp only [e]
  refine Wk.go fun _ ag=>?_;simp -implicitDefEqProofs (disch:=omega) only [go_sem,seval,wk,↓bu,↓bw,bx,↓aq,cX ag];(repeat' first|refine cq.l ?_|refine bg.i ?_ ?_|refine cE.i fun hc=>?_|refine aQ.i ⟨?_,rfl⟩|refine aZ.i ?_ ?_|refine cB.o ?_);all_goals (try subst ag)
  ·rw [if_pos (UInt8.toNat_inj.1 (show (s.getD i 0).toNat=47 by omega))] at g1
   subst g1
   rw [if_neg (by omega)]
   rfl
  ·rw [if_neg (fun h=>hc (by rw [h];rfl))] at g1
   refine cB.i ⟨i,⟨by simp -implicitDefEqProofs (disch:=omega) only [go_sem,seval]<;>omega,?_,?_⟩⟩
   ·exact ⟨by omega,g1⟩
   ·omega
theorem two_str {c:Ctx} {cargs:Array Value} {a b:az} (hsz:cargs.size=2) (hr:∀ i,i< [vs a,vs b].length→Rel c (cargs.getD i undef) ([vs a,vs b].getD i .aU)):cargs= #[.string ⟨a.toArray⟩,.string ⟨b.toArray⟩]:=by
 have h0:=hr 0 (by simp)
 have h1:=hr 1 (by simp)
 simp only [abp,List.getD_cons_succ] at h0 h1
 generalize hq:cargs.getD 0 undef=q at h0
 generalize hp:cargs.getD 1 undef=p at h1
 cases h0 with|d _ _ h0=>?_
 cases h1 with|d _ _ h1=>?_
 have:=Pe h0
 subst this
 have:=Pe h1
 subst this
 apply Array.ext
 ·simpa using hsz
 ·intro i hi hi2
  have:i=0∨i=1:=by simp at hi2;omega
  rcases this with rfl|rfl
  ·simpa [aav,hi] using hq
  ·simpa [aav,hi] using hp
def cntF (s:az):Nat:=s.count 47
theorem c_Count (s:az):b8 G 16 [vs s,vs [47]] (ai (cntF s)):=by
 intro st c w cargs hc hG hsz hr
 have ha:=two_str hsz hr
 subst ha
 refine (Any.strings_Count_one { Tryz.lays146 with } ⟨s.toArray⟩ 47 w).mono ?_
 rintro e w' ⟨rfl,rfl⟩
 exact ⟨.ret _,st,c,⟨rfl,rfl⟩,Ext.refl c,hc,.d _ _ (.int _ _)⟩
theorem d_Depth (s:az):b8 G 8 [vs s] (ai (cntF s)):=by
 intro st
 have h:=c_Count (G:=G) s
 refine aA.start func8 rfl ntmps8 (by simp) fun _ ag=>?_
 simp -implicitDefEqProofs (disch:=omega) only [go_sem,seval,wk,↓bu,↓bw,bx,↓aq,cX ag,bC (h _)];(repeat' first|refine cq.l ?_|refine bg.i ?_ ?_|refine cE.i fun hc=>?_|refine aQ.i ⟨?_,rfl⟩|refine aZ.i ?_ ?_|refine cB.o ?_);all_goals (try subst ag)
 rfl
theorem cnt_snoc (s:az) {i:Nat} (h:i<s.length):cntF (s.take (i+1))=cntF (s.take i)+if s.getD i 0=47 then 1 else 0:=by
 unfold cntF
 rw [List.take_add_one,List.count_append,aay h]
 simp [aat,h,List.count_cons]
theorem o_Depth (s:az) (hl:s.length≤1048576):b8 G 9 [vs s] (ai (cntF s)):=by
 intro st
 refine aA.start func9 rfl ntmps9 (by simp) fun _ ag=>?_
 simp -implicitDefEqProofs (disch:=omega) only [go_sem,seval,wk,↓bu,↓bw,bx,↓aq,cX ag];(repeat' first|refine cq.l ?_|refine bg.i ?_ ?_|refine cE.i fun hc=>?_|refine aQ.i ⟨?_,rfl⟩|refine aZ.i ?_ ?_|refine cB.o ?_);all_goals (try subst ag)
 refine AW.zU (fun i:Nat=>[(0,vs s),(3,ai ↑(cntF (s.take i))),(4,ai ↑i)]) (fun _=>[]) (fun _=>[]) (fun i=>i≤s.length) (fun i=>s.length - i) 0 ⟨by simp [cntF],by rw [show cntF (List.take 0 s)=0 from rfl];simp -implicitDefEqProofs (disch:=first|omega|(simp only [go_sem,aaN,aa0];try omega)) only [go_sem,seval]⟩ (by simp) ?_
 intro i hi
 have hb:cntF (s.take i)≤i:=abc (List.count_le_length) (by rw [aaN];omega)
 by_cases hil:i<s.length
 ·have hs:=cnt_snoc s hil
  generalize cntF (s.take i)=n at hs hb
  refine Wk.go fun _ ag=>?_;simp -implicitDefEqProofs (disch:=omega) only [go_sem,seval,wk,↓bu,↓bw,bx,↓aq,cX ag];(repeat' first|refine cq.l ?_|refine bg.i ?_ ?_|refine cE.i fun hc=>?_|refine aQ.i ⟨?_,rfl⟩|refine aZ.i ?_ ?_|refine cB.o ?_);all_goals (try subst ag)
  ·rw [if_pos (UInt8.toNat_inj.1 (show (s.getD i 0).toNat=47 by omega))] at hs
   refine cB.i ⟨i+1,⟨by simp -implicitDefEqProofs (disch:=omega) only [go_sem,seval,hs]<;>omega,?_,?_⟩⟩
   ·omega
   ·omega
  ·rw [if_neg (fun h=>hc (by rw [h];rfl)),abk] at hs
   refine cB.i ⟨i+1,⟨by simp -implicitDefEqProofs (disch:=omega) only [go_sem,seval,hs]<;>omega,?_,?_⟩⟩
   ·omega
   ·omega
 ·have he:s.take i=s:=abv (by omega)
  rw [he]
  refine Wk.go fun _ ag=>?_;simp -implicitDefEqProofs (disch:=omega) only [go_sem,seval,wk,↓bu,↓bw,bx,↓aq,cX ag];(repeat' first|refine cq.l ?_|refine bg.i ?_ ?_|refine cE.i fun hc=>?_|refine aQ.i ⟨?_,rfl⟩|refine aZ.i ?_ ?_|refine cB.o ?_);all_goals (try subst ag)
  rfl
theorem retB {a b:Bool} (h:a=b):Out.ret (V.d (D.bool a))=Out.ret (V.d (D.bool b)):=by rw [h]
def belF (s t:az):Bool:=decide (t++[47]<+:s)
theorem belF_iff (s t:az):belF s t=(decide (t.length<s.length)&& (decide (s.take t.length=t)&&decide (s.getD t.length 0=47))):=by
 unfold belF
 rw [Bool.eq_iff_iff]
 simp only [aaA,aaH]
 constructor
 ·rintro ⟨u,rfl⟩
  refine ⟨by simp,by simp [aaG],?_⟩
  simp [aat]
 ·rintro ⟨h1,h2,h3⟩
  refine ⟨s.drop (t.length+1),?_⟩
  have h4:s.drop t.length=47::s.drop (t.length+1):=by
   rw [List.drop_eq_getElem_cons h1]
   rw [aat,aay h1,aaI] at h3
   rw [h3]
  rw [aaG,List.singleton_append,←h4]
  conv=>lhs;rw [←h2,aaN,Nat.min_eq_left (Nat.le_of_lt h1)]
  exact List.take_append_drop _ _
theorem o_below (s t:az) (hs:s.length≤1048576) (ht:t.length≤1048576):b8 G 18 [vs s,vs t] (vb (belF s t)):=by
 intro st
 rw [belF_iff]
 refine aA.start func18 rfl ntmps18 (by simp) fun _ ag=>?_
 simp -implicitDefEqProofs (disch:=omega) only [go_sem,seval,wk,↓bu,↓bw,bx,↓aq,cX ag];(repeat' first|refine cq.l ?_|refine bg.i ?_ ?_|refine cE.i fun hc=>?_|refine aQ.i ⟨?_,rfl⟩|refine aZ.i ?_ ?_|refine cB.o ?_);all_goals (try subst ag)
 all_goals refine retB ?_
 all_goals rw [Bool.eq_iff_iff]
 all_goals simp only [aaA,aaH,aaS,false_iff,←UInt8.toNat_inj,show (47:UInt8).toNat=47 from rfl]
 all_goals grind
abbrev kids (l:List Jb) (t:az):List az:=(l.filter fun j=>belF j.id t).map (·.id)
theorem kids_snoc (t:az) {l:List Jb} {i:Nat} (h:i<l.length):kids (l.take (i+1)) t=if belF (l.getD i default).id t=true then kids (l.take i) t++[(l.getD i default).id] else kids (l.take i) t:=by
 unfold kids
 rw [take_snoc h,List.filter_append,List.filter_cons,List.filter_nil]
 by_cases h2:belF (l.getD i default).id t=true
 ·rw [if_pos h2,if_pos h2,List.map_append];rfl
 ·rw [if_neg h2,if_neg h2,aa2]
theorem kids_len (t:az) (l:List Jb) (i:Nat):(kids (l.take i) t).length≤i:=by
 rw [kids,aaO]
 exact abc (List.length_filter_le _ _) (by rw [aaN];omega)
theorem appB_kid (x:az) (l:List az) (B:List aJ) (K:List (Nat×Nat×Nat)) (h:l.length≤1048576):
  jt (some 1) true true 9 1 16 [[D.str x]] (lz K.length (bt l)) ⟨B,K++k9 9 1 (bt l)⟩=some (lz K.length (bt (l++[x])),⟨B,K++k9 9 1 (bt (l++[x]))⟩):=by
 rw [CZ _ _ _ _ _ _ _ (by omega) (by simp) (by rw [iP];simp;omega) (by rw [iP];simp;omega),Fq];rfl
theorem o_Children (p:Pln) (g:gPln p) (t:az) (ht:t.length≤1048576):b8 G 12 [vPln p,vs t] (.d (.sl (bt (kids p.jobs t)))):=by
 intro st
 have h1:=g.jobs.1
 have hnl:bt []=[]:=rfl
 refine aA.start func12 rfl ntmps12 (by simp) fun _ ag=>?_
 simp -implicitDefEqProofs (disch:=omega) only [go_sem,seval,wk,↓bu,↓bw,bx,↓aq,cX ag];(repeat' first|refine cq.l ?_|refine bg.i ?_ ?_|refine cE.i fun hc=>?_|refine aQ.i ⟨?_,rfl⟩|refine aZ.i ?_ ?_|refine cB.o ?_);all_goals (try subst ag)
 refine AW.zU (fun i:Nat=>[(1,vs t),(2,.ptr st.aj.length 0),(5,lz st.toks.length (bt (kids (p.jobs.take i) t))),(6,ai ↑i)]) (fun _=>[.cells (p.enc.map .d)]) (fun i=>k9 9 1 (bt (kids (p.jobs.take i) t)))
  (fun i=>i≤p.jobs.length) (fun i=>p.jobs.length - i) 0 (by simp -implicitDefEqProofs (disch:=omega) only [go_sem,seval,kids,List.filter_nil,abf,hnl]<;>omega) (by simp) ?_
 intro i hi
 have hl:=kids_len t p.jobs i
 have hel:(bt (kids (p.jobs.take i) t)).length≤i:=by rw [iP];exact hl
 by_cases hil:i<p.jobs.length
 ·have hj:=(g.jobs.2 _ (aB hil)).id
  have hb:=o_below (G:=G) (p.jobs.getD i default).id t hj ht
  have hs:=kids_snoc t hil
  refine Wk.go fun _ ag=>?_;simp -implicitDefEqProofs (disch:=first|omega|exact ⟨by kernel_rfl⟩|(simp only [go_sem,aaN];try omega)) only [go_sem,seval,wk,↓bu,↓bw,bx,↓aq,cX ag,wd,Cp,appB_kid,bC (hb _)];(repeat' first|refine cq.l ?_|refine bg.i ?_ ?_|refine cE.i fun hc=>?_|refine aQ.i ⟨?_,rfl⟩|refine aZ.i ?_ ?_|refine cB.o ?_);all_goals (try subst ag)
  ·rw [if_pos hc] at hs
   refine cB.i ⟨i+1,⟨by simp -implicitDefEqProofs (disch:=omega) only [go_sem,seval,hs]<;>omega,?_,?_⟩⟩
   ·omega
   ·omega
  ·rw [if_neg (by rw [hc];simp)] at hs
   refine cB.i ⟨i+1,⟨by simp -implicitDefEqProofs (disch:=omega) only [go_sem,seval,hs]<;>omega,?_,?_⟩⟩
   ·omega
   ·omega
 ·have he:kids (p.jobs.take i) t=kids p.jobs t:=by rw [abv (by omega)]
  rw [he]
  refine Wk.go fun _ ag=>?_;simp -implicitDefEqProofs (disch:=omega) only [go_sem,seval,wk,↓bu,↓bw,bx,↓aq,cX ag];(repeat' first|refine cq.l ?_|refine bg.i ?_ ?_|refine cE.i fun hc=>?_|refine aQ.i ⟨?_,rfl⟩|refine aZ.i ?_ ?_|refine cB.o ?_);all_goals (try subst ag)
  rfl
theorem d_Children (p:Pln) (g:gPln p) (t:az) (ht:t.length≤1048576):b8 G 11 [vPln p,vs t] (.d (.sl (bt (kids p.jobs t)))):=by
 intro st
 have h1:=g.jobs.1
 have hnl:bt []=[]:=rfl
 refine aA.start func11 rfl ntmps11 (by simp) fun _ ag=>?_
 simp -implicitDefEqProofs (disch:=omega) only [go_sem,seval,wk,↓bu,↓bw,bx,↓aq,cX ag];(repeat' first|refine cq.l ?_|refine bg.i ?_ ?_|refine cE.i fun hc=>?_|refine aQ.i ⟨?_,rfl⟩|refine aZ.i ?_ ?_|refine cB.o ?_);all_goals (try subst ag)
 refine AW.zU (fun i:Nat=>[(1,vs t),(5,lz st.toks.length (bt (kids (p.jobs.take i) t))),(9,.d (.sl (p.jobs.map Jb.enc))),(10,ai ↑p.jobs.length),(11,ai ↑i)]) (fun _=>[.cells (p.enc.map .d)]) (fun i=>k9 9 1 (bt (kids (p.jobs.take i) t)))
  (fun i=>i≤p.jobs.length) (fun i=>p.jobs.length - i) 0 (by simp -implicitDefEqProofs (disch:=omega) only [go_sem,seval,kids,List.filter_nil,abf,hnl]<;>omega) (by simp) ?_
 intro i hi
 have hl:=kids_len t p.jobs i
 by_cases hil:i<p.jobs.length
 ·have hj:=(g.jobs.2 _ (aB hil)).id
  have hb:=Ad (G:=G) (p.jobs.getD i default).id (t++[47])
  have hs:=kids_snoc t hil
  rw [show decide (t++[47]<+:(p.jobs.getD i default).id)=belF (p.jobs.getD i default).id t from rfl] at hb
  refine Wk.go fun _ ag=>?_;simp -implicitDefEqProofs (disch:=first|omega|exact ⟨by kernel_rfl⟩|(simp only [go_sem,aaN];try omega)) only [go_sem,seval,wk,↓bu,↓bw,bx,↓aq,cX ag,wd,Cp,appB_kid,bC (hb _)];(repeat' first|refine cq.l ?_|refine bg.i ?_ ?_|refine cE.i fun hc=>?_|refine aQ.i ⟨?_,rfl⟩|refine aZ.i ?_ ?_|refine cB.o ?_);all_goals (try subst ag)
  ·rw [if_pos hc] at hs
   refine cB.i ⟨i+1,⟨by simp -implicitDefEqProofs (disch:=omega) only [go_sem,seval,hs]<;>omega,?_,?_⟩⟩
   ·omega
   ·omega
  ·rw [if_neg (by rw [hc];simp)] at hs
   refine cB.i ⟨i+1,⟨by simp -implicitDefEqProofs (disch:=omega) only [go_sem,seval,hs]<;>omega,?_,?_⟩⟩
   ·omega
   ·omega
 ·have he:kids (p.jobs.take i) t=kids p.jobs t:=by rw [abv (by omega)]
  rw [he]
  refine Wk.go fun _ ag=>?_;simp -implicitDefEqProofs (disch:=omega) only [go_sem,seval,wk,↓bu,↓bw,bx,↓aq,cX ag];(repeat' first|refine cq.l ?_|refine bg.i ?_ ?_|refine cE.i fun hc=>?_|refine aQ.i ⟨?_,rfl⟩|refine aZ.i ?_ ?_|refine cB.o ?_);all_goals (try subst ag)
  rfl
theorem l_same (l:List az) (hl:l.length≤1048576):b8 G 10 [qC l,qC l] (vb true):=by
 intro st
 refine aA.start func10 rfl ntmps10 (by simp) fun _ ag=>?_
 simp -implicitDefEqProofs (disch:=omega) only [go_sem,seval,wk,↓bu,↓bw,bx,↓aq,cX ag];(repeat' first|refine cq.l ?_|refine bg.i ?_ ?_|refine cE.i fun hc=>?_|refine aQ.i ⟨?_,rfl⟩|refine aZ.i ?_ ?_|refine cB.o ?_);all_goals (try subst ag)
 refine AW.zU (fun i:Nat=>[(0,qC l),(1,qC l),(5,ai ↑i)]) (fun _=>[]) (fun _=>[]) (fun i=>i≤l.length) (fun i=>l.length - i) 0 ⟨by simp,by simp -implicitDefEqProofs (disch:=first|omega|(simp only [go_sem,aaN,aa0];try omega)) only [go_sem,seval]⟩ (by simp) ?_
 intro i hi
 by_cases hil:i<l.length
 ·refine Wk.go fun _ ag=>?_;simp -implicitDefEqProofs (disch:=first|exact ⟨by kernel_rfl⟩|omega) only [go_sem,seval,wk,↓bu,↓bw,bx,↓aq,cX ag,wd];(repeat' first|refine cq.l ?_|refine bg.i ?_ ?_|refine cE.i fun hc=>?_|refine aQ.i ⟨?_,rfl⟩|refine aZ.i ?_ ?_|refine cB.o ?_);all_goals (try subst ag)
  ·exact absurd rfl hc
  ·refine cB.i ⟨i+1,⟨by simp -implicitDefEqProofs (disch:=omega) only [go_sem,seval]<;>omega,?_,?_⟩⟩
   all_goals omega
 ·refine Wk.go fun _ ag=>?_;simp -implicitDefEqProofs (disch:=omega) only [go_sem,seval,wk,↓bu,↓bw,bx,↓aq,cX ag];(repeat' first|refine cq.l ?_|refine bg.i ?_ ?_|refine cE.i fun hc=>?_|refine aQ.i ⟨?_,rfl⟩|refine aZ.i ?_ ?_|refine cB.o ?_);all_goals (try subst ag)
  rfl
end Go.Proofs.YtgclflkhpkdecaaGreatDoor
end
section
set_option maxHeartbeats 8000000
set_option maxRecDepth 20000
namespace Go.Proofs.YtgclflkhpkdecaaGreatDoor
open Tryz
open Go.Abs
attribute [local irreducible] AW OX GQ bK bO bz aY aA
variable {G:World→Nat→Prop}
theorem l_Names (hlv:b8 G 5 [] (vb true)) (p:Pln) (g:gPln p) (t:az) (ht:t.length≤1048576):b8 G 3 [vPln p,vs t] (vb true):=by
 intro st
 have hg:=fun s=>l_Great19 (G:=G) p g s
 have h1:=d_Owner (G:=G) t ht
 have h2:=o_Owner (G:=G) t ht
 have h3:=d_Depth (G:=G) t
 have h4:=o_Depth (G:=G) t ht
 have h5:=d_Children (G:=G) p g t ht
 have h6:=o_Children (G:=G) p g t ht
 have hk:(kids p.jobs t).length≤1048576:=by
  have:=kids_len t p.jobs p.jobs.length
  rw [List.take_length] at this
  have:=g.jobs.1
  omega
 have h7:=l_same (G:=G) (kids p.jobs t) hk
 unfold ownF at h1 h2
 refine aA.start func3 rfl ntmps3 (by simp) fun _ ag=>?_
 by_cases h0:pT t 47 t.length<0
 ·rw [if_pos h0] at h1 h2
  simp -implicitDefEqProofs (disch:=first|exact ⟨by kernel_rfl⟩|omega) only [go_sem,seval,wk,↓bu,↓bw,bx,↓aq,cX ag,wd,wr,CQ_x (hg _),bC (hlv _),bC (h1 _),bC (h2 _),bC (h3 _),bC (h4 _),bC (h5 _),bC (h6 _),bC (h7 _)];(repeat' first|refine cq.l ?_|refine bg.i ?_ ?_|refine cE.i fun hc=>?_|refine aQ.i ⟨?_,rfl⟩|refine aZ.i ?_ ?_|refine cB.o ?_|refine dU.i ?_|refine aQ.i ?_|refine fB.i fun j=>?_);all_goals (try subst ag)
  all_goals first|rfl|(simp at hc)
 ·rw [if_neg h0] at h1 h2
  simp -implicitDefEqProofs (disch:=first|exact ⟨by kernel_rfl⟩|omega) only [go_sem,seval,wk,↓bu,↓bw,bx,↓aq,cX ag,wd,wr,CQ_x (hg _),bC (hlv _),bC (h1 _),bC (h2 _),bC (h3 _),bC (h4 _),bC (h5 _),bC (h6 _),bC (h7 _)];(repeat' first|refine cq.l ?_|refine bg.i ?_ ?_|refine cE.i fun hc=>?_|refine aQ.i ⟨?_,rfl⟩|refine aZ.i ?_ ?_|refine cB.o ?_|refine dU.i ?_|refine aQ.i ?_|refine fB.i fun j=>?_);all_goals (try subst ag)
  all_goals first|rfl|(simp at hc)
end Go.Proofs.YtgclflkhpkdecaaGreatDoor
end
section
namespace Go.En
open Go.Abs (ef dx zeroOf dy k8 mU Uh isStr isBool ud isIface s3 xS shlI shrI isStruct gP KK mM)
inductive V where
 |aU
 |bool (b:Bool)
 |int (k:IntKind) (n:Int)
 |str (s:List UInt8)
 |eX|Am|fD|An|bh
 |ptr (b off:Nat)
 |sl (b off n es:Nat) (cap:Option Nat)
 |mp (b:Nat)
 |iface (t:TypeId) (v:V)
 |jE (f:FuncId) (cap:List V)
 |agg (cs:List V)
 |cF (vs:List V)
 deriving Inhabited
inductive Tr (α:Type) where
 |nil
 |node (v:Option α) (l r:Tr α)
 deriving Inhabited
namespace Tr
variable {α:Type}
def get:Tr α→Nat→Option α
 | .nil,_=>none
 | .node v l r,n=>match n with
  |0=>v
  |m+1=>match m % 2 with
   |0=>l.get (m / 2)
   |_+1=>r.get (m / 2)
def val:Tr α→Option α
 | .nil=>none
 | .node v _ _=>v
def left:Tr α→Tr α
 | .nil=> .nil
 | .node _ l _=>l
def right:Tr α→Tr α
 | .nil=> .nil
 | .node _ _ r=>r
def aaq (x:Option α):Nat→Tr α→Nat→Tr α
 |0,t,_=> .node x t.left t.right
 |f+1,t,n=>match n with
  |0=> .node x t.left t.right
  |m+1=>match m % 2 with
   |0=> .node t.val (aaq x f t.left (m / 2)) t.right
   |_+1=> .node t.val t.left (aaq x f t.right (m / 2))
def set (t:Tr α) (n:Nat) (x:Option α):Tr α:=aaq x n t n
end Tr
inductive B where
 |cells (e:TypeId) (z:Bool) (row:List V)
 |ro (row:List V)
 |iter (s:List UInt8) (pos:Nat)
 |map (es:List (V×V))
 deriving Inhabited
structure S where
 nx:Nat
 h:Tr B
 deriving Inhabited
abbrev Fr:=Tr V
def S.put (s:S) (b:Nat) (x:B):S:=⟨s.nx,s.h.set b (some x)⟩
def S.kill (s:S) (b:Nat):S:=⟨s.nx,s.h.set b none⟩
def S.row (s:S) (b:Nat):Option (List V):=match s.h.get b with
 |some (.cells _ _ r)=>some r
 |some (.ro r)=>some r
 |_=>none
def tJ:Value→V
 | .bool b=> .bool b
 | .int k n=> .int k n
 | .string s=> .str s.data.toList
 | .pointer none=> .eX
 | .slice none 0 0=> .bh
 | .nilFunc=> .Am
 | .nilIface=> .fD
 | .map none=> .An
 |_=> .aU
def ofConst:Value→V
 | .agg cs=> .agg (cs.toList.map tJ)
 |v=>tJ v
def ev (fr:Fr):Operand→V
 | .tmp t=>(fr.get t).getD .aU
 | .const v=>ofConst v
 | .func f=> .jE f []
 | .global _=> .aU
def evs (fr:Fr):List Operand→List V
 |[]=>[]
 |x::r=>ev fr x::evs fr r
def eU (P:Program) (t:TypeId):Option (List V):=(zeroOf P t).map fun z=>z.cells.toList.map tJ
def V.cells:V→Option (List V)
 | .agg cs=>some cs
 | .aU| .cF _=>none
 |v=>some [v]
def V.one:V→Bool
 | .aU| .agg _| .cF _=>false
 |_=>true
def splice (l:List V) (off:Nat) (x:List V):List V:=l.take off++(x++l.drop (off+x.length))
def rep (n:Nat) (l:List V):List V:=match n with
 |0=>[]
 |n+1=>l++rep n l
def loadR (b:Bool) (cs:List V) (off sz:Nat):Option V:=
 match b with
 |true=>if off+sz≤cs.length then some (.agg ((cs.drop off).take sz)) else none
 |false=>cs[off]?
def bn (P:Program) (t:TypeId) (a:V) (s:S):Option V:=
 match dx P t,ef P t,a with
 |some g,some sz,.ptr b off=>match s.row b with
  |some cs=>loadR g cs off sz
  |none=>none
 |_,_,_=>none
def store (b off:Nat) (l:List V) (s:S):Option S:=
 match s.h.get b with
 |some (.cells e z cs)=>if off+l.length≤cs.length∧l.all V.one=true then some (s.put b (.cells e z (splice cs off l))) else none
 |_=>none
def iJ (P:Program) (t:TypeId) (a x:V) (s:S):Option S:=
 match a,ef P t,x.cells with
 | .ptr b off,some sz,some l=>if l.length=sz then store b off l s else none
 |_,_,_=>none
def fill (place:Nat→Option (Nat×Nat)) (fr:Fr):List V→List (Nat×Operand)→Option (List V)
 |cs,[]=>some cs
 |cs,(i,x)::r=>match place i,(ev fr x).cells with
  |some (off,sz),some l=>if l.length=sz∧off+l.length≤cs.length then fill place fr (splice cs off l) r else none
  |_,_=>none
def jF (P:Program) (t:TypeId) (fr:Fr) (parts:List (Nat×Operand)):Option V:=
 if isStruct P t then match eU P t with
  |some cs=>(fill (fun i=>(k8 P t i).map fun g=>(g.1,g.2.1)) fr cs parts).map .agg
  |none=>none
 else match Uh P t,eU P t with
  |some (_,sz,_),some cs=>(fill (fun i=>some (i*sz,sz)) fr cs parts).map .agg
  |_,_=>none
def eW (P:Program) (t:TypeId) (n:Nat) (fr:Fr) (parts:List (Nat×Operand)) (s:S) (id:Nat):Option (V×S):=
 match mU P t with
 |some (e,sz,_)=>match eU P e with
  |some z=>if n*sz≤16777216∧0<sz∧z.length=sz then match fill (fun i=>some (i*sz,sz)) fr (rep n z) parts with
    |some row=>some (.sl id 0 n sz (some n),s.put id (.cells e true row))
    |none=>none
   else none
  |none=>none
 |none=>none
def pI:Bool→Option V:=fun b=>some (.bool b)
def evalCmpI (op:BinOp) (a b:Int):Option V:=
 match op with
 | .eql=>pI (a==b)
 | .neq=>pI (!(a==b))
 | .lss=>pI (decide (a<b))
 | .leq=>pI (decide (a≤b))
 | .gtr=>pI (decide (b<a))
 | .geq=>pI (decide (b≤a))
 |_=>none
def evalInt (op:BinOp) (k:IntKind) (a b:Int):Option V:=
 match op with
 | .add=>some (.int k (k.wrap (a+b)))
 | .sub=>some (.int k (k.wrap (a - b)))
 | .mul=>some (.int k (k.wrap (a*b)))
 | .quo=>if b=0 then none else some (.int k (k.wrap (a.tdiv b)))
 | .rem=>if b=0 then none else some (.int k (a.tmod b))
 | .and=>some (.int k (xS .and k a b))
 | .or=>some (.int k (xS .or k a b))
 | .xor=>some (.int k (xS .xor k a b))
 | .andNot=>some (.int k (xS .andNot k a b))
 |op=>evalCmpI op a b
def evalStr (op:BinOp) (a b:List UInt8):Option V:=
 match op with
 | .add=>if a.length+b.length≤9223372036854775807 then some (.str (a++b)) else none
 | .eql=>pI (a==b)
 | .neq=>pI (!(a==b))
 | .lss=>pI (Op.bytesLess a b)
 | .leq=>pI (Op.bytesLess a b||a==b)
 | .gtr=>pI (!(Op.bytesLess a b||a==b))
 | .geq=>pI (!(Op.bytesLess a b))
 |_=>none
def eqOp (op:BinOp) (b:Bool):Option V:=
 match op with
 | .eql=>pI b
 | .neq=>pI (!b)
 |_=>none
def eqE (P:Program) (t:TypeId) (k:Bool) (a b:V):Option Bool:=
 match P.underlying t with
 |some .bool=>(match a,b with
  | .bool x,.bool y=>some (x==y)
  |_,_=>none)
 |some (.pointer _)=>(match a,b with
  | .eX,.eX=>some true
  | .eX,.ptr _ _=>some false
  | .ptr _ _,.eX=>some false
  |_,_=>none)
 |some (.slice _)=>(match a,b with
  | .bh,.bh=>some true
  | .bh,.sl _ _ _ _ _=>some false
  | .sl _ _ _ _ _,.bh=>some false
  |_,_=>none)
 |some (.map _ _)=>(match a,b with
  | .An,.An=>some true
  | .An,.mp _=>some false
  | .mp _,.An=>some false
  |_,_=>none)
 |some (.func _ _ _)=>(match a,b with
  | .Am,.Am=>some true
  | .Am,.jE _ _=>some false
  | .jE _ _,.Am=>some false
  |_,_=>none)
 |some (.interface _)=>(match a,b with
  | .fD,.fD=>if k then some true else none
  | .fD,.iface _ _=>some false
  | .iface _ _,.fD=>some false
  |_,_=>none)
 |_=>none
def isC:Operand→Bool
 | .const _=>true
 |_=>false
def evalBin (P:Program) (t:TypeId) (op:BinOp) (k:Bool) (a b:V):Option V:=
 match a,b with
 | .int k a,.int k' b=>match op with
  | .shl=>if b<0 then none else some (.int k (shlI k a b))
  | .shr=>if b<0 then none else some (.int k (shrI k a b))
  |op=>if k=k' then evalInt op k a b else none
 | .str a,.str b=>evalStr op a b
 |a,b=>match eqE P t k a b with
  |some q=>eqOp op q
  |none=>none
def aai (op:UnOp) (x:V):Option V:=
 match op,x with
 | .not,.bool b=>pI (!b)
 | .neg,.int k n=>some (.int k (k.wrap (0 - n)))
 | .xor,.int k n=>some (.int k (xS .xor k (if k.signed then -1 else k.max) n))
 |_,_=>none
def byteOf:V→Option UInt8
 | .int .u8 n=>some (UInt8.ofNat n.toNat)
 |_=>none
def bytesOf:List V→Option (List UInt8)
 |[]=>some []
 |r::rs=>match byteOf r,bytesOf rs with
  |some b,some l=>some (b::l)
  |_,_=>none
def ic (l:List UInt8):List V:=l.map fun b=> .int .u8 b.toNat
def elems (s:S):V→Option (List V)
 | .bh=>some []
 | .sl b off n es _=>if n=0 then some [] else match s.row b with
  |some cs=>if off+n*es≤cs.length then some ((cs.drop off).take (n*es)) else none
  |none=>none
 |_=>none
def esOne:V→Bool
 | .sl _ _ _ es _=>es==1
 |_=>true
def evalConv (P:Program) (src dst:TypeId) (x:V) (s:S) (id:Nat):Option (V×S):=
 match x with
 | .int _ n=>match ud P src,ud P dst with
  |some _,some k=>some (.int k (k.wrap n),s)
  |_,_=>none
 | .str l=>if isStr P src then (if isStr P dst then some (.str l,s)
   else if s3 P dst∧l.length≤maxLen then some (.sl id 0 l.length 1 none,s.put id (.ro (ic l))) else none) else none
 |x=>if s3 P src&&isStr P dst then match elems s x with
   |some cs=>if esOne x=true then (bytesOf cs).map fun l=>(.str l,s) else none
   |none=>none
  else none
def bound (fr:Fr) (dflt:Nat):Option Operand→Option Nat
 |none=>some dflt
 |some x=>match ev fr x with
  | .int _ n=>if 0≤n then some n.toNat else none
  |_=>none
def gb (P:Program) (t:TypeId) (x:V) (fr:Fr) (lo hi:Option Operand):Option V:=
 match x with
 | .str s=>if isStr P t then match bound fr 0 lo,bound fr s.length hi with
   |some l,some h=>if l≤h∧h≤s.length then some (.str ((s.take h).drop l)) else none
   |_,_=>none
  else none
 | .bh=>match mU P t,bound fr 0 lo,bound fr 0 hi with
  |some _,some 0,some 0=>some .bh
  |_,_,_=>none
 | .sl b off n es cap=>match mU P t,bound fr 0 lo,bound fr n hi with
  |some (_,sz,_),some l,some h=>if sz=es∧l≤h∧h≤cap.getD n then some (.sl b (off+l*es) (h - l) es (cap.map (· - l))) else none
  |_,_,_=>none
 |_=>none
def aaj (P:Program) (t:TypeId) (x:V) (fr:Fr) (lo hi mx:Option Operand):Option V:=
 match x with
 | .bh=>match mU P t,bound fr 0 lo,bound fr 0 hi,bound fr 0 mx with
  |some _,some 0,some 0,some 0=>some .bh
  |_,_,_,_=>none
 | .sl b off n es cap=>match mU P t,bound fr 0 lo,bound fr n hi,bound fr n mx with
  |some (_,sz,_),some l,some h,some m=>if sz=es∧l≤h∧h≤m∧m≤cap.getD n then some (.sl b (off+l*es) (h - l) es (some (m - l))) else none
  |_,_,_,_=>none
 |_=>none
def eE (P:Program) (t:TypeId) (x:V) (f:Nat):Option V:=
 match k8 P t f,x with
 |some (off,sz,_),.ptr b o=>if sz=0 then none else some (.ptr b (o+off))
 |_,_=>none
def iK (P:Program) (t:TypeId) (x:V) (f:Nat):Option V:=
 match k8 P t f,x with
 |some (off,sz,b),.agg cs=>loadR b cs off sz
 |_,_=>none
def aI (P:Program) (t:TypeId) (x i:V):Option V:=
 match i,x with
 | .int _ n,.sl b off m es _=>match mU P t with
  |some (_,sz,_)=>if 0≤n∧n<m∧sz=es then some (.ptr b (off+n.toNat*es)) else none
  |none=>none
 | .int _ n,.ptr b off=>match Uh P t with
  |some (m,sz,_)=>if 0≤n∧n<m then some (.ptr b (off+n.toNat*sz)) else none
  |none=>none
 |_,_=>none
def kC (P:Program) (t:TypeId) (x i:V):Option V:=
 match i,x with
 | .int _ n,.str s=>if isStr P t&&decide (0≤n) then (s[n.toNat]?).map fun b=> .int .u8 b.toNat else none
 | .int _ n,.agg cs=>match Uh P t with
  |some (m,sz,b)=>if 0≤n∧n<m then loadR b cs (n.toNat*sz) sz else none
  |none=>none
 |_,_=>none
def ji (x:V) (i:Nat):Option V:=
 match x with
 | .cF vs=>vs[i]?
 |_=>none
def gN (P:Program) (t:TypeId) (s:S):V→Option V
 | .str l=>if isStr P t=true then some (.int .i64 l.length) else none
 | .bh=>if (mU P t).isSome=true then some (.int .i64 0) else none
 | .sl _ _ n _ _=>if (mU P t).isSome=true then some (.int .i64 n) else none
 | .An=>(match mM P t with
  |some _=>some (.int .i64 0)
  |none=>none)
 | .mp b=>(match mM P t with
  |some _=>(match s.h.get b with
   |some (.map es)=>some (.int .i64 es.length)
   |_=>none)
  |none=>none)
 |_=>none
def evalCap (P:Program) (t:TypeId) (x:V):Option V:=
 match mU P t with
 |some _=>(match x with
  | .bh=>some (.int .i64 0)
  | .sl _ _ _ _ (some c)=>some (.int .i64 c)
  |_=>none)
 |none=>none
def news (P:Program) (u:TypeId) (es:Nat) (s:S):V→Option (List V)
 | .str l=>if isStr P u=true∧es=1 then some (ic l) else none
 | .bh=>if (mU P u).isSome=true then some [] else none
 | .sl b off n es' co=>if es'=es∧(mU P u).isSome=true then elems s (.sl b off n es' co) else none
 |_=>none
def growV (P:Program) (e:TypeId) (z:Bool) (es n m by_:Nat) (row:List V) (s:S) (id:Nat):Option (V×S):=
 if (n+m)*by_≤gP∧(n+m)≤maxLen∧dy P e=some es then some (.sl id 0 (n+m) es none,s.put id (.cells e z row)) else none
def appendL (P:Program) (e:TypeId) (es by_ m:Nat) (l:List V) (x:V) (s:S) (id:Nat):Option (V×S):=
 if m=0 then (match x with| .bh=>some (.bh,s)| .sl b off n es' cap=>some (.sl b off n es' cap,s)|_=>none)
 else if es=0∨l.all V.one=false∨l.length≠m*es then none
 else match x with
  | .bh=>growV P e true es 0 m by_ l s id
  | .sl b off n es' cap=>
   if es'=es then match elems s (.sl b off n es' cap) with
    |some old=>(match cap with
     |some c=>if n+m≤c then (store b (off+n*es) l s).map fun s'=>(.sl b off (n+m) es (some c),s')
      else growV P e true es n m by_ (old++l) s id
     |none=>(match s.h.get b with
      |some (.cells e' z _)=>if e'=e then growV P e (z&& (off==0)) es n m by_ (old++l) (s.kill b) id else none
      |_=>none))
    |none=>none
   else none
  |_=>none
def fu (P:Program) (t u:TypeId) (x y:V) (s:S) (id:Nat):Option (V×S):=
 match mU P t with
 |some (e,es,by_)=>(match y with
  | .int _ n=>if (ud P u).isSome=true∧0≤n∧n≤16777216∧n.toNat*by_≤gP∧0<es∧dy P e=some es then (match eU P e with
    |some z=>appendL P e es by_ n.toNat (rep n.toNat z) x s id
    |none=>none)
   else none
  |y=>match news P u es s y with
   |some l=>if 0<es∧l.all V.one=true then appendL P e es by_ (l.length / es) l x s id else none
   |none=>none)
 |none=>none
def evalCopy (P:Program) (t u:TypeId) (x y:V) (s:S):Option (V×S):=
 match mU P t with
 |some (_,es,_)=>(match x with
  | .bh=>(match news P u es s y with
   |some l=>if 0<es∧l.all V.one=true then some (.int .i64 0,s) else none
   |none=>none)
  | .sl b off n es' _=>(match news P u es s y with
   |some l=>if es'=es∧0<es∧l.all V.one=true∧l.length=(l.length / es)*es then
     (if min n (l.length / es)=0 then some (.int .i64 0,s)
     else (store b off (l.take (min n (l.length / es)*es)) s).map fun s'=>(.int .i64 (min n (l.length / es):Nat),s'))
    else none
   |none=>none)
  |_=>none)
 |none=>none
def evalClear (P:Program) (t:TypeId) (x:V) (s:S):Option (V×S):=
 match x with
 | .bh=>if (mU P t).isSome=true then some (.aU,s) else none
 | .sl b off n es _=>match mU P t with
  |some (e,sz,_)=>if sz=es then match eU P e with
    |some z=>if n=0 then some (.aU,s) else if z.length=es then (store b off (rep n z) s).map fun s'=>(.aU,s') else none
    |none=>none
   else none
  |none=>none
 |_=>none
def aak (mx:Bool) (x y:V):Option V:=
 match x,y with
 | .int k a,.int k' b=>if k=k' then some (.int k (if (if mx then decide (b>a) else decide (b<a)) then b else a)) else none
 |_,_=>none
def mT (P:Program) (t:TypeId) (x:V) (s:S) (id:Nat):Option (V×S):=
 match x with
 | .str l=>if isStr P t then some (.ptr id 0,s.put id (.iter l 0)) else none
 |_=>none
def evalNext (x:V) (s:S):Option (V×S):=
 match x with
 | .ptr k 0=>match s.h.get k with
  |some (.iter l pos)=>
   if pos<l.length then
    some (.cF [.bool true,.int .i64 pos,.int .i32 (Utf8.decode ⟨l.toArray⟩ pos).1],s.put k (.iter l (pos+(Utf8.decode ⟨l.toArray⟩ pos).2)))
   else some (.cF [.bool false],s)
  |_=>none
 |_=>none
def gj (P:Program) (x:V) (asT:TypeId) (ok:Bool):Option V:=
 match x,isIface P asT with
 | .fD,some false=>if ok then (zeroOf P asT).map fun z=> .cF [ofConst z,.bool false] else none
 | .iface t v,some false=>if t=asT then (if ok then some (.cF [v,.bool true]) else some v)
  else if ok then (zeroOf P asT).map fun z=> .cF [ofConst z,.bool false] else none
 |_,_=>none
def vr:V→V→Option Bool
 | .str a,.str b=>some (a==b)
 | .int k n,.int k' m=>if k=k' then some (n==m) else none
 | .bool a,.bool b=>some (a==b)
 |_,_=>none
def findI (y:V):List (V×V)→Nat→Option (Option (Nat×V))
 |[],_=>some none
 |(k,v)::r,i=>match vr y k with
  |some true=>some (some (i,v))
  |some false=>findI y r (i+1)
  |none=>none
def keyOK:KK→V→Bool
 | .str,.str l=>decide (l.length≤maxLen)
 | .int q,.int k n=>decide (k=q)&& (Lit.int k n).wf
 | .bool,.bool _=>true
 |_,_=>false
def iU (P:Program) (t:TypeId) (m y:V) (ok:Bool) (s:S):Option V:=
 match mM P t with
 |some (kd,e)=>if keyOK kd y=true then match (match m with
   | .An=>some none
   | .mp b=>(match s.h.get b with
    |some (.map es)=>findI y es 0
    |_=>none)
   |_=>none),zeroOf P e with
  |some (some (_,v)),_=>some (if ok then .cF [v,.bool true] else v)
  |some none,some z=>some (if ok then .cF [ofConst z,.bool false] else ofConst z)
  |_,_=>none
  else none
 |none=>none
def iV (P:Program) (t:TypeId) (m y v:V) (s:S):Option S:=
 match mM P t,m with
 |some (kd,_),.mp b=>if keyOK kd y=true then match s.h.get b with
  |some (.map es)=>(match findI y es 0 with
   |some (some (i,_))=>some (s.put b (.map (es.set i (y,v))))
   |some none=>some (s.put b (.map (es++[(y,v)])))
   |none=>none)
  |_=>none
  else none
 |_,_=>none
def vv (P:Program) (t:TypeId) (l c:V) (s:S) (id:Nat):Option (V×S):=
 match mU P t,l,c with
 |some (e,sz,by_),.int _ n,.int _ m=>match eU P e with
  |some z=>if 0≤n∧n≤m∧m.toNat*by_≤gP∧m.toNat*sz≤16777216∧0<sz∧z.length=sz then some (.sl id 0 n.toNat sz (some m.toNat),s.put id (.cells e true (rep m.toNat z))) else none
  |none=>none
 |_,_,_=>none
def evalUStr (P:Program) (pt:TypeId) (x n:V) (s:S):Option (V×S):=
 match P.underlying pt with
 |some (.pointer e)=>(match x,n with
  | .ptr b 0,.int .i64 m=>(match s.h.get b with
   |some (.cells e' true cs)=>if e'=e∧P.cellsOf e=1∧0<m∧m.toNat≤cs.length∧m≤9223372036854775807 then (match bytesOf (cs.take m.toNat) with
     |some l=>some (.str l,s.kill b)
     |none=>none)
    else none
   |_=>none)
  | .eX,.int .i64 0=>some (.str [],s)
  |_,_=>none)
 |_=>none
def dP (P:Program) (b:Builtin) (ts:List TypeId) (args:List V) (s:S) (id:Nat):Option (V×S):=
 match b,ts,args with
 | .len,[t],[x]=>(gN P t s x).map (·,s)
 | .cap,[t],[x]=>(evalCap P t x).map (·,s)
 | .append,[t,u],[x,y]=>fu P t u x y s id
 | .copy,[t,u],[x,y]=>evalCopy P t u x y s
 | .clear,[t],[x]=>evalClear P t x s
 | .max,_,[x,y]=>(aak true x y).map (·,s)
 | .min,_,[x,y]=>(aak false x y).map (·,s)
 | .unsafeSliceData,[_],[x]=>(match x with| .bh=>some (.eX,s)| .sl b off (_+1) _ _=>some (.ptr b off,s)|_=>none)
 | .unsafeString,[pt,_],[x,n]=>evalUStr P pt x n s
 |_,_,_=>none
def evalOp (P:Program) (o:Op) (fr:Fr) (s:S) (id:Nat):Option (V×S):=
 match o with
 | .move x| .assign x=>some (ev fr x,s)
 | .pick c a b=>match ev fr c with
  | .bool t=>some (if t then ev fr a else ev fr b,s)
  |_=>none
 | .alloc e=>match eU P e with
  |some cs=>some (.ptr id 0,s.put id (.cells e true cs))
  |none=>none
 | .box e x=>match (ev fr x).cells with
  |some cs=>some (.ptr id 0,s.put id (.cells e true cs))
  |none=>none
 | .build t parts=>(jF P t fr parts.toList).map (·,s)
 | .buildSlice t n parts=>eW P t n fr parts.toList s id
 | .load t a=>(bn P t (ev fr a) s).map (·,s)
 | .store t a x=>(iJ P t (ev fr a) (ev fr x) s).map fun s'=>(.aU,s')
 | .nilCheck x=>match ev fr x with
  | .ptr b off=>some (.ptr b off,s)
  | .jE f cap=>some (.jE f cap,s)
  |_=>none
 | .binOp op t x y _=>(evalBin P t op (isC x||isC y) (ev fr x) (ev fr y)).map (·,s)
 | .unOp op _ x=>(aai op (ev fr x)).map (·,s)
 | .convert a b x=>evalConv P a b (ev fr x) s id
 | .makeInterface t x=>if isIface P t=some false then some (.iface t (ev fr x),s) else none
 | .makeFunc (.func f) first captured=>if first.isEmpty then some (.jE f (evs fr captured.toList),s) else none
 | .slice t x lo hi none=>(gb P t (ev fr x) fr lo hi).map (·,s)
 | .slice t x lo (some hi) (some mx)=>(aaj P t (ev fr x) fr lo (some hi) (some mx)).map (·,s)
 | .fieldAddr t x f=>(eE P t (ev fr x) f).map (·,s)
 | .field t x f=>(iK P t (ev fr x) f).map (·,s)
 | .indexAddr t x i=>(aI P t (ev fr x) (ev fr i)).map (·,s)
 | .index t x i=>(kC P t (ev fr x) (ev fr i)).map (·,s)
 | .extract x i=>(ji (ev fr x) i).map (·,s)
 | .range t x=>mT P t (ev fr x) s id
 | .next x true=>evalNext (ev fr x) s
 | .makeMap t none=>match mM P t with
  |some _=>some (.mp id,s.put id (.map []))
  |none=>none
 | .lookup t m x ok=>(iU P t (ev fr m) (ev fr x) ok s).map (·,s)
 | .mapUpdate t m x v=>(iV P t (ev fr m) (ev fr x) (ev fr v) s).map fun s'=>(.aU,s')
 | .typeAssert x _ asT ok=>(gj P (ev fr x) asT ok).map (·,s)
 | .call { callee:= .builtin b,args,argTypes }=>dP P b argTypes.toList (evs fr args.toList) s id
 | .makeSlice t l c=>vv P t (ev fr l) (ev fr c) s id
 |_=>none
end Go.En
end
section
namespace Go.En
inductive X where
 |normal
 |exit (id:Nat)
 |ret
structure F where
 tm:Fr
 n:Nat
 ds:List (FuncId×List V)
 deriving Inhabited
def F.put (f:F) (d:Option Tmp) (v:V):Option F:=match d with
 |some i=>match f with
  |⟨tm,n,ds⟩=>match Nat.blt i n with
   |true=>some ⟨tm.set i (some v),n,ds⟩
   |false=>none
 |none=>some f
theorem F.put_eq (f:F) (d:Option Tmp) (v:V):f.put d v=match d with
 |some i=>match Nat.blt i f.n with
  |true=>some ⟨f.tm.set i (some v),f.n,f.ds⟩
  |false=>none
 |none=>some f:=by cases d<;>rfl
def goes (all:Array Oper) (o:Oper) (fr:Fr):Option Bool:=
 match o.guard with
 |none=>some true
 |some (j,b)=>match (all[j]?).bind (·.dst) with
  |some d=>match fr.get d with
   |some (.bool t)=>some (t==b)
   |some (.cF [])=>some false
   |_=>none
  |none=>none
def makes:Op→Bool
 | .alloc _| .box .. | .buildSlice .. | .makeMap .. | .makeSlice .. | .range .. | .convert .. =>true
 | .call { callee:= .builtin .append,.. }=>true
 |_=>false
def kind:Op→Nat
 | .move _| .assign _| .pick .. | .build .. | .nilCheck _| .binOp .. | .unOp .. | .makeInterface .. | .makeFunc .. | .slice .. | .fieldAddr .. | .field .. | .indexAddr .. | .index .. | .extract .. | .typeAssert .. =>0
 | .call { callee:= .builtin .cap,.. }| .call { callee:= .builtin .max,.. }| .call { callee:= .builtin .min,.. }=>0
 | .load .. | .lookup .. | .call { callee:= .builtin .len,.. }=>1
 | .alloc _| .box .. | .buildSlice .. | .makeMap .. | .makeSlice .. | .range .. =>2
 |_=>3
def entry:List V→Nat→Fr→Fr
 |[],_,fr=>fr
 |v::r,i,fr=>entry r (i+1) (fr.set i (some v))
def eT (P:Program) (fr:Fr) (s:S):List ResultVar→Option (List V)
 |[]=>some []
 | .tmp t::r=>match eT P fr s r with
  |some l=>some (((fr.get t).getD .aU)::l)
  |none=>none
 | .cell a t::r=>match bn P t ((fr.get a).getD .aU) s,eT P fr s r with
  |some v,some l=>some (v::l)
  |_,_=>none
def eD:List V→V
 |[v]=>v
 |l=> .cF l
section
variable (P:Program) (call:FuncId→List V→S→Option (V×S))
def Q2 (all:Array Oper):List Oper→F→S→Option (F×S)
 |[],f,s=>some (f,s)
 |o::r,f,s=>match goes all o f.tm with
  |none=>none
  |some false=>(match f.put o.dst (.cF []) with
   |some f'=>Q2 all r f' s
   |none=>none)
  |some true=>match o.op with
   | .call { callee:= .value x,args,.. }=>(match ev f.tm x with
    | .jE g cap=>(match call g (evs f.tm args.toList++cap) s with
     |some (v,s')=>(match f.put o.dst v with
      |some f'=>Q2 all r f' s'
      |none=>none)
     |none=>none)
    |_=>none)
   | .defer { callee:= .value x,args,.. }=>(match ev f.tm x,o.dst with
    | .jE g cap,none=>Q2 all r ⟨f.tm,f.n,(g,evs f.tm args.toList++cap)::f.ds⟩ s
    |_,_=>none)
   |op=>(match evalOp P op f.tm ⟨s.nx+1,s.h⟩ s.nx with
    |some (v,s')=>(match f.put o.dst v with
     |some f'=>Q2 all r f' s'
     |none=>none)
    |none=>none)
end
end Go.En
end
