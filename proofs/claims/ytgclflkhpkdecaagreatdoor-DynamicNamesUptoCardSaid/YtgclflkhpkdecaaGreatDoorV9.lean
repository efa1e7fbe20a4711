/- A step of the proofs of the seat's theorems. -/
import Derived.Test.YtgclflkhpkdecaaGreatDoorV1
import Derived.Test.YtgclflkhpkdecaaGreatDoorV4
import Derived.Test.YtgclflkhpkdecaaGreatDoorV8
import Derived.Sort.Grow
import Derived.Deep.Draws
import Derived.Recover
import Derived.KernelRfl
import Derived.Shelf.Strconv.Itoa4
import Derived.Shelf.Strconv.ErrVarAll
import Derived.Shelf.LaysM
import Derived.Shelf.LaysC
import Derived.Test.YtgclflkhpkdecaaGreatDoorProg
set_option linter.unusedSimpArgs false
set_option linter.unusedVariables false
section
namespace Go.Abs
open Go.RowKit
def Ctx.kill (c:Ctx) (id:Nat) (t:Tok):Ctx:= { c with tok:=c.tok.set id { t with val:= .slice none 0 0,len:=maxLen+1 } }
theorem ld (w:World) (g n k:Nat) (h:k≠g):(w.freeze ⟨g,0,none⟩ n).heap[k]?=w.heap[k]?:=by
 unfold World.freeze
 split
 ·rfl
 ·simp only [abq]
  rw [if_neg (fun e=>h e.symm)]
theorem yJ (w:World) (p:Addr) (n:Nat) (a:Addr):(w.freeze p n).cell? a=w.cell? a:=by
 unfold World.freeze
 split
 ·rfl
 ·simp only [World.cell?,abq]
  by_cases e:p.block=a.block
  ·rw [if_pos e]
   cases w.heap[a.block]? with
   |none=>rfl
   |some o=>cases o<;>rfl
  ·rw [if_neg e]
theorem bf.kill {c:Ctx} {w:World} {st:St} (h:bf c w st) {id:Nat} {t:Tok} (ht:c.tok[id]?=some t) (hl:t.len≤maxLen) {g:Nat} (hg:t.val.ownBlock=some g) (n:Nat):
  bf (c.kill id t) (w.drew.freeze ⟨g,0,none⟩ n) { st with toks:=st.toks.set id (t.e,t.sz,maxLen+1) }∧Ext c (c.kill id t):=by
 have hid:id<c.tok.length:=(aaw.1 ht).1
 have hext:Ext c (c.kill id t):=by
  refine ⟨fun _ _ _ h=>h,fun _ _ h=>h,fun j s hj=>?_,rfl,rfl⟩
  by_cases hji:j=id
  ·subst hji
   rw [ht] at hj
   have:s=t:=(Option.some.inj hj).symm
   subst this
   exact ⟨{ s with val:= .slice none 0 0,len:=maxLen+1 },by simp only [Ctx.kill];rw [aaU hid],rfl,by simp only;omega,fun e=>by simp only at e;omega⟩
  ·exact ⟨s,by simp only [Ctx.kill];rw [aaX (Ne.symm hji)];exact hj,rfl,aax _,fun _=>rfl⟩
 obtain ⟨h0,hdd|⟨xs,ho,hgg⟩⟩:=h.cz id t ht
 ·have:=hdd.1;omega
 obtain ⟨_,_,hgmu⟩:=hgg g hg
 have hbg:=(ho.lt g hg).1
 have hsz:(w.drew.freeze ⟨g,0,none⟩ n).heap.size=w.heap.size:=by
  unfold World.freeze;split
  ·rfl
  ·simp
 have hos:(w.drew.freeze ⟨g,0,none⟩ n).os=w.os∧(w.drew.freeze ⟨g,0,none⟩ n).tape=w.tape∧(w.drew.freeze ⟨g,0,none⟩ n).output=w.output:=by
  unfold World.freeze;split<;>exact ⟨rfl,rfl,rfl⟩
 have hgr:w.grownBy (w.drew.freeze ⟨g,0,none⟩ n) (some g):=⟨hos.1,hos.2.1,hos.2.2,by omega,fun k _ hk=>ld w.drew g n k (fun e=>hk (by rw [e]))⟩
 refine ⟨{
  cN:=h.cN
  dH:=h.dH
  cI:=h.cI
  mS:=h.mS
  blk:=?_
  cu:=by simp only [Ctx.kill,List.map_set,h.cu]
  cz:=?_
  cK:=?_
  cy:=?_
  below:=h.below.trans ⟨hos.1,hos.2.1,hos.2.2,by omega,fun k hk=>ld w.drew g n k (by simp only [Ctx.kill] at*;omega)⟩
  cw:=by rw [hsz];exact h.cw },hext⟩
 ·intro b k B hk hB
  obtain ⟨o,ho',hr⟩:=h.blk b k B hk hB
  have hne:k≠g:=fun e=>hgmu (e▸aaP hk)
  exact ⟨o,by rw [ld w.drew g n k hne];exact ho',hr.mono hext⟩
 ·intro j s hj
  by_cases hji:j=id
  ·subst hji
   simp only [Ctx.kill,aaU hid,aas] at hj
   subst hj
   exact ⟨h0,.inl ⟨Nat.lt_succ_self _,rfl⟩⟩
  ·simp only [Ctx.kill,aaX (Ne.symm hji)] at hj
   obtain ⟨h1,hd|⟨ys,ho',hg'⟩⟩:=h.cz j s hj
   ·exact ⟨h1,.inl hd⟩
   ·refine ⟨h1,.inr ⟨ys,ho'.kept hgr ?_,hg'⟩⟩
    cases hb:s.val.ownBlock with
    |none=>exact .inl rfl
    |some g'=>
     refine .inr fun e=>hji ?_
     have:g'=g:=Option.some.inj e
     subst this
     exact h.cK j id s t g' hj ht hb hg
 ·intro i j s u g' hi hj hs hu
  by_cases hii:i=id
  ·subst hii
   simp only [Ctx.kill,aaU hid,aas] at hi
   subst hi
   simp [Value.ownBlock] at hs
  ·by_cases hjj:j=id
   ·subst hjj
    simp only [Ctx.kill,aaU hid,aas] at hj
    subst hj
    simp [Value.ownBlock] at hu
   ·simp only [Ctx.kill,aaX (Ne.symm hii)] at hi
    simp only [Ctx.kill,aaX (Ne.symm hjj)] at hj
    exact h.cK i j s u g' hi hj hs hu
 ·intro k o v hv
  rw [yJ]
  exact h.cy k o v hv
section
variable {P:Program} {G:World→Nat→Prop} {n:iw} {aC:St} {Q:AX→Fr→St→Prop} {fr:Fr} {st:St}
theorem aV {fn:Func} {R:Out→St→Prop} {st' s1:St} {l:List V} {v:V} (m:Nat) (hm:st.toks.length≤m) (hs:st'.cut st.aj.length m=s1)
  (ho:∀ (b:Nat) (B:aJ),s1.aj[b]?=some B→st.aj[b]?=some B∨B.within st.aj.length m=true)
  (h:eT P fr st' fn.results.toList=some l) (hv:(eD l).share=v) (hw:v.within st.aj.length m=true) (hR:R (.ret v) s1):bK P fn st R .ret fr st':=by
 subst hv hs
 refine ⟨m,⟨aax _,hm,fun b B h1 h2=>ho b B ?_⟩,l,h,hw,hR⟩
 simp only [St.cut]
 rw [aa3 h1];exact h2
end
section
variable {P:Program} {G:World→Nat→Prop} {n:iw} {aC:St} {Q:AX→Fr→St→Prop}
structure Qf (P:Program) (l:List Oper) (fr':Fr) (st st2:St) (m:Nat) (p:Nat×Nat):Prop where
 lt:p.1<m
 hi:p.2≤m+1
 ex:∃ o t ty,l[p.1]?=some o∧o.op= .load ty (.tmp t)∧o.guard=none∧(∀ j,iO l t=some j→j<p.1)∧bn P ty (fr' t) st=bn P ty (fr' t) st2
end
end Go.Abs
end
section
namespace Go.Abs
open Go.RowKit
open Go.Sort (grow heap_grow_old size_grow)
theorem bf.later {c:Ctx} {w w':World} {st:St} (h:bf c w st) (hb:Below w.heap.size w w'):bf c w' st where
 cN:=h.cN
 dH:=h.dH
 cI:=h.cI
 mS:=h.mS
 blk:=fun b k B hk hB=>let ⟨o,ho,hr⟩:=h.blk b k B hk hB;⟨o,by rw [hb.block k (h.mult hk)];exact ho,hr⟩
 cu:=h.cu
 cz:=by
  intro id t ht
  obtain ⟨h0,hd|⟨xs,⟨hx,ho⟩,hg⟩⟩:=h.cz id t ht
  ·exact ⟨h0,.inl hd⟩
  ·refine ⟨h0,.inr ⟨xs,⟨hx,?_⟩,hg⟩⟩
   rcases ho with ho|⟨g,cap,cur,hv,hbg,hh,hrest⟩
   ·exact .inl ho
   ·refine .inr ⟨g,cap,cur,hv,hbg,?_,hrest⟩
    rw [hb.block g (aaV.1 hh).1]
    exact hh
 cK:=h.cK
 cy:=by
  intro k o v hv
  have:=h.cy k o v hv
  rw [World.cell?_of_block (hb.block k (World.block_lt_of_cell? w _ this))]
  exact this
 below:=h.below.trans (hb.mono h.cw)
 cw:=abc h.cw hb.size
end Go.Abs
end
section
namespace Go.Abs
open Go.RowKit
def yK (M N:List aJ):Prop:=N.length=M.length∧∀ (i:Nat) (B B':aJ),M[i]?=some B→N[i]?=some B'→B'=B∨B'=xU B
theorem yK.refl (M:List aJ):yK M M:=⟨rfl,fun i B B' h1 h2=> .inl (by rw [h1] at h2;injection h2 with h;exact h.symm)⟩
theorem yK.app {M N L L':List aJ} (h:yK M N) (hl:L.map xU=L'):yK (M++L) (N++L'):=by
 subst hl
 refine ⟨by simp [h.1],fun i B B' h1 h2=>?_⟩
 by_cases hi:i<M.length
 ·rw [aaC hi] at h1
  rw [aaC (by rw [h.1];exact hi)] at h2
  exact h.2 i B B' h1 h2
 ·rw [aaz (by omega)] at h1
  rw [aaz (by rw [h.1];omega),aaT,h.1,h1] at h2
  exact .inr (by simpa using h2.symm)
section
variable {P:Program} {G:World→Nat→Prop} {n:iw} {aC:St} {Q:AX→Fr→St→Prop} {fr:Fr} {st:St}
structure H8 {τ:Type} (aC:St) (σ:τ→List (Nat×V)) (S:τ→St) (p:τ→Prop) (μ:τ→Nat) (x:τ) (fr:Fr) (st:St) (x':τ):Prop where
 slots:okF fr (σ x')
 ok:p x'
 less:μ x'<μ x
 state:∃ M,st.cut (S x').aj.length (S x').toks.length=⟨M,(S x').toks⟩∧yK M (S x').aj∧∀ (b:Nat) (B:aJ),M[b]?=some B→aC.aj[b]?=some B∨B.within (S x').aj.length (S x').toks.length=true
 aj:aC.aj.length≤(S x').aj.length
 toks:aC.toks.length≤(S x').toks.length
 win:okW (S x').aj.length (S x').toks.length (σ x')=true
end
theorem kI {P:Program} {ops:Array Oper} {Q:Exit→Act→List Frame→World→Prop} {cs:List Frame} (hQ:∀ a w,¬ Q .outgrown a cs w):∀ (l:List Oper) (k:Nat),(∀ j:Nat,l[j]?=ops[k+j]?)→∀ (a:Act) (w:World),wpList P ops (fun e a w=>Q e a cs w) l a w→wpOpsS P ops Q (List.range' k l.length) a cs w
 |[],k,_,a,w,h=>h
 |o::l,k,hl,a,w,h=>by
  have h0:ops[k]?=some o:=by simpa using (hl 0).symm
  have ih:=kI (P:=P) hQ l (k+1) (fun j=>by have:=hl (j+1);simpa [abe,Nat.add_comm 1 j] using this)
  simp only [aaF,List.range'_succ,wpOpsS,h0]
  unfold wpList at h
  split
  ·rename_i hw
   rw [if_pos hw] at h
   rcases h with h|⟨_,a',w',h⟩
   ·unfold Oper.wp at h
    split
    ·rename_i w' hr
     rw [hr] at h
     exact absurd h (by simp [Oper.upon])
    ·exact rX (fun a w h=>ih a w h) (fun _ _ _ h=>h) _ h
   ·exact absurd h (hQ _ _)
  ·rename_i hw
   rw [if_neg hw] at h
   exact ih _ _ h
section
variable {P:Program} {G:World→Nat→Prop} {st:St}
def pM (v:Option Value):FrameMode:=match v with|none=> .returning|some p=> .panicking [{ v:=p,recovered:=false }]
def jQ (v:Option Value):FrameMode:=match v with|none=> .returning|some p=> .panicking [{ v:=p,recovered:=true }]
def Ia (c:Ctx) (x:Option V) (p:Option Value):Prop:=match x,p with
 |none,none=>True
 |some v,some q=>Rel c q v
 |_,_=>False
def fN (P:Program) (G:World→Nat→Prop) (f:FuncId) (args:List V) (x:Option V) (st:St) (R:Out→St→Prop):Prop:=
 ∀ (c:Ctx) (w:World) (cargs:Array Value) (pv:Option Value),bf c w st→G c.w0 c.base→cargs.size=args.length→(∀ i,i<args.length→Rel c (cargs.getD i undef) (args.getD i .aU))→Ia c x pv→
  CallsD P f cargs (pM pv) w fun e u' w'=>u'=jQ pv∧∃ out st' c',R out st'∧Ext c c'∧bf c' w' st'∧gT c' e out
theorem fN.mono {f:FuncId} {args:List V} {x:Option V} {R R':Out→St→Prop} (h:fN P G f args x st R) (hr:∀ o s,R o s→R' o s):fN P G f args x st R':=
 fun c w cargs pv hc hg hs ha hx=>(h c w cargs pv hc hg hs ha hx).mono fun _ _ _ ⟨h0,o,s,c',h1,h2⟩=>⟨h0,o,s,c',hr _ _ h1,h2⟩
def VC (P:Program) (fn:Func) (R:Out→St→Prop) (c:Ctx) (tmps:Array Value) (w:World):Exit→Prop
 | .normal| .ret=>∃ v,(results fn tmps).run P w= .ok v w∧∃ out st c',R out st∧Ext c c'∧bf c' w st∧gT c' (.returned v) out
 | .panic chain=>∃ out st c',R out st∧Ext c c'∧bf c' w st∧gT c' (.panicked chain) out
 |_=>False
theorem qy {fn:Func} {R:Out→St→Prop} {c c':Ctx} {w w':World} {st':St} {tmps:Array Value} {fr:Fr} (hc:bf c w st) (hext:Ext c c') (hc':bf c' w' st') (hf':cC c' tmps fr) {e:Exit} {x:AX} (hx:lY c' e x) (hq:bK P fn st R x fr st'):VC P fn R c tmps w' e:=by
 obtain ⟨m,hcut,h5⟩:=hq
 obtain ⟨hcc,hext'⟩:=hcut.DS hc.J8 hext hc'
 have fin:∀ l,eT P fr st' fn.results.toList=some l→(eD l).share.within st.aj.length m=true→R (.ret (eD l).share) (st'.cut st.aj.length m)→
   ∃ v,(results fn tmps).run P w'= .ok v w'∧∃ out st'' c'',R out st''∧Ext c c''∧bf c'' w' st''∧gT c'' (.returned v) out:=by
  intro l hl hw hR
  obtain ⟨cv,hrun,hrel⟩:=rY (P:=P) hc' hf' hl
  exact ⟨cv,hrun,_,_,_,hR,hext',hcc,hrel.share.cut hw⟩
 cases e<;>cases x<;>simp only [lY] at hx
 ·obtain ⟨l,a1,a2,a3⟩:=h5
  exact fin l a1 a2 a3
 ·exact h5.elim
 ·obtain ⟨l,a1,a2,a3⟩:=h5
  exact fin l a1 a2 a3
 ·obtain ⟨a1,a2⟩:=h5
  obtain ⟨cv,b1,b2⟩:=hx
  exact ⟨_,_,_,a2,hext',hcc,cv,b1,b2.cut a1⟩
theorem pO {c:Ctx} {args:List V} {cargs:Array Value} {k:Nat} (hs:cargs.size=args.length) (hr:∀ i,i<args.length→Rel c (cargs.getD i undef) (args.getD i .aU)):cC c (cargs++Array.replicate k undef) (dr args):=by
 intro t
 simp only [dr]
 by_cases ht:t<args.length
 ·rw [show (cargs++Array.replicate k undef).getD t undef=cargs.getD t undef by
   simp [aav,aa8,show t<cargs.size by omega]]
  exact hr t ht
 ·rw [show args.getD t .aU= .aU by simp [aat,show args.length≤t by omega]]
  exact .aU _
theorem fN.body {f:FuncId} {fn:Func} {k id:Nat} {o0:Oper} {l:List Oper} {rest:Code} {args:List V} {x:Option V} {R:Out→St→Prop} {t:Tmp} {ca:Array Operand} {cat:Array TypeId}
  (hf:P.funcs[f]?=some fn) (hb:fn.body=some (.seq (.region id (o0::l).toArray false) rest)) (hn:fn.ntmps=k) (hargs:args.length≤k)
  (ho:o0.op= .call { callee:= .builtin .recover,args:=ca,argTypes:=cat }) (hg0:o0.guard=none) (hd0:o0.dst=some t) (ht:t<k)
  (h:OW P G ⟨k,[]⟩ st (o0::l).toArray (bz (AW P G ⟨k,[]⟩ st rest (bK P fn st R)) (bK P fn st R)) l (upd (dr args) t (x.getD (.d .fD))) st):fN P G f args x st R:=by
 intro c w cargs pv hc hG hs hr hx
 refine callsD_of_wpS hf hb fun c₀ cs hu=>?_
 have hfr:=pO (k:=fn.ntmps - cargs.size) hs hr
 have hsz:(cargs++Array.replicate (fn.ntmps - cargs.size) undef).size=k:=by
  simp only [Array.size_append,Array.size_replicate];omega
 generalize cargs++Array.replicate (fn.ntmps - cargs.size) undef=tmps at hfr hsz
 apply wpS_seq
 apply wpS_region
 have hrange:List.range (o0::l).toArray.size=0::List.range' 1 l.length:=by
  rw [List.range_eq_range',aa1,aaF,List.range'_succ]
 rw [hrange]
 have hexec:(execOp (Act.eval { tmps:=tmps,defers:=[] }) o0).run P w= .ok .recover w:=by
  simp [execOp,ho,resolve,invoke,builtin,Sem.run]
 have hwant:∀ y,Region.wanted o0 y=true:=fun y=>by simp [Region.wanted,hg0]
 have key:∀ (v:Value) (cs':List Frame),cs'= { c₀ with mode:=jQ pv }::cs→Rel c v (x.getD (.d .fD))→
   wpOpsS P (o0::l).toArray (Exit.thenS (rest.wpS P (bodyPostS P fn c₀ cs fun e u' w'=>u'=jQ pv∧∃ out st' c',R out st'∧Ext c c'∧bf c' w' st'∧gT c' e out)) (bodyPostS P fn c₀ cs fun e u' w'=>u'=jQ pv∧∃ out st' c',R out st'∧Ext c c'∧bf c' w' st'∧gT c' e out)) (List.range' 1 l.length) (Act.put { tmps:=tmps,defers:=[] } o0.dst v) cs' w:=by
  intro v cs' hcs hv
  have post:∀ e (a:Act) (w':World) (x:AX) (fr:Fr) (st':St) (c':Ctx),Ext c c'→bf c' w' st'→cC c' a.tmps fr→a.defers=[]→lY c' e x→bK P fn st R x fr st'→
    bodyPostS P fn c₀ cs (fun e u' w'=>u'=jQ pv∧∃ out st' c',R out st'∧Ext c c'∧bf c' w' st'∧gT c' e out) e a cs' w':=by
   intro e a w' x fr st' c' he hc' hf' hd' hx' hq
   have:=qy hc he hc' hf' hx' hq
   cases e with
   |normal=>
    obtain ⟨v,h1,h2⟩:=this
    exact ⟨hd',_,hcs,v,h1,rfl,h2⟩
   |ret=>
    obtain ⟨v,h1,h2⟩:=this
    exact ⟨hd',_,hcs,v,h1,rfl,h2⟩
   |panic ch=>exact ⟨hd',_,hcs,rfl,this⟩
   |exit i=>exact this.elim
   |goto i=>exact this.elim
   |outgrown=>exact this.elim
  refine kI (fun a w=>?_) l 1 (fun j=>by simp [Nat.add_comm 1 j]) _ _ ?_
  ·rintro ⟨u',_,out,st',c',_,_,_,hE⟩
   cases out<;>exact hE
  ·have hput:cC c (Act.put { tmps:=tmps,defers:=[] } o0.dst v).tmps (upd (dr args) t (x.getD (.d .fD))):=by
    rw [hd0]
    exact hfr.put (by rw [hsz];exact ht) hv
   refine kY (fun e a w' hl=>?_) l _ _ (h c c w _ hc.J8 (Ext.refl c) hc hG hput (by rw [iy];exact hsz) (by rw [put_defers]))
   obtain ⟨x',fr',st',c',hq,he,hc',hf',hs',hd',hx'⟩:=hl
   cases e<;>cases x'<;>simp only [lY] at hx'
   ·refine wpS_of_wp (wp_mono (hq c c' w' a hc.J8 he hc' (by rw [he.w0,he.base];exact hG) hf' hs' hd') ?_)
    rintro e a2 w2 ⟨x2,fr2,st2,c2,hq2,he2,hc2,hf2,hs2,hd2,hx2⟩
    exact post e a2 w2 x2 fr2 st2 c2 he2 hc2 hf2 hd2 hx2 hq2
   ·exact post (.exit _) a w' (.exit _) fr' st' c' he hc' hf' hd' hx' (by exact hq)
   ·exact post .ret a w' .ret fr' st' c' he hc' hf' hd' trivial (by exact hq)
   ·exact post (.panic _) a w' (.dw _) fr' st' c' he hc' hf' hd' hx' (by exact hq)
 unfold wpOpsS
 simp only [List.getElem?_toArray,abm,hwant,if_true,hexec]
 cases pv with
 |none=>
  cases x with
  |some v=>exact hx.elim
  |none=>
   have:recoverD (c₀::cs)=none:=by simp [recoverD,hu,pM]
   rw [this]
   refine key _ _ ?_ (.d _ _ .fD)
   rw [jQ];simp only [pM] at hu;rw [←hu]
 |some p=>
  cases x with
  |none=>exact hx.elim
  |some v=>
   have:recoverD (c₀::cs)=some (p,{ c₀ with mode:=jQ (some p) }::cs):=by simp [recoverD,hu,pM,jQ]
   rw [this]
   exact key _ _ rfl hx
end
def Wk (p:Prop):Prop:=p
def TQ (b:Bool) (X Y:Fr→St→Prop) (f1 f2:Fr) (st:St):Prop:=if b=true then X f1 st else Y f2 st
def oL (b:Bool) (p:Prop):Prop:=b=true∧p
def EP (v:V) (X Y:Fr→St→Prop) (fr:Fr) (st:St):Prop:=match v with
 | .d (.bool b)=>TQ b X Y fr fr st
 |_=>False
def Nk (K:Fr→St→Prop) (fr:Fr) (st:St):Prop:=K fr st
def wQ (P:Program) (g:FuncId):Bool:=match P.funcs[g]? with
 |some fn=>fn.body.isSome&& !(fn.name== "runtime.NumGoroutine")
 |none=>false
def b7 (P:Program) (g:FuncId) (p:Prop):Prop:=(∀ args w,(callFunc g args).run P w= .ok (.enter g args) w)∧p
theorem wR {P:Program} {g:FuncId} (h:wQ P g=true) (args:Array Value) (w:World):(callFunc g args).run P w= .ok (.enter g args) w:=by
 unfold wQ at h
 split at h
 ·rename_i fn hf
  simp only [aaA,Bool.not_eq_true'] at h
  obtain ⟨h1,h2⟩:=h
  have hb:fn.body.isNone=false:=by cases hb:fn.body<;>simp_all
  simp only [callFunc,Sem.run_bind,run_program,Result.andThen_ok,hf,h2,hb,aaS,if_false]
  rfl
 ·cases h
theorem ak {P:Program} {g:FuncId} (h:wQ P g=true) (p:Prop):b7 P g p=p:=propext ⟨fun k=>k.2,fun k=>⟨wR h,k⟩⟩
section
variable (P:Program) (G:World→Nat→Prop) (n:iw) (aC:St)
def dQ (d:Bool) (g:FuncId) (xs:List V) (st:St) (K Kp:V→St→Prop):Prop:=match d with
 |false=>∃ R,aA P G g xs st R∧(∀ v s,R (.ret v) s→K v s)∧(∀ v s,R (.dw v) s→Kp v s)
 |true=>∃ v,aA P G g xs st (fun q s=>q= .ret v∧s=st)∧K v st
def RX (d:Bool) (res:List Nat) (all:Array Oper) (Q:AX→Fr→St→Prop):Option (List Oper×Fr×St)→Prop
 |some ([],fr,st)=>Q .normal fr st
 |some (o::r,fr,st)=>OX P G n aC d res all Q (o::r) fr st
 |none=>False
def RL (d:Bool) (res:List Nat) (all:Array Oper) (Q:AX→Fr→St→Prop) (l:List Oper) (fr:Fr) (st:St):Prop:=RX P G n aC d res all Q (cJ P n all res l fr st)
def KR (d:Bool) (res:List Nat) (all:Array Oper) (Q:AX→Fr→St→Prop) (r:List Oper) (fr:Fr) (dd:Option Tmp) (v:V) (st:St):Prop:=RX P G n aC d res all Q (cJ P n all res r (eC fr dd v) st)
def KP (d:Bool) (Q:AX→Fr→St→Prop) (fr:Fr) (v:V) (st:St):Prop:=oL (!d) (Q (.dw v) fr st)
def OJ (d:Bool) (res:List Nat) (all:Array Oper) (Q:AX→Fr→St→Prop) (o:Oper) (r:List Oper) (fr:Fr) (st:St):Prop:=OX P G n aC d res all Q (o::r) fr st
def GX (d:Bool) (res:List Nat) (all:Array Oper) (Q:AX→Fr→St→Prop) (v:V) (j t:Nat) (l:List Oper) (fr:Fr) (st:St):Prop:=match v with
 | .d (.bool b)=>TQ b (RL P G n aC d (j::res) all Q l) (RL P G n aC d (j::res) all Q l) (upd fr t (.d (.bool true))) (upd fr t (.d (.bool false))) st
 | .cF []=>RX P G n aC d (j::res) all Q (cJ P n all (j::res) l fr st)
 |_=>False
def CV (d:Bool) (res:List Nat) (all:Array Oper) (Q:AX→Fr→St→Prop) (v:V) (args:List Operand) (dd:Option Tmp) (r:List Oper) (fr:Fr) (st:St):Prop:=match v with
 | .jE g cap=>b7 P g (dQ P G d g (args.map (fun o=>(ev fr o).share)++cap) st (KR P G n aC d res all Q r fr dd) (KP d Q fr))
 |_=>False
def PV (d:Bool) (Q:AX→Fr→St→Prop) (v:V) (fr:Fr) (st:St):Prop:=match v with
 | .d (.iface t y)=>oL (!d) (Q (.dw (.d (.iface t y))) fr st)
 |_=>False
def CX (d:Bool) (res:List Nat) (all:Array Oper) (Q:AX→Fr→St→Prop) (o:Oper) (r:List Oper) (fr:Fr) (st:St):Prop:=match o.op with
 | .call { callee:= .value x,args,.. }=>oL (decide (goes all o fr=some true)) (oL (fC n o.dst) (CV P G n aC d res all Q (ev fr x) args.toList o.dst r fr st))
 | .panic x=>oL (decide (goes all o fr=some true)) (PV d Q (ev fr x) fr st)
 |_=>False
def GD (d:Bool) (res:List Nat) (all:Array Oper) (Q:AX→Fr→St→Prop) (t:Option Tmp) (j:Nat) (o:Oper) (r:List Oper) (fr:Fr) (st:St):Prop:=match t with
 |some t=>GX P G n aC d res all Q (fr t) j t (o::r) fr st
 |none=>False
def HX (d:Bool) (res:List Nat) (all:Array Oper) (Q:AX→Fr→St→Prop) (o:Oper) (r:List Oper) (fr:Fr) (st:St):Prop:=match o.guard with
 |none=>CX P G n aC d res all Q o r fr st
 |some (j,_)=>if res.contains j=true then CX P G n aC d res all Q o r fr st else GD P G n aC d res all Q ((all[j]?).bind (·.dst)) j o r fr st
def QX (b:Bool) (Q:AX→Fr→St→Prop) (j:Nat) (fr:Fr) (st:St):Prop:=if b=true then Q .normal fr st else Q (.exit j) fr st
def SW:Code→(AX→Fr→St→Prop)→Fr→St→Prop
 | .seq x y,Q,fr,st=>SW x (bz (SW y Q) Q) fr st
 | .block id x,Q,fr,st=>SW x (aY id Q) fr st
 | .scope x,Q,fr,st=>SW x Q fr st
 | .skip,Q,fr,st=>Q .normal fr st
 | .label _,Q,fr,st=>Q .normal fr st
 | .exit i,Q,fr,st=>Q (.exit i) fr st
 | .ret,Q,fr,st=>Q .ret fr st
 | .cond o x y,Q,fr,st=>EP (ev fr o) (SW x Q) (SW y Q) fr st
 | .region id ops false,Q,fr,st=>RX P G n aC false [] ops Q (cJ P n ops [] ops.toList fr st)
 |c,Q,fr,st=>AW P G n aC c Q fr st
end
section
variable {P:Program} {G:World→Nat→Prop} {n:iw} {aC:St} {Q:AX→Fr→St→Prop} {fr:Fr} {st:St} {d:Bool} {res:List Nat} {all:Array Oper}
theorem RX.sound {l:List Oper} (h:RX P G n aC d res all Q (cJ P n all res l fr st)):OX P G n aC d res all Q l fr st:=by
 cases hr:cJ P n all res l fr st with
 |none=>rw [hr] at h;exact h.elim
 |some x=>
  obtain ⟨l',fr',st'⟩:=x
  rw [hr] at h
  refine OX.run hr ?_
  cases l' with
  |nil=>exact OX.nil h
  |cons o r=>exact h
theorem mg {b:Bool} {p:Prop} (h:oL b p):b=true∧p:=h
theorem CX.sound {o:Oper} {r:List Oper} (h:CX P G n aC d res all Q o r fr st):OX P G n aC d res all Q (o::r) fr st:=by
 obtain ⟨dd,op,ty,pos,after,gd⟩:=o
 unfold CX at h
 split at h
 ·rename_i x args ats hop
  simp only at hop
  subst hop
  obtain ⟨h1,h2,h3⟩:=h
  have h1:=of_decide_eq_true h1
  unfold CV at h3
  split at h3
  ·rename_i g cap hcl
   obtain ⟨h4,h5⟩:=h3
   have hcall:=h4
   cases d with
   |false=>
    obtain ⟨R,hA,hr,hp⟩:=h5
    refine OW.call h1 hcl hcall h2 (hA.mono ?_)
    rintro (v|v) s hR
    ·exact (RX.sound (d:=false) (hr v s hR):_)
    ·exact (hp v s hR).2
   |true=>
    obtain ⟨v,hA,hk⟩:=h5
    exact OX.call hcall hcl h1 h2 rfl hA (RX.sound hk)
  ·exact h3.elim
 ·rename_i x hop
  simp only at hop
  subst hop
  obtain ⟨h1,h2⟩:=h
  have h1:=of_decide_eq_true h1
  unfold PV at h2
  split at h2
  ·rename_i t y hx
   obtain ⟨h3,h4⟩:=h2
   cases d with
   |false=>exact OX.panic rfl h1 hx h4
   |true=>cases h3
  ·exact h2.elim
 ·exact h.elim
theorem GX.sound {j t:Nat} {l:List Oper} (h:GX P G n aC d res all Q (fr t) j t l fr st):OX P G n aC d res all Q l fr st:=by
 unfold GX at h
 split at h
 ·rename_i b hb
  unfold TQ at h
  split at h
  ·rename_i hbt
   subst hbt
   rw [pJ hb] at h
   exact RX.sound (res:=j::res) h
  ·rename_i hbf
   rw [Bool.not_eq_true] at hbf
   subst hbf
   rw [pJ hb] at h
   exact RX.sound (res:=j::res) h
 ·exact RX.sound (res:=j::res) h
 ·exact h.elim
theorem HX.sound {o:Oper} {r:List Oper} (h:HX P G n aC d res all Q o r fr st):OX P G n aC d res all Q (o::r) fr st:=by
 unfold HX at h
 split at h
 ·exact h.sound
 ·split at h
  ·exact h.sound
  ·unfold GD at h
   split at h
   ·exact h.sound
   ·exact h.elim
theorem SW.sound:∀ (c:Code) {Q:AX→Fr→St→Prop} {fr:Fr} {st:St},SW P G n aC c Q fr st→AW P G n aC c Q fr st
 | .seq x y,Q,fr,st,h=>by
  refine AW.seq ((SW.sound x h).mono fun e fr' st' hx=>?_)
  cases e with
  |normal=>exact SW.sound y hx
  |_=>exact hx
 | .block id x,Q,fr,st,h=>AW.block (SW.sound x h)
 | .scope x,Q,fr,st,h=>AW.scope (SW.sound x h)
 | .skip,Q,fr,st,h=>AW.skip h
 | .label _,Q,fr,st,h=>AW.label h
 | .exit i,Q,fr,st,h=>AW.exit h
 | .ret,Q,fr,st,h=>AW.ret h
 | .cond o x y,Q,fr,st,h=>by
  unfold SW EP at h
  split at h
  ·rename_i b hb
   refine AW.cond hb ?_
   unfold TQ at h
   split at h
   ·rename_i hbt;rw [if_pos hbt];exact SW.sound x h
   ·rename_i hbf;rw [if_neg hbf];exact SW.sound y h
  ·exact h.elim
 | .region id ops false,Q,fr,st,h=>by
  have:=RX.sound (show RX P G n aC false [] ops Q (cJ P n ops [] ops.toList fr st) from h)
  have e:AW P G n aC (.region id ops.toList.toArray false) Q fr st:=AW.region (by simpa using (show OW P G n aC ops Q ops.toList fr st from this))
  simpa using e
 | .region id ops true,Q,fr,st,h=>h
 | .loop x,Q,fr,st,h=>h
 | .rangeFunc a b c e,Q,fr,st,h=>h
 | .goto l,Q,fr,st,h=>h
 | .refuse s,Q,fr,st,h=>h
class Pl (Q:AX→Fr→St→Prop) (e:AX) (fr:Fr) (st:St) (p:outParam Prop):Prop where
 h:p→Q e fr st
class Qg (i j:Nat):Prop where
 h:i≠j
instance (priority:=low) VD {e:AX}:Pl Q e fr st (Q e fr st):=⟨id⟩
instance XZ {K:Fr→St→Prop}:Pl (bz K Q) .normal fr st (K fr st):=⟨id⟩
instance X0 {K:Fr→St→Prop} {p:Prop} [k:Pl Q .ret fr st p]:Pl (bz K Q) .ret fr st p:=⟨k.h⟩
instance X1 {K:Fr→St→Prop} {p:Prop} {i:Nat} [k:Pl Q (.exit i) fr st p]:Pl (bz K Q) (.exit i) fr st p:=⟨k.h⟩
instance X2 {K:Fr→St→Prop} {p:Prop} {v:V} [k:Pl Q (.dw v) fr st p]:Pl (bz K Q) (.dw v) fr st p:=⟨k.h⟩
instance X3 {p:Prop} {i:Nat} [k:Pl Q .normal fr st p]:Pl (aY i Q) .normal fr st p:=⟨k.h⟩
instance X4 {p:Prop} {i:Nat} [k:Pl Q .ret fr st p]:Pl (aY i Q) .ret fr st p:=⟨k.h⟩
instance X5 {p:Prop} {i:Nat} {v:V} [k:Pl Q (.dw v) fr st p]:Pl (aY i Q) (.dw v) fr st p:=⟨k.h⟩
instance X6 {p:Prop} {i:Nat} [k:Pl Q .normal fr st p]:Pl (aY i Q) (.exit i) fr st p:=⟨fun h=>by simp only [aY,if_true];exact k.h h⟩
instance X7 {p:Prop} {i j:Nat} [ne:Qg j i] [k:Pl Q (.exit j) fr st p]:Pl (aY i Q) (.exit j) fr st p:=⟨fun h=>by simp only [aY,if_neg ne.h];exact k.h h⟩
instance X8 {i j:Nat} [h:Qg i j]:Qg (i+1) (j+1):=⟨fun e=>h.h (Nat.succ.inj e)⟩
instance X9 {j:Nat}:Qg 0 (j+1):=⟨by omega⟩
instance Ya {j:Nat}:Qg (j+1) 0:=⟨by omega⟩
theorem Wk.aw {c:Code} (h:∀ Q',Q'=Q→Wk (SW P G n aC c Q' fr st)):AW P G n aC c Q fr st:=SW.sound c (h Q rfl)
theorem Wk.q {Q':AX→Fr→St→Prop} {e:AX} {p:Prop} (hQ:Q'=Q) [k:Pl Q e fr st p] (h:p):Q' e fr st:=by subst hQ;exact k.h h
theorem Wk.sw {c:Code} (h:∀ Q',Q'=Q→Wk (SW P G n aC c Q' fr st)):SW P G n aC c Q fr st:=h _ rfl
theorem Wk.i {p:Prop} (h:Wk p):Wk p:=h
theorem Wk.o {p:Prop} (h:p):Wk p:=h
theorem Wk.k {K:Fr→St→Prop} (h:K fr st):Wk (Nk K fr st):=h
theorem Wk.bl {i:Nat} {x:AX} (h:Wk (aY i Q x fr st)):aY i Q x fr st:=h
theorem Wk.hd {o:Oper} {r:List Oper} (h:Wk (HX P G n aC d res all Q o r fr st)):Wk (OJ P G n aC d res all Q o r fr st):=HX.sound h
theorem Wk.rnd {body:Code} {k:Nat} (h:∀ Q',Q'=bz (bO P G n aC body Q k) Q→Wk (SW P G n aC body Q' fr st)):bO P G n aC body Q (k+1) fr st:=SW.sound body (h _ rfl)
theorem Wk.drawn (hm:P.follows .mixedOrders=true) {id:Nat} {l:List Oper} (hok:fM l [] [] l.length=true) (h:Wk (RX P G n aC true [] l.toArray Q (cJ P n l.toArray [] l fr st))):Wk (AW P G n aC (.region id l.toArray true) Q fr st):=
 AW.drawn hm hok (RX.sound (d:=true) h)
theorem ah {g:FuncId} {xs:List V} {v:V} {K Kp:V→St→Prop} (h:aA P G g xs st (fun q s=>q= .ret v∧s=st)) (k:Wk (K v st)):Wk (dQ P G d g xs st K Kp):=by
 cases d
 ·exact ⟨_,h,by rintro v s ⟨hv,rfl⟩;cases hv;exact k,by rintro v s ⟨hv,_⟩;cases hv⟩
 ·exact ⟨v,h,k⟩
theorem aW {g:FuncId} {xs:List V} {v:V} {st':St} {K Kp:V→St→Prop} (h:aA P G g xs st (fun q s=>q= .ret v∧s=st')) (k:Wk (K v st')):Wk (dQ P G false g xs st K Kp):=
 ⟨_,h,by rintro v s ⟨hv,rfl⟩;cases hv;exact k,by rintro v s ⟨hv,_⟩;cases hv⟩
theorem cA {g:FuncId} {xs:List V} {v:V} {st':St} {K Kp:V→St→Prop} (h:aA P G g xs st (fun q s=>q= .dw v∧s=st')) (k:Wk (Kp v st')):Wk (dQ P G false g xs st K Kp):=
 ⟨_,h,(by rintro v s ⟨hv,_⟩;cases hv),(by rintro v s ⟨hv,rfl⟩;cases hv;exact k)⟩
class Sp (b:Bool) (p q:outParam Prop):Prop where
 t:b=true→p
 f:b=false→q
instance YN (b:Bool):Sp b (b=true) (b=false):=⟨id,id⟩
instance YO (b:Bool):Sp (!b) (b=false) (b=true):=⟨by simp,by simp⟩
instance YP (p:Prop) [Decidable p]:Sp (decide p) p (¬ p):=⟨of_decide_eq_true,of_decide_eq_false⟩
theorem ay {b:Bool} {p q:Prop} {X Y:Fr→St→Prop} {f1 f2:Fr} [s:Sp b p q] (h1:p→Wk (X f1 st)) (h2:q→Wk (Y f2 st)):Wk (TQ b X Y f1 f2 st):=by
 cases b
 ·exact h2 (s.f rfl)
 ·exact h1 (s.t rfl)
def aQ (R:Out→St→Prop) (st:St) (v:V):Prop:=R (.ret v) st
def Ld (R:Out→St→Prop) (st:St) (v:V):Prop:=oL (v.within st.aj.length st.toks.length) (aQ R st v)
def Ie (R:Out→St→Prop) (st:St) (o:Option (List V)):Prop:=match o with
 |some l=>Ld R st (eD l).share
 |none=>False
def wS (P:Program) (fn:Func) (st:St) (R:Out→St→Prop) (fr:Fr) (st':St):Prop:=st'.aj.take st.aj.length=st.aj∧st'.toks.take st.toks.length=st.toks∧Ie R st (eT P fr st' fn.results.toList)
theorem Wk.ret {fn:Func} {R:Out→St→Prop} {st':St} (h:∀ R',R'=R→Wk (wS P fn st R' fr st')):bK P fn st R .ret fr st':=by
 obtain ⟨h1,h2,h3⟩:=h R rfl
 unfold Ie at h3
 split at h3
 ·rename_i l hl
  exact uT h1 h2 hl rfl h3.1 h3.2
 ·exact h3.elim
theorem Wk.fin {R R':Out→St→Prop} {v:V} (hR:R'=R) (h:R (.ret v) st):Wk (aQ R' st v):=by subst hR;exact h
end
section
variable (P:Program) (G:World→Nat→Prop) (n:iw) (aC:St) (Q:AX→Fr→St→Prop) (fr:Fr) (st:St) (d:Bool) (res:List Nat) (all:Array Oper) (K:Fr→St→Prop) (X Y:Fr→St→Prop)
theorem VE (g:Fr):TQ true X Y fr g st=X fr st:=by simp [TQ]
theorem VF (g:Fr):TQ false X Y fr g st=Y g st:=by simp [TQ]
theorem Nl (p:Prop):oL true p=p:=by simp [oL]
theorem OL (b:Bool):EP (.d (.bool b)) X Y fr st=TQ b X Y fr fr st:=rfl
theorem Ig (x y:Code):SW P G n aC (.seq x y) Q fr st=SW P G n aC x (bz (SW P G n aC y Q) Q) fr st:=rfl
theorem yM (i:Nat) (x:Code):SW P G n aC (.block i x) Q fr st=SW P G n aC x (aY i Q) fr st:=rfl
theorem C1:SW P G n aC .skip Q fr st=Q .normal fr st:=rfl
theorem C2 (i:Nat):SW P G n aC (.exit i) Q fr st=Q (.exit i) fr st:=rfl
theorem Ih:SW P G n aC .ret Q fr st=Q .ret fr st:=rfl
theorem C3 (o:Operand) (x y:Code):SW P G n aC (.cond o x y) Q fr st=EP (ev fr o) (SW P G n aC x Q) (SW P G n aC y Q) fr st:=rfl
theorem uX (id:Nat) (l:List Oper):SW P G n aC (.region id l.toArray false) Q fr st=RX P G n aC false [] l.toArray Q (cJ P n l.toArray [] l fr st):=rfl
theorem yO (id:Nat) (l:Array Oper):SW P G n aC (.region id l true) Q fr st=AW P G n aC (.region id l true) Q fr st:=rfl
theorem C4 (x:Code):SW P G n aC (.loop x) Q fr st=AW P G n aC (.loop x) Q fr st:=rfl
theorem OM:RX P G n aC d res all Q (some ([],fr,st))=Q .normal fr st:=rfl
theorem Le (o:Oper) (r:List Oper):RX P G n aC d res all Q (some (o::r,fr,st))=OJ P G n aC d res all Q o r fr st:=rfl
theorem Lf (dd op ty pos af) (r:List Oper):HX P G n aC d res all Q ⟨dd,op,ty,pos,af,none⟩ r fr st=CX P G n aC d res all Q ⟨dd,op,ty,pos,af,none⟩ r fr st:=rfl
def HG (b:Bool) (j:Nat) (o:Oper) (r:List Oper):Prop:=if b=true then CX P G n aC d res all Q o r fr st else GD P G n aC d res all Q ((all[j]?).bind (·.dst)) j o r fr st
theorem Lg (dd op ty pos af) (j:Nat) (b:Bool) (r:List Oper):HX P G n aC d res all Q ⟨dd,op,ty,pos,af,some (j,b)⟩ r fr st=HG P G n aC Q fr st d res all (ask res (some (j,b))) j ⟨dd,op,ty,pos,af,some (j,b)⟩ r:=rfl
theorem VG (j:Nat) (o:Oper) (r:List Oper):HG P G n aC Q fr st d res all true j o r=CX P G n aC d res all Q o r fr st:=by simp [HG]
theorem VH (j:Nat) (o:Oper) (r:List Oper):HG P G n aC Q fr st d res all false j o r=GD P G n aC d res all Q ((all[j]?).bind (·.dst)) j o r fr st:=by simp [HG]
theorem Lh (t j:Nat) (o:Oper) (r:List Oper):GD P G n aC d res all Q (some t) j o r fr st=GX P G n aC d res all Q (fr t) j t (o::r) fr st:=rfl
theorem VI (b:Bool) (j t:Nat) (l:List Oper):GX P G n aC d res all Q (.d (.bool b)) j t l fr st=TQ b (RL P G n aC d (j::res) all Q l) (RL P G n aC d (j::res) all Q l) (upd fr t (.d (.bool true))) (upd fr t (.d (.bool false))) st:=rfl
theorem QZ (l:List Oper):RL P G n aC d res all Q l fr st=RX P G n aC d res all Q (cJ P n all res l fr st):=rfl
theorem Q0 (l:List Oper) (dd:Option Tmp) (v:V):KR P G n aC d res all Q l fr dd v st=RX P G n aC d res all Q (cJ P n all res l (eC fr dd v) st):=rfl
theorem VJ (j t:Nat) (l:List Oper):GX P G n aC d res all Q (.cF []) j t l fr st=RX P G n aC d (j::res) all Q (cJ P n all (j::res) l fr st):=rfl
theorem Li (dd ty pos af gd) (x:Operand) (args ats) (r:List Oper):CX P G n aC d res all Q ⟨dd,.call ⟨.value x,args,ats⟩,ty,pos,af,gd⟩ r fr st=oL (decide (goes all ⟨dd,.call ⟨.value x,args,ats⟩,ty,pos,af,gd⟩ fr=some true)) (oL (fC n dd) (CV P G n aC d res all Q (ev fr x) args.toList dd r fr st)):=rfl
theorem OO (g:FuncId) (cap:List V) (args:List Operand) (dd:Option Tmp) (r:List Oper):CV P G n aC d res all Q (.jE g cap) args dd r fr st=b7 P g (dQ P G d g (args.map (fun o=>(ev fr o).share)++cap) st (KR P G n aC d res all Q r fr dd) (KP d Q fr)):=rfl
theorem VL:bz K Q .normal fr st=Nk K fr st:=rfl
theorem VM:bz K Q .ret fr st=Q .ret fr st:=rfl
theorem VN (i:Nat):bz K Q (.exit i) fr st=Q (.exit i) fr st:=rfl
theorem apK_sw (y:Code):Nk (SW P G n aC y Q) fr st=SW P G n aC y Q fr st:=rfl
theorem VP (i:Nat):aY i Q .normal fr st=Q .normal fr st:=rfl
theorem VQ (i:Nat):aY i Q .ret fr st=Q .ret fr st:=rfl
theorem VS (i j:Nat):aY i Q (.exit j) fr st=QX (j==i) Q j fr st:=by simp [aY,QX]
theorem Q1 (j:Nat):QX true Q j fr st=Q .normal fr st:=by simp [QX]
theorem Lj (fn:Func) (s:St) (R:Out→St→Prop):wS P fn s R fr st=(st.aj.take s.aj.length=s.aj∧st.toks.take s.toks.length=s.toks∧Ie R s (eT P fr st fn.results.toList)):=rfl
theorem ER (R:Out→St→Prop) (l:List V):Ie R st (some l)=Ld R st (eD l).share:=rfl
theorem Ll (R:Out→St→Prop) (v:V):Ld R st v=oL (v.within st.aj.length st.toks.length) (aQ R st v):=rfl
end
attribute [irreducible] b7 RL KR KP Wk TQ oL EP Nk RX OJ GX CV PV CX GD HX HG QX SW dQ aQ Ld Ie wS
attribute [go_sem] VE VF Nl OL Ig yM C1 C2 Ih C3 uX yO C4 OM Le Lf Lg VG VH Lh VI QZ Q0 VJ Li OO VL VM VN apK_sw VP VQ VS Q1 Lj ER Ll
theorem yP (sz:Nat):cr sz []=true:=rfl
theorem wU (sz:Nat) (r:List D) (es:List (List D)):cr sz (r::es)=(r.length==sz&&cr sz es):=rfl
theorem Q3 (r:List D) (es:List (List D)):wI true (r::es) 0=some (.ep r 0):=by rw [Bo (by omega) (by simp)];rfl
theorem Q4 (r:List D) (es:List (List D)) (i:Int) (h:0<i):wI true (r::es) i=wI true es (i - 1):=by
 obtain ⟨k,rfl⟩:∃ k:Nat,i=(k:Int)+1:=⟨(i - 1).toNat,by omega⟩
 have e1:((k:Int)+1).toNat=k+1:=by omega
 have e2:((k:Int)+1 - 1).toNat=k:=by omega
 have e3:((k:Int)+1 - 1)=k:=by omega
 by_cases hk:k<es.length
 ·rw [Bo (by omega) (by rw [e1];simpa using hk),Bo (by omega) (by rw [e2];exact hk),e1,e2];rfl
 ·simp [wI,e3,e1,hk]
attribute [go_sem] Q3 Q4 yP wU
end Go.Abs
end
section
namespace Go.Proofs.YtgclflkhpkdecaaGreatDoor
open Tryz
open Go.Abs
theorem mx:Tryz.prog.follows .mixedOrders=true:=Tryz.checked.mixed
theorem en4 (p:Prop):b7 prog 4 p=p:=ak (by kernel_rfl) p
theorem en5 (p:Prop):b7 prog 5 p=p:=ak (by kernel_rfl) p
theorem en6 (p:Prop):b7 prog 6 p=p:=ak (by kernel_rfl) p
theorem en7 (p:Prop):b7 prog 7 p=p:=ak (by kernel_rfl) p
theorem en8 (p:Prop):b7 prog 8 p=p:=ak (by kernel_rfl) p
theorem YQ (p:Prop):b7 prog 9 p=p:=ak (by kernel_rfl) p
theorem VX (p:Prop):b7 prog 10 p=p:=ak (by kernel_rfl) p
theorem VY (p:Prop):b7 prog 11 p=p:=ak (by kernel_rfl) p
theorem VZ (p:Prop):b7 prog 12 p=p:=ak (by kernel_rfl) p
theorem V1 (p:Prop):b7 prog 15 p=p:=ak (by kernel_rfl) p
theorem V2 (p:Prop):b7 prog 16 p=p:=ak (by kernel_rfl) p
theorem en17 (p:Prop):b7 prog 17 p=p:=ak (by kernel_rfl) p
theorem V3 (p:Prop):b7 prog 18 p=p:=ak (by kernel_rfl) p
theorem Wd (p:Prop):b7 prog 31 p=p:=ak (by kernel_rfl) p
theorem Wg (p:Prop):b7 prog 35 p=p:=ak (by kernel_rfl) p
theorem Wq (p:Prop):b7 prog 46 p=p:=ak (by kernel_rfl) p
theorem WT (p:Prop):b7 prog 77 p=p:=ak (by kernel_rfl) p
theorem WU (p:Prop):b7 prog 78 p=p:=ak (by kernel_rfl) p
theorem WV (p:Prop):b7 prog 79 p=p:=ak (by kernel_rfl) p
theorem WW (p:Prop):b7 prog 80 p=p:=ak (by kernel_rfl) p
theorem W4 (p:Prop):b7 prog 84 p=p:=ak (by kernel_rfl) p
theorem en145 (p:Prop):b7 prog 145 p=p:=ak (by kernel_rfl) p
theorem RN (p:Prop):b7 prog 146 p=p:=ak (by kernel_rfl) p
theorem en147 (p:Prop):b7 prog 147 p=p:=ak (by kernel_rfl) p
theorem en148 (p:Prop):b7 prog 148 p=p:=ak (by kernel_rfl) p
theorem RO (p:Prop):b7 prog 149 p=p:=ak (by kernel_rfl) p
theorem SK (p:Prop):b7 prog 213 p=p:=ak (by kernel_rfl) p
theorem SO (p:Prop):b7 prog 217 p=p:=ak (by kernel_rfl) p
theorem en307 (p:Prop):b7 prog 307 p=p:=ak (by kernel_rfl) p
theorem en308 (p:Prop):b7 prog 308 p=p:=ak (by kernel_rfl) p
attribute [go_sem] en4 en5 en6 en7 en8 YQ VX VY VZ V1 V2 en17 V3 Wd Wg Wq WT WU WV WW W4 en145 RN en147 en148 RO SK SO en307 en308 results3 results4 results5 results6 results7 results8 results9 results10 results11 results12 results13 results14 results15 results16 results17 results18 results19 results20 results21 results22 results23 results24 results25 results26 results27 results28 results29 results30 results31 results32 results34 results35 results36 results37 results38 results39 results40 results41 results42 results43 results44 results45 results46 results47 results48 results49 results51 results52 results53 results54 results55 results56 results57 results58 results59 results60 results61 results62 results63 results64 results65 results66 results67 results68 results69 results70 results71 results72 results73 results74 results75 results76 results77 results78 results79 results80 results81 results82 results83 results84 results85 results86 results87 results88 results89 results90 results91 results92 results93 results95 results96 results97 results98 results99 results100 results101 results102 results103 results104 results105 results106 results107 results108 results109 results110 results111 results112 results113 results114 results115 results116 results117 results118 results119 results120 results121 results122 results123 results124 results125 results126 results127 results128 results129 results130 results131 results132 results133 results134 results135 results136 results137 results138 results139 results140 results141 results142 results143 results144 results145 results146 results147 results148 results149 results150 results151 results152 results153 results154 results155 results156 results157 results158 results159 results160 results161 results163 results164 results165 results166 results167 results168 results169 results170 results171 results172 results173 results174 results175 results176 results177 results178 results179 results180 results181 results182 results183 results184 results185 results186 results187 results188 results189 results190 results191 results192 results193 results194 results195 results196 results197 results198 results199 results200 results201 results202 results203 results204 results205 results206 results207 results208 results209 results210 results211 results212 results213 results214 results215 results216 results217 results218 results219 results220 results221 results222 results223 results224 results225 results226 results227 results228 results229 results230 results231 results232 results233 results234 results235 results236 results237 results238 results239 results240 results241 results242 results243 results244 results245 results246 results247 results248 results249 results250 results251 results252 results253 results254 results255 results256 results257 results258 results259 results260 results261 results262 results263 results264 results265 results266 results267 results268 results269 results270 results271 results272 results273 results274 results275 results276 results277 results278 results279 results280 results281 results282 results283 results284 results285 results286 results287 results288 results289 results290 results291 results292 results293 results294 results295 results296 results297 results299 results300 results301 results302 results303 results304 results305 results306 results307 results308 results309 results310 results311 results312 results313 results314 results315 results316 results317 results318 results319 results320 results321 results322 results323 results324 results325 results326 results327 results328 results329 results330 results331 results332 results333 results334 results335 results336 results337 results338 results339 results340 results341 results342 results343 results344 results345 results346 results347 results348 results349 results350 results351 results352 results353 results354 results355 results356 results357 results358 results359 results360 results361 results362 results363 results364 results365 results366 results367 results368 results369 results370 results371 results372 results373 results374 results375 results376 results377 results378 results379 results380 results381 results382 results383 results384 results385 results386 results387 results388 results389 results390 results391 results392 results393 results394 results395 results396 results397 results398 results399 results400 results401 results402 results403 results404 results405 results406 results407 results408 results409 results410 results411 results412 results413 results414 results415 results416 results417 results418 results419 results420 results421 results422 results423 results424 results425 results426 results427 results428 results429 results430 results431 results432 results433 results434 results435 results436 results437 results438 results439 results440 results441 results442 results443 results444 results445 results446 results447 results448 results449 results450 results451 results452 results453 results454 results455 results456 results457 results458 results459 results460 results461 results462 results463 results464 results465 results466 results467 results468 results469 results470 results471 results472 results473 results474 results475 results476 results477 results478 results479 results480 results481 results482 results483 results484 results485 results486 results487 results488 results489 results490 results491 results492 results493 results494 results495 results496 results497 results498 results499 results500 results501 results502 results503 results504 results505 results506 results507 results508 results509 results510 results511 results512 results514 results515 results516 results517 results518 results519 results520 results521 results522 results523 results524 results525 results526 results527 results528 results560 Int.cast_ofNat_Int
abbrev int (n:Int):D:= .int .i64 n
abbrev ai (n:Int):V:= .d (.int .i64 n)
def bt (l:List az):List (List D):=l.map fun k=>[.str k]
def aX.enc:aX→List D
 | .mk k b i s l ks=>[Abs.D.int .i64 k,.bool b,Abs.D.int .i64 i,.str s,.sl (oM l),.sl (bt ks)]
where oM:List aX→List (List D)
 |[]=>[]
 |v::r=>v.enc::oM r
def Ex.enc:Ex→List D
 | .mk k nm v ar ks=>[Abs.D.int .i64 k,.str nm]++v.enc++[.sl (oM ar),.sl (bt ks)]
where oM:List Ex→List (List D)
 |[]=>[]
 |v::r=>v.enc::oM r
def Tk.enc (t:Tk):List D:=[Abs.D.int .i64 t.kind,.str t.text,Abs.D.int .i64 t.at_]
theorem aX.mh (l:List aX):aX.enc.oM l=l.map aX.enc:=by induction l<;>simp_all [aX.enc.oM]
theorem Ex.mh (l:List Ex):Ex.enc.oM l=l.map Ex.enc:=by induction l<;>simp_all [Ex.enc.oM]
theorem aX.aP (v:aX):v.enc=[Abs.D.int .i64 v.kind,.bool v.bool,Abs.D.int .i64 v.int,.str v.str,.sl (v.list.map aX.enc),.sl (bt v.keys)]:=by
 cases v;simp [aX.enc,aX.mh,aX.kind,aX.bool,aX.int,aX.str,aX.list,aX.keys]
theorem Ex.aP (e:Ex):e.enc=[Abs.D.int .i64 e.kind,.str e.name]++e.value.enc++[.sl (e.args.map Ex.enc),.sl (bt e.keys)]:=by
 cases e;simp [Ex.enc,Ex.mh,Ex.kind,Ex.name,Ex.value,Ex.args,Ex.keys]
theorem aX.dN (v:aX):v.enc.length=6:=by rw [aX.aP];rfl
theorem Ex.dN (e:Ex):e.enc.length=10:=by rw [Ex.aP];simp [aX.dN]
theorem Tk.dN (t:Tk):t.enc.length=3:=rfl
def vE (e:Ex):V:= .agg (e.enc.map .d)
def vV (v:aX):V:= .agg (v.enc.map .d)
theorem Ik (v:aX):(vV v).cells=some (v.enc.map .d):=rfl
theorem YV (v:aX):(v.enc)[4]?=some (.sl (v.list.map aX.enc)):=by rw [aX.aP];rfl
theorem YW (v:aX):(v.enc)[5]?=some (.sl (bt v.keys)):=by rw [aX.aP];rfl
theorem ES (l:List D) (i:Nat):(l.map V.d)[i]?=(l[i]?).map .d:=by simp
theorem ZJ {α:Type} (f:α→List D) (sz:Nat) (h:∀ x,(f x).length=sz) (l:List α):cr sz (l.map f)=true:=by simp [cr,h]
theorem EW (l:List az):cr 1 (bt l)=true:=ZJ (fun k=>[D.str k]) 1 (fun _=>rfl) l
@[simp] theorem iP (l:List az):(bt l).length=l.length:=by simp [bt]
theorem ia22 (es:List (List D)) (k:IntKind) (i:Int):aI prog 22 (.d (.sl es)) (.d (.int k i))=wI (cr 39 es) es i:=di T.sl22 es k i
attribute [go_sem] ia22
theorem ia31 (es:List (List D)) (k:IntKind) (i:Int):aI prog 31 (.d (.sl es)) (.d (.int k i))=wI (cr 1 es) es i:=di T.sl31 es k i
attribute [go_sem] ia31
theorem Xk (es:List (List D)) (k:IntKind) (i:Int):aI prog 42 (.d (.sl es)) (.d (.int k i))=wI (cr 1 es) es i:=di T.QH es k i
attribute [go_sem] Xk
theorem Y7 {l:List az} {i:Int} (h0:0≤i) (h1:i.toNat<l.length):wI true (bt l) i=some (.ep [.str (l.getD i.toNat default)] 0):=CY (f:=fun k=>[D.str k]) h0 h1
attribute [go_sem] Y7
attribute [go_sem] Ik YV YW ES aX.dN Ex.dN Tk.dN EW iP
end Go.Proofs.YtgclflkhpkdecaaGreatDoor
end
section
set_option maxHeartbeats 8000000
namespace Go.Proofs.YtgclflkhpkdecaaGreatDoor
open Tryz
open Go.Abs
attribute [local irreducible] AW OX GQ bK bO bz aY aA
variable {G:World→Nat→Prop}
abbrev vb (b:Bool):V:= .d (.bool b)
abbrev vs (s:az):V:= .d (.str s)
abbrev vc (c:UInt8):V:= .d (.int .u8 c.toNat)
abbrev b8 (G:World→Nat→Prop) (f:FuncId) (args:List V) (v:V):Prop:=∀ st,aA prog G f args st (fun o s=>o= .ret v∧s=st)
theorem aO {a b:Bool} (h:a=true↔b=true):Out.ret (V.d (D.bool a))=Out.ret (V.d (D.bool b)):=by rw [Bool.eq_iff_iff.2 h]
theorem bA {k:IntKind} {a b:Int} (h:a=b):Out.ret (V.d (D.int k a))=Out.ret (V.d (D.int k b)):=by rw [h]
theorem uj (c:UInt8):b8 G 84 [vc c] (vb (isDigit c)):=by
 intro st
 refine aA.body func84 rfl ntmps84 (by simp) ?_
 (try refine Wk.aw fun _ ag=>?_);(repeat' (first|((first|refine Wk.hd ?_|refine Wk.i ?_);simp -implicitDefEqProofs only [go_sem,seval])|(refine ay (fun hc=>?_) (fun hc=>?_)<;>try omega)|refine Wk.ret fun _ _=>?_|(refine Wk.fin ‹_› ?_;refine ⟨?_,rfl⟩)|first|refine Wk.o ?_|refine Wk.q ‹_› ?_));all_goals (repeat subst ag)
 all_goals (refine aO ?_;simp only [isDigit,aaH,reduceCtorEq,iff_false,false_iff,iff_true,true_iff];omega)
end Go.Proofs.YtgclflkhpkdecaaGreatDoor
end
section
namespace Go.Proofs
open Go.Shelf
end Go.Proofs
end
section
set_option maxHeartbeats 8000000
namespace Go.Proofs.YtgclflkhpkdecaaGreatDoor
open Tryz
open Go.Abs
attribute [local irreducible] AW OX GQ bK bO bz aY aA
variable {G:World→Nat→Prop}
structure yR (G:World→Nat→Prop) (g:FuncId) (cls:UInt8→Bool):Prop where
 call:∀ args w,(callFunc g args).run prog w= .ok (.enter g args) w
 Y8:∀ b,b8 G g [vc b] (vb (cls b))
def fA (cls:UInt8→Bool) (s:az) (i:Nat):Nat:=
 if i<s.length then if cls (s.getD i 0) then fA cls s (i+1) else i else i
termination_by s.length - i
end Go.Proofs.YtgclflkhpkdecaaGreatDoor
end
section
set_option maxHeartbeats 8000000
set_option maxRecDepth 20000
namespace Go.Proofs.YtgclflkhpkdecaaGreatDoor
open Tryz
open Go.Abs
attribute [local irreducible] AW OX GQ bK bO bz aY aA
variable {G:World→Nat→Prop}
theorem drop_cons {s:az} {i:Nat} (h:i<s.length):s.drop i=s.getD i 0::s.drop (i+1):=by
 rw [List.drop_eq_getElem_cons h];simp [aat,h]
theorem jH (cls:UInt8→Bool) (s:az) (i:Nat):fA cls s i=i+((s.drop i).takeWhile cls).length:=by
 rw [fA]
 split
 ·rename_i h
  rw [drop_cons h,List.takeWhile_cons]
  split
  ·rw [jH cls s (i+1)];simp;omega
  ·rfl
 ·rename_i h
  rw [List.drop_of_length_le (by omega)];rfl
termination_by s.length - i
theorem EY (r:az):(r=[])=(r.length=0):=by cases r<;>simp
theorem BI (sz:Nat) (r:List D):dA sz [r]=(r.length==sz&&r.all D.one&&true):=rfl
theorem wv (s:az):D.one (.str s)=true:=rfl
attribute [go_sem] BI wv
theorem BK (a b:Nat):dZ a b=gI a b:=by
 unfold dZ gI;simp only [Int.ofNat_lt]
theorem y7 (n:Int):b8 G 149 [ai n] (vb false):=by
 intro st
 refine aA.body func149 rfl ntmps149 (by simp) ?_
 (try refine Wk.aw fun _ ag=>?_);(repeat' (first|((refine Wk.i ?_);simp -implicitDefEqProofs only [go_sem,seval])|refine Wk.ret fun _ _=>?_|(refine Wk.fin ‹_› ?_;refine ⟨?_,rfl⟩)|first|refine Wk.o ?_|refine Wk.q ‹_› ?_));all_goals (repeat subst ag)
 all_goals simp
theorem y8 (n:az):b8 G 217 [vs n] (vb false):=by
 intro st
 refine aA.body func217 rfl ntmps217 (by simp) ?_
 (try refine Wk.aw fun _ ag=>?_);(repeat' (first|((refine Wk.i ?_);simp -implicitDefEqProofs only [go_sem,seval])|refine Wk.ret fun _ _=>?_|(refine Wk.fin ‹_› ?_;refine ⟨?_,rfl⟩)|first|refine Wk.o ?_|refine Wk.q ‹_› ?_));all_goals (repeat subst ag)
 all_goals simp
theorem BM (n:UInt8):b8 G 148 [vc n] (vb false):=by
 intro st
 refine aA.body func148 rfl ntmps148 (by simp) ?_
 (try refine Wk.aw fun _ ag=>?_);(repeat' (first|((refine Wk.i ?_);simp -implicitDefEqProofs only [go_sem,seval])|refine Wk.ret fun _ _=>?_|(refine Wk.fin ‹_› ?_;refine ⟨?_,rfl⟩)|first|refine Wk.o ?_|refine Wk.q ‹_› ?_));all_goals (repeat subst ag)
 all_goals simp
theorem pV (a b:Int):b8 G 80 [ai a,ai b] (ai (dZ a b)):=by
 intro st
 refine aA.body func80 rfl ntmps80 (by simp) ?_
 (try refine Wk.aw fun _ ag=>?_);(repeat' (first|((first|refine Wk.hd ?_|refine Wk.i ?_);simp -implicitDefEqProofs only [go_sem,seval])|(refine ay (fun hc=>?_) (fun hc=>?_)<;>try omega)|refine ah (y7 _ _) ?_|refine Wk.ret fun _ _=>?_|(refine Wk.fin ‹_› ?_;refine ⟨?_,rfl⟩)|first|refine Wk.o ?_|refine Wk.q ‹_› ?_));all_goals (repeat subst ag)
 all_goals (try simp -implicitDefEqProofs (disch:=first|assumption|omega) only [dZ,if_pos,if_neg]);all_goals first|rfl|((repeat' split)<;>first|rfl|(exfalso;omega)|grind|skip)
theorem IC (a b:UInt8):b8 G 79 [vc a,vc b] (ai (gI a.toNat b.toNat)):=by
 intro st
 refine aA.body func79 rfl ntmps79 (by simp) ?_
 (try refine Wk.aw fun _ ag=>?_);(repeat' (first|((first|refine Wk.hd ?_|refine Wk.i ?_);simp -implicitDefEqProofs only [go_sem,seval])|(refine ay (fun hc=>?_) (fun hc=>?_)<;>try omega)|refine ah (BM _ _) ?_|refine Wk.ret fun _ _=>?_|(refine Wk.fin ‹_› ?_;refine ⟨?_,rfl⟩)|first|refine Wk.o ?_|refine Wk.q ‹_› ?_));all_goals (repeat subst ag)
 all_goals (try simp -implicitDefEqProofs (disch:=first|assumption|omega) only [gI,if_pos,if_neg]);all_goals first|rfl|((repeat' split)<;>first|rfl|(exfalso;omega)|grind|skip)
theorem jz:∀ a b:az,Op.bytesLess a b=ltStr a b
 |[],[]=>rfl
 |_::_,[]=>rfl
 |[],_::_=>rfl
 |a::x,b::y=>by
  simp only [Op.bytesLess,ltStr,jz x y]
  rw [show (a==b)=decide (a=b) from by by_cases h:a=b<;>simp [h],show decide (a<b)=decide (a.toNat<b.toNat) from by rw [decide_eq_decide];exact UInt8.lt_iff_toNat_lt]
theorem mw:∀ a b:az,ltStr a b=false→ltStr b a=false→a=b
 |[],[],_,_=>rfl
 |_::_,[],_,h=>by simp [ltStr] at h
 |[],_::_,h,_=>by simp [ltStr] at h
 |a::x,b::y,h1,h2=>by
  simp only [ltStr,Bool.or_eq_false_iff,Bool.and_eq_false_iff,decide_eq_false_iff_not] at h1 h2
  have hab:a=b:=UInt8.toNat_inj.1 (by omega)
  subst hab
  simp only [not_true,false_or] at h1 h2
  rw [mw x y h1.2 h2.2]
theorem mX:∀ a:az,ltStr a a=false
 |[]=>rfl
 |a::x=>by simp [ltStr,mX x]
theorem Fa (a b:az):b8 G 147 [vs a,vs b] (ai (ZE a b)):=by
 intro st
 refine aA.body func147 rfl ntmps147 (by simp) ?_
 (try refine Wk.aw fun _ ag=>?_);(repeat' (first|((first|refine Wk.hd ?_|refine Wk.i ?_);simp -implicitDefEqProofs only [go_sem,seval,jz])|(refine ay (fun hc=>?_) (fun hc=>?_)<;>try omega)|refine ah (y8 _ _) ?_|refine Wk.ret fun _ _=>?_|(refine Wk.fin ‹_› ?_;refine ⟨?_,rfl⟩)|first|refine Wk.o ?_|refine Wk.q ‹_› ?_));all_goals (repeat subst ag)
 all_goals (try simp -implicitDefEqProofs (disch:=first|assumption|omega) only [ZE,if_pos,if_neg]);all_goals first|rfl|((repeat' split)<;>first|rfl|(exfalso;omega)|grind|skip)
 ·exfalso
  have h1:=mw a b ‹_› (by simpa using ‹¬ ltStr b a=true›)
  subst h1
  simp at hc
theorem LA (a b c:Int):b8 G 146 [.d (.sl [[int a],[int b],[int c]])] (ai (if a≠0 then a else if b≠0 then b else c)):=by
 intro st
 refine aA.body func146 rfl ntmps146 (by simp) ?_
 (try refine Wk.aw fun _ ag=>?_);(repeat' (first|(refine AW.Ga ?_;refine AW.rounds 4 ?_)|((refine Wk.i ?_);simp -implicitDefEqProofs only [go_sem,seval])|(refine ay (fun hc=>?_) (fun hc=>?_)<;>try omega)|refine Wk.ret fun _ _=>?_|(refine Wk.fin ‹_› ?_;refine ⟨?_,rfl⟩)|first|refine Wk.o ?_|refine Wk.q ‹_› ?_|refine Wk.sw fun _ ag=>?_|refine Wk.rnd fun _ ag=>?_));all_goals (repeat subst ag)
 all_goals (try simp -implicitDefEqProofs (disch:=first|assumption|omega) only [if_pos,if_neg]);all_goals first|rfl|((repeat' split)<;>first|rfl|(exfalso;omega)|grind|skip)
theorem BN (s:az) (c:UInt8) (hs:s.length≤1048576):b8 G 213 [vs s,vc c] (vs (s.dropWhile (fun x=>decide (x.toNat=c.toNat)))):=by
 intro st
 refine aA.body func213 rfl ntmps213 (by simp) ?_
 (try refine Wk.aw fun _ ag=>?_);(repeat' (first|((refine Wk.i ?_);simp -implicitDefEqProofs (disch:=omega) only [go_sem,seval])|refine Wk.o ?_));all_goals (repeat subst ag)
 refine AW.cD (fun t:az=>[(0,vs t),(1,vc c)]) (fun _=>[]) (fun _=>[]) (fun t=>t.length≤s.length∧t.dropWhile (fun x=>decide (x.toNat=c.toNat))=s.dropWhile (fun x=>decide (x.toNat=c.toNat))) (fun t=>t.length) s (by simp -implicitDefEqProofs (disch:=omega) only [go_sem,seval]<;>first|rfl|exact ⟨rfl,rfl⟩|skip) (by simp -implicitDefEqProofs (disch:=omega) only [go_sem,seval]<;>first|rfl|exact ⟨rfl,rfl⟩|skip) ⟨by omega,rfl⟩ ?_
 intro t ⟨hn,hr⟩
 have ht:t.take t.length=t:=List.take_length
 (try refine Wk.aw fun _ ag=>?_);(repeat' (first|((first|refine Wk.hd ?_|refine Wk.i ?_);simp -implicitDefEqProofs (disch:=omega) only [go_sem,seval,ht])|(refine ay (fun hc=>?_) (fun hc=>?_)<;>try omega)|refine Wk.ret fun _ _=>?_|(refine Wk.fin ‹_› ?_;refine ⟨?_,rfl⟩)|first|refine Wk.o ?_|refine Wk.q ‹_› ?_|refine Wk.sw fun _ ag=>?_));all_goals (repeat subst ag)
 ·(refine ⟨t.drop 1,gk.mk ?_ ?_ ?_ (by simp -implicitDefEqProofs (disch:=omega) only [go_sem,seval]) (by simp -implicitDefEqProofs (disch:=omega) only [go_sem,seval]) (by first|rfl|(simp -implicitDefEqProofs (disch:=omega) only [go_sem,seval];all_goals omega)) (by first|rfl|(simp -implicitDefEqProofs (disch:=omega) only [go_sem,seval];all_goals omega))⟩;focus (try (simp -implicitDefEqProofs (disch:=omega) only [go_sem,seval]);try ((repeat' apply And.intro)<;>first|rfl|trivial|refine aD ?_|refine aE ?_|refine ax ?_|skip)))
  ·refine ⟨by simp;omega,?_⟩
   rw [←hr]
   cases t with
   |nil=>rfl
   |cons x t=>rw [List.dropWhile_cons,if_pos (by simpa using hc)];rfl
  ·simp;omega
 ·rw [←hr]
  cases t with
  |nil=>rfl
  |cons x t=>rw [List.dropWhile_cons,if_neg (by simpa using hc)]
 ·rw [←hr]
  cases t with
  |nil=>rfl
  |cons x t=>simp at hc
theorem Db (s:az) (hs:s.length≤1048576):b8 G 145 [vs s,vs [48]] (vs (bG s)):=by
 intro st
 have hb:=BN (G:=G) s 48 hs
 refine aA.body func145 rfl ntmps145 (by simp) ?_
 (try with_reducible refine Wk.aw fun _ ag=>?_);(repeat' (first|((with_reducible first|refine Wk.hd ?_|refine Wk.i ?_);simp -implicitDefEqProofs (disch:=first|omega|(simp only [go_sem];try omega)) only [go_sem,seval,EY])|(refine ay (fun hc=>?_) (fun hc=>?_)<;>try (exfalso;first|omega|contradiction))|refine ah (hb _) ?_|with_reducible refine Wk.ret fun _ _=>?_|(refine Wk.fin ‹_› ?_;refine ⟨?_,rfl⟩)|with_reducible first|refine Wk.o ?_|refine Wk.q ‹_› ?_));all_goals (repeat subst ag)
 ·have:s=[]:=by cases s<;>simp_all
  subst this;rfl
 ·rfl
theorem qA (s:az) (hs:s.length≤1048576):b8 G 77 [vs s] (ai ↑(s.takeWhile isDigit).length):=by
 intro st
 have hw:=jH isDigit s 0
 simp only [abt,aaJ] at hw
 refine aA.body func77 rfl ntmps77 (by simp) ?_
 (try refine Wk.aw fun _ ag=>?_);(repeat' (first|((refine Wk.i ?_);simp -implicitDefEqProofs (disch:=omega) only [go_sem,seval])|refine Wk.o ?_));all_goals (repeat subst ag)
 refine AW.cD (fun n:Nat=>[(0,vs s),(3,ai ↑n)]) (fun _=>[]) (fun _=>[]) (fun n=>n≤s.length∧fA isDigit s n=fA isDigit s 0) (fun n=>s.length - n) 0 (by simp -implicitDefEqProofs (disch:=omega) only [go_sem,seval]<;>first|rfl|exact ⟨rfl,rfl⟩|skip) (by simp -implicitDefEqProofs (disch:=omega) only [go_sem,seval]<;>first|rfl|exact ⟨rfl,rfl⟩|skip) ⟨by omega,rfl⟩ ?_
 intro n ⟨hn,hr⟩
 rw [fA] at hr
 (try refine Wk.aw fun _ ag=>?_);(repeat' (first|((first|refine Wk.hd ?_|refine Wk.i ?_);simp -implicitDefEqProofs (disch:=omega) only [go_sem,seval])|(refine ay (fun hc=>?_) (fun hc=>?_)<;>try omega)|refine ah (uj _ _) ?_|refine Wk.ret fun _ _=>?_|(refine Wk.fin ‹_› ?_;refine ⟨?_,rfl⟩)|first|refine Wk.o ?_|refine Wk.q ‹_› ?_|refine Wk.sw fun _ ag=>?_));all_goals (repeat subst ag)
 ·rw [if_pos (by assumption),if_pos (by assumption)] at hr
  (refine ⟨n+1,gk.mk ?_ ?_ ?_ (by simp -implicitDefEqProofs (disch:=omega) only [go_sem,seval]) (by simp -implicitDefEqProofs (disch:=omega) only [go_sem,seval]) (by first|rfl|(simp -implicitDefEqProofs (disch:=omega) only [go_sem,seval];all_goals omega)) (by first|rfl|(simp -implicitDefEqProofs (disch:=omega) only [go_sem,seval];all_goals omega))⟩;focus (try (simp -implicitDefEqProofs (disch:=omega) only [go_sem,seval]);try ((repeat' apply And.intro)<;>first|rfl|trivial|refine aD ?_|refine aE ?_|refine ax ?_|skip)))
  all_goals first|omega|exact ⟨by omega,hr⟩
 ·rw [if_pos (by assumption),if_neg (by simp only [‹isDigit _=false›,aaS,not_false_eq_true])] at hr
  exact bA (by omega)
 ·rw [if_neg (by assumption)] at hr
  exact bA (by omega)
theorem kM (a b:Nat):gI a b=0↔a=b:=by
 unfold gI
 repeat' split
 all_goals omega
theorem sG (a b:az):ZE a b=0↔a=b:=by
 unfold ZE
 split
 ·rename_i h
  refine ⟨fun h=>by omega,?_⟩
  rintro rfl;rw [mX] at h;cases h
 ·split
  ·rename_i h
   refine ⟨fun h=>by omega,?_⟩
   rintro rfl;rw [mX] at h;cases h
  ·exact ⟨fun _=>mw a b (by simpa using ‹¬ ltStr a b=true›) (by simpa using ‹¬ ltStr b a=true›),fun _=>rfl⟩
theorem Dc {a b:az} (h:(bG a).length≠(bG b).length):jd a b=gI (bG a).length (bG b).length:=if_pos h
theorem Dd {a b:az} (h:(bG a).length=(bG b).length) (h2:bG a≠bG b):jd a b=ZE (bG a) (bG b):=by
 have:jd a b=if bG a≠bG b then ZE (bG a) (bG b) else gI a.length b.length:=if_neg (fun hn=>hn h)
 rw [this];exact if_pos h2
theorem De {a b:az} (h2:bG a=bG b):jd a b=gI a.length b.length:=by
 have:jd a b=if bG a≠bG b then ZE (bG a) (bG b) else gI a.length b.length:=if_neg (fun hn=>hn (by rw [h2]))
 rw [this];exact if_neg (fun hn=>hn h2)
theorem y9 (a b:az):jd a b=if dZ (bG a).length (bG b).length≠0 then dZ (bG a).length (bG b).length else if ZE (bG a) (bG b)≠0 then ZE (bG a) (bG b) else dZ a.length b.length:=by
 simp only [BK]
 by_cases h1:(bG a).length=(bG b).length
 ·rw [if_neg (fun h=>h ((kM _ _).2 h1))]
  by_cases h2:bG a=bG b
  ·rw [if_neg (fun h=>h ((sG _ _).2 h2)),De h2]
  ·rw [if_pos (fun h=>h2 ((sG _ _).1 h)),Dd h1 h2]
 ·rw [if_pos (fun h=>h1 ((kM _ _).1 h)),Dc h1]
theorem Fb (a b:az) (ha:a.length≤1048576) (hb:b.length≤1048576):b8 G 78 [vs a,vs b] (ai (jd a b)):=by
 intro st
 refine aA.body func78 rfl ntmps78 (by simp) ?_
 (try refine Wk.aw fun _ ag=>?_);(repeat' (first|((first|refine Wk.hd ?_|refine Wk.i ?_);simp -implicitDefEqProofs only [go_sem,seval])|refine ah ((by first|exact Db a ha _|exact Db b hb _)) ?_|refine ah (pV _ _ _) ?_|refine ah (Fa _ _ _) ?_|refine ah (LA _ _ _ _) ?_|refine Wk.ret fun _ _=>?_|(refine Wk.fin ‹_› ?_;refine ⟨?_,rfl⟩)|first|refine Wk.o ?_|refine Wk.q ‹_› ?_));all_goals (repeat subst ag)
 all_goals (rw [y9])
theorem oQ:∀ (f:Nat) (a b:az),a.length<f→ig f a b=ig (a.length+1) a b:=by
 intro f
 induction f using Nat.strongRecOn with
 |_ f ih=>
  intro a b hf
  obtain ⟨f,rfl⟩:∃ g,f=g+1:=⟨f - 1,by omega⟩
  cases a with
  |nil=>rfl
  |cons c r=>
   cases b with
   |nil=>rfl
   |cons d s=>
    have step:∀ (x y:az),x.length≤r.length→ig f x y=ig (c::r).length x y:=by
     intro x y hl
     simp only [aaF] at hf ⊢
     rw [ih f (by omega) _ _ (by omega),ih (r.length+1) (by omega) _ _ (by omega)]
    simp only [ig]
    split
    ·rename_i hc
     rw [aaA] at hc
     rw [step _ _ (by rw [List.takeWhile_cons,if_pos hc.1];simp)]
    ·rw [step _ _ (aax _)]
theorem lC (b:az):c8 [] b=if b=[] then 0 else -1:=rfl
theorem mz (c:UInt8) (r:az):c8 (c::r) []=1:=rfl
theorem mA (c d:UInt8) (r s:az):c8 (c::r) (d::s)=if isDigit c&&isDigit d then
   (if jd ((c::r).takeWhile isDigit) ((d::s).takeWhile isDigit)≠0 then jd ((c::r).takeWhile isDigit) ((d::s).takeWhile isDigit) else c8 ((c::r).drop ((c::r).takeWhile isDigit).length) ((d::s).drop ((d::s).takeWhile isDigit).length))
  else if c≠d then gI c.toNat d.toNat else c8 r s:=by
 rw [c8,aaF]
 simp only [ig]
 split
 ·rename_i hc
  rw [aaA] at hc
  rw [oQ _ _ _ (by rw [List.takeWhile_cons,if_pos hc.1];simp;omega)];rfl
 ·rw [oQ _ _ _ (by omega)];rfl
theorem IE (y:az):dZ 0 (y.length:Int)=if y=[] then 0 else -1:=by
 cases y with
 |nil=>rfl
 |cons c r=>rw [if_neg (by simp),dZ,if_pos (by simp only [aaF];omega)]
theorem IG (n:Nat):dZ ((n+1:Nat):Int) 0=1:=by
 rw [dZ,if_neg (by omega),if_pos (by omega)]
theorem w7:(([]:az)≠[])=False:=by simp
theorem w8 (c:UInt8) (r:az):((c::r)≠[])=True:=by simp
theorem lR (a b:az) (ha:a.length≤1048576) (hb:b.length≤1048576):b8 G 46 [vs a,vs b] (ai (c8 a b)):=by
 intro st
 refine aA.body func46 rfl ntmps46 (by simp) ?_
 (try with_reducible refine Wk.aw fun _ ag=>?_);(repeat' (first|((with_reducible refine Wk.i ?_);simp -implicitDefEqProofs (disch:=first|omega|(simp only [go_sem];try omega)) only [go_sem,seval])|with_reducible refine Wk.o ?_));all_goals (repeat subst ag)
 refine AW.cD (fun x:az×az=>[(0,vs x.1),(1,vs x.2)]) (fun _=>[]) (fun _=>[]) (fun x=>x.1.length≤1048576∧x.2.length≤1048576∧c8 x.1 x.2=c8 a b) (fun x=>x.1.length) (a,b) (by simp -implicitDefEqProofs (disch:=first|omega|(simp only [go_sem];try omega)) only [go_sem,seval]<;>first|rfl|exact ⟨rfl,rfl⟩|skip) (by simp -implicitDefEqProofs (disch:=first|omega|(simp only [go_sem];try omega)) only [go_sem,seval]<;>first|rfl|exact ⟨rfl,rfl⟩|skip) ⟨ha,hb,rfl⟩ ?_
 rintro ⟨x,y⟩ ⟨h1,h2,h3⟩
 simp only at h1 h2 h3
 rw [←h3]
 have tx:x.take x.length=x:=List.take_length
 have ty:y.take y.length=y:=List.take_length
 cases x with
 |nil=>
  (try with_reducible refine Wk.aw fun _ ag=>?_);(repeat' (first|((with_reducible first|refine Wk.hd ?_|refine Wk.i ?_);simp -implicitDefEqProofs (disch:=first|omega|(simp only [go_sem];try omega)) only [go_sem,seval,w7])|refine ah (pV _ _ _) ?_|with_reducible refine Wk.ret fun _ _=>?_|(refine Wk.fin ‹_› ?_;refine ⟨?_,rfl⟩)|with_reducible first|refine Wk.o ?_|refine Wk.q ‹_› ?_|refine Wk.sw fun _ ag=>?_));all_goals (repeat subst ag)
  all_goals (refine bA ?_;rw [lC];exact IE y)
 |cons c r=>
  cases y with
  |nil=>
   (try with_reducible refine Wk.aw fun _ ag=>?_);(repeat' (first|((with_reducible first|refine Wk.hd ?_|refine Wk.i ?_);simp -implicitDefEqProofs (disch:=first|omega|(simp only [go_sem];try omega)) only [go_sem,seval,w7,w8])|refine ah (pV _ _ _) ?_|with_reducible refine Wk.ret fun _ _=>?_|(refine Wk.fin ‹_› ?_;refine ⟨?_,rfl⟩)|with_reducible first|refine Wk.o ?_|refine Wk.q ‹_› ?_|refine Wk.sw fun _ ag=>?_));all_goals (repeat subst ag)
   all_goals (refine bA ?_;rw [mz];exact IG r.length)
  |cons d s=>
   rw [mA]
   have q1:=(List.takeWhile_prefix isDigit (l:=c::r)).length_le
   have q2:=(List.takeWhile_prefix isDigit (l:=d::s)).length_le
   have p1:=List.prefix_iff_eq_take.1 (List.takeWhile_prefix isDigit (l:=c::r))
   have p2:=List.prefix_iff_eq_take.1 (List.takeWhile_prefix isDigit (l:=d::s))
   have hrx:=qA (G:=G) (c::r) h1
   have hry:=qA (G:=G) (d::s) h2
   have z1:0< ((c::r).takeWhile isDigit).length↔isDigit c=true:=by rw [List.takeWhile_cons];by_cases h:isDigit c=true<;>simp [h]
   have z2:0< ((d::s).takeWhile isDigit).length↔isDigit d=true:=by rw [List.takeWhile_cons];by_cases h:isDigit d=true<;>simp [h]
   generalize hx:(c::r).takeWhile isDigit=x at*
   generalize hy:(d::s).takeWhile isDigit=y at*
   have hn:=Fb (G:=G) x y (by omega) (by omega)
   by_cases hd:isDigit c=true∧isDigit d=true
   ·have y1:=z1.2 hd.1
    have y2:=z2.2 hd.2
    rw [hd.1,hd.2]
    (try with_reducible refine Wk.aw fun _ ag=>?_);(repeat' (first|((with_reducible first|refine Wk.hd ?_|refine Wk.i ?_);simp -implicitDefEqProofs (disch:=first|omega|(simp only [go_sem];try omega)) only [go_sem,seval,w7,w8,←p1,←p2,tx,ty])|(refine ay (fun hc=>?_) (fun hc=>?_)<;>try (exfalso;first|omega|contradiction))|refine ah ((by first|exact hrx _|exact hry _)) ?_|refine ah (hn _) ?_|refine Wk.drawn mx (by kernel_rfl) ?_|with_reducible refine Wk.ret fun _ _=>?_|(refine Wk.fin ‹_› ?_;refine ⟨?_,rfl⟩)|with_reducible first|refine Wk.o ?_|refine Wk.q ‹_› ?_));all_goals (repeat subst ag)
    ·rw [show (true&&true)=true from rfl,if_pos rfl,if_pos hc]
    ·rw [show (true&&true)=true from rfl,if_pos rfl,if_neg hc]
     (refine ⟨(List.drop x.length (c::r),List.drop y.length (d::s)),gk.mk ?_ ?_ ?_ (by simp -implicitDefEqProofs (disch:=first|omega|(simp only [go_sem];try omega)) only [go_sem,seval]) (by simp -implicitDefEqProofs (disch:=first|omega|(simp only [go_sem];try omega)) only [go_sem,seval]) (by first|rfl|(simp -implicitDefEqProofs (disch:=first|omega|(simp only [go_sem];try omega)) only [go_sem,seval];all_goals omega)) (by first|rfl|(simp -implicitDefEqProofs (disch:=first|omega|(simp only [go_sem];try omega)) only [go_sem,seval];all_goals omega))⟩;focus (try (simp -implicitDefEqProofs (disch:=first|omega|(simp only [go_sem];try omega)) only [go_sem,seval]);try ((repeat' apply And.intro)<;>first|rfl|trivial|refine aD ?_|refine aE ?_|refine ax ?_|skip)))
     ·exact ⟨by simp only [aa0];omega,by simp only [aa0];omega,rfl⟩
     ·simp only [aa0];omega
   ·have y3:x.length=0∨y.length=0:=by
     by_cases a:x.length=0
     ·exact .inl a
     ·by_cases b:y.length=0
      ·exact .inr b
      ·exact absurd ⟨z1.1 (by omega),z2.1 (by omega)⟩ hd
    have y4:(isDigit c&&isDigit d)=false:=by
     rw [Bool.eq_false_iff,Ne,aaA];exact hd
    rw [y4]
    (try with_reducible refine Wk.aw fun _ ag=>?_);(repeat' (first|((with_reducible first|refine Wk.hd ?_|refine Wk.i ?_);simp -implicitDefEqProofs (disch:=first|omega|(simp only [go_sem];try omega)) only [go_sem,seval,w7,w8,tx,ty])|(refine ay (fun hc=>?_) (fun hc=>?_)<;>try (exfalso;first|omega|contradiction))|refine ah ((by first|exact hrx _|exact hry _)) ?_|refine ah (IC _ _ _) ?_|refine Wk.drawn mx (by kernel_rfl) ?_|with_reducible refine Wk.ret fun _ _=>?_|(refine Wk.fin ‹_› ?_;refine ⟨?_,rfl⟩)|with_reducible first|refine Wk.o ?_|refine Wk.q ‹_› ?_));all_goals (repeat subst ag)
    ·rw [if_neg Bool.false_ne_true,if_pos (fun h=>hc (by rw [h];rfl))];rfl
    ·have hcd:c=d:=UInt8.toNat_inj.1 (by have:=Decidable.not_not.1 hc;exact Int.ofNat_inj.1 this)
     rw [if_neg Bool.false_ne_true,if_neg (fun h=>h hcd)]
     (refine ⟨(r,s),gk.mk ?_ ?_ ?_ (by simp -implicitDefEqProofs (disch:=first|omega|(simp only [go_sem];try omega)) only [go_sem,seval]) (by simp -implicitDefEqProofs (disch:=first|omega|(simp only [go_sem];try omega)) only [go_sem,seval]) (by first|rfl|(simp -implicitDefEqProofs (disch:=first|omega|(simp only [go_sem];try omega)) only [go_sem,seval];all_goals omega)) (by first|rfl|(simp -implicitDefEqProofs (disch:=first|omega|(simp only [go_sem];try omega)) only [go_sem,seval];all_goals omega))⟩;focus (try (simp -implicitDefEqProofs (disch:=first|omega|(simp only [go_sem];try omega)) only [go_sem,seval]);try ((repeat' apply And.intro)<;>first|rfl|trivial|refine aD ?_|refine aE ?_|refine ax ?_|skip)))
     ·simp only [aaF] at h1 h2;exact ⟨by simp only;omega,by simp only;omega,rfl⟩
     ·simp only [aaF];omega
    ·rw [if_neg Bool.false_ne_true,if_pos (fun h=>hc (by rw [h];rfl))];rfl
    ·have hcd:c=d:=UInt8.toNat_inj.1 (by have:=Decidable.not_not.1 hc;exact Int.ofNat_inj.1 this)
     rw [if_neg Bool.false_ne_true,if_neg (fun h=>h hcd)]
     (refine ⟨(r,s),gk.mk ?_ ?_ ?_ (by simp -implicitDefEqProofs (disch:=first|omega|(simp only [go_sem];try omega)) only [go_sem,seval]) (by simp -implicitDefEqProofs (disch:=first|omega|(simp only [go_sem];try omega)) only [go_sem,seval]) (by first|rfl|(simp -implicitDefEqProofs (disch:=first|omega|(simp only [go_sem];try omega)) only [go_sem,seval];all_goals omega)) (by first|rfl|(simp -implicitDefEqProofs (disch:=first|omega|(simp only [go_sem];try omega)) only [go_sem,seval];all_goals omega))⟩;focus (try (simp -implicitDefEqProofs (disch:=first|omega|(simp only [go_sem];try omega)) only [go_sem,seval]);try ((repeat' apply And.intro)<;>first|rfl|trivial|refine aD ?_|refine aE ?_|refine ax ?_|skip)))
     ·simp only [aaF] at h1 h2;exact ⟨by simp only;omega,by simp only;omega,rfl⟩
     ·simp only [aaF];omega
abbrev qC (l:List az):V:= .d (.sl (bt l))
def gU:aX→Prop
 | .mk _ _ _ s l ks=>s.length≤1048576∧l.length≤1048576∧ks.length≤1048576∧(∀ k∈ks,k.length≤1048576)∧za l
where za:List aX→Prop
 |[]=>True
 |v::r=>gU v∧za r
theorem u9:∀ l:List aX,gU.za l↔∀ v∈l,gU v
 |[]=>by simp [gU.za]
 |v::r=>by simp [gU.za,u9 r]
theorem dX (v:aX):gU v↔v.str.length≤1048576∧v.list.length≤1048576∧v.keys.length≤1048576∧(∀ k∈v.keys,k.length≤1048576)∧∀ x∈v.list,gU x:=by
 cases v;simp only [gU,u9,aX.str,aX.list,aX.keys]
attribute [go_sem] List.all_append
abbrev jA (l:List Tk):V:= .d (.sl (l.map Tk.enc))
abbrev Xp (T:List Tk) (r:dF Ex) (st:St):Out→St→Prop:=fun o s=>match r with
 | .ok e rest=>o= .ret (.cF [vE e,ai ↑(T.length - rest.length),ai 0])∧s=st
 | .err rest c=>∃ x,o= .ret (.cF [vE x,ai ↑(T.length - rest.length),ai c])∧s=st
abbrev lE (G:World→Nat→Prop) (T:List Tk) (g:FuncId) (args:List V) (r:dF Ex):Prop:=∀ st,aA prog G g args st (Xp T r st)
theorem lE.ok {T:List Tk} {g:FuncId} {args:List V} {e:Ex} {rest:List Tk} (h:lE G T g args (.ok e rest)):b8 G g args (.cF [vE e,ai ↑(T.length - rest.length),ai 0]):=fun st=>(h st).mono fun _ _ hh=>hh
theorem lE.err {T:List Tk} {g:FuncId} {args:List V} {c:Int} {rest:List Tk} (h:lE G T g args (.err rest c)) (st:St):aA prog G g args st (fun o s=>∃ x,o= .ret (.cF [vE x,ai ↑(T.length - rest.length),ai c])∧s=st):=(h st).mono fun _ _ hh=>hh
end Go.Proofs.YtgclflkhpkdecaaGreatDoor
end
section
set_option maxHeartbeats 8000000
set_option maxRecDepth 20000
namespace Go.Proofs.YtgclflkhpkdecaaGreatDoor
open Tryz
open Go.Abs
variable {G:World→Nat→Prop}
end Go.Proofs.YtgclflkhpkdecaaGreatDoor
end
section
set_option maxHeartbeats 8000000
set_option maxRecDepth 20000
namespace Go.Proofs.YtgclflkhpkdecaaGreatDoor
open Tryz
open Go.Abs
attribute [local irreducible] AW OX GQ bK bO bz aY aA
variable {G:World→Nat→Prop}
theorem qD (v:aX):gM v=true↔(v.kind=1∨v.bool=false)∧(v.kind=2∨v.int=0)∧(v.kind=3∨v.str=[])∧(v.kind=4∨v.kind=5∨(v.list.length:Int)=0)∧(v.kind=5∨(v.keys.length:Int)=0):=by
 have h2:v.list=[]↔(v.list.length:Int)=0:=by cases v.list<;>simp;omega
 have h3:v.keys=[]↔(v.keys.length:Int)=0:=by cases v.keys<;>simp;omega
 simp only [gM,aaA,abi,aaH,Bool.not_eq_true',h2,h3,and_assoc,or_assoc]
theorem IU (v:aX) (fv:gU v):b8 G 307 [vV v] (vb (gM v)):=by
 intro st
 rw [vV,aX.aP]
 obtain ⟨a1,a2,a3,a4,a5⟩:=(dX v).1 fv
 refine aA.body func307 rfl ntmps307 (by simp) ?_
 (try refine Wk.aw fun _ ag=>?_);(repeat' (first|((first|refine Wk.hd ?_|refine Wk.i ?_);simp -implicitDefEqProofs only [go_sem,seval])|(refine ay (fun hc=>?_) (fun hc=>?_)<;>try omega)|refine Wk.ret fun _ _=>?_|(refine Wk.fin ‹_› ?_;refine ⟨?_,rfl⟩)|first|refine Wk.o ?_|refine Wk.q ‹_› ?_));all_goals (repeat subst ag)
 all_goals (refine congrArg (fun b=>Out.ret (.d (.bool b))) ?_;rw [Bool.eq_iff_iff,qD];clear fv a4 a5;grind)
end Go.Proofs.YtgclflkhpkdecaaGreatDoor
end
