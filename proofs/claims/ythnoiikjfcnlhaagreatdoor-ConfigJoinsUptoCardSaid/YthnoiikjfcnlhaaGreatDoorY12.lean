/- A step of the proofs of the seat's theorems. -/
import Derived.Test.YthnoiikjfcnlhaaGreatDoorYA
import Derived.Test.YthnoiikjfcnlhaaGreatDoorY11
import Derived.Deep.LoopGhost
import Derived.Scope
set_option linter.unusedSimpArgs false
set_option linter.unusedVariables false
namespace Go.Abs
open Go.RowKit
inductive Out where
 |ret (v:V)
 |dw (v:V)
def gT (c:Ctx):Ending→Out→Prop
 | .returned cv,.ret v=>Rel c cv v
 | .panicked chain,.dw v=>∃ cv,chain=[{ v:=cv,recovered:=false }]∧Rel c cv v
 |_,_=>False
def V.share:V→V
 | .bh=> .d (.sl [])
 | .own _ es=> .d (.sl es)
 | .agg cs=> .agg (fL cs)
 | .cF cs=> .cF (fL cs)
 |v=>v
where fL:List V→List V
 |[]=>[]
 |v::r=>v.share::fL r
theorem dn:∀ l:List V,(V.share.fL l).length=l.length
 |[]=>rfl
 |v::r=>by simp [V.share.fL,dn r]
theorem jh:∀ (l:List V) (i:Nat),i<l.length→(V.share.fL l).getD i .aU=(l.getD i .aU).share
 |[],i,h=>by simp at h
 |v::r,0,_=>by simp [V.share.fL]
 |v::r,i+1,h=>by
  have:=jh r i (by simpa using h)
  simpa [V.share.fL] using this
variable {P:Program} {c:Ctx} {w:World} {st:St}
theorem Rel.share {v:Value} {x:V} (r:Rel c v x):Rel c v x.share:=by
 induction r with
 |aU v=>exact .aU v
 |d v x r=>exact .d v x r
 |bh=>exact .d _ _ .slnil
 |own v id es t r ht hsz hle heq=>exact .d _ _ r
 |ptr b k off hb=>exact .ptr b k off hb
 |mp b k hb=>exact .mp b k hb
 |ep k base off vs cs h1 h2=>exact .ep k base off vs cs h1 h2
 |jE f arr cap hs hr _=>exact .jE f arr cap hs hr
 |agg arr cs hs _ ih=>
  refine .agg _ _ (by rw [dn];exact hs) fun i hi=>?_
  rw [dn] at hi
  rw [jh cs i hi]
  exact ih i hi
 |cF arr cs hs _ ih=>
  refine .cF _ _ (by rw [dn];exact hs) fun i hi=>?_
  rw [dn] at hi
  rw [jh cs i hi]
  exact ih i hi
def aa (P:Program) (G:World→Nat→Prop) (f:FuncId) (args:List V) (st:St) (R:Out→St→Prop):Prop:=
 ∀ (c:Ctx) (w:World) (cargs:Array Value),bf c w st→G c.w0 c.base→cargs.size=args.length→(∀ i,i<args.length→Rel c (cargs.getD i undef) (args.getD i .aU))→
  Calls P f cargs w fun e w'=>∃ out st' c',R out st'∧Ext c c'∧bf c' w' st'∧gT c' e out
theorem aa.mono {G:World→Nat→Prop} {f:FuncId} {args:List V} {R R':Out→St→Prop} (h:aa P G f args st R) (hr:∀ o s,R o s→R' o s):aa P G f args st R':=
 fun c w cargs hc hg hs ha=>(h c w cargs hc hg hs ha).mono fun _ _ ⟨o,s,c',h1,h2⟩=>⟨o,s,c',hr _ _ h1,h2⟩
def V.within (n m:Nat):V→Bool
 | .ptr b _=>decide (b<n)
 | .mp b=>decide (b<n)
 | .own id _=>decide (id<m)
 | .jE _ cap=>all n m cap
 | .agg cs=>all n m cs
 | .cF vs=>all n m vs
 |_=>true
where all (n m:Nat):List V→Bool
 |[]=>true
 |v::r=>v.within n m&&all n m r
def aJ.within (n m:Nat):aJ→Bool
 | .cells cs=>V.within.all n m cs
 | .tc _ cs=>V.within.all n m cs
 | .iter _ _=>true
 | .mp _ _ _=>true
theorem cS {n m:Nat}:∀ {l:List V},V.within.all n m l=true↔∀ i,i<l.length→(l.getD i .aU).within n m=true
 |[]=>by simp [V.within.all]
 |v::r=>by
  simp only [V.within.all,aap,cS (l:=r),aah]
  constructor
  ·rintro ⟨h1,h2⟩ i hi
   cases i with
   |zero=>simpa using h1
   |succ i=>simpa using h2 i (by omega)
  ·intro h
   exact ⟨by simpa using h 0 (by omega),fun i hi=>by simpa using h (i+1) (by omega)⟩
theorem Rel.within {v:Value} {x:V} (r:Rel c v x):x.within c.mu.length c.tok.length=true:=by
 induction r with
 |aU v=>rfl
 |d v x r=>rfl
 |bh=>rfl
 |own v id es t r ht _ _ _=>simpa [V.within] using (aam.1 ht).1
 |ptr b k off hb=>simpa [V.within] using (aam.1 hb).1
 |mp b k hb=>simpa [V.within] using (aam.1 hb).1
 |ep k base off vs cs h1 h2=>rfl
 |jE f arr cap hs _ ih=>exact cS.2 ih
 |agg arr cs hs _ ih=>exact cS.2 ih
 |cF arr vs hs _ ih=>exact cS.2 ih
def Ctx.cut (c:Ctx) (n m:Nat):Ctx:= { c with mu:=c.mu.take n,tok:=c.tok.take m }
def St.cut (st:St) (n m:Nat):St:=⟨st.aj.take n,st.toks.take m⟩
theorem Rel.cut {v:Value} {x:V} (r:Rel c v x) {n m:Nat} (h:x.within n m=true):Rel (c.cut n m) v x:=by
 induction r with
 |aU v=>exact .aU v
 |d v x r=>exact .d v x r
 |bh=>exact .bh
 |own v id es t r ht hsz hle heq=>
  have hlt:id<m:=by simpa [V.within] using h
  exact .own v id es t r (by simp only [Ctx.cut];rw [aa3 hlt];exact ht) hsz hle heq
 |ptr b k off hb=>
  have hlt:b<n:=by simpa [V.within] using h
  exact .ptr b k off (by simp only [Ctx.cut];rw [aa3 hlt];exact hb)
 |mp b k hb=>
  have hlt:b<n:=by simpa [V.within] using h
  exact .mp b k (by simp only [Ctx.cut];rw [aa3 hlt];exact hb)
 |ep k base off vs cs h1 h2=>exact .ep k base off vs cs h1 h2
 |jE f arr cap hs _ ih=>exact .jE f arr cap hs fun i hi=>ih i hi (cS.1 h i hi)
 |agg arr cs hs _ ih=>exact .agg arr cs hs fun i hi=>ih i hi (cS.1 h i hi)
 |cF arr vs hs _ ih=>exact .cF arr vs hs fun i hi=>ih i hi (cS.1 h i hi)
theorem eS.cut {o:Obj} {B:aJ} (r:eS c o B) {n m:Nat} (h:B.within n m=true):eS (c.cut n m) o B:=by
 cases r with
 |cells arr elem cs hs hr=>exact .cells arr elem cs hs fun i hi=>(hr i hi).cut (cS.1 h i hi)
 |tc arr elem cs hs hr=>exact .tc arr elem cs hs fun i hi=>(hr i hi).cut (cS.1 h i hi)
 |iter s l pos e=>exact .iter s l pos e
 |mp es clock kd n f hf=>exact .mp es clock kd n f hf
theorem eS.within {o:Obj} {B:aJ} (r:eS c o B):B.within c.mu.length c.tok.length=true:=by
 cases r with
 |cells arr elem cs hs hr=>exact cS.2 fun i hi=>(hr i hi).within
 |tc arr elem cs hs hr=>exact cS.2 fun i hi=>(hr i hi).within
 |iter s l pos e=>rfl
 |mp es clock kd n f hf=>rfl
theorem gC {α:Type} {l:List α} {n i:Nat} {x:α} (h:(l.take n)[i]?=some x):i<n∧l[i]?=some x:=by
 rw [abH] at h
 split at h
 ·rename_i hi;exact ⟨hi,h⟩
 ·simp at h
theorem bf.cut (h:bf c w st) (n m:Nat) (hw:∀ (b:Nat) (B:aJ),b<n→st.aj[b]?=some B→B.within n m=true):bf (c.cut n m) w (st.cut n m) where
 cN:=by simp [Ctx.cut,St.cut,h.cN]
 dH:=by
  intro i j k hi hj
  exact h.dH i j k (gC hi).2 (gC hj).2
 cI:=by
  intro i k hi
  exact h.cI i k (gC hi).2
 mS:=by
  intro i k o hi
  exact h.mS i k o (gC hi).2
 blk:=by
  intro b k B hk hB
  obtain ⟨hlt,hk⟩:=gC hk
  obtain ⟨_,hB⟩:=gC hB
  obtain ⟨o,ho,hr⟩:=h.blk b k B hk hB
  exact ⟨o,ho,hr.cut (hw b B hlt hB)⟩
 cu:=by simp [Ctx.cut,St.cut,←h.cu]
 cz:=by
  intro id t ht
  obtain ⟨h0,hd|⟨xs,ho,hg⟩⟩:=h.cz id t (gC ht).2
  ·exact ⟨h0,.inl hd⟩
  refine ⟨h0,.inr ⟨xs,ho,fun g hgb=>?_⟩⟩
  obtain ⟨h1,h2,h3⟩:=hg g hgb
  exact ⟨h1,h2,fun hm=>h3 (abh hm)⟩
 cK:=by
  intro i j s t g hi hj
  exact h.cK i j s t g (gC hi).2 (gC hj).2
 cy:=h.cy
 below:=h.below
 cw:=h.cw
theorem uO {n m n' m':Nat} (hn:n≤n') (hm:m≤m'):∀ v:V,v.within n m=true→v.within n' m'=true:=by
 have key:∀ k:Nat,∀ v:V,SizeOf.sizeOf v≤k→v.within n m=true→v.within n' m'=true:=by
  intro k
  induction k with
  |zero=>intro v hv;cases v<;>simp at hv
  |succ k ih=>
   have lst:∀ l:List V,SizeOf.sizeOf l≤k→V.within.all n m l=true→V.within.all n' m' l=true:=by
    intro l
    induction l with
    |nil=>intro _ _;rfl
    |cons v r ihr=>
     intro hs h
     simp only [V.within.all,aap] at h ⊢
     simp only [List.cons.sizeOf_spec] at hs
     exact ⟨ih v (by omega) h.1,ihr (by omega) h.2⟩
   intro v hv h
   cases v with
   |own id es=>simp only [V.within,aal] at h ⊢;omega
   |ptr b off=>simp only [V.within,aal] at h ⊢;omega
   |mp b=>simp only [V.within,aal] at h ⊢;omega
   |jE f cap=>simp only [V.jE.sizeOf_spec] at hv;exact lst cap (by omega) h
   |agg cs=>simp only [V.agg.sizeOf_spec] at hv;exact lst cs (by omega) h
   |cF vs=>simp only [V.cF.sizeOf_spec] at hv;exact lst vs (by omega) h
   |_=>exact h
 exact fun v=>key _ v (aan _)
theorem rU {n m n' m':Nat} (hn:n≤n') (hm:m≤m') (B:aJ) (h:B.within n m=true):B.within n' m'=true:=by
 cases B with
 |cells cs=>exact cS.2 fun i hi=>uO hn hm _ (cS.1 h i hi)
 |tc e cs=>exact cS.2 fun i hi=>uO hn hm _ (cS.1 h i hi)
 |iter s pos=>rfl
 |mp kd n f=>rfl
structure iw where
 sz:Nat
 ds:List Deferred
inductive AX where
 |normal
 |exit (id:Nat)
 |ret
 |dw (v:V)
def lY (c:Ctx):Exit→AX→Prop
 | .normal,.normal=>True
 | .exit i,.exit j=>i=j
 | .ret,.ret=>True
 | .panic chain,.dw v=>∃ cv,chain=[{ v:=cv,recovered:=false }]∧Rel c cv v
 |_,_=>False
def nW (c:Ctx) (n:iw) (Q:AX→Fr→St→Prop):Exit→Act→World→Prop:=fun e a w=>
 ∃ x fr st c',Q x fr st∧Ext c c'∧bf c' w st∧cC c' a.tmps fr∧a.tmps.size=n.sz∧a.defers=n.ds∧lY c' e x
theorem nW.ext {c c1:Ctx} {n:iw} {Q:AX→Fr→St→Prop} (h:Ext c c1) {e:Exit} {a:Act} {w:World} (hl:nW c1 n Q e a w):nW c n Q e a w:=
 let ⟨x,fr,st,c',h1,h2,h3⟩:=hl
 ⟨x,fr,st,c',h1,h.trans h2,h3⟩
def St.wf (st:St):Prop:=∀ (b:Nat) (B:aJ),st.aj[b]?=some B→B.within st.aj.length st.toks.length=true
structure TW (c0:Ctx) (aC:St):Prop where
 mu:c0.mu.length=aC.aj.length
 tok:c0.tok.length=aC.toks.length
 wf:aC.wf
def AW (P:Program) (G:World→Nat→Prop) (n:iw) (aC:St) (code:Code) (Q:AX→Fr→St→Prop) (fr:Fr) (st:St):Prop:=
 ∀ (c0 c:Ctx) (w:World) (a:Act),TW c0 aC→Ext c0 c→bf c w st→G c.w0 c.base→cC c a.tmps fr→a.tmps.size=n.sz→a.defers=n.ds→code.wp P (nW c0 n Q) a w
def OW (P:Program) (G:World→Nat→Prop) (n:iw) (aC:St) (all:Array Oper) (Q:AX→Fr→St→Prop) (l:List Oper) (fr:Fr) (st:St):Prop:=
 ∀ (c0 c:Ctx) (w:World) (a:Act),TW c0 aC→Ext c0 c→bf c w st→G c.w0 c.base→cC c a.tmps fr→a.tmps.size=n.sz→a.defers=n.ds→wpList P all (nW c0 n Q) l a w
section rules
variable {G:World→Nat→Prop} {n:iw} {aC:St} {Q Q':AX→Fr→St→Prop} {fr:Fr}
theorem AW.mono {code:Code} (h:AW P G n aC code Q fr st) (hq:∀ x fr st,Q x fr st→Q' x fr st):AW P G n aC code Q' fr st:=
 fun c0 c w a h0 he hc hg hf hs hd=>wp_mono (h c0 c w a h0 he hc hg hf hs hd) fun _ _ _ ⟨x,fr,st,c',h1,h2⟩=>⟨x,fr,st,c',hq _ _ _ h1,h2⟩
theorem AW.prune {code:Code} (fr':Fr) (hp:∀ t,fr' t=fr t∨fr' t= .aU) (h:AW P G n aC code Q fr' st):AW P G n aC code Q fr st:=
 fun c0 c w a h0 he hc hg hf hs hd=>h c0 c w a h0 he hc hg (fun t=>by rcases hp t with e|e<;>rw [e];exact hf t;exact .aU _) hs hd
def bz (K:Fr→St→Prop) (Q:AX→Fr→St→Prop):AX→Fr→St→Prop
 | .normal,fr,st=>K fr st
 |x,fr,st=>Q x fr st
theorem AW.seq {x y:Code} (h:AW P G n aC x (bz (AW P G n aC y Q) Q) fr st):AW P G n aC (.seq x y) Q fr st:=by
 intro c0 c w a h0 he0 hc hg hf hs hd
 refine wp_seq (wp_mono (h c0 c w a h0 he0 hc hg hf hs hd) ?_)
 rintro e a1 w1 ⟨x1,fr1,gD,c1,hq,he,hc1,hf1,hs1,hd1,hx⟩
 cases e<;>cases x1<;>simp only [lY] at hx
 ·exact hq c0 c1 w1 a1 h0 he hc1 (by rw [he.w0,he.base,←he0.w0,←he0.base];exact hg) hf1 hs1 hd1
 ·exact ⟨.exit _,fr1,gD,c1,hq,he,hc1,hf1,hs1,hd1,hx⟩
 ·exact ⟨.ret,fr1,gD,c1,hq,he,hc1,hf1,hs1,hd1,trivial⟩
 ·exact ⟨.dw _,fr1,gD,c1,hq,he,hc1,hf1,hs1,hd1,hx⟩
theorem AW.skip (h:Q .normal fr st):AW P G n aC .skip Q fr st:=
 fun _ c _ _ _ he hc _ hf hs hd=>wp_skip ⟨.normal,fr,st,c,h,he,hc,hf,hs,hd,trivial⟩
theorem AW.label {l:Nat} (h:Q .normal fr st):AW P G n aC (.label l) Q fr st:=
 fun _ c _ _ _ he hc _ hf hs hd=>wp_label ⟨.normal,fr,st,c,h,he,hc,hf,hs,hd,trivial⟩
theorem AW.exit {id:Nat} (h:Q (.exit id) fr st):AW P G n aC (.exit id) Q fr st:=
 fun _ c _ _ _ he hc _ hf hs hd=>wp_exit ⟨.exit id,fr,st,c,h,he,hc,hf,hs,hd,rfl⟩
theorem AW.ret (h:Q .ret fr st):AW P G n aC .ret Q fr st:=
 fun _ c _ _ _ he hc _ hf hs hd=>wp_ret ⟨.ret,fr,st,c,h,he,hc,hf,hs,hd,trivial⟩
theorem DR {a:Act} (hf:cC c a.tmps fr) {x:Operand} {b:Bool} (h:ev fr x= .d (.bool b)):a.eval x= .bool b:=by
 have hr:=bJ hf x
 rw [h] at hr
 generalize a.eval x=q at hr ⊢
 cases hr with|d _ _ hr=>?_
 cases hr
 rfl
theorem AW.cond {x y:Code} {o:Operand} {b:Bool} (hb:ev fr o= .d (.bool b)) (h:AW P G n aC (if b=true then x else y) Q fr st):AW P G n aC (.cond o x y) Q fr st:=
 fun c0 c w a h0 he hc hg hf hs hd=>wp_cond (DR hf hb) (h c0 c w a h0 he hc hg hf hs hd)
def aY (id:Nat) (Q:AX→Fr→St→Prop):AX→Fr→St→Prop
 | .exit j,fr,st=>if j=id then Q .normal fr st else Q (.exit j) fr st
 |x,fr,st=>Q x fr st
theorem AW.block {x:Code} {id:Nat} (h:AW P G n aC x (aY id Q) fr st):AW P G n aC (.block id x) Q fr st:=by
 intro c0 c w a h0 he0 hc hg hf hs hd
 refine wp_block (wp_mono (h c0 c w a h0 he0 hc hg hf hs hd) ?_)
 rintro e a1 w1 ⟨x1,fr1,gD,c1,hq,he,hc1,hf1,hs1,hd1,hx⟩
 cases e<;>cases x1<;>simp only [lY] at hx
 ·exact ⟨.normal,fr1,gD,c1,hq,he,hc1,hf1,hs1,hd1,trivial⟩
 ·rename_i i j
  subst hx
  simp only [Exit.inBlock]
  simp only [aY] at hq
  split
  ·rename_i h1
   rw [if_pos h1] at hq
   exact ⟨.normal,fr1,gD,c1,hq,he,hc1,hf1,hs1,hd1,trivial⟩
  ·rename_i h1
   rw [if_neg h1] at hq
   exact ⟨.exit i,fr1,gD,c1,hq,he,hc1,hf1,hs1,hd1,rfl⟩
 ·exact ⟨.ret,fr1,gD,c1,hq,he,hc1,hf1,hs1,hd1,trivial⟩
 ·exact ⟨.dw _,fr1,gD,c1,hq,he,hc1,hf1,hs1,hd1,hx⟩
theorem AW.scope {x:Code} (h:AW P G n aC x Q fr st):AW P G n aC (.scope x) Q fr st:=by
 intro c0 c w a h0 he0 hc hg hf hs hd
 refine wp_scope_straight (wp_mono (h c0 c w a h0 he0 hc hg hf hs hd) ?_)
 intro e a1 w1 hl
 cases e
 case goto l=>
  obtain ⟨x1,_,_,_,_,_,_,_,_,_,hx⟩:=hl
  cases x1<;>exact hx.elim
 all_goals exact hl
def oy (N M:Nat) (fr:Fr):Fr:=fun t=>if (fr t).within N M=true then fr t else .aU
structure rV (aC st:St) (N M:Nat):Prop where
 aj:aC.aj.length≤N
 toks:aC.toks.length≤M
 old:∀ (b:Nat) (B:aJ),b<N→st.aj[b]?=some B→aC.aj[b]?=some B∨B.within N M=true
theorem rV.DS {c0:Ctx} {N M:Nat} (h:rV aC st N M) (h0:TW c0 aC) (he:Ext c0 c) (hc:bf c w st):bf (c.cut N M) w (st.cut N M)∧Ext c0 (c.cut N M):=by
 refine ⟨hc.cut N M fun b B hb hB=>?_,⟨he.H,fun i k hk=>?_,fun id t ht=>?_,he.base,he.w0⟩⟩
 ·rcases h.old b B hb hB with h1|h1
  ·exact rU h.aj h.toks B (h0.wf b B h1)
  ·exact h1
 ·have hlt:i<N:=by have:=(aam.1 hk).1;have:=h.aj;have:=h0.mu;omega
  simp only [Ctx.cut]
  rw [aa3 hlt]
  exact he.mu i k hk
 ·have hlt:id<M:=by have:=(aam.1 ht).1;have:=h.toks;have:=h0.tok;omega
  obtain ⟨t',a1,a2⟩:=he.tok id t ht
  exact ⟨t',by simp only [Ctx.cut];rw [aa3 hlt];exact a1,a2⟩
theorem cC.oy {tmps:Array Value} (hf:cC c tmps fr) (N M:Nat):cC (c.cut N M) tmps (Abs.oy N M fr):=by
 intro t
 unfold Abs.oy
 split
 ·rename_i h;exact (hf t).cut h
 ·exact .aU _
theorem AW.loop {body:Code} (I:Fr→St→Prop) (μ:Fr→St→Nat) (h0:I fr st)
  (round:∀ fr st,I fr st→AW P G n aC body (bz (fun fr' st'=>I fr' st'∧μ fr' st'<μ fr st) Q) fr st):AW P G n aC (.loop body) Q fr st:=by
 intro c0 c w a h0' he0 hc hg hf hs hd
 refine wp_loop_ghost (fun k a w=>∃ fr st c1,I fr st∧μ fr st=k∧Ext c0 c1∧bf c1 w st∧cC c1 a.tmps fr∧a.tmps.size=n.sz∧a.defers=n.ds) (μ fr st)
  ⟨fr,st,c,h0,rfl,he0,hc,hf,hs,hd⟩ ?_
 rintro k a1 w1 ⟨fr1,gD,c1,hI,rfl,he,hc1,hf1,hs1,hd1⟩
 refine wp_mono (round fr1 gD hI c0 c1 w1 a1 h0' he hc1 (by rw [he.w0,he.base,←he0.w0,←he0.base];exact hg) hf1 hs1 hd1) ?_
 rintro e a2 w2 ⟨x2,fr2,eo,c2,hq,he2,hc2,hf2,hs2,hd2,hx⟩
 cases e<;>cases x2<;>simp only [lY] at hx
 ·exact ⟨_,hq.2,fr2,eo,c2,hq.1,rfl,he2,hc2,hf2,hs2,hd2⟩
 ·exact ⟨.exit _,fr2,eo,c2,hq,he2,hc2,hf2,hs2,hd2,hx⟩
 ·exact ⟨.ret,fr2,eo,c2,hq,he2,hc2,hf2,hs2,hd2,trivial⟩
 ·exact ⟨.dw _,fr2,eo,c2,hq,he2,hc2,hf2,hs2,hd2,hx⟩
theorem AW.region {id:Nat} {l:List Oper} (h:OW P G n aC l.toArray Q l fr st):AW P G n aC (.region id l.toArray false) Q fr st:=
 fun c0 c w a h0 he hc hg hf hs hd=>wp_region_lit (h c0 c w a h0 he hc hg hf hs hd)
theorem OW.nil {all:Array Oper} (h:Q .normal fr st):OW P G n aC all Q [] fr st:=
 fun _ c _ _ _ he hc _ hf hs hd=>wpList_nil ⟨.normal,fr,st,c,h,he,hc,hf,hs,hd,trivial⟩
def eC (fr:Fr) (d:Option Tmp) (v:V):Fr:=match d with|some i=>j7 fr i v|none=>fr
def fC (n:iw) (d:Option Tmp):Bool:=match d with|some i=>decide (i<n.sz)|none=>true
theorem cC.eC {a:Act} (hf:cC c a.tmps fr) (hs:a.tmps.size=n.sz) {d:Option Tmp} (hd:fC n d=true) {v:Value} {x:V} (r:Rel c v x):
  cC c (a.put d v).tmps (Abs.eC fr d x):=by
 cases d with
 |none=>exact hf
 |some i=>exact hf.put (by simpa [fC,hs] using hd) r
theorem iy (a:Act) (d:Option Tmp) (v:Value):(a.put d v).tmps.size=a.tmps.size:=by cases d<;>simp [Act.put]
theorem put_defers (a:Act) (d:Option Tmp) (v:Value):(a.put d v).defers=a.defers:=by cases d<;>rfl
def goes (all:Array Oper) (o:Oper) (fr:Fr):Option Bool:=
 match o.guard with
 |none=>some true
 |some (j,b)=>match (all[j]?).bind (·.dst) with
  |some d=>match fr d with
   | .d (.bool t)=>some (t==b)
   | .cF []=>some false
   |_=>none
  |none=>none
theorem ZC {all:Array Oper} {o:Oper} {a:Act} (hf:cC c a.tmps fr) {b:Bool} (h:goes all o fr=some b):Region.wanted o (yielded all a.tmps)=b:=by
 unfold goes at h
 unfold Region.wanted
 split at h
 ·rename_i hg
  simp only [aaf] at h
  rw [hg,←h]
 ·rename_i j want hg
  rw [hg]
  split at h
  case h_2=>simp at h
  rename_i d hd
  have hr:=hf d
  have hget:a.tmps[d]?=some (a.tmps.getD d undef)∨a.tmps[d]?=none∧a.tmps.getD d undef=undef:=by
   rw [aar]
   cases a.tmps[d]?<;>simp
  split at h<;>simp only [aaf,reduceCtorEq] at h
  ·rename_i t ht
   rw [ht] at hr
   have hv:a.tmps[d]?=some (.bool t):=by
    rcases hget with hq|⟨hq,hu⟩
    ·rw [hq]
     generalize a.tmps.getD d undef=q at hr
     cases hr with|d _ _ hr=>?_
     cases hr
     rfl
    ·rw [hu] at hr
     cases hr with|d _ _ hr=>cases hr
   simp only [yielded,hd,Option.bind_some,hv,←h]
   cases t<;>cases want<;>rfl
  ·rename_i ht
   rw [ht] at hr
   have hv:a.tmps[d]?=none∨∃ arr,a.tmps[d]?=some (.tuple arr):=by
    rcases hget with hq|⟨hq,hu⟩
    ·rw [hq]
     generalize a.tmps.getD d undef=q at hr
     cases hr
     exact .inr ⟨_,rfl⟩
    ·exact .inl hq
   rcases hv with hv|⟨arr,hv⟩<;>simp only [yielded,hd,Option.bind_some,hv,←h]<;>rfl
theorem Rel.Uk {c:Ctx}:Rel c undef (.cF []):= .cF _ _ rfl (by simp)
theorem rX {o:Oper} {a:Act} {K K':Act→World→Prop} {q q':Exit→Act→World→Prop} (hK:∀ a w,K a w→K' a w) (hQ:∀ e a w,q e a w→q' e a w) (r:Result Next)
  (h:o.upon P a K q r):o.upon P a K' q' r:=by
 cases r with
 |ok nx w=>
  cases nx<;>simp only [Oper.upon] at h ⊢ <;>
   first
    |exact hK _ _ h
    |exact Calls.mono h (fun e w'' he=>by
      cases e
      ·exact hK _ _ he
      ·exact hQ _ _ _ he
      ·obtain ⟨a0,w0,h0⟩:=he
       exact ⟨a0,w0,hQ _ _ _ h0⟩)
    |exact Rows.mono h (fun _ _ he=>hK _ _ he)
 |halt x w=>
  cases x<;>simp only [Oper.upon] at h ⊢
  exact hQ _ _ _ h
theorem kY {all:Array Oper} {q q':Exit→Act→World→Prop} (hQ:∀ e a w,q e a w→q' e a w):∀ (l:List Oper) (a:Act) (w:World),wpList P all q l a w→wpList P all q' l a w
 |[],_,_,h=>hQ _ _ _ h
 |o::rest,a,w,h=>by
  unfold wpList at h ⊢
  split at h
  ·rename_i hw
   rw [if_pos hw]
   rcases h with h|⟨h1,a0,w0,h2⟩
   ·exact .inl (rX (fun a w h=>kY hQ rest a w h) hQ _ h)
   ·exact .inr ⟨h1,a0,w0,hQ _ _ _ h2⟩
  ·rename_i hw
   rw [if_neg hw]
   exact kY hQ rest _ _ h
theorem OW.op {all:Array Oper} {o:Oper} {rest:List Oper} {v:V} {st':St} (hg:goes all o fr=some true) (he:evalOp P o fr st=some (v,st')) (hd:fC n o.dst=true)
  (h:OW P G n aC all Q rest (eC fr o.dst v) st'):OW P G n aC all Q (o::rest) fr st:=by
 intro c0 c w a h0 he0 hc hG hf hs hdf
 obtain ⟨cv,w',c',hr,hv,hc',hext⟩:=oz (P:=P) hc o hf he
 unfold wpList
 rw [if_pos (ZC hf hg)]
 refine .inl ?_
 have hk:wpList P all (nW c0 n Q) rest (a.put o.dst cv) w':=
  h c0 c' w' (a.put o.dst cv) h0 (he0.trans hext) hc' (by rw [hext.w0,hext.base];exact hG) ((hf.mono hext).eC hs hd hv) ((iy _ _ _).trans hs) ((put_defers _ _ _).trans hdf)
 unfold Oper.wp
 rcases hr with hr|⟨hr,rfl⟩<;>rw [hr]<;>exact hk
theorem OW.skip {all:Array Oper} {o:Oper} {rest:List Oper} (hg:goes all o fr=some false) (hd:fC n o.dst=true)
  (h:OW P G n aC all Q rest (eC fr o.dst (.cF [])) st):OW P G n aC all Q (o::rest) fr st:=by
 intro c0 c w a h0 he0 hc hG hf hs hdf
 unfold wpList
 rw [if_neg (by rw [ZC hf hg];simp)]
 exact h c0 c w (a.put o.dst undef) h0 he0 hc hG (hf.eC hs hd .Uk) ((iy _ _ _).trans hs) ((put_defers _ _ _).trans hdf)
def M6 (P:Program) (G:World→Nat→Prop) (n:iw) (aC:St) (all:Array Oper) (Q:AX→Fr→St→Prop) (rest:List Oper) (d:Option Tmp) (fr:Fr):Out→St→Prop
 | .ret v,st'=>OW P G n aC all Q rest (eC fr d v) st'
 | .dw v,st'=>Q (.dw v) fr st'
theorem OW.call {all:Array Oper} {d:Option Tmp} {x:Operand} {args:Array Operand} {ats:Array TypeId} {ty:TypeId} {pos:String} {after:Array Edge} {gd:Option (Nat×Bool)} {rest:List Oper} {g:FuncId} {cap:List V}
  (hg:goes all { dst:=d,op:= .call { callee:= .value x,args:=args,argTypes:=ats },type:=ty,pos:=pos,after:=after,guard:=gd } fr=some true)
  (hf:ev fr x= .jE g cap) (hcall:∀ args w,(callFunc g args).run P w= .ok (.enter g args) w) (hd:fC n d=true)
  (h:aa P G g (args.toList.map (fun o=>(ev fr o).share)++cap) st (M6 P G n aC all Q rest d fr)):
  OW P G n aC all Q ({ dst:=d,op:= .call { callee:= .value x,args:=args,argTypes:=ats },type:=ty,pos:=pos,after:=after,guard:=gd }::rest) fr st:=by
 intro c0 c w a h0 he0 hc hG hfr hs hdf
 have hx:=bJ hfr x
 rw [hf] at hx
 generalize hq:a.eval x=q at hx
 cases hx with|jE _ arr _ hcs hcr=>?_
 unfold wpList
 rw [if_pos (ZC hfr hg)]
 refine .inl ?_
 unfold Oper.wp
 have hexec:(execOp a.eval { dst:=d,op:= .call { callee:= .value x,args:=args,argTypes:=ats },type:=ty,pos:=pos,after:=after,guard:=gd }).run P w= .ok (.enter g (args.map a.eval++arr)) w:=by
  simp only [execOp,resolve,hq,Deferred.ofValue,Sem.run_bind,Sem.run_pure,Result.andThen_ok,invoke,hcall]
  simp
 rw [hexec,Oper.upon_enter]
 have hargs:∀ i,i< (args.toList.map (fun o=>(ev fr o).share)++cap).length→Rel c ((args.map a.eval++arr).getD i undef) ((args.toList.map (fun o=>(ev fr o).share)++cap).getD i .aU):=by
  intro i hi
  simp only [aak,aaN,aaE] at hi
  by_cases hlt:i<args.size
  ·rw [show (args.map a.eval++arr).getD i undef=a.eval args[i] by
    simp [aar,Array.getElem?_append,hlt]]
   rw [show (args.toList.map (fun o=>(ev fr o).share)++cap).getD i .aU=(ev fr args[i]).share by
    simp [aaj,List.getElem?_append,hlt]]
   exact (bJ hfr _).share
  ·rw [show (args.map a.eval++arr).getD i undef=arr.getD (i - args.size) undef by
    simp [aar,Array.getElem?_append,hlt]]
   rw [show (args.toList.map (fun o=>(ev fr o).share)++cap).getD i .aU=cap.getD (i - args.size) .aU by
    simp [aaj,List.getElem?_append,hlt]]
   exact hcr _ (by omega)
 refine (h c w (args.map a.eval++arr) hc hG (by simp [hcs]) hargs).mono ?_
 rintro e w' ⟨out,st',c',hR,hext,hc',hend⟩
 cases e<;>cases out<;>simp only [gT] at hend
 ·simp only [M6] at hR
  exact hR c0 c' w' (a.put d _) h0 (he0.trans hext) hc' (by rw [hext.w0,hext.base];exact hG) ((hfr.mono hext).eC hs hd hend) ((iy _ _ _).trans hs) ((put_defers _ _ _).trans hdf)
 ·exact ⟨.dw _,fr,st',c',hR,he0.trans hext,hc',hfr.mono hext,hs,hdf,hend⟩
theorem OW.panic {all:Array Oper} {o:Oper} {x:Operand} {rest:List Oper} {t:TypeId} {y:D} (hg:goes all o fr=some true) (ho:o.op= .panic x) (hx:ev fr x= .d (.iface t y))
  (h:Q (.dw (.d (.iface t y))) fr st):OW P G n aC all Q (o::rest) fr st:=by
 intro c0 c w a _ he0 hc _ hf hs hdf
 have hr:=bJ hf x
 rw [hx] at hr
 generalize hq:a.eval x=q at hr
 cases hr with|d _ _ hr=>?_
 cases hr with|iface _ v _ hv=>?_
 unfold wpList
 rw [if_pos (ZC hf hg)]
 refine .inl ?_
 unfold Oper.wp
 have hexec:(execOp a.eval o).run P w= .halt (.panic (.iface t v)) w:=by
  simp [execOp,ho,hq,Instr.panic]
 rw [hexec,Oper.upon_panic]
 exact ⟨.dw _,fr,st,c,h,he0,hc,hf,hs,hdf,.iface t v,rfl,.d _ _ (.iface t v _ hv)⟩
def eT (P:Program) (fr:Fr) (st:St):List ResultVar→Option (List V)
 |[]=>some []
 | .tmp t::r=>(eT P fr st r).map (fr t:: ·)
 | .cell a t::r=>match bn P t (fr a) st,eT P fr st r with
  |some v,some l=>some (v::l)
  |_,_=>none
def vX (tmps:Array Value):ResultVar→Sem Value
 | .tmp t=>pure (tmps.getD t undef)
 | .cell a t=>do loadVar t (←asAddr (tmps.getD a undef))
theorem AG (fn:Func) (tmps:Array Value):results fn tmps=(do
  let vs←fn.results.mapM (vX tmps)
  pure (if h:vs.size=1 then vs[0] else .tuple vs)):=by
 unfold results
 congr 2
def eD (l:List V):V:=match l with|[v]=>v|l=> .cF l
theorem l9 (hc:bf c w st) {tmps:Array Value} (hf:cC c tmps fr):∀ (rs:List ResultVar) {l:List V},eT P fr st rs=some l→
  ∃ vs:List Value,(rs.mapM (vX tmps)).run P w= .ok vs w∧vs.length=l.length∧∀ i,i<l.length→Rel c (vs.getD i undef) (l.getD i .aU)
 |[],l,h=>by
  simp only [eT,aaf] at h
  subst h
  exact ⟨[],by simp,rfl,by simp⟩
 | .tmp t::r,l,h=>by
  simp only [eT,aa4] at h
  obtain ⟨l',h1,rfl⟩:=h
  obtain ⟨vs,h2,h3,h4⟩:=l9 hc hf r h1
  refine ⟨tmps.getD t undef::vs,?_,by simp [h3],fun i hi=>?_⟩
  ·simp only [List.mapM_cons,vX,Sem.run_bind,Sem.run_pure,Result.andThen_ok,h2]
  ·cases i with
   |zero=>simpa using hf t
   |succ i=>simpa using h4 i (by simpa using hi)
 | .cell a t::r,l,h=>by
  simp only [eT] at h
  split at h<;>simp only [aaf,reduceCtorEq] at h
  rename_i v l' hv h1
  subst h
  obtain ⟨vs,h2,h3,h4⟩:=l9 hc hf r h1
  obtain ⟨cv,h5,h6⟩:=mb (P:=P) hc t (hf a) hv
  have hptr:∃ ad,tmps.getD a undef= .pointer (some ad):=by
   have hr:=hf a
   unfold bn at hv
   split at hv
   case h_2=>simp at hv
   generalize fr a=y at hr hv
   generalize tmps.getD a undef=q at hr ⊢
   split at hv
   ·cases hr with|ptr _ k _ _=>exact ⟨_,rfl⟩
   ·cases hr with|ep k base _ vs _ _ _=>exact ⟨_,rfl⟩
   ·simp at hv
  obtain ⟨ad,had⟩:=hptr
  rw [had,jM] at h5
  refine ⟨cv::vs,?_,by simp [h3],fun i hi=>?_⟩
  ·have hasA:(asAddr (.pointer (some ad))).run P w= .ok ad w:=rfl
   rw [List.mapM_cons]
   simp only [vX,had,hasA,Sem.run_bind,Sem.run_pure,Result.andThen_ok,h5,h2]
  ·cases i with
   |zero=>simpa using h6
   |succ i=>simpa using h4 i (by simpa using hi)
theorem rY (hc:bf c w st) {fn:Func} {tmps:Array Value} (hf:cC c tmps fr) {l:List V} (h:eT P fr st fn.results.toList=some l):
  ∃ cv,(results fn tmps).run P w= .ok cv w∧Rel c cv (eD l):=by
 obtain ⟨vs,h1,h2,h3⟩:=l9 hc hf fn.results.toList h
 rw [AG,Array.mapM_eq_mapM_toList]
 simp only [Sem.run_bind,Sem.run_map,h1,Result.andThen_ok,Sem.run_pure]
 refine ⟨_,rfl,?_⟩
 match l,vs,h2 with
 |[],[],_=>exact .cF _ _ rfl (by simp)
 |[v],[x],_=>simpa [eD] using h3 0 (by simp)
 |v::v2::r,x::x2::r2,h2=>
  rw [dif_neg (by simp)]
  refine .cF _ _ (by simpa using h2) fun i hi=>?_
  rw [aK]
  exact h3 i hi
def bK (P:Program) (fn:Func) (aC:St) (R:Out→St→Prop):AX→Fr→St→Prop:=fun x fr st=>
 ∃ m,rV aC st aC.aj.length m∧
  match x with
  | .normal| .ret=>∃ l,eT P fr st fn.results.toList=some l∧(eD l).share.within aC.aj.length m=true∧R (.ret (eD l).share) (st.cut aC.aj.length m)
  | .dw v=>v.within aC.aj.length m=true∧R (.dw v) (st.cut aC.aj.length m)
  | .exit _=>False
def dr (args:List V):Fr:=fun t=>args.getD t .aU
theorem bf.J8 (hc:bf c w st):TW c st:=by
 refine ⟨hc.cN,by rw [←hc.cu];simp,fun b B hB=>?_⟩
 have hbk:b<c.mu.length:=by rw [hc.cN];exact (aam.1 hB).1
 obtain ⟨o,_,hr⟩:=hc.blk b _ B (aax hbk) hB
 have:=hr.within
 rwa [hc.cN,show c.tok.length=st.toks.length by rw [←hc.cu];simp] at this
theorem aa.body {f:FuncId} {fn:Func} {code:Code} {args:List V} {R:Out→St→Prop} {k:Nat} (hf:P.funcs[f]?=some fn) (hb:fn.body=some code) (hn:fn.ntmps=k) (hargs:args.length≤k)
  (h:AW P G ⟨k,[]⟩ st code (bK P fn st R) (dr args) st):aa P G f args st R:=by
 intro c w cargs hc hG hs hr
 refine calls_of_wp hf hb (wp_mono (h c c w _ hc.J8 (Ext.refl c) hc hG (fun t=>?_) ?_ rfl) ?_)
 ·simp only [dr]
  by_cases ht:t<args.length
  ·rw [show (cargs++Array.replicate (fn.ntmps - cargs.size) undef).getD t undef=cargs.getD t undef by
    simp [aar,Array.getElem?_append,show t<cargs.size by omega]]
   exact hr t ht
  ·rw [show args.getD t .aU= .aU by simp [aaj,show args.length≤t by omega]]
   exact .aU _
 ·simp only [Array.size_append,Array.size_replicate]
  omega
 ·rintro e a' w' ⟨x,fr,st',c',⟨m,hcut,h5⟩,hext,hc',hf',hs',hd',hx⟩
  obtain ⟨hcc,hext'⟩:=hcut.DS hc.J8 hext hc'
  have fin:∀ l,eT P fr st' fn.results.toList=some l→(eD l).share.within st.aj.length m=true→R (.ret (eD l).share) (st'.cut st.aj.length m)→
    ∃ v,(results fn a'.tmps).run P w'= .ok v w'∧∃ out st'' c'',R out st''∧Ext c c''∧bf c'' w' st''∧gT c'' (.returned v) out:=by
   intro l hl hw hR
   obtain ⟨cv,hrun,hrel⟩:=rY (P:=P) hc' hf' hl
   exact ⟨cv,hrun,_,_,_,hR,hext',hcc,hrel.share.cut hw⟩
  cases e<;>cases x<;>simp only [lY] at hx
  ·obtain ⟨l,a1,a2,a3⟩:=h5
   exact ⟨hd',fin l a1 a2 a3⟩
  ·exact h5.elim
  ·obtain ⟨l,a1,a2,a3⟩:=h5
   exact ⟨hd',fin l a1 a2 a3⟩
  ·obtain ⟨a1,a2⟩:=h5
   obtain ⟨cv,b1,b2⟩:=hx
   exact ⟨hd',_,_,_,a2,hext',hcc,cv,b1,b2.cut a1⟩
end rules
end Go.Abs
