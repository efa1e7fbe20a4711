import Derived.Test.YtbcillkajdnljaaGreatDoorV7
import Derived.Deep.LoopGhost
import Derived.Scope
set_option linter.all false
namespace Go.Abs
open Go.RowKit
inductive Out where
 |ret (v:V)
 |dw (v:V)
def gT (c:Ctx):Ending→Out→Prop
 | .returned cv,.ret v=>Rel c cv v
 | .panicked chain,.dw v=>∃ cv,chain=[{ v:=cv,recovered:=false }]∧Rel c cv v
 |_,_=>False
def V.share:V→V
 | .bh=> .d (.sl [])
 | .own _ es=> .d (.sl es)
 | .agg cs=> .agg (fL cs)
 | .cF cs=> .cF (fL cs)
 |v=>v
where fL:List V→List V
 |[]=>[]
 |v::r=>v.share::fL r
theorem yA:∀ l:List V,(V.share.fL l).length=l.length
 |[]=>rfl
 |v::r=>by simp [V.share.fL,yA r]
theorem jh:∀ (l:List V) (i:Nat),i<l.length→(V.share.fL l).getD i .aU=(l.getD i .aU).share
 |[],i,h=>by simp at h
 |v::r,0,_=>by simp [V.share.fL]
 |v::r,i+1,h=>by
  have:=jh r i (by simpa using h);simpa [V.share.fL] using this
variable {P:Program} {c:Ctx} {w:World} {st:St}
def Rel.share {v:Value} {x:V} (r:Rel c v x):Rel c v x.share:=by
 induction r with
 |aU v=>exact .aU v
 |d v x r=>exact .d v x r
 |bh=>exact .d _ _ .slnil
 |own v id es t r ht hsz hle heq=>exact .d _ _ r
 |ptr b k off hb=>exact .ptr b k off hb
 |mp b k hb=>exact .mp b k hb
 |win b k n cap hb hn=>exact .win b k n cap hb hn
 |ep k base off vs cs h1 h2=>exact .ep k base off vs cs h1 h2
 |jE f arr cap hs hr _=>exact .jE f arr cap hs hr
 |agg arr cs hs _ ih=>
  refine .agg _ _ (by rw [yA];exact hs) fun i hi=>?_
  rw [yA] at hi
  rw [jh cs i hi]
  exact ih i hi
 |cF arr cs hs _ ih=>
  refine .cF _ _ (by rw [yA];exact hs) fun i hi=>?_
  rw [yA] at hi
  rw [jh cs i hi]
  exact ih i hi
def aA (P:Program) (G:World→Nat→Prop) (f:FuncId) (args:List V) (st:St) (R:Out→St→Prop):Prop:=
 ∀ (c:Ctx) (w:World) (cargs:Array Value),bf c w st→G c.w0 c.base→cargs.size=args.length→(∀ i,i<args.length→Rel c (cargs.getD i undef) (args.getD i .aU))→
  Calls P f cargs w fun e w'=>∃ out st' c',R out st'∧Ext c c'∧bf c' w' st'∧gT c' e out
def aA.mono {G:World→Nat→Prop} {f:FuncId} {args:List V} {R R':Out→St→Prop} (h:aA P G f args st R) (hr:∀ o s,R o s→R' o s):aA P G f args st R':=
 fun c w cargs hc hg hs ha=>(h c w cargs hc hg hs ha).mono fun _ _ ⟨o,s,c',h1,h2⟩=>⟨o,s,c',hr _ _ h1,h2⟩
def V.within (n m:Nat):V→Bool
 | .ptr b _=>decide (b<n)
 | .mp b=>decide (b<n)
 | .win b _ _=>decide (b<n)
 | .own id _=>decide (id<m)
 | .jE _ cap=>all n m cap
 | .agg cs=>all n m cs
 | .cF vs=>all n m vs
 |_=>true
where all (n m:Nat):List V→Bool
 |[]=>true
 |v::r=>v.within n m&&all n m r
def ec.within (n m:Nat):ec→Bool
 | .cells cs=>V.within.all n m cs
 | .tc _ cs=>V.within.all n m cs
 | .iter _ _=>true
 | .mp _ _ _=>true
theorem cS {n m:Nat}:∀ {l:List V},V.within.all n m l=true↔∀ i,i<l.length→(l.getD i .aU).within n m=true
 |[]=>by simp [V.within.all]
 |v::r=>by
  simp only [V.within.all,aas,cS (l:=r),aav];constructor
  ·rintro ⟨h1,h2⟩ i hi;cases i with
   |zero=>simpa using h1
   |succ i=>simpa using h2 i (by omega)
  ·intro h;exact ⟨by simpa using h 0 (by omega),fun i hi=>by simpa using h (i+1) (by omega)⟩
def Rel.within {v:Value} {x:V} (r:Rel c v x):x.within c.mu.length c.tok.length=true:=by
 induction r with
 |aU v=>rfl
 |d v x r=>rfl
 |bh=>rfl
 |own v id es t r ht _ _ _=>simpa [V.within] using (aao.1 ht).1
 |ptr b k off hb=>simpa [V.within] using (aao.1 hb).1
 |mp b k hb=>simpa [V.within] using (aao.1 hb).1
 |win b k m cap hb _=>simpa [V.within] using (aao.1 hb).1
 |ep k base off vs cs h1 h2=>rfl
 |jE f arr cap hs _ ih=>exact cS.2 ih
 |agg arr cs hs _ ih=>exact cS.2 ih
 |cF arr vs hs _ ih=>exact cS.2 ih
def Ctx.cut (c:Ctx) (n m:Nat):Ctx:= { c with mu:=c.mu.take n,tok:=c.tok.take m }
def St.cut (st:St) (n m:Nat):St:=⟨st.aj.take n,st.toks.take m⟩
def Rel.cut {v:Value} {x:V} (r:Rel c v x) {n m:Nat} (h:x.within n m=true):Rel (c.cut n m) v x:=by
 induction r with
 |aU v=>exact .aU v
 |d v x r=>exact .d v x r
 |bh=>exact .bh
 |own v id es t r ht hsz hle heq=>
  have hlt:id<m:=by simpa [V.within] using h
  exact .own v id es t r (by simp only [Ctx.cut];rw [aa7 hlt];exact ht) hsz hle heq
 |ptr b k off hb=>
  have hlt:b<n:=by simpa [V.within] using h
  exact .ptr b k off (by simp only [Ctx.cut];rw [aa7 hlt];exact hb)
 |mp b k hb=>
  have hlt:b<n:=by simpa [V.within] using h
  exact .mp b k (by simp only [Ctx.cut];rw [aa7 hlt];exact hb)
 |win b k l cap hb hl=>
  have hlt:b<n:=by simpa [V.within] using h
  exact .win b k l cap (by simp only [Ctx.cut];rw [aa7 hlt];exact hb) hl
 |ep k base off vs cs h1 h2=>exact .ep k base off vs cs h1 h2
 |jE f arr cap hs _ ih=>exact .jE f arr cap hs fun i hi=>ih i hi (cS.1 h i hi)
 |agg arr cs hs _ ih=>exact .agg arr cs hs fun i hi=>ih i hi (cS.1 h i hi)
 |cF arr vs hs _ ih=>exact .cF arr vs hs fun i hi=>ih i hi (cS.1 h i hi)
def L2.cut {o:Obj} {B:ec} (r:L2 c o B) {n m:Nat} (h:B.within n m=true):L2 (c.cut n m) o B:=by
 cases r with
 |cells arr elem cs hs hr=>exact .cells arr elem cs hs fun i hi=>(hr i hi).cut (cS.1 h i hi)
 |tc arr elem cs hs hr=>exact .tc arr elem cs hs fun i hi=>(hr i hi).cut (cS.1 h i hi)
 |iter s l pos e=>exact .iter s l pos e
 |mp es clock kd n f hf=>exact .mp es clock kd n f hf
def L2.within {o:Obj} {B:ec} (r:L2 c o B):B.within c.mu.length c.tok.length=true:=by
 cases r with
 |cells arr elem cs hs hr=>exact cS.2 fun i hi=>(hr i hi).within
 |tc arr elem cs hs hr=>exact cS.2 fun i hi=>(hr i hi).within
 |iter s l pos e=>rfl
 |mp es clock kd n f hf=>rfl
def gC {α:Type} {l:List α} {n i:Nat} {x:α} (h:(l.take n)[i]?=some x):i<n∧l[i]?=some x:=by
 rw [abl] at h;split at h
 ·rename_i hi;exact ⟨hi,h⟩
 ·simp at h
def bf.cut (h:bf c w st) (n m:Nat) (hw:∀ (b:Nat) (B:ec),b<n→st.aj[b]?=some B→B.within n m=true):bf (c.cut n m) w (st.cut n m) where
 cN:=by simp [Ctx.cut,St.cut,h.cN]
 dH:=by
  intro i j k hi hj;exact h.dH i j k (gC hi).2 (gC hj).2
 cI:=by
  intro i k hi;exact h.cI i k (gC hi).2
 mS:=by
  intro i k o hi;exact h.mS i k o (gC hi).2
 blk:=by
  intro b k B hk hB;obtain ⟨hlt,hk⟩:=gC hk;obtain ⟨_,hB⟩:=gC hB;obtain ⟨o,ho,hr⟩:=h.blk b k B hk hB;exact ⟨o,ho,hr.cut (hw b B hlt hB)⟩
 cu:=by simp [Ctx.cut,St.cut,←h.cu]
 cz:=by
  intro id t ht;obtain ⟨h0,hd|⟨xs,ho,hg⟩⟩:=h.cz id t (gC ht).2
  ·exact ⟨h0,.inl hd⟩
  refine ⟨h0,.inr ⟨xs,ho,fun g hgb=>?_⟩⟩;obtain ⟨h1,h2,h3⟩:=hg g hgb;exact ⟨h1,h2,fun hm=>h3 (List.mem_of_mem_take hm)⟩
 cK:=by
  intro i j s t g hi hj;exact h.cK i j s t g (gC hi).2 (gC hj).2
 cy:=h.cy
 below:=h.below
 cw:=h.cw
def uO {n m n' m':Nat} (hn:n≤n') (hm:m≤m'):∀ v:V,v.within n m=true→v.within n' m'=true:=by
 have key:∀ k:Nat,∀ v:V,SizeOf.sizeOf v≤k→v.within n m=true→v.within n' m'=true:=by
  intro k;induction k with
  |zero=>intro v hv;cases v<;>simp at hv
  |succ k ih=>
   have lst:∀ l:List V,SizeOf.sizeOf l≤k→V.within.all n m l=true→V.within.all n' m' l=true:=by
    intro l;induction l with
    |nil=>intro _ _;rfl
    |cons v r ihr=>
     intro hs h
     simp only [V.within.all,aas] at h ⊢
     simp only [List.cons.sizeOf_spec] at hs
     exact ⟨ih v (by omega) h.1,ihr (by omega) h.2⟩
   intro v hv h
   cases v with
   |own id es=>simp only [V.within,aau] at h ⊢;omega
   |ptr b off=>simp only [V.within,aau] at h ⊢;omega
   |mp b=>simp only [V.within,aau] at h ⊢;omega
   |win b l cap=>simp only [V.within,aau] at h ⊢;omega
   |jE f cap=>simp only [V.jE.sizeOf_spec] at hv;exact lst cap (by omega) h
   |agg cs=>simp only [V.agg.sizeOf_spec] at hv;exact lst cs (by omega) h
   |cF vs=>simp only [V.cF.sizeOf_spec] at hv;exact lst vs (by omega) h
   |_=>exact h
 exact fun v=>key _ v (aat _)
def rU {n m n' m':Nat} (hn:n≤n') (hm:m≤m') (B:ec) (h:B.within n m=true):B.within n' m'=true:=by
 cases B with
 |cells cs=>exact cS.2 fun i hi=>uO hn hm _ (cS.1 h i hi)
 |tc e cs=>exact cS.2 fun i hi=>uO hn hm _ (cS.1 h i hi)
 |iter s pos=>rfl
 |mp kd n f=>rfl
structure NDs where
 sz:Nat
 ds:List Deferred
inductive AX where
 |normal
 |exit (id:Nat)
 |ret
 |dw (v:V)
def lY (c:Ctx):Exit→AX→Prop
 | .normal,.normal=>True
 | .exit i,.exit j=>i=j
 | .ret,.ret=>True
 | .panic chain,.dw v=>∃ cv,chain=[{ v:=cv,recovered:=false }]∧Rel c cv v
 |_,_=>False
def nW (c:Ctx) (n:NDs) (Q:AX→Fr→St→Prop):Exit→Act→World→Prop:=fun e a w=>
 ∃ x fr st c',Q x fr st∧Ext c c'∧bf c' w st∧cC c' a.tmps fr∧a.tmps.size=n.sz∧a.defers=n.ds∧lY c' e x
def nW.ext {c c1:Ctx} {n:NDs} {Q:AX→Fr→St→Prop} (h:Ext c c1) {e:Exit} {a:Act} {w:World} (hl:nW c1 n Q e a w):nW c n Q e a w:=
 let ⟨x,fr,st,c',h1,h2,h3⟩:=hl
 ⟨x,fr,st,c',h1,h.trans h2,h3⟩
def St.wf (st:St):Prop:=∀ (b:Nat) (B:ec),st.aj[b]?=some B→B.within st.aj.length st.toks.length=true
structure TW (c0:Ctx) (aC:St):Prop where
 mu:c0.mu.length=aC.aj.length
 tok:c0.tok.length=aC.toks.length
 wf:aC.wf
def AW (P:Program) (G:World→Nat→Prop) (n:NDs) (aC:St) (code:Code) (Q:AX→Fr→St→Prop) (fr:Fr) (st:St):Prop:=
 ∀ (c0 c:Ctx) (w:World) (a:Act),TW c0 aC→Ext c0 c→bf c w st→G c.w0 c.base→cC c a.tmps fr→a.tmps.size=n.sz→a.defers=n.ds→code.wp P (nW c0 n Q) a w
def OW (P:Program) (G:World→Nat→Prop) (n:NDs) (aC:St) (all:Array Oper) (Q:AX→Fr→St→Prop) (l:List Oper) (fr:Fr) (st:St):Prop:=
 ∀ (c0 c:Ctx) (w:World) (a:Act),TW c0 aC→Ext c0 c→bf c w st→G c.w0 c.base→cC c a.tmps fr→a.tmps.size=n.sz→a.defers=n.ds→wpList P all (nW c0 n Q) l a w
section rules
variable {G:World→Nat→Prop} {n:NDs} {aC:St} {Q Q':AX→Fr→St→Prop} {fr:Fr}
def AW.mono {code:Code} (h:AW P G n aC code Q fr st) (hq:∀ x fr st,Q x fr st→Q' x fr st):AW P G n aC code Q' fr st:=
 fun c0 c w a h0 he hc hg hf hs hd=>wp_mono (h c0 c w a h0 he hc hg hf hs hd) fun _ _ _ ⟨x,fr,st,c',h1,h2⟩=>⟨x,fr,st,c',hq _ _ _ h1,h2⟩
def AW.prune {code:Code} (fr':Fr) (hp:∀ t,fr' t=fr t∨fr' t= .aU) (h:AW P G n aC code Q fr' st):AW P G n aC code Q fr st:=
 fun c0 c w a h0 he hc hg hf hs hd=>h c0 c w a h0 he hc hg (fun t=>by rcases hp t with e|e<;>rw [e];exact hf t;exact .aU _) hs hd
def bz (K:Fr→St→Prop) (Q:AX→Fr→St→Prop):AX→Fr→St→Prop
 | .normal,fr,st=>K fr st
 |x,fr,st=>Q x fr st
def AW.seq {x y:Code} (h:AW P G n aC x (bz (AW P G n aC y Q) Q) fr st):AW P G n aC (.seq x y) Q fr st:=by
 intro c0 c w a h0 he0 hc hg hf hs hd;refine wp_seq (wp_mono (h c0 c w a h0 he0 hc hg hf hs hd) ?_);rintro e a1 w1 ⟨x1,fr1,gD,c1,hq,he,hc1,hf1,hs1,hd1,hx⟩;cases e<;>cases x1<;>simp only [lY] at hx
 ·exact hq c0 c1 w1 a1 h0 he hc1 (by rw [he.w0,he.base,←he0.w0,←he0.base];exact hg) hf1 hs1 hd1
 ·exact ⟨.exit _,fr1,gD,c1,hq,he,hc1,hf1,hs1,hd1,hx⟩
 ·exact ⟨.ret,fr1,gD,c1,hq,he,hc1,hf1,hs1,hd1,trivial⟩
 ·exact ⟨.dw _,fr1,gD,c1,hq,he,hc1,hf1,hs1,hd1,hx⟩
def AW.oA {x y:Code} (h:∀ K:Fr→St→Prop,(∀ fr st,AW P G n aC y Q fr st→K fr st)→AW P G n aC x (bz K Q) fr st):AW P G n aC (.seq x y) Q fr st:=
 AW.seq (h _ fun _ _ h=>h)
def AW.skip (h:Q .normal fr st):AW P G n aC .skip Q fr st:=
 fun _ c _ _ _ he hc _ hf hs hd=>wp_skip ⟨.normal,fr,st,c,h,he,hc,hf,hs,hd,trivial⟩
def AW.label {l:Nat} (h:Q .normal fr st):AW P G n aC (.label l) Q fr st:=
 fun _ c _ _ _ he hc _ hf hs hd=>wp_label ⟨.normal,fr,st,c,h,he,hc,hf,hs,hd,trivial⟩
def AW.exit {id:Nat} (h:Q (.exit id) fr st):AW P G n aC (.exit id) Q fr st:=
 fun _ c _ _ _ he hc _ hf hs hd=>wp_exit ⟨.exit id,fr,st,c,h,he,hc,hf,hs,hd,rfl⟩
def AW.ret (h:Q .ret fr st):AW P G n aC .ret Q fr st:=
 fun _ c _ _ _ he hc _ hf hs hd=>wp_ret ⟨.ret,fr,st,c,h,he,hc,hf,hs,hd,trivial⟩
def DR {a:Act} (hf:cC c a.tmps fr) {x:Operand} {b:Bool} (h:ev fr x= .d (.bool b)):a.eval x= .bool b:=by
 have hr:=bJ hf x;rw [h] at hr;generalize a.eval x=q at hr ⊢;cases hr with|d _ _ hr=>?_
 cases hr;rfl
def AW.cond {x y:Code} {o:Operand} {b:Bool} (hb:ev fr o= .d (.bool b)) (h:AW P G n aC (if b=true then x else y) Q fr st):AW P G n aC (.cond o x y) Q fr st:=
 fun c0 c w a h0 he hc hg hf hs hd=>wp_cond (DR hf hb) (h c0 c w a h0 he hc hg hf hs hd)
def AW.condT {x y:Code} {o:Operand} (hb:ev fr o= .d (.bool true)) (h:AW P G n aC x Q fr st):AW P G n aC (.cond o x y) Q fr st:=AW.cond hb h
def AW.condF {x y:Code} {o:Operand} (hb:ev fr o= .d (.bool false)) (h:AW P G n aC y Q fr st):AW P G n aC (.cond o x y) Q fr st:=AW.cond hb h
def aY (id:Nat) (Q:AX→Fr→St→Prop):AX→Fr→St→Prop
 | .exit j,fr,st=>if j=id then Q .normal fr st else Q (.exit j) fr st
 |x,fr,st=>Q x fr st
def AW.block {x:Code} {id:Nat} (h:AW P G n aC x (aY id Q) fr st):AW P G n aC (.block id x) Q fr st:=by
 intro c0 c w a h0 he0 hc hg hf hs hd;refine wp_block (wp_mono (h c0 c w a h0 he0 hc hg hf hs hd) ?_);rintro e a1 w1 ⟨x1,fr1,gD,c1,hq,he,hc1,hf1,hs1,hd1,hx⟩;cases e<;>cases x1<;>simp only [lY] at hx
 ·exact ⟨.normal,fr1,gD,c1,hq,he,hc1,hf1,hs1,hd1,trivial⟩
 ·rename_i i j;subst hx;simp only [Exit.inBlock];simp only [aY] at hq;split
  ·rename_i h1;rw [if_pos h1] at hq;exact ⟨.normal,fr1,gD,c1,hq,he,hc1,hf1,hs1,hd1,trivial⟩
  ·rename_i h1;rw [if_neg h1] at hq;exact ⟨.exit i,fr1,gD,c1,hq,he,hc1,hf1,hs1,hd1,rfl⟩
 ·exact ⟨.ret,fr1,gD,c1,hq,he,hc1,hf1,hs1,hd1,trivial⟩
 ·exact ⟨.dw _,fr1,gD,c1,hq,he,hc1,hf1,hs1,hd1,hx⟩
def AW.scope {x:Code} (h:AW P G n aC x Q fr st):AW P G n aC (.scope x) Q fr st:=by
 intro c0 c w a h0 he0 hc hg hf hs hd;refine wp_scope_straight (wp_mono (h c0 c w a h0 he0 hc hg hf hs hd) ?_);intro e a1 w1 hl;cases e
 case goto l=>
  obtain ⟨x1,_,_,_,_,_,_,_,_,_,hx⟩:=hl
  cases x1<;>exact hx.elim
 all_goals exact hl
def oy (N M:Nat) (fr:Fr):Fr:=fun t=>if (fr t).within N M=true then fr t else .aU
structure rV (aC st:St) (N M:Nat):Prop where
 aj:aC.aj.length≤N
 toks:aC.toks.length≤M
 old:∀ (b:Nat) (B:ec),b<N→st.aj[b]?=some B→aC.aj[b]?=some B∨B.within N M=true
def rV.DS {c0:Ctx} {N M:Nat} (h:rV aC st N M) (h0:TW c0 aC) (he:Ext c0 c) (hc:bf c w st):bf (c.cut N M) w (st.cut N M)∧Ext c0 (c.cut N M):=by
 refine ⟨hc.cut N M fun b B hb hB=>?_,⟨he.H,fun i k hk=>?_,fun id t ht=>?_,he.base,he.w0⟩⟩
 ·rcases h.old b B hb hB with h1|h1
  ·exact rU h.aj h.toks B (h0.wf b B h1)
  ·exact h1
 ·have hlt:i<N:=by have:=(aao.1 hk).1;have:=h.aj;have:=h0.mu;omega
  simp only [Ctx.cut];rw [aa7 hlt];exact he.mu i k hk
 ·have hlt:id<M:=by have:=(aao.1 ht).1;have:=h.toks;have:=h0.tok;omega
  obtain ⟨t',a1,a2⟩:=he.tok id t ht;exact ⟨t',by simp only [Ctx.cut];rw [aa7 hlt];exact a1,a2⟩
def cC.oy {tmps:Array Value} (hf:cC c tmps fr) (N M:Nat):cC (c.cut N M) tmps (Abs.oy N M fr):=by
 intro t;unfold Abs.oy;split
 ·rename_i h;exact (hf t).cut h
 ·exact .aU _
def AW.gc {code:Code} (N M:Nat) (hcut:rV aC st N M) (h:AW P G n aC code Q (oy N M fr) (st.cut N M)):AW P G n aC code Q fr st:=by
 intro c0 c w a h0 he hc hg hf hs hd;obtain ⟨h1,h2⟩:=hcut.DS h0 he hc;exact h c0 _ w a h0 h2 h1 hg (hf.oy N M) hs hd
def AW.loop {body:Code} (I:Fr→St→Prop) (μ:Fr→St→Nat) (h0:I fr st)
  (round:∀ fr st,I fr st→AW P G n aC body (bz (fun fr' st'=>I fr' st'∧μ fr' st'<μ fr st) Q) fr st):AW P G n aC (.loop body) Q fr st:=by
 intro c0 c w a h0' he0 hc hg hf hs hd
 refine wp_loop_ghost (fun k a w=>∃ fr st c1,I fr st∧μ fr st=k∧Ext c0 c1∧bf c1 w st∧cC c1 a.tmps fr∧a.tmps.size=n.sz∧a.defers=n.ds) (μ fr st)
  ⟨fr,st,c,h0,rfl,he0,hc,hf,hs,hd⟩ ?_
 rintro k a1 w1 ⟨fr1,gD,c1,hI,rfl,he,hc1,hf1,hs1,hd1⟩
 refine wp_mono (round fr1 gD hI c0 c1 w1 a1 h0' he hc1 (by rw [he.w0,he.base,←he0.w0,←he0.base];exact hg) hf1 hs1 hd1) ?_
 rintro e a2 w2 ⟨x2,fr2,st2,c2,hq,he2,hc2,hf2,hs2,hd2,hx⟩
 cases e<;>cases x2<;>simp only [lY] at hx
 ·exact ⟨_,hq.2,fr2,st2,c2,hq.1,rfl,he2,hc2,hf2,hs2,hd2⟩
 ·exact ⟨.exit _,fr2,st2,c2,hq,he2,hc2,hf2,hs2,hd2,hx⟩
 ·exact ⟨.ret,fr2,st2,c2,hq,he2,hc2,hf2,hs2,hd2,trivial⟩
 ·exact ⟨.dw _,fr2,st2,c2,hq,he2,hc2,hf2,hs2,hd2,hx⟩
def AW.region {id:Nat} {l:List Oper} (h:OW P G n aC l.toArray Q l fr st):AW P G n aC (.region id l.toArray false) Q fr st:=
 fun c0 c w a h0 he hc hg hf hs hd=>wp_region_lit (h c0 c w a h0 he hc hg hf hs hd)
def OW.nil {all:Array Oper} (h:Q .normal fr st):OW P G n aC all Q [] fr st:=
 fun _ c _ _ _ he hc _ hf hs hd=>wpList_nil ⟨.normal,fr,st,c,h,he,hc,hf,hs,hd,trivial⟩
def eC (fr:Fr) (d:Option Tmp) (v:V):Fr:=match d with|some i=>upd fr i v|none=>fr
def fC (n:NDs) (d:Option Tmp):Bool:=match d with|some i=>decide (i<n.sz)|none=>true
def cC.eC {a:Act} (hf:cC c a.tmps fr) (hs:a.tmps.size=n.sz) {d:Option Tmp} (hd:fC n d=true) {v:Value} {x:V} (r:Rel c v x):
  cC c (a.put d v).tmps (Abs.eC fr d x):=by
 cases d with
 |none=>exact hf
 |some i=>exact hf.put (by simpa [fC,hs] using hd) r
def iy (a:Act) (d:Option Tmp) (v:Value):(a.put d v).tmps.size=a.tmps.size:=by cases d<;>simp [Act.put]
def put_defers (a:Act) (d:Option Tmp) (v:Value):(a.put d v).defers=a.defers:=by cases d<;>rfl
def goes (all:Array Oper) (o:Oper) (fr:Fr):Option Bool:=
 match o.guard with
 |none=>some true
 |some (j,b)=>match (all[j]?).bind (·.dst) with
  |some d=>match fr d with
   | .d (.bool t)=>some (t==b)
   | .cF []=>some false
   |_=>none
  |none=>none
def ZC {all:Array Oper} {o:Oper} {a:Act} (hf:cC c a.tmps fr) {b:Bool} (h:goes all o fr=some b):Region.wanted o (yielded all a.tmps)=b:=by
 unfold goes at h;unfold Region.wanted;split at h
 ·rename_i hg;simp only [aal] at h;rw [hg,←h]
 ·rename_i j want hg;rw [hg];split at h
  case h_2=>simp at h
  rename_i d hd;have hr:=hf d;have hget:a.tmps[d]?=some (a.tmps.getD d undef)∨a.tmps[d]?=none∧a.tmps.getD d undef=undef:=by
   rw [aap];cases a.tmps[d]?<;>simp
  split at h<;>simp only [aal,reduceCtorEq] at h
  ·rename_i t ht;rw [ht] at hr;have hv:a.tmps[d]?=some (.bool t):=by
    rcases hget with hq|⟨hq,hu⟩
    ·rw [hq];generalize a.tmps.getD d undef=q at hr;cases hr with|d _ _ hr=>?_
     cases hr;rfl
    ·rw [hu] at hr;cases hr with|d _ _ hr=>cases hr
   simp only [yielded,hd,abB,hv,←h];cases t<;>cases want<;>rfl
  ·rename_i ht;rw [ht] at hr;have hv:a.tmps[d]?=none∨∃ arr,a.tmps[d]?=some (.tuple arr):=by
    rcases hget with hq|⟨hq,hu⟩
    ·rw [hq];generalize a.tmps.getD d undef=q at hr;cases hr;exact .inr ⟨_,rfl⟩
    ·exact .inl hq
   rcases hv with hv|⟨arr,hv⟩<;>simp only [yielded,hd,abB,hv,←h]<;>rfl
def Rel.Uk {c:Ctx}:Rel c undef (.cF []):= .cF _ _ rfl (by simp)
def rX {o:Oper} {a:Act} {K K':Act→World→Prop} {q q':Exit→Act→World→Prop} (hK:∀ a w,K a w→K' a w) (hQ:∀ e a w,q e a w→q' e a w) (r:Result Next)
  (h:o.upon P a K q r):o.upon P a K' q' r:=by
 cases r with
 |ok nx w=>
  cases nx<;>simp only [Oper.upon] at h ⊢ <;>
   first
    |exact hK _ _ h
    |exact Calls.mono h (fun e w'' he=>by
      cases e
      ·exact hK _ _ he
      ·exact hQ _ _ _ he
      ·obtain ⟨a0,w0,h0⟩:=he;exact ⟨a0,w0,hQ _ _ _ h0⟩)
    |exact Rows.mono h (fun _ _ he=>hK _ _ he)
 |halt x w=>
  cases x<;>simp only [Oper.upon] at h ⊢
  exact hQ _ _ _ h
theorem kY {all:Array Oper} {q q':Exit→Act→World→Prop} (hQ:∀ e a w,q e a w→q' e a w):∀ (l:List Oper) (a:Act) (w:World),wpList P all q l a w→wpList P all q' l a w
 |[],_,_,h=>hQ _ _ _ h
 |o::rest,a,w,h=>by
  unfold wpList at h ⊢;split at h
  ·rename_i hw;rw [if_pos hw];rcases h with h|⟨h1,a0,w0,h2⟩
   ·exact .inl (rX (fun a w h=>kY hQ rest a w h) hQ _ h)
   ·exact .inr ⟨h1,a0,w0,hQ _ _ _ h2⟩
  ·rename_i hw;rw [if_neg hw];exact kY hQ rest _ _ h
def OW.op {all:Array Oper} {o:Oper} {rest:List Oper} {v:V} {st':St} (hg:goes all o fr=some true) (he:evalOp P o fr st=some (v,st')) (hd:fC n o.dst=true)
  (h:OW P G n aC all Q rest (eC fr o.dst v) st'):OW P G n aC all Q (o::rest) fr st:=by
 intro c0 c w a h0 he0 hc hG hf hs hdf
 obtain ⟨cv,w',c',hr,hv,hc',hext⟩:=oz (P:=P) hc o hf he
 unfold wpList
 rw [if_pos (ZC hf hg)]
 refine .inl ?_
 have hk:wpList P all (nW c0 n Q) rest (a.put o.dst cv) w':=
  h c0 c' w' (a.put o.dst cv) h0 (he0.trans hext) hc' (by rw [hext.w0,hext.base];exact hG) ((hf.mono hext).eC hs hd hv) ((iy _ _ _).trans hs) ((put_defers _ _ _).trans hdf)
 unfold Oper.wp
 rcases hr with hr|⟨hr,rfl⟩<;>rw [hr]<;>exact hk
def OW.skip {all:Array Oper} {o:Oper} {rest:List Oper} (hg:goes all o fr=some false) (hd:fC n o.dst=true)
  (h:OW P G n aC all Q rest (eC fr o.dst (.cF [])) st):OW P G n aC all Q (o::rest) fr st:=by
 intro c0 c w a h0 he0 hc hG hf hs hdf
 unfold wpList
 rw [if_neg (by rw [ZC hf hg];simp)]
 exact h c0 c w (a.put o.dst undef) h0 he0 hc hG (hf.eC hs hd .Uk) ((iy _ _ _).trans hs) ((put_defers _ _ _).trans hdf)
def M6 (P:Program) (G:World→Nat→Prop) (n:NDs) (aC:St) (all:Array Oper) (Q:AX→Fr→St→Prop) (rest:List Oper) (d:Option Tmp) (fr:Fr):Out→St→Prop
 | .ret v,st'=>OW P G n aC all Q rest (eC fr d v) st'
 | .dw v,st'=>Q (.dw v) fr st'
def OW.call {all:Array Oper} {d:Option Tmp} {x:Operand} {args:Array Operand} {ats:Array TypeId} {ty:TypeId} {pos:String} {after:Array Edge} {gd:Option (Nat×Bool)} {rest:List Oper} {g:FuncId} {cap:List V}
  (hg:goes all { dst:=d,op:= .call { callee:= .value x,args:=args,argTypes:=ats },type:=ty,pos:=pos,after:=after,guard:=gd } fr=some true)
  (hf:ev fr x= .jE g cap) (hcall:∀ args w,(callFunc g args).run P w= .ok (.enter g args) w) (hd:fC n d=true)
  (h:aA P G g (args.toList.map (fun o=>(ev fr o).share)++cap) st (M6 P G n aC all Q rest d fr)):
  OW P G n aC all Q ({ dst:=d,op:= .call { callee:= .value x,args:=args,argTypes:=ats },type:=ty,pos:=pos,after:=after,guard:=gd }::rest) fr st:=by
 intro c0 c w a h0 he0 hc hG hfr hs hdf
 have hx:=bJ hfr x
 rw [hf] at hx
 generalize hq:a.eval x=q at hx
 cases hx with|jE _ arr _ hcs hcr=>?_
 unfold wpList
 rw [if_pos (ZC hfr hg)]
 refine .inl ?_
 unfold Oper.wp
 have hexec:(execOp a.eval { dst:=d,op:= .call { callee:= .value x,args:=args,argTypes:=ats },type:=ty,pos:=pos,after:=after,guard:=gd }).run P w= .ok (.enter g (args.map a.eval++arr)) w:=by
  simp only [execOp,resolve,hq,Deferred.ofValue,Sem.run_bind,Sem.run_pure,Result.andThen_ok,invoke,hcall];simp
 rw [hexec,Oper.upon_enter]
 have hargs:∀ i,i< (args.toList.map (fun o=>(ev fr o).share)++cap).length→Rel c ((args.map a.eval++arr).getD i undef) ((args.toList.map (fun o=>(ev fr o).share)++cap).getD i .aU):=by
  intro i hi;simp only [aax,aaC,aaH] at hi;by_cases hlt:i<args.size
  ·rw [show (args.map a.eval++arr).getD i undef=a.eval args[i] by
    simp [aap,abr,hlt]]
   rw [show (args.toList.map (fun o=>(ev fr o).share)++cap).getD i .aU=(ev fr args[i]).share by
    simp [aam,List.getElem?_append,hlt]]
   exact (bJ hfr _).share
  ·rw [show (args.map a.eval++arr).getD i undef=arr.getD (i - args.size) undef by
    simp [aap,abr,hlt]]
   rw [show (args.toList.map (fun o=>(ev fr o).share)++cap).getD i .aU=cap.getD (i - args.size) .aU by
    simp [aam,List.getElem?_append,hlt]]
   exact hcr _ (by omega)
 refine (h c w (args.map a.eval++arr) hc hG (by simp [hcs]) hargs).mono ?_
 rintro e w' ⟨out,st',c',hR,hext,hc',hend⟩
 cases e<;>cases out<;>simp only [gT] at hend
 ·simp only [M6] at hR
  exact hR c0 c' w' (a.put d _) h0 (he0.trans hext) hc' (by rw [hext.w0,hext.base];exact hG) ((hfr.mono hext).eC hs hd hend) ((iy _ _ _).trans hs) ((put_defers _ _ _).trans hdf)
 ·exact ⟨.dw _,fr,st',c',hR,he0.trans hext,hc',hfr.mono hext,hs,hdf,hend⟩
def OW.panic {all:Array Oper} {o:Oper} {x:Operand} {rest:List Oper} {t:TypeId} {y:D} (hg:goes all o fr=some true) (ho:o.op= .panic x) (hx:ev fr x= .d (.iface t y))
  (h:Q (.dw (.d (.iface t y))) fr st):OW P G n aC all Q (o::rest) fr st:=by
 intro c0 c w a _ he0 hc _ hf hs hdf
 have hr:=bJ hf x
 rw [hx] at hr
 generalize hq:a.eval x=q at hr
 cases hr with|d _ _ hr=>?_
 cases hr with|iface _ v _ hv=>?_
 unfold wpList
 rw [if_pos (ZC hf hg)]
 refine .inl ?_
 unfold Oper.wp
 have hexec:(execOp a.eval o).run P w= .halt (.panic (.iface t v)) w:=by
  simp [execOp,ho,hq,Instr.panic]
 rw [hexec,Oper.upon_panic]
 exact ⟨.dw _,fr,st,c,h,he0,hc,hf,hs,hdf,.iface t v,rfl,.d _ _ (.iface t v _ hv)⟩
def eT (P:Program) (fr:Fr) (st:St):List ResultVar→Option (List V)
 |[]=>some []
 | .tmp t::r=>(eT P fr st r).map (fr t:: ·)
 | .cell a t::r=>match bn P t (fr a) st,eT P fr st r with
  |some v,some l=>some (v::l)
  |_,_=>none
def vX (tmps:Array Value):ResultVar→Sem Value
 | .tmp t=>pure (tmps.getD t undef)
 | .cell a t=>do loadVar t (←asAddr (tmps.getD a undef))
def AG (fn:Func) (tmps:Array Value):results fn tmps=(do
  let vs←fn.results.mapM (vX tmps)
  pure (if h:vs.size=1 then vs[0] else .tuple vs)):=by
 unfold results
 congr 2
def eD (l:List V):V:=match l with|[v]=>v|l=> .cF l
theorem l9 (hc:bf c w st) {tmps:Array Value} (hf:cC c tmps fr):∀ (rs:List ResultVar) {l:List V},eT P fr st rs=some l→
  ∃ vs:List Value,(rs.mapM (vX tmps)).run P w= .ok vs w∧vs.length=l.length∧∀ i,i<l.length→Rel c (vs.getD i undef) (l.getD i .aU)
 |[],l,h=>by
  simp only [eT,aal] at h;subst h;exact ⟨[],by simp,rfl,by simp⟩
 | .tmp t::r,l,h=>by
  simp only [eT,aaF] at h;obtain ⟨l',h1,rfl⟩:=h;obtain ⟨vs,h2,h3,h4⟩:=l9 hc hf r h1;refine ⟨tmps.getD t undef::vs,?_,by simp [h3],fun i hi=>?_⟩
  ·simp only [List.mapM_cons,vX,Sem.run_bind,Sem.run_pure,Result.andThen_ok,h2]
  ·cases i with
   |zero=>simpa using hf t
   |succ i=>simpa using h4 i (by simpa using hi)
 | .cell a t::r,l,h=>by
  simp only [eT] at h;split at h<;>simp only [aal,reduceCtorEq] at h;rename_i v l' hv h1;subst h;obtain ⟨vs,h2,h3,h4⟩:=l9 hc hf r h1;obtain ⟨cv,h5,h6⟩:=mb (P:=P) hc t (hf a) hv;have hptr:∃ ad,tmps.getD a undef= .pointer (some ad):=by
   have hr:=hf a;unfold bn at hv;split at hv
   case h_2=>simp at hv
   generalize fr a=y at hr hv;generalize tmps.getD a undef=q at hr ⊢;split at hv
   ·cases hr with|ptr _ k _ _=>exact ⟨_,rfl⟩
   ·cases hr with|ep k base _ vs _ _ _=>exact ⟨_,rfl⟩
   ·simp at hv
  obtain ⟨ad,had⟩:=hptr;rw [had,jM] at h5;refine ⟨cv::vs,?_,by simp [h3],fun i hi=>?_⟩
  ·have hasA:(asAddr (.pointer (some ad))).run P w= .ok ad w:=rfl;rw [List.mapM_cons];simp only [vX,had,hasA,Sem.run_bind,Sem.run_pure,Result.andThen_ok,h5,h2]
  ·cases i with
   |zero=>simpa using h6
   |succ i=>simpa using h4 i (by simpa using hi)
def rY (hc:bf c w st) {fn:Func} {tmps:Array Value} (hf:cC c tmps fr) {l:List V} (h:eT P fr st fn.results.toList=some l):
  ∃ cv,(results fn tmps).run P w= .ok cv w∧Rel c cv (eD l):=by
 obtain ⟨vs,h1,h2,h3⟩:=l9 hc hf fn.results.toList h
 rw [AG,Array.mapM_eq_mapM_toList]
 simp only [Sem.run_bind,Sem.run_map,h1,Result.andThen_ok,Sem.run_pure]
 refine ⟨_,rfl,?_⟩
 match l,vs,h2 with
 |[],[],_=>exact .cF _ _ rfl (by simp)
 |[v],[x],_=>simpa [eD] using h3 0 (by simp)
 |v::v2::r,x::x2::r2,h2=>
  rw [dif_neg (by simp)]
  refine .cF _ _ (by simpa using h2) fun i hi=>?_
  rw [aK]
  exact h3 i hi
def bK (P:Program) (fn:Func) (aC:St) (R:Out→St→Prop):AX→Fr→St→Prop:=fun x fr st=>
 ∃ m,rV aC st aC.aj.length m∧
  match x with
  | .normal| .ret=>∃ l,eT P fr st fn.results.toList=some l∧(eD l).share.within aC.aj.length m=true∧R (.ret (eD l).share) (st.cut aC.aj.length m)
  | .dw v=>v.within aC.aj.length m=true∧R (.dw v) (st.cut aC.aj.length m)
  | .exit _=>False
def dr (args:List V):Fr:=fun t=>args.getD t .aU
def bf.J8 (hc:bf c w st):TW c st:=by
 refine ⟨hc.cN,by rw [←hc.cu];simp,fun b B hB=>?_⟩;have hbk:b<c.mu.length:=by rw [hc.cN];exact (aao.1 hB).1
 obtain ⟨o,_,hr⟩:=hc.blk b _ B (aaw hbk) hB;have:=hr.within
 rwa [hc.cN,show c.tok.length=st.toks.length by rw [←hc.cu];simp] at this
def aA.body {f:FuncId} {fn:Func} {code:Code} {args:List V} {R:Out→St→Prop} {k:Nat} (hf:P.funcs[f]?=some fn) (hb:fn.body=some code) (hn:fn.ntmps=k) (hargs:args.length≤k)
  (h:AW P G ⟨k,[]⟩ st code (bK P fn st R) (dr args) st):aA P G f args st R:=by
 intro c w cargs hc hG hs hr
 refine calls_of_wp hf hb (wp_mono (h c c w _ hc.J8 (Ext.refl c) hc hG (fun t=>?_) ?_ rfl) ?_)
 ·simp only [dr]
  by_cases ht:t<args.length
  ·rw [show (cargs++Array.replicate (fn.ntmps - cargs.size) undef).getD t undef=cargs.getD t undef by
    simp [aap,abr,show t<cargs.size by omega]]
   exact hr t ht
  ·rw [show args.getD t .aU= .aU by simp [aam,show args.length≤t by omega]]
   exact .aU _
 ·simp only [abN,Array.size_replicate]
  omega
 ·rintro e a' w' ⟨x,fr,st',c',⟨m,hcut,h5⟩,hext,hc',hf',hs',hd',hx⟩
  obtain ⟨hcc,hext'⟩:=hcut.DS hc.J8 hext hc'
  have fin:∀ l,eT P fr st' fn.results.toList=some l→(eD l).share.within st.aj.length m=true→R (.ret (eD l).share) (st'.cut st.aj.length m)→
    ∃ v,(results fn a'.tmps).run P w'= .ok v w'∧∃ out st'' c'',R out st''∧Ext c c''∧bf c'' w' st''∧gT c'' (.returned v) out:=by
   intro l hl hw hR
   obtain ⟨cv,hrun,hrel⟩:=rY (P:=P) hc' hf' hl
   exact ⟨cv,hrun,_,_,_,hR,hext',hcc,hrel.share.cut hw⟩
  cases e<;>cases x<;>simp only [lY] at hx
  ·obtain ⟨l,a1,a2,a3⟩:=h5
   exact ⟨hd',fin l a1 a2 a3⟩
  ·exact h5.elim
  ·obtain ⟨l,a1,a2,a3⟩:=h5
   exact ⟨hd',fin l a1 a2 a3⟩
  ·obtain ⟨a1,a2⟩:=h5
   obtain ⟨cv,b1,b2⟩:=hx
   exact ⟨hd',_,_,_,a2,hext',hcc,cv,b1,b2.cut a1⟩
end rules
def bP:Op→Bool
 | .call { callee:= .value _,.. }=>true
 | .call { callee:= .invoke ..,.. }=>true
 | .panic _=>true
 |_=>false
def ask (res:List Nat):Option (Nat×Bool)→Bool
 |none=>true
 |some (j,_)=>res.contains j
def cJ (P:Program) (n:NDs) (all:Array Oper) (res:List Nat):List Oper→Fr→St→Option (List Oper×Fr×St)
 |[],fr,st=>some ([],fr,st)
 |o::r,fr,st=>
  if ask res o.guard then
   match goes all o fr with
   |some true=>if bP o.op then some (o::r,fr,st) else match evalOp P o fr st with
    |some (v,st')=>if fC n o.dst then cJ P n all res r (eC fr o.dst v) st' else none
    |none=>none
   |some false=>if fC n o.dst then cJ P n all res r (eC fr o.dst (.cF [])) st else none
   |none=>none
  else some (o::r,fr,st)
section
variable {P:Program} {G:World→Nat→Prop} {n:NDs} {aC:St} {Q:AX→Fr→St→Prop}
theorem OW.run {all:Array Oper} {res:List Nat}:∀ {l:List Oper} {fr:Fr} {st:St} {rest:List Oper} {fr':Fr} {st':St},cJ P n all res l fr st=some (rest,fr',st')→OW P G n aC all Q rest fr' st'→OW P G n aC all Q l fr st
 |[],fr,st,rest,fr',st',h,k=>by
  simp only [cJ,aal,aaq] at h;obtain ⟨rfl,rfl,rfl⟩:=h;exact k
 |o::r,fr,st,rest,fr',st',h,k=>by
  simp only [cJ] at h;split at h
  ·split at h
   ·rename_i hg;split at h
    ·simp only [aal,aaq] at h;obtain ⟨rfl,rfl,rfl⟩:=h;exact k
    ·split at h
     ·rename_i v gD he;split at h
      ·rename_i hd;exact OW.op hg he hd (OW.run h k)
      ·simp at h
     ·simp at h
   ·rename_i hg;split at h
    ·rename_i hd;exact OW.skip hg hd (OW.run h k)
    ·simp at h
   ·simp at h
  ·simp only [aal,aaq] at h;obtain ⟨rfl,rfl,rfl⟩:=h;exact k
end
def Gt (P:Program) (n:NDs) (all:Array Oper) (res:List Nat) (k:Bool) (g:Option Bool) (e:Bool) (o:Oper) (r:List Oper) (fr:Fr) (st:St):Option (List Oper×Fr×St):=
 if k then
  match g with
  |some true=>if e then some (o::r,fr,st) else match evalOp P o fr st with
   |some (v,st')=>if fC n o.dst then cJ P n all res r (eC fr o.dst v) st' else none
   |none=>none
  |some false=>if fC n o.dst then cJ P n all res r (eC fr o.dst (.cF [])) st else none
  |none=>none
 else some (o::r,fr,st)
def Qo (P:Program) (n:NDs) (all:Array Oper) (res:List Nat) (x:Option (V×St)) (ok:Bool) (d:Option Tmp) (r:List Oper) (fr:Fr):Option (List Oper×Fr×St):=
 match x with
 |some (v,st')=>if ok then cJ P n all res r (eC fr d v) st' else none
 |none=>none
def Qp (P:Program) (n:NDs) (all:Array Oper) (res:List Nat) (ok:Bool) (d:Option Tmp) (r:List Oper) (fr:Fr) (st:St):Option (List Oper×Fr×St):=
 if ok then cJ P n all res r (eC fr d (.cF [])) st else none
section
variable (P:Program) (n:NDs) (all:Array Oper) (res:List Nat) (o:Oper) (r:List Oper) (fr:Fr) (st:St) (d:Option Tmp) (v:V) (ty:TypeId) (pos:String) (af:Array Edge) (gd:Option (Nat×Bool))
def Gu:cJ P n all res [] fr st=some ([],fr,st):=(rfl)
def Qq (res:List Nat) (o:Oper):Bool:=ask res o.guard
def J9 (op:Op):Qq res ⟨d,op,ty,pos,af,gd⟩=ask res gd:=(rfl)
def Gv:ask res none=true:=(rfl)
def Ka (j:Nat) (b:Bool):ask [] (some (j,b))=false:=(rfl)
def Gw (k j:Nat) (b:Bool):ask (k::res) (some (j,b))=(j==k||ask res (some (j,b))):=List.contains_cons
def DT:cJ P n all res (o::r) fr st=Gt P n all res (Qq res o) (goes all o fr) (bP o.op) o r fr st:=(rfl)
def DU (g:Option Bool) (e:Bool):Gt P n all res false g e o r fr st=some (o::r,fr,st):=(rfl)
def AH:Gt P n all res true (some true) true o r fr st=some (o::r,fr,st):=(rfl)
def Kb:Gt P n all res true (some true) false o r fr st=Qo P n all res (evalOp P o fr st) (fC n o.dst) o.dst r fr:=(rfl)
def DV (e:Bool):Gt P n all res true (some false) e o r fr st=Qp P n all res (fC n o.dst) o.dst r fr st:=(rfl)
def DW:Qo P n all res (some (v,st)) true d r fr=cJ P n all res r (eC fr d v) st:=(rfl)
def Kc:Qp P n all res true d r fr st=cJ P n all res r (eC fr d (.cF [])) st:=(rfl)
def DX (op:Op):goes all ⟨d,op,ty,pos,af,none⟩ fr=some true:=(rfl)
def qs:V→Bool→Option Bool
 | .d (.bool t),b=>some (t==b)
 | .cF [],_=>some false
 |_,_=>none
def Gx (d:Option Tmp) (fr:Fr) (b:Bool):Option Bool:=match d with|some t=>qs (fr t) b|none=>none
def DY (op:Op) (j:Nat) (b:Bool):goes all ⟨d,op,ty,pos,af,some (j,b)⟩ fr=Gx ((all[j]?).bind (·.dst)) fr b:=by
 simp only [goes,Gx];cases ((all[j]?).bind (·.dst)) with
 |none=>rfl
 |some q=>
  simp only [qs]
  cases fr q with
  |d y=>cases y<;>rfl
  |cF l=>cases l<;>rfl
  |_=>rfl
def Gy:qs (.d (.bool true)) true=some true:=(rfl)
def Gz:qs (.d (.bool true)) false=some false:=(rfl)
def GB:qs (.d (.bool false)) true=some false:=(rfl)
def GC:qs (.d (.bool false)) false=some true:=(rfl)
def DZ (b:Bool):qs (.cF []) b=some false:=(rfl)
def AI (t:Tmp) (b:Bool):Gx (some t) fr b=qs (fr t) b:=(rfl)
def Ke (i:Nat) (j:Nat):upd fr i v j=if j=i then v else fr j:=(rfl)
def D0 (i:Nat):eC fr (some i) v=upd fr i v:=(rfl)
def D1:eC fr none v=fr:=(rfl)
def AJ (k i:Nat) (ds:List Deferred):fC ⟨k,ds⟩ (some i)=decide (i<k):=(rfl)
def AK (n:NDs):fC n none=true:=(rfl)
def D2 (l:List V):dr (v::l) 0=v:=(rfl)
def D3 (l:List V):dr (v::l) 1=dr l 0:=(rfl)
def D4 (l:List V):dr (v::l) 2=dr l 1:=(rfl)
def GF (x):bP (.move x)=false:=(rfl)
def AL (x):bP (.assign x)=false:=(rfl)
def GG (x y z):bP (.pick x y z)=false:=(rfl)
def D6 (x):bP (.alloc x)=false:=(rfl)
def Kf (x y):bP (.box x y)=false:=(rfl)
def D7 (x y):bP (.build x y)=false:=(rfl)
def rZ (x y z):bP (.buildSlice x y z)=false:=(rfl)
def GI (x y):bP (.load x y)=false:=(rfl)
def D8 (x y z):bP (.store x y z)=false:=(rfl)
def vY (x):bP (.nilCheck x)=false:=(rfl)
def D9 (a b c d e):bP (.binOp a b c d e)=false:=(rfl)
def GJ (a b c):bP (.unOp a b c)=false:=(rfl)
def yg (a b c):bP (.convert a b c)=false:=(rfl)
def Kg (a b):bP (.makeInterface a b)=false:=(rfl)
def ent_mkF (a b c):bP (.makeFunc a b c)=false:=(rfl)
def Ea (a b c d e):bP (.slice a b c d e)=false:=(rfl)
def tZ (a b c):bP (.fieldAddr a b c)=false:=(rfl)
def ua (a b c):bP (.indexAddr a b c)=false:=(rfl)
def Ec (a b c):bP (.index a b c)=false:=(rfl)
def yh (a b):bP (.extract a b)=false:=(rfl)
def Ed (a b):bP (.range a b)=false:=(rfl)
def GK (a b):bP (.next a b)=false:=(rfl)
def AM (a b c d):bP (.typeAssert a b c d)=false:=(rfl)
def yj (b a t):bP (.call ⟨.builtin b,a,t⟩)=false:=(rfl)
def GL (f a t):bP (.call ⟨.value f,a,t⟩)=true:=(rfl)
def Ee (x):bP (.panic x)=true:=(rfl)
def NH (t:Tmp):ev fr (.tmp t)=fr t:=(rfl)
def NI (k:IntKind) (i:Int):ev fr (.const (.int k i))= .d (.int k i):=(rfl)
def Kh (b:Bool):ev fr (.const (.bool b))= .d (.bool b):=(rfl)
def NJ (s:ByteArray):ev fr (.const (.string s))= .d (.str s.data.toList):=(rfl)
def ev_nilp:ev fr (.const (.pointer none))= .d .eX:=(rfl)
def Ki:ev fr (.const (.slice none 0 0))= .bh:=(rfl)
def Kj:ev fr (.const .nilIface)= .d .fD:=(rfl)
def Kk (f:FuncId):ev fr (.func f)= .jE f []:=(rfl)
def Kl (x):evalOp P ⟨d,.move x,ty,pos,af,gd⟩ fr st=some (ev fr x,st):=(rfl)
def Ef (x):evalOp P ⟨d,.assign x,ty,pos,af,gd⟩ fr st=some (ev fr x,st):=(rfl)
def uP:V→V→V→St→Option (V×St)
 | .d (.bool t),x,y,st=>some (if t then x else y,st)
 |_,_,_,_=>none
def Km (c a b):evalOp P ⟨d,.pick c a b,ty,pos,af,gd⟩ fr st=uP (ev fr c) (ev fr a) (ev fr b) st:=by
 simp only [evalOp,uP];split<;>simp_all
def AN (x y:V):uP (.d (.bool true)) x y st=some (x,st):=(rfl)
def yl (x y:V):uP (.d (.bool false)) x y st=some (y,st):=(rfl)
def Eg (t b:Bool):uP (.d (.bool t)) (.d (.bool b)) (.d (.bool false)) st=some (.d (.bool (t&&b)),st):=by cases t<;>rfl
def pickX_or (t b:Bool):uP (.d (.bool t)) (.d (.bool true)) (.d (.bool b)) st=some (.d (.bool (t||b)),st):=by cases t<;>rfl
def GN:Option (List V)→St→Option (V×St)
 |some cs,st=>some (c7 st (.cells cs))
 |none,_=>none
def v7 (b:Bool) (e:TypeId):Option (List V)→St→Option (V×St)
 |some cs,st=>some (c7 st (if b=true then .tc e cs else .cells cs))
 |none,_=>none
def GO (e):evalOp P ⟨d,.alloc e,ty,pos,af,gd⟩ fr st=v7 (Eh P e) e (eU P e) st:=by simp only [evalOp,v7,v8];split<;>simp_all
def GP (e:TypeId) (cs:List V):v7 false e (some cs) st=some (.ptr st.aj.length 0,⟨st.aj++[.cells cs],st.toks⟩):=(rfl)
def GR (e:TypeId) (cs:List V):v7 true e (some cs) st=some (.ptr st.aj.length 0,⟨st.aj++[.tc e cs],st.toks⟩):=(rfl)
def NK (e x):evalOp P ⟨d,.box e x,ty,pos,af,gd⟩ fr st=GN (ev fr x).cells st:=by simp only [evalOp,GN];split<;>simp_all
def AO (cs:List V):GN (some cs) st=some (.ptr st.aj.length 0,⟨st.aj++[.cells cs],st.toks⟩):=(rfl)
def GS (t parts):evalOp P ⟨d,.build t parts,ty,pos,af,gd⟩ fr st=(jF P t fr parts.toList).map (·,st):=(rfl)
def uc (t k parts):evalOp P ⟨d,.buildSlice t k parts,ty,pos,af,gd⟩ fr st=(eW P t k fr parts.toList).map (·,st):=(rfl)
def Kn (t a):evalOp P ⟨d,.load t a,ty,pos,af,gd⟩ fr st=(bn P t (ev fr a) st).map (·,st):=(rfl)
def GU (t a x):evalOp P ⟨d,.store t a x,ty,pos,af,gd⟩ fr st=(iJ P t (ev fr a) (ev fr x) st).map (.aU,·):=(rfl)
def NL:V→St→Option (V×St)
 | .ptr b off,st=>some (.ptr b off,st)
 | .ep cs off,st=>some (.ep cs off,st)
 | .jE f cap,st=>some (.jE f cap,st)
 |_,_=>none
def ym (x):evalOp P ⟨d,.nilCheck x,ty,pos,af,gd⟩ fr st=NL (ev fr x) st:=by simp only [evalOp,NL];split<;>simp_all
def GY (b off:Nat):NL (.ptr b off) st=some (.ptr b off,st):=(rfl)
def GZ (op t x y u):evalOp P ⟨d,.binOp op t x y u,ty,pos,af,gd⟩ fr st=G0 (evalBin P op t (ev fr x) (ev fr y)) (kZ P op t (mc x||mc y) (ev fr x) (ev fr y)) st:=(rfl)
def Ei (z:V) (b:Option V):G0 (some z) b st=some (z,st):=(rfl)
def Ej (z:V):G0 none (some z) st=some (z,st):=(rfl)
def NM (op t):evalBin P op t (.d .nz) (.d .fD)=none:=by cases op<;>rfl
def NN (op t):evalBin P op t (.d .fD) (.d .fD)=none:=by cases op<;>rfl
def NO (op t k):kZ P op t k (.d .nz) (.d .fD)=AP op (isIface P t) true false:=(rfl)
def NP (op t k):kZ P op t k (.d .fD) (.d .fD)=AP op (isIface P t) k true:=(rfl)
def G1 (b:Bool):AP .eql (some true) true b=some (.d (.bool b)):=(rfl)
def Ko (v:Value):mc (.const v)=true:=(rfl)
def Kq (i:Nat):mc (.tmp i)=false:=(rfl)
def Kr (op t x):evalOp P ⟨d,.unOp op t x,ty,pos,af,gd⟩ fr st=(evalUn op (ev fr x)).map (·,st):=(rfl)
def AQ (s t x):evalOp P ⟨d,.convert s t x,ty,pos,af,gd⟩ fr st=(evalConv P s t (ev fr x)).map (·,st):=(rfl)
def NQ (b:Option Bool) (t:TypeId) (x:Option D) (st:St):Option (V×St):=
 match b,x with
 |some false,some y=>some (.d (.iface t y),st)
 |_,_=>none
def NR (t x):evalOp P ⟨d,.makeInterface t x,ty,pos,af,gd⟩ fr st=NQ (isIface P t) t (ev fr x).held st:=by
 simp only [evalOp,NQ];split
 ·rename_i h;rw [h];cases (ev fr x).held<;>rfl
 ·rename_i h;split<;>simp_all
def Ks (t:TypeId) (y:D):NQ (some false) t (some y) st=some (.d (.iface t y),st):=(rfl)
def eo_mkF (f c):evalOp P ⟨d,.makeFunc (.func f) #[] c,ty,pos,af,gd⟩ fr st=some (.jE f (c.toList.map (ev fr)),st):=(rfl)
def G2 (t x lo hi):evalOp P ⟨d,.slice t x lo hi none,ty,pos,af,gd⟩ fr st=(Lx P t (ev fr x) fr lo hi).map (·,st):=(rfl)
def we (t x f):evalOp P ⟨d,.fieldAddr t x f,ty,pos,af,gd⟩ fr st=(xT P t (ev fr x) f).map (·,st):=(rfl)
def wg (t x i):evalOp P ⟨d,.indexAddr t x i,ty,pos,af,gd⟩ fr st=(aI P t (ev fr x) (ev fr i)).map (·,st):=(rfl)
def G4 (t x i):evalOp P ⟨d,.index t x i,ty,pos,af,gd⟩ fr st=(kC P t (ev fr x) (ev fr i)).map (·,st):=(rfl)
def AR (x i):evalOp P ⟨d,.extract x i,ty,pos,af,gd⟩ fr st=(ji (ev fr x) i).map (·,st):=(rfl)
def G5 (t x):evalOp P ⟨d,.range t x,ty,pos,af,gd⟩ fr st=mT P t (ev fr x) st:=(rfl)
def Kt (x):evalOp P ⟨d,.next x true,ty,pos,af,gd⟩ fr st=evalNext (ev fr x) st:=(rfl)
def Ek (x t u ok):evalOp P ⟨d,.typeAssert x t u ok,ty,pos,af,gd⟩ fr st=(yI P (ev fr x) u ok).map (·,st):=(rfl)
def AU (b a t):evalOp P ⟨d,.call ⟨.builtin b,a,t⟩,ty,pos,af,gd⟩ fr st=dP P b t.toList (a.toList.map (ev fr)) st:=(rfl)
def NT (t:TypeId) (x:V):dP P .len [t] [x] st=(gN P t x).map (·,st):=(rfl)
def eb_append (t:TypeId) (s x:V):dP P .append [t,t] [s,x] st=fu P t s x st:=by simp [dP]
def NU (t u:TypeId) (x y:V):dP P .max [t,u] [x,y] st=(oC x y).map (·,st):=(rfl)
def eb_min (t u:TypeId) (x y:V):dP P .min [t,u] [x,y] st=(DI x y).map (·,st):=(rfl)
def yp (k:IntKind) (a b:Int):oC (.d (.int k a)) (.d (.int k b))=some (.d (.int k (if b>a then b else a))):=by simp [oC]
def evalMin_int (k:IntKind) (a b:Int):DI (.d (.int k a)) (.d (.int k b))=some (.d (.int k (if b<a then b else a))):=by simp [DI]
def CR (b:Option Bool) (sz:Option Nat) (a:V) (st:St):Option V:=
 match b,sz with
 |some b,some sz=>match a with
  | .ptr k off=>match (st.aj[k]?).bind ec.row with
   |some cs=>iL b cs off sz
   |none=>none
  | .ep cs off=>pG b cs off sz
  |_=>none
 |_,_=>none
def CS (b:Bool) (sz:Nat) (B:Option ec) (off:Nat):Option V:=match B.bind ec.row with|some cs=>iL b cs off sz|none=>none
def yq (t:TypeId) (a:V):bn P t a st=CR (dx P t) (ef P t) a st:=(rfl)
def Em (b:Bool) (sz k off:Nat):CR (some b) (some sz) (.ptr k off) st=CS b sz st.aj[k]? off:=by
 simp only [CR,CS]
def G6 (b:Bool) (sz:Nat) (cs:List D) (off:Nat):CR (some b) (some sz) (.ep cs off) st=pG b cs off sz:=(rfl)
def yt (b:Bool) (sz:Nat) (cs:List V) (off:Nat):CS b sz (some (.cells cs)) off=iL b cs off sz:=(rfl)
def G7 (b:Bool) (sz e:Nat) (cs:List V) (off:Nat):CS b sz (some (.tc e cs)) off=iL b cs off sz:=(rfl)
def AV (cs:List V) (off sz:Nat):iL false cs off sz=cs[off]?:=(rfl)
def AY (cs:List V) (off sz:Nat):iL true cs off sz=if off+sz≤cs.length then some (.agg ((cs.drop off).take sz)) else none:=(rfl)
def AZ (cs:List D) (off sz:Nat):pG false cs off sz=(cs[off]?).map .d:=(rfl)
def A0 (cs:List D) (off sz:Nat):pG true cs off sz=if off+sz≤cs.length then some (.agg (((cs.drop off).take sz).map .d)) else none:=(rfl)
def A1 (a:V) (sz:Option Nat) (l:Option (List V)) (st:St):Option St:=
 match a,sz,l with
 | .ptr k off,some sz,some l=>
  if l.length=sz∧l.all (·.one)=true then match st.aj[k]? with
   |some B=>putBlk B k off sz l st
   |none=>none
  else none
 |_,_,_=>none
def storeB (B:Option ec) (k off sz:Nat) (l:List V) (st:St):Option St:=match B with
 |some B=>putBlk B k off sz l st
 |none=>none
def wm (t:TypeId) (a x:V):iJ P t a x st=A1 a (ef P t) x.cells st:=(rfl)
def A2 (k off sz:Nat) (l:List V):A1 (.ptr k off) (some sz) (some l) st=if l.length=sz∧l.all (·.one)=true then storeB st.aj[k]? k off sz l st else none:=by
 simp only [A1,storeB]
def wo (k off sz:Nat) (cs l:List V):storeB (some (.cells cs)) k off sz l st=if off+sz≤cs.length then some ⟨st.aj.set k (.cells (splice cs off l)),st.toks⟩ else none:=(rfl)
def storeB_tc (k off sz e:Nat) (cs l:List V):storeB (some (.tc e cs)) k off sz l st=if off+sz≤cs.length then some ⟨st.aj.set k (.tc e (splice cs off l)),st.toks⟩ else none:=(rfl)
def NV (l r:List ec) (j:Nat):(l++r)[l.length+j]?=r[j]?:=by rw [aay (by omega)];congr 1;omega
def Kw (l r:List ec):(l++r)[l.length]?=r[0]?:=by rw [aay (by omega)];congr 1;omega
def Kx (l r:List ec) (j:Nat) (B:ec):(l++r).set (l.length+j) B=l++r.set j B:=by
 rw [List.set_append_right _ _ (by omega)];congr 2;omega
def G8 (l r:List ec) (B:ec):(l++r).set l.length B=l++r.set 0 B:=by
 rw [List.set_append_right _ _ (by omega)];congr 2;omega
def G9 (b:Bool) (cs:Option (List V)) (P:Program) (t:TypeId) (fr:Fr) (parts:List (Nat×Operand)):Option V:=
 if b then match cs with
  |some cs=>(jN P t fr cs parts).map .agg
  |none=>none
 else none
def wq (t:TypeId) (parts:List (Nat×Operand)):jF P t fr parts=G9 (isStruct P t) (eU P t) P t fr parts:=(rfl)
def Eo (t:TypeId) (cs:List V) (parts:List (Nat×Operand)):G9 true (some cs) P t fr parts=(jN P t fr cs parts).map .agg:=(rfl)
def Ep (t:TypeId) (cs:List V):jN P t fr cs []=some cs:=(rfl)
def M7 (f:Option (Nat×Nat×Bool)) (l:Option (List V)) (P:Program) (t:TypeId) (fr:Fr) (cs:List V) (r:List (Nat×Operand)):Option (List V):=
 match f,l with
 |some (off,sz,_),some l=>if l.length=sz∧off+l.length≤cs.length then jN P t fr (splice cs off l) r else none
 |_,_=>none
def A3 (t:TypeId) (cs:List V) (i:Nat) (x:Operand) (q:List (Nat×Operand)):jN P t fr cs ((i,x)::q)=M7 (k8 P t i) (ev fr x).cells P t fr cs q:=(rfl)
def He (t:TypeId) (cs l:List V) (off sz:Nat) (b:Bool) (q:List (Nat×Operand)):M7 (some (off,sz,b)) (some l) P t fr cs q=if l.length=sz∧off+l.length≤cs.length then jN P t fr (splice cs off l) q else none:=(rfl)
def CT (s:Option (Nat×Nat×Nat)) (k:Nat) (P:Program) (fr:Fr) (parts:List (Nat×Operand)):Option V:=
 match s with
 |some (e,sz,_)=>if parts.length=k∧k*sz≤16777216∧0<sz∧(dy P e).isSome=true then (rowsOf sz fr 0 parts).map fun rs=> .d (.sl rs) else none
 |none=>none
def oD (t k:Nat) (parts:List (Nat×Operand)):eW P t k fr parts=CT (mU P t) k P fr parts:=(rfl)
def A4 (e sz by_ k:Nat) (parts:List (Nat×Operand)):CT (some (e,sz,by_)) k P fr parts=if parts.length=k∧k*sz≤16777216∧0<sz∧(dy P e).isSome=true then (rowsOf sz fr 0 parts).map fun rs=> .d (.sl rs) else none:=(rfl)
def A5 (sz i:Nat):rowsOf sz fr i []=some []:=(rfl)
def M8 (l:Option (List D)) (rs:Option (List (List D))) (sz:Nat):Option (List (List D)):=
 match l,rs with
 |some l,some rs=>if l.length=sz then some (l::rs) else none
 |_,_=>none
def yu (sz i j:Nat) (x:Operand) (q:List (Nat×Operand)):rowsOf sz fr i ((j,x)::q)=if i=j then M8 (ev fr x).cellsD (rowsOf sz fr (i+1) q) sz else none:=(rfl)
def Hf (sz:Nat) (l:List D) (rs:List (List D)):M8 (some l) (some rs) sz=if l.length=sz then some (l::rs) else none:=(rfl)
def Er (cs:List V):(V.agg cs).cells=some cs:=(rfl)
def Es (k:IntKind) (i:Int):(V.d (.int k i)).cells=some [.d (.int k i)]:=(rfl)
def A6 (b:Bool):(V.d (.bool b)).cells=some [.d (.bool b)]:=(rfl)
def Et (s:List UInt8):(V.d (.str s)).cells=some [.d (.str s)]:=(rfl)
def Hg (s:List (List D)):(V.d (.sl s)).cells=some [.d (.sl s)]:=(rfl)
def cells_nilp:(V.d .eX).cells=some [.d .eX]:=(rfl)
def A7:(V.bh).cells=some [.bh]:=(rfl)
def Eu (i:Nat) (es:List (List D)):(V.own i es).cells=some [.own i es]:=(rfl)
def cells_clo (f:FuncId) (cap:List V):(V.jE f cap).cells=some [.jE f cap]:=(rfl)
def Qr (x:D):(V.d x).me=some x:=(rfl)
def toD_nils:V.bh.me=some (.sl []):=(rfl)
def Ey (x:V):x.cellsD=x.cells.bind oE:=(rfl)
def Hh:oE []=some []:=(rfl)
def Qs (x:Option D) (l:Option (List D)):Option (List D):=match x,l with|some x,some l=>some (x::l)|_,_=>none
def Ez (x:V) (l:List V):oE (x::l)=Qs x.me (oE l):=(rfl)
def Ky (x:D) (l:List D):Qs (some x) (some l)=some (x::l):=(rfl)
def Hi (l:List D):oE (l.map .d)=some l:=by induction l<;>simp_all [oE,V.me]
def wu (k:IntKind) (i:Int):(V.d (.int k i)).one=true:=(rfl)
def one_bool (b:Bool):(V.d (.bool b)).one=true:=(rfl)
def wv (s:List UInt8):(V.d (.str s)).one=true:=(rfl)
def A8 (s:List (List D)):(V.d (.sl s)).one=true:=(rfl)
def one_nilp:(V.d .eX).one=true:=(rfl)
def Hj:V.bh.one=true:=(rfl)
def Kz (i:Nat) (es:List (List D)):(V.own i es).one=true:=(rfl)
def Hl (cs:List V):(V.agg cs).held=(oE cs).map .agg:=(rfl)
def NW (x:D):(V.d x).held=some x:=(rfl)
def KA (x:D):(V.d x).share= .d x:=(rfl)
def A9:V.bh.share= .d (.sl []):=(rfl)
def EA (i:Nat) (es:List (List D)):(V.own i es).share= .d (.sl es):=(rfl)
def EB (b off:Nat):(V.ptr b off).share= .ptr b off:=(rfl)
def EC (f:FuncId) (cap:List V):(V.jE f cap).share= .jE f cap:=(rfl)
def jG (cs:List V):(V.agg cs).share= .agg (V.share.fL cs):=(rfl)
def uQ (cs:List V):(V.cF cs).share= .cF (V.share.fL cs):=(rfl)
def shareL_nil:V.share.fL []=[]:=(rfl)
def qt (x:V) (l:List V):V.share.fL (x::l)=x.share::V.share.fL l:=(rfl)
def iM (l:List D):V.share.fL (l.map .d)=l.map .d:=by induction l<;>simp_all [V.share.fL,V.share]
def Ul (f:Option (Nat×Nat×Bool)) (x:V):Option V:=
 match f with
 |some (off,sz,_)=>if sz=0 then none else match x with
  | .ptr k o=>some (.ptr k (o+off))
  | .ep cs o=>some (.ep cs (o+off))
  |_=>none
 |none=>none
def pH (t:TypeId) (x:V) (f:Nat):xT P t x f=Ul (k8 P t f) x:=(rfl)
def KB (off sz k i:Nat) (b:Bool):Ul (some (off,sz,b)) (.ptr k i)=if sz=0 then none else some (.ptr k (i+off)):=(rfl)
def NX (off sz i:Nat) (b:Bool) (cs:List D):Ul (some (off,sz,b)) (.ep cs i)=if sz=0 then none else some (.ep cs (i+off)):=(rfl)
def yw {t e sz by_:Nat} (h:mU P t=some (e,sz,by_)) {x:V} {es:List (List D)} (hx:x.me=some (.sl es)) (k:IntKind) (i:Int):
  aI P t x (.d (.int k i))=if 0≤i∧i.toNat<es.length∧cr sz es=true then some (.ep (es.getD i.toNat []) 0) else none:=by
 simp only [aI,hx,h]
 by_cases h0:0≤i<;>simp [h0]
def qU (vs:List V) (i:Nat):ji (.cF vs) i=vs[i]?:=(rfl)
def yx (t:TypeId) (s:List UInt8):gN P t (.d (.str s))=if isStr P t then some (.d (.int .i64 s.length)) else none:=(rfl)
def yy (s:Option (Nat×Nat×Nat)) (k:Nat):Option V:=match s with|some _=>some (.d (.int .i64 k))|none=>none
def Ba (t:TypeId) (es:List (List D)):gN P t (.d (.sl es))=yy (mU P t) es.length:=by simp only [gN,yy,V.me];split<;>split<;>simp_all
def oG (t:TypeId):gN P t .bh=yy (mU P t) 0:=by simp only [gN,yy,V.me];split<;>split<;>simp_all
def qu (t i:Nat) (es:List (List D)):gN P t (.own i es)=yy (mU P t) es.length:=by simp only [gN,yy,V.me];split<;>split<;>simp_all
def ED (q:Nat×Nat×Nat) (k:Nat):yy (some q) k=some (.d (.int .i64 k)):=(rfl)
variable (k:IntKind) (a b:Int) (t:TypeId)
def KC:evalBin P .add t (.d (.int k a)) (.d (.int k b))=some (.d (.int k (k.wrap (a+b)))):=by simp [evalBin,kD]
def KD:evalBin P .sub t (.d (.int k a)) (.d (.int k b))=some (.d (.int k (k.wrap (a - b)))):=by simp [evalBin,kD]
def KE:evalBin P .mul t (.d (.int k a)) (.d (.int k b))=some (.d (.int k (k.wrap (a*b)))):=by simp [evalBin,kD]
def KF:evalBin P .quo t (.d (.int k a)) (.d (.int k b))=if b=0 then none else some (.d (.int k (k.wrap (a.tdiv b)))):=by simp [evalBin,kD];split<;>simp
def KG:evalBin P .rem t (.d (.int k a)) (.d (.int k b))=if b=0 then none else some (.d (.int k (a.tmod b))):=by simp [evalBin,kD];split<;>simp
def KH:evalBin P .eql t (.d (.int k a)) (.d (.int k b))=some (.d (.bool (a==b))):=by simp [evalBin,kD]
def KI:evalBin P .neq t (.d (.int k a)) (.d (.int k b))=some (.d (.bool (a !=b))):=by simp [evalBin,kD]
def KJ:evalBin P .lss t (.d (.int k a)) (.d (.int k b))=some (.d (.bool (decide (a<b)))):=by simp [evalBin,kD]
def KL:evalBin P .leq t (.d (.int k a)) (.d (.int k b))=some (.d (.bool (decide (a≤b)))):=by simp [evalBin,kD]
def KN:evalBin P .gtr t (.d (.int k a)) (.d (.int k b))=some (.d (.bool (decide (a>b)))):=by simp [evalBin,kD]
def KO:evalBin P .geq t (.d (.int k a)) (.d (.int k b))=some (.d (.bool (decide (a≥b)))):=by simp [evalBin,kD]
variable (x y:List UInt8)
def Hp:evalBin P .eql t (.d (.str x)) (.d (.str y))=some (.d (.bool (x==y))):=by simp [evalBin,kD]
def Hq:evalBin P .neq t (.d (.str x)) (.d (.str y))=some (.d (.bool (!(x==y)))):=by simp [evalBin,kD]
def Hr:evalBin P .lss t (.d (.str x)) (.d (.str y))=some (.d (.bool (Op.bytesLess x y))):=by simp [evalBin,kD]
def Hs:evalBin P .gtr t (.d (.str x)) (.d (.str y))=some (.d (.bool (!(Op.bytesLess x y||x==y)))):=by simp [evalBin,kD]
def bin_beql (p q:Bool):evalBin P .eql t (.d (.bool p)) (.d (.bool q))=if isBool P t then some (.d (.bool (p==q))) else none:=by simp [evalBin]
def Ht (p q:Bool):evalBin P .neq t (.d (.bool p)) (.d (.bool q))=if isBool P t then some (.d (.bool (!(p==q)))) else none:=by simp [evalBin]
def NZ (p:Bool):evalUn .not (.d (.bool p))=some (.d (.bool (!p))):=(rfl)
def bin_or:evalBin P .or t (.d (.int k a)) (.d (.int k b))=some (.d (.int k (Ta .or k a b))):=by simp [evalBin,kD]
def bin_andNot:evalBin P .andNot t (.d (.int k a)) (.d (.int k b))=some (.d (.int k (Ta .andNot k a b))):=by simp [evalBin,kD]
def bin_shl {k':IntKind}:evalBin P .shl t (.d (.int k a)) (.d (.int k' b))=if b<0 then none else some (.d (.int k (shlI k a b))):=by simp [evalBin,kD];split<;>simp
def M9 (s d:Option IntKind) (a:Int):Option V:=match s,d with|some _,some k=>some (.d (.int k (k.wrap a)))|_,_=>none
def Hu (s u:TypeId):evalConv P s u (.d (.int k a))=M9 (ud P s) (ud P u) a:=(rfl)
def Hv (k k':IntKind):M9 (some k) (some k') a=some (.d (.int k' (k'.wrap a))):=(rfl)
def conv_str (s u:TypeId):evalConv P s u (.d (.str x))=if isStr P s&&isStr P u then some (.d (.str x)) else none:=(rfl)
def Bb (dflt:Nat):bound fr dflt none=some dflt:=(rfl)
def boundX:V→Option Nat| .d (.int _ n)=>if 0≤n then some n.toNat else none|_=>none
def Bc (dflt:Nat) (z:Operand):bound fr dflt (some z)=boundX (ev fr z):=by simp only [bound,boundX];split<;>simp_all
def Bd (b:Bool) (l h:Option Nat) (s:List UInt8):Option V:=
 if b then match l,h with
  |some l,some h=>if l≤h∧h≤s.length then some (.d (.str ((s.take h).drop l))) else none
  |_,_=>none
 else none
def ue (lo hi:Option Operand):Lx P t (.d (.str x)) fr lo hi=Bd (isStr P t) (bound fr 0 lo) (bound fr x.length hi) x:=(rfl)
def Hw (b:Bool) (s:List UInt8) (st:St):Option (V×St):=if b then some (.ptr st.aj.length 0,⟨st.aj++[.iter s 0],st.toks⟩) else none
def uf:mT P t (.d (.str x)) st=Hw (isStr P t) x st:=(rfl)
def EE:Hw true x st=some (.ptr st.aj.length 0,⟨st.aj++[.iter x 0],st.toks⟩):=(rfl)
def Na (B:Option ec) (k:Nat) (st:St):Option (V×St):=match B with
 |some (.iter s pos)=>
   if pos<s.length then
    some (.cF [.d (.bool true),.d (.int .i64 pos),.d (.int .i32 (Utf8.decode ⟨s.toArray⟩ pos).1)],⟨st.aj.set k (.iter s (pos+(Utf8.decode ⟨s.toArray⟩ pos).2)),st.toks⟩)
   else some (.cF [.d (.bool false)],st)
 |_=>none
def wD (k:Nat):evalNext (.ptr k 0) st=Na st.aj[k]? k st:=(rfl)
def Bf (k pos:Nat):Na (some (.iter x pos)) k st=if pos<x.length then
    some (.cF [.d (.bool true),.d (.int .i64 pos),.d (.int .i32 (Utf8.decode ⟨x.toArray⟩ pos).1)],⟨st.aj.set k (.iter x (pos+(Utf8.decode ⟨x.toArray⟩ pos).2)),st.toks⟩)
   else some (.cF [.d (.bool false)],st):=rfl
end
def EF (l:List V) (off:Nat) (x:List V):splice l off x=l.take off++(x++l.drop (off+x.length)):=by simp [splice]
attribute [go_sem] Gu J9 Gv Ka Gw DT DU AH Kb DV DW Kc DX DY AI Gy Gz GB GC DZ Ke D0 D1 AJ AK D2 D3 D4 GF AL GG D6 Kf D7 rZ GI D8 vY D9 GJ yg Kg ent_mkF Ea tZ ua Ec yh Ed GK AM yj GL Ee NH NI Kh NJ ev_nilp Ki Kj Kk Kl Ef Km AN yl Eg pickX_or GO GP GR NK AO GS uc Kn GU ym GY GZ Ei Ej NM NN NO NP G1 Ko Kq Kr AQ NR Ks eo_mkF G2 we wg G4 AR G5 Kt Ek AU NT eb_append NU eb_min yp evalMin_int yq Em G6 yt G7 AV AY AZ A0 wm A2 wo storeB_tc NV Kw Kx G8 wq Eo Ep A3 He oD A4 A5 yu Hf Er Es A6 Et Hg cells_nilp A7 Eu cells_clo Qr toD_nils Ey Hh Ez Ky Hi wu one_bool wv A8 one_nilp Hj Kz Hl NW KA A9 EA EB EC jG uQ shareL_nil qt iM pH KB NX qU yx Ba oG qu ED KC KD KE KJ KL KN KO Hr Hs bin_beql Ht bin_or bin_andNot NZ Hu Hv conv_str Bb Bc ue uf EE wD Bf EF
section congr
variable {P:Program} {fr fr':Fr}
theorem fillV_congr (t:TypeId):∀ (ps:List (Nat×Operand)) (cs:List V),(∀ p∈ps,ev fr p.2=ev fr' p.2)→jN P t fr cs ps=jN P t fr' cs ps
 |[],_,_=>rfl
 |(i,x)::r,cs,h=>by
  have h1:ev fr x=ev fr' x:=h (i,x) (by simp);have h2:=fun cs=>fillV_congr t r cs fun p hp=>h p (by simp [hp]);simp only [jN,h1,h2]
theorem oH (sz:Nat):∀ (ps:List (Nat×Operand)) (i:Nat),(∀ p∈ps,ev fr p.2=ev fr' p.2)→rowsOf sz fr i ps=rowsOf sz fr' i ps
 |[],_,_=>rfl
 |(j,x)::r,i,h=>by
  have h1:ev fr x=ev fr' x:=h (j,x) (by simp);have h2:=fun i=>oH sz r i fun p hp=>h p (by simp [hp]);simp only [rowsOf,h1,h2]
def qw (dflt:Nat) (o:Option Operand) (h:∀ x∈o,ev fr x=ev fr' x):bound fr dflt o=bound fr' dflt o:=by
 cases o with
 |none=>rfl
 |some x=>simp only [bound,h x rfl]
def evalOp_congr (o:Oper) {st:St} (h:∀ x∈o.op.operands,ev fr x=ev fr' x):evalOp P o fr st=evalOp P o fr' st:=by
 obtain ⟨dst,op,type,pos,after,guard⟩:=o;cases op<;>simp only [Op.operands] at h<;>simp only [evalOp]
 case build t ps=>
  simp only [jF,fillV_congr (P:=P) (fr:=fr) (fr':=fr') t ps.toList _ (fun p hp=>h p.2 (by simp;exact ⟨p.1,by simpa using hp⟩))]
 case buildSlice t n ps=>
  simp only [eW,oH (fr:=fr) (fr':=fr') _ ps.toList _ (fun p hp=>h p.2 (by simp;exact ⟨p.1,by simpa using hp⟩))]
 case makeFunc fn first captured=>
  have:captured.toList.map (ev fr)=captured.toList.map (ev fr'):=abQ fun x hx=>h x (by simp at hx;simp [hx])
  cases fn<;>simp only [this]
 case slice t x lo hi mx=>
  have hx:=h x (by simp)
  have hlo:=fun d=>qw (fr:=fr) (fr':=fr') d lo fun y hy=>h y (by simp at hy;simp [hy])
  have hhi:=fun d=>qw (fr:=fr) (fr':=fr') d hi fun y hy=>h y (by simp at hy;simp [hy])
  cases mx<;>simp only [Lx,hx,hlo,hhi]
 case call c=>
  obtain ⟨callee,args,ats⟩:=c
  have:args.toList.map (ev fr)=args.toList.map (ev fr'):=abQ fun x hx=>h x (by simp at hx;simp [Call.operands,hx])
  cases callee<;>simp only [this]
 case next x b=>cases b<;>simp_all
 case makeMap t r=>cases r<;>rfl
 case pick c a b=>simp only [h c (by simp),h a (by simp),h b (by simp)]
 all_goals (first|rfl|(simp_all;done))
end congr
def eu:Op→Bool
 | .move _| .assign _| .pick .. | .build .. | .buildSlice .. | .nilCheck _| .binOp .. | .unOp .. | .convert .. | .makeInterface .. | .makeFunc .. | .slice .. | .fieldAddr .. | .field .. | .indexAddr .. | .index .. | .extract .. | .typeAssert .. =>true
 | .call { callee:= .builtin .len,.. }| .call { callee:= .builtin .max,.. }| .call { callee:= .builtin .min,.. }=>true
 |_=>false
def jj {α β:Type} {o:Option α} {s s':β} {v:α} (h:o.map (·,s)=some (v,s')):s'=s∧o=some v:=by
 cases o<;>simp_all
def wF {P:Program} {o:Oper} {fr:Fr} {st st':St} {v:V} (hq:eu o.op=true) (h:evalOp P o fr st=some (v,st')):
  st'=st∧∀ gD,evalOp P o fr gD=some (v,gD):=by
 obtain ⟨dst,op,type,pos,after,guard⟩:=o
 cases op<;>simp only [eu,aa3] at hq<;>simp only [evalOp] at h ⊢
 case call c=>
  obtain ⟨callee,args,ats⟩:=c
  cases callee with
  |builtin b=>
   cases b<;>simp at hq<;>simp only [dP] at h ⊢ <;>
   ·split at h<;>first
     |(obtain ⟨rfl,h2⟩:=jj h;exact ⟨rfl,fun gD=>by simp_all⟩)
     |simp_all
  |_=>simp at hq
 case nilCheck x=>split at h<;>simp_all
 case pick a b c=>split at h<;>simp_all
 case makeFunc fn first captured=>cases fn<;>simp_all
 case slice t x lo hi mx=>
  cases mx with
  |none=>obtain ⟨rfl,h2⟩:=jj h;exact ⟨rfl,fun gD=>by simp only [];rw [h2];rfl⟩
  |some z=>simp at h
 case binOp op t x y u=>
  rw [wG] at h
  obtain ⟨rfl,h2⟩:=jj h
  exact ⟨rfl,fun gD=>by rw [wG,h2];rfl⟩
 case makeInterface t x=>
  split at h<;>simp_all
  obtain ⟨y,h1,h2⟩:=h
  simp_all
 all_goals first
  |(obtain ⟨rfl,h2⟩:=jj h;exact ⟨rfl,fun gD=>by rw [h2];rfl⟩)
  |(simp_all;done)
section
variable {P:Program} {G:World→Nat→Prop} {n:NDs}
inductive cL (P:Program) (G:World→Nat→Prop) (n:NDs) (all:Array Oper) (o:Oper) (fr:Fr) (st:St):V→St→Prop
 |op (v:V) (st':St):goes all o fr=some true→evalOp P o fr st=some (v,st')→fC n o.dst=true→cL P G n all o fr st v st'
 |skip:goes all o fr=some false→fC n o.dst=true→cL P G n all o fr st (.cF []) st
 |call (v:V) (st':St) (g:FuncId) (cap:List V) (x:Operand) (args:Array Operand) (ats:Array TypeId):goes all o fr=some true→
   o.op= .call { callee:= .value x,args:=args,argTypes:=ats }→ev fr x= .jE g cap→(∀ args w,(callFunc g args).run P w= .ok (.enter g args) w)→fC n o.dst=true→
   aA P G g (args.toList.map (fun o=>(ev fr o).share)++cap) st (fun q s=>q= .ret v∧s=st')→cL P G n all o fr st v st'
def sg {all:Array Oper} {o:Oper} {fr fr':Fr} (h:∀ t∈o.looksAt all,fr t=fr' t):goes all o fr=goes all o fr':=by
 unfold goes;cases hg:o.guard with
 |none=>rfl
 |some p=>
  obtain ⟨j,b⟩:=p
  simp only
  cases hd:(all[j]?).bind (·.dst) with
  |none=>rfl
  |some d=>
   have:fr d=fr' d:=h d (by simp [Oper.looksAt,hg,hd])
   simp only [this]
def yB {all:Array Oper} {o:Oper} {fr fr':Fr} (h:∀ t∈o.looksAt all,fr t=fr' t):∀ x∈o.op.operands,ev fr x=ev fr' x:=by
 intro x hx;cases x with
 |tmp t=>exact h t (by unfold Oper.looksAt;exact List.mem_append_left _ (List.mem_filterMap.2 ⟨.tmp t,by simpa using hx,rfl⟩))
 |_=>rfl
def cL.congr {all:Array Oper} {o:Oper} {fr fr':Fr} {st st':St} {v:V} (hs:cL P G n all o fr st v st') (h:∀ t∈o.looksAt all,fr t=fr' t):cL P G n all o fr' st v st':=by
 have hg:=sg h;have he:=yB h;cases hs with
 |op _ _ h1 h2 h3=>exact .op _ _ (hg▸h1) (by rw [←evalOp_congr o he];exact h2) h3
 |skip h1 h2=>exact .skip (hg▸h1) h2
 |call _ _ g cap x args ats h1 h2 h3 h4 h5 h6=>
  have hx:=he x (by rw [h2];simp [Op.operands,Call.operands])
  have ha:args.toList.map (fun o=>(ev fr o).share)=args.toList.map (fun o=>(ev fr' o).share):=abQ fun y hy=>by
   rw [he y (by rw [h2];simp at hy;simp [Op.operands,Call.operands,hy])]
  exact .call _ _ g cap x args ats (hg▸h1) h2 (hx▸h3) h4 h5 (ha▸h6)
def cL.quiet {all:Array Oper} {o:Oper} {fr:Fr} {st st':St} {v:V} (hs:cL P G n all o fr st v st') (hq:eu o.op=true):st'=st∧∀ gD,cL P G n all o fr gD v gD:=by
 cases hs with
 |op _ _ h1 h2 h3=>
  obtain ⟨h4,h5⟩:=wF hq h2
  exact ⟨h4,fun gD=> .op _ _ h1 (h5 gD) h3⟩
 |skip h1 h2=>exact ⟨rfl,fun gD=> .skip h1 h2⟩
 |call _ _ g cap x args ats h1 h2 h3 h4 h5 h6=>rw [h2] at hq;simp [eu] at hq
def uS {c:Ctx} {a:Act} {fr:Fr} {args:Array Operand} {arr:Array Value} {cap:List V} (hf:cC c a.tmps fr) (hcr:∀ i,i<cap.length→Rel c (arr.getD i undef) (cap.getD i .aU)):
  ∀ i,i< (args.toList.map (fun o=>(ev fr o).share)++cap).length→Rel c ((args.map a.eval++arr).getD i undef) ((args.toList.map (fun o=>(ev fr o).share)++cap).getD i .aU):=by
 intro i hi
 simp only [aax,aaC,aaH] at hi
 by_cases hlt:i<args.size
 ·rw [show (args.map a.eval++arr).getD i undef=a.eval args[i] by
   simp [aap,abr,hlt]]
  rw [show (args.toList.map (fun o=>(ev fr o).share)++cap).getD i .aU=(ev fr args[i]).share by
   simp [aam,List.getElem?_append,hlt]]
  exact (bJ hf _).share
 ·rw [show (args.map a.eval++arr).getD i undef=arr.getD (i - args.size) undef by
   simp [aap,abr,hlt]]
  rw [show (args.toList.map (fun o=>(ev fr o).share)++cap).getD i .aU=cap.getD (i - args.size) .aU by
   simp [aam,List.getElem?_append,hlt]]
  exact hcr _ (by omega)
def wH {ops:Array Oper} {Q:Exit→Act→World→Prop} {i:Nat} {o:Oper} (ho:ops[i]?=some o) {c:Ctx} {a:Act} {w:World} {fr:Fr} {st st':St} {v:V} {K:Act→World→Prop}
  (hc:bf c w st) (hG:G c.w0 c.base) (hf:cC c a.tmps fr) (hs:a.tmps.size=n.sz) (hdf:a.defers=n.ds) (h:cL P G n ops o fr st v st')
  (hK:∀ c' a' w',Ext c c'→bf c' w' st'→cC c' a'.tmps (eC fr o.dst v)→a'.tmps.size=n.sz→a'.defers=n.ds→K a' w'):wpOp P ops Q i K a w:=by
 unfold wpOp
 simp only [ho]
 cases h with
 |op _ _ hg he hd=>
  obtain ⟨cv,w',c',hr,hv,hc',hext⟩:=oz (P:=P) hc o hf he
  rw [if_pos (ZC hf hg)]
  refine .inl ?_
  have hk:K (a.put o.dst cv) w':=hK c' _ w' hext hc' ((hf.mono hext).eC hs hd hv) ((iy _ _ _).trans hs) ((put_defers _ _ _).trans hdf)
  unfold Oper.wp
  rcases hr with hr|⟨hr,rfl⟩<;>rw [hr]<;>exact hk
 |skip hg hd=>
  rw [if_neg (by rw [ZC hf hg];simp)]
  exact hK c _ w (Ext.refl c) hc (hf.eC hs hd .Uk) ((iy _ _ _).trans hs) ((put_defers _ _ _).trans hdf)
 |call _ _ g cap x args ats hg ho2 hx hcall hd hA=>
  obtain ⟨dst,op,type,pos,after,guard⟩:=o
  simp only at ho2
  subst ho2
  have hxr:=bJ hf x
  rw [hx] at hxr
  generalize hq:a.eval x=q at hxr
  cases hxr with|jE _ arr _ hcs hcr=>?_
  rw [if_pos (ZC hf hg)]
  refine .inl ?_
  unfold Oper.wp
  have hexec:(execOp a.eval { dst:=dst,op:= .call { callee:= .value x,args:=args,argTypes:=ats },type:=type,pos:=pos,after:=after,guard:=guard }).run P w= .ok (.enter g (args.map a.eval++arr)) w:=by
   simp only [execOp,resolve,hq,Deferred.ofValue,Sem.run_bind,Sem.run_pure,Result.andThen_ok,invoke,hcall];simp
  rw [hexec,Oper.upon_enter]
  refine (hA c w (args.map a.eval++arr) hc hG (by simp [hcs]) (uS hf hcr)).mono ?_
  rintro e w' ⟨out,s1,c',⟨rfl,rfl⟩,hext,hc',hend⟩
  cases e<;>simp only [gT] at hend
  exact hK c' _ w' hext hc' ((hf.mono hext).eC hs hd hend) ((iy _ _ _).trans hs) ((put_defers _ _ _).trans hdf)
