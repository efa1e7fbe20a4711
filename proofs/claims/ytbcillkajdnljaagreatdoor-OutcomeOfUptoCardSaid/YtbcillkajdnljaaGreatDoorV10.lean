import Derived.Test.YtbcillkajdnljaaGreatDoorV9
import Derived.Sort.Grow
import Derived.Deep.Draws
import Derived.Recover
import Derived.KernelRfl
set_option linter.all false
section
namespace Go.Abs
open Go.RowKit
def Ctx.kill (c:Ctx) (id:Nat) (t:Tok):Ctx:= { c with tok:=c.tok.set id { t with val:= .slice none 0 0,len:=maxLen+1 } }
def ld (w:World) (g n k:Nat) (h:k≠g):(w.freeze ⟨g,0,none⟩ n).heap[k]?=w.heap[k]?:=by
 unfold World.freeze;split
 ·rfl
 ·simp only [abv];rw [if_neg (fun e=>h e.symm)]
def yJ (w:World) (p:Addr) (n:Nat) (a:Addr):(w.freeze p n).cell? a=w.cell? a:=by
 unfold World.freeze;split
 ·rfl
 ·simp only [World.cell?,abv];by_cases e:p.block=a.block
  ·rw [if_pos e];cases w.heap[a.block]? with
   |none=>rfl
   |some o=>cases o<;>rfl
  ·rw [if_neg e]
def bf.kill {c:Ctx} {w:World} {st:St} (h:bf c w st) {id:Nat} {t:Tok} (ht:c.tok[id]?=some t) (hl:t.len≤maxLen) {g:Nat} (hg:t.val.ownBlock=some g) (n:Nat):
  bf (c.kill id t) (w.drew.freeze ⟨g,0,none⟩ n) { st with toks:=st.toks.set id (t.e,t.sz,maxLen+1) }∧Ext c (c.kill id t):=by
 have hid:id<c.tok.length:=(aao.1 ht).1
 have hext:Ext c (c.kill id t):=by
  refine ⟨fun _ _ _ h=>h,fun _ _ h=>h,fun j s hj=>?_,rfl,rfl⟩;by_cases hji:j=id
  ·subst hji;rw [ht] at hj;have:s=t:=(Option.some.inj hj).symm;subst this;exact ⟨{ s with val:= .slice none 0 0,len:=maxLen+1 },by simp only [Ctx.kill];rw [aa4 hid],rfl,by simp only;omega,fun e=>by simp only at e;omega⟩
  ·exact ⟨s,by simp only [Ctx.kill];rw [aa6 (Ne.symm hji)];exact hj,rfl,aat _,fun _=>rfl⟩
 obtain ⟨h0,hdd|⟨xs,ho,hgg⟩⟩:=h.cz id t ht
 ·have:=hdd.1;omega
 obtain ⟨_,_,hgmu⟩:=hgg g hg
 have hbg:=(ho.lt g hg).1
 have hsz:(w.drew.freeze ⟨g,0,none⟩ n).heap.size=w.heap.size:=by
  unfold World.freeze;split
  ·rfl
  ·simp
 have hos:(w.drew.freeze ⟨g,0,none⟩ n).os=w.os∧(w.drew.freeze ⟨g,0,none⟩ n).tape=w.tape∧(w.drew.freeze ⟨g,0,none⟩ n).output=w.output:=by
  unfold World.freeze;split<;>exact ⟨rfl,rfl,rfl⟩
 have hgr:w.grownBy (w.drew.freeze ⟨g,0,none⟩ n) (some g):=⟨hos.1,hos.2.1,hos.2.2,by omega,fun k _ hk=>ld w.drew g n k (fun e=>hk (by rw [e]))⟩
 refine ⟨{
  cN:=h.cN
  dH:=h.dH
  cI:=h.cI
  mS:=h.mS
  blk:=?_
  cu:=by simp only [Ctx.kill,List.map_set,h.cu]
  cz:=?_
  cK:=?_
  cy:=?_
  below:=h.below.trans ⟨hos.1,hos.2.1,hos.2.2,by omega,fun k hk=>ld w.drew g n k (by simp only [Ctx.kill] at*;omega)⟩
  cw:=by rw [hsz];exact h.cw },hext⟩
 ·intro b k B hk hB
  obtain ⟨o,ho',hr⟩:=h.blk b k B hk hB
  have hne:k≠g:=fun e=>hgmu (e▸aaR hk)
  exact ⟨o,by rw [ld w.drew g n k hne];exact ho',hr.mono hext⟩
 ·intro j s hj
  by_cases hji:j=id
  ·subst hji
   simp only [Ctx.kill,aa4 hid,aal] at hj
   subst hj
   exact ⟨h0,.inl ⟨Nat.lt_succ_self _,rfl⟩⟩
  ·simp only [Ctx.kill,aa6 (Ne.symm hji)] at hj
   obtain ⟨h1,hd|⟨ys,ho',hg'⟩⟩:=h.cz j s hj
   ·exact ⟨h1,.inl hd⟩
   ·refine ⟨h1,.inr ⟨ys,ho'.kept hgr ?_,hg'⟩⟩
    cases hb:s.val.ownBlock with
    |none=>exact .inl rfl
    |some g'=>
     refine .inr fun e=>hji ?_
     have:g'=g:=Option.some.inj e
     subst this
     exact h.cK j id s t g' hj ht hb hg
 ·intro i j s u g' hi hj hs hu
  by_cases hii:i=id
  ·subst hii
   simp only [Ctx.kill,aa4 hid,aal] at hi
   subst hi
   simp [Value.ownBlock] at hs
  ·by_cases hjj:j=id
   ·subst hjj
    simp only [Ctx.kill,aa4 hid,aal] at hj
    subst hj
    simp [Value.ownBlock] at hu
   ·simp only [Ctx.kill,aa6 (Ne.symm hii)] at hi
    simp only [Ctx.kill,aa6 (Ne.symm hjj)] at hj
    exact h.cK i j s u g' hi hj hs hu
 ·intro k o v hv
  rw [yJ]
  exact h.cy k o v hv
section
variable {P:Program} {G:World→Nat→Prop} {n:NDs} {aC:St} {Q:AX→Fr→St→Prop} {fr:Fr} {st:St}
def aV {fn:Func} {R:Out→St→Prop} {st' s1:St} {l:List V} {v:V} (m:Nat) (hm:st.toks.length≤m) (hs:st'.cut st.aj.length m=s1)
  (ho:∀ (b:Nat) (B:ec),s1.aj[b]?=some B→st.aj[b]?=some B∨B.within st.aj.length m=true)
  (h:eT P fr st' fn.results.toList=some l) (hv:(eD l).share=v) (hw:v.within st.aj.length m=true) (hR:R (.ret v) s1):bK P fn st R .ret fr st':=by
 subst hv hs
 refine ⟨m,⟨aat _,hm,fun b B h1 h2=>ho b B ?_⟩,l,h,hw,hR⟩
 simp only [St.cut]
 rw [aa7 h1];exact h2
def kH {fn:Func} {R:Out→St→Prop} {st':St} (h:bK P fn st R .ret fr st'):bK P fn st R .normal fr st':=h
def fy {α:Type} (l:List α) (i:Nat) (x:α):(l.set i x).take l.length=l.set i x:=aaO (by simp)
def aR {N M b:Nat} {B':ec} {bs:List ec} (hw:B'.within N M=true):∀ (i:Nat) (B:ec),(bs.set b B')[i]?=some B→bs[i]?=some B∨B.within N M=true:=by
 intro i B h;by_cases hi:i=b
 ·subst hi;by_cases hlt:i<bs.length
  ·rw [aa4 hlt,aal] at h;subst h;exact .inr hw
  ·rw [List.getElem?_eq_none (by simp;omega)] at h;cases h
 ·rw [aa6 (Ne.symm hi)] at h;exact .inl h
end
section
variable {P:Program} {G:World→Nat→Prop} {n:NDs} {aC:St} {Q:AX→Fr→St→Prop}
theorem jZ.run' {all:Array Oper} {muts:List Nat} {res:List Nat}:∀ {l:List Oper} {fr:Fr} {st:St} {rest:List Oper} {fr':Fr} {st':St} {fr'':Fr} {st'':St} {i:Nat} {vs ss},
  cJ P n all res l fr st=some (rest,fr',st')→jZ P G n all muts (i+(l.length - rest.length)) rest fr' st' vs ss fr'' st''→∃ vs1 ss1,ss1.length=l.length - rest.length∧jZ P G n all muts i l fr st (vs1++vs) (ss1++ss) fr'' st''
 |[],fr,st,rest,fr',st',fr'',st'',i,vs,ss,h,k=>by
  simp only [cJ,aal,aaq] at h;obtain ⟨rfl,rfl,rfl⟩:=h;exact ⟨[],[],by simp,by simpa using k⟩
 |o::r,fr,st,rest,fr',st',fr'',st'',i,vs,ss,h,k=>by
  simp only [cJ] at h;split at h
  ·split at h
   ·rename_i hg;split at h
    ·simp only [aal,aaq] at h;obtain ⟨rfl,rfl,rfl⟩:=h;exact ⟨[],[],by simp,by simpa using k⟩
    ·rename_i hne;split at h
     ·rename_i v gD he;split at h
      ·rename_i hd;have hlen:=jZ.run.jP h;obtain ⟨vs1,ss1,h0,h1⟩:=jZ.run' (i:=i+1) (vs:=vs) (ss:=ss) h (by
        have:i+1+(r.length - rest.length)=i+((o::r).length - rest.length):=by simp only [aav];omega
        rw [this];exact k)
       exact ⟨v::vs1,gD::ss1,by simp only [aav,h0];omega,.cons i o r fr st v gD _ _ _ _ (.op _ _ hg he hd) (fun hk=>iZ (by simpa using hne) he (jZ.run.wM hk)) h1⟩
      ·simp at h
     ·simp at h
   ·rename_i hg;split at h
    ·rename_i hd;have hlen:=jZ.run.jP h;obtain ⟨vs1,ss1,h0,h1⟩:=jZ.run' (i:=i+1) (vs:=vs) (ss:=ss) h (by
        have:i+1+(r.length - rest.length)=i+((o::r).length - rest.length):=by simp only [aav];omega
        rw [this];exact k)
     exact ⟨.cF []::vs1,st::ss1,by simp only [aav,h0];omega,.cons i o r fr st _ st _ _ _ _ (.skip hg hd) (fun _=>rfl) h1⟩
    ·simp at h
   ·simp at h
  ·simp only [aal,aaq] at h;obtain ⟨rfl,rfl,rfl⟩:=h;exact ⟨[],[],by simp,by simpa using k⟩
def uU (l:List Oper) (muts:List Nat) (i:Nat):Bool:=l.zipIdx.all fun (o,j)=>decide (i≤j)||bp muts j o !=2
structure Qf (P:Program) (l:List Oper) (fr':Fr) (st st2:St) (m:Nat) (p:Nat×Nat):Prop where
 lt:p.1<m
 hi:p.2≤m+1
 ex:∃ o t ty,l[p.1]?=some o∧o.op= .load ty (.tmp t)∧o.guard=none∧(∀ j,iO l t=some j→j<p.1)∧bn P ty (fr' t) st=bn P ty (fr' t) st2
def AW.uh (hm:P.follows .mixedOrders=true) {id:Nat} {l post:List Oper} (m:Nat) (ex:List (Nat×Nat)) (hok:fM l [m] ex l.length=true) (hcalm:uU l [m] m=true)
  {dd:Option Tmp} {args:Array Operand} {ats:Array TypeId} {ty:TypeId} {pos:String} {after:Array Edge} {gd:Option (Nat×Bool)} {g:FuncId} {xs:List V} {v:V} {fr fr1 fr3:Fr} {st st2 rB:St}
  (h1:cJ P n l.toArray [] l fr st=some ({ dst:=dd,op:= .call { callee:= .value (.func g),args:=args,argTypes:=ats },type:=ty,pos:=pos,after:=after,guard:=gd }::post,fr1,st)) (hl:l.length - (post.length+1)=m)
  (hcall:∀ args w,(callFunc g args).run P w= .ok (.enter g args) w)
  (hg:goes l.toArray { dst:=dd,op:= .call { callee:= .value (.func g),args:=args,argTypes:=ats },type:=ty,pos:=pos,after:=after,guard:=gd } fr1=some true) (hd:fC n dd=true)
  (hx:args.toList.map (fun o=>(ev fr1 o).share)=xs)
  (h:aA P G g xs st (fun q s=>q= .ret v∧s=st2))
  (h2:cJ P n l.toArray [] post (eC fr1 dd v) st2=some ([],fr3,rB)) (hex:∀ p∈ex,Qf P l fr3 st st2 m p) (k:Q .normal fr3 rB):AW P G n aC (.region id l.toArray true) Q fr st:=by
 subst hx
 have hkind:bp [m] m { dst:=dd,op:= .call { callee:= .value (.func g),args:=args,argTypes:=ats },type:=ty,pos:=pos,after:=after,guard:=gd }=2:=by simp [bp]
 obtain ⟨vs2,ss2,_,hB⟩:=jZ.run' (G:=G) (muts:=[m]) (i:=m+1) (vs:=[]) (ss:=[]) h2 (.nil _ _ _)
 have hstep:=jZ.cons m _ post fr1 st v st2 _ _ _ _ (cL.call v st2 g [] (.func g) args ats hg rfl rfl hcall hd (by rw [aaM];exact h)) (fun hk=>by rw [hkind] at hk;omega) hB
 obtain ⟨vs1,ss1,hlen1,hA⟩:=jZ.run' (G:=G) (muts:=[m]) (i:=0) h1 (by simp only [aav,aaL,hl];exact hstep)
 simp only [aav,hl] at hlen1
 refine AW.wN hm hok hA (fun i hi hmem=>?_) k
 have hE:=hex (i,hi) hmem
 obtain ⟨o,t,ty',e1,e2,e3,e4,e5⟩:=hE.ex
 have hspec:=hA.spec [] fr (fun i=>(vs1++(v::(vs2++[]))).getD i .aU) (fun i=>(st::(ss1++(st2::(ss2++[])))).getD i default) rfl (fun j o d ho hd=>(Pb hok ho).dst d hd) (by simp) (by simp) (by
  funext t;unfold valOf;cases iO ([]++l) t<;>simp)
 simp only [aaN,aaA,aaK,true_implies] at hspec
 have hsame:∀ k,k≤m→(st::(ss1++(st2::(ss2++[])))).getD k default=st:=by
  intro k;induction k with
  |zero=>intro _;rfl
  |succ k ih=>
   intro hk
   have ih:=ih (by omega)
   have hkl:k<l.length:=by omega
   obtain ⟨s1,s2⟩:=hspec.1 k l[k] (by simp [hkl])
   have hc:=aaE.1 hcalm (l[k],k) (by rw [aa9];simp [hkl])
   simp only [aaU,aau,bne_iff_ne,ne_eq] at hc
   have hk2:bp [m] k l[k]≠2:=hc.resolve_left (by omega)
   by_cases hk0:bp [m] k l[k]=0
   ·have hq:eu l[k].op=true:=by
     unfold bp at hk0;split at hk0
     ·simp at hk0
     ·split at hk0
      ·assumption
      ·split at hk0<;>simp at hk0
    have:=(s1.quiet hq).1
    exact this.trans ih
   ·have hk1:bp [m] k l[k]=1:=by
     have:bp [m] k l[k]=0∨bp [m] k l[k]=1∨bp [m] k l[k]=2:=by
      unfold bp;split
      ·simp
      ·split
       ·simp
       ·split<;>simp
     omega
    exact (s2 hk1).trans ih
 have hafter:(st::(ss1++(st2::(ss2++[])))).getD (m+1) default=st2:=by
  simp [aam,hlen1]
 refine ⟨o,t,ty',e1,e2,e3,e4,fun k hk v' s hv hs=>?_⟩
 have hEl:=hE.lt
 have hEh:=hE.hi
 simp only at hEl hEh
 subst hs
 rw [hsame i (by omega)] at hv
 by_cases hkm:k≤m
 ·show bn P ty' (fr3 t) ((st::(ss1++(st2::(ss2++[])))).getD k default)=some v'
  rw [hsame k hkm];exact hv
 ·have:k=m+1:=by omega
  subst this
  show bn P ty' (fr3 t) ((st::(ss1++(st2::(ss2++[])))).getD (m+1) default)=some v'
  rw [hafter,←e5];exact hv
def jZ.C0 {all:Array Oper} {muts:List Nat} (L:List Oper) (fr0:Fr) (W:Nat→V) (T:Nat→St) (hd:∀ j o d,L[j]?=some o→o.dst=some d→iO L d=some j):
  ∀ {l:List Oper} {fr:Fr} {st:St} {vs:List V} {ss:List St} {fr':Fr} {st':St} {q:Nat},jZ P G n all muts q l fr st vs ss fr' st'→(∀ i,i<l.length→L[q+i]?=l[i]?)→
   (∀ i,i<l.length→W (q+i)=vs.getD i .aU)→(∀ i,i≤l.length→T (q+i)=(st::ss).getD i default)→fr=valOf L fr0 W (fun k=>decide (k<q))→
   (∀ i o,q≤i→i<q+l.length→L[i]?=some o→cL P G n all o (valOf L fr0 W (fun k=>decide (k<i))) (T i) (W i) (T (i+1))∧(bp muts i o=1→T (i+1)=T i))∧
   fr'=valOf L fr0 W (fun k=>decide (k<q+l.length))∧st'=T (q+l.length):=by
 intro l
 induction l with
 |nil=>
  intro fr st vs ss fr' st' q h hL hW hT hfr
  cases h
  refine ⟨fun i o h1 h2=>by simp at h2;omega,by simpa using hfr,?_⟩
  have:=hT 0 (aat _)
  simpa using this.symm
 |cons o r ih=>
  intro fr st vs ss fr' st' q h hL hW hT hfr
  cases h with
  |cons _ _ _ _ _ v gD vs ss _ _ hs hk hr=>
   have hlo:L[q]?=some o:=by have:=hL 0 (by simp);simpa using this
   have hv:W q=v:=by have:=hW 0 (by simp);simpa using this
   have t0:T q=st:=by have:=hT 0 (by simp);simpa using this
   have t1:T (q+1)=gD:=by have:=hT 1 (by simp);simpa using this
   have hput:eC fr o.dst v=valOf L fr0 W (fun k=>decide (k<q+1)):=by
    funext t;rw [hfr];unfold eC;cases hdst:o.dst with
    |none=>
     simp only [valOf]
     cases hw:iO L t with
     |none=>rfl
     |some i=>
      have hi:i≠q:=by
       rintro rfl;obtain ⟨o',h1,h2⟩:=fE hw;rw [hlo] at h1;cases h1;rw [hdst] at h2;cases h2
      have:(decide (i<q))=decide (i<q+1):=by simp;omega
      simp only [this]
    |some d=>
     simp only [upd]
     split
     ·rename_i htd
      subst htd
      simp only [valOf,hd q o t hlo hdst]
      simp [hv]
     ·rename_i htd
      simp only [valOf]
      cases hw:iO L t with
      |none=>rfl
      |some i=>
       have hi:i≠q:=by
        rintro rfl;obtain ⟨o',h1,h2⟩:=fE hw;rw [hlo] at h1;cases h1;rw [hdst] at h2;cases h2;exact htd rfl
       have:(decide (i<q))=decide (i<q+1):=by simp;omega
       simp only [this]
   obtain ⟨h1,h2,h3⟩:=ih hr (fun i hi=>by have:=hL (i+1) (by simpa using hi);rw [show q+1+i=q+(i+1) by omega,this];simp) (fun i hi=>by
     have:=hW (i+1) (by simpa using hi);rw [show q+1+i=q+(i+1) by omega,this];simp) (fun i hi=>by
     have:=hT (i+1) (by simpa using hi);rw [show q+1+i=q+(i+1) by omega,this];simp) hput
   have hlen:q+1+r.length=q+(o::r).length:=by simp only [aav];omega
   rw [hlen] at h1 h2 h3
   refine ⟨fun i o' hi hi2 ho'=>?_,h2,h3⟩
   by_cases he:i=q
   ·subst he
    rw [hlo] at ho'
    cases ho'
    rw [t0,t1,hv,←hfr]
    exact ⟨hs,hk⟩
   ·exact h1 i o' (by omega) hi2 ho'
theorem pL {all:Array Oper} {res:List Nat} {muts:List Nat}:∀ {l rest:List Oper} {fr fr':Fr} {st st':St} (i:Nat),cJ P n all res l fr st=some (rest,fr',st')→
  ∃ vs ss pre,l=pre++rest∧ss.length=pre.length∧jZ P G n all muts i pre fr st vs ss fr' st'
 |[],rest,fr,fr',st,st',i,h=>by
  simp only [cJ,aal,aaq] at h;obtain ⟨rfl,rfl,rfl⟩:=h;exact ⟨[],[],[],rfl,rfl,.nil _ _ _⟩
 |o::r,rest,fr,fr',st,st',i,h=>by
  simp only [cJ] at h;split at h
  ·split at h
   ·rename_i hg;split at h
    ·simp only [aal,aaq] at h;obtain ⟨rfl,rfl,rfl⟩:=h;exact ⟨[],[],[],rfl,rfl,.nil _ _ _⟩
    ·rename_i hne;split at h
     ·rename_i v gD he;split at h
      ·rename_i hd;obtain ⟨vs,ss,pre,e1,e2,e3⟩:=pL (i+1) h;exact ⟨v::vs,gD::ss,o::pre,by rw [e1];rfl,by simp [e2],.cons i o pre fr st v gD _ _ _ _ (.op _ _ hg he hd) (fun hk=>iZ (by simpa using hne) he (jZ.run.wM hk)) e3⟩
      ·simp at h
     ·simp at h
   ·rename_i hg;split at h
    ·rename_i hd;obtain ⟨vs,ss,pre,e1,e2,e3⟩:=pL (i+1) h;exact ⟨.cF []::vs,st::ss,o::pre,by rw [e1];rfl,by simp [e2],.cons i o pre fr st _ st _ _ _ _ (.skip hg hd) (fun _=>rfl) e3⟩
    ·simp at h
   ·simp at h
  ·simp only [aal,aaq] at h;obtain ⟨rfl,rfl,rfl⟩:=h;exact ⟨[],[],[],rfl,rfl,.nil _ _ _⟩
def AW.Nh (hm:P.follows .mixedOrders=true) {id:Nat} {l post:List Oper} (m:Nat) (ex:List (Nat×Nat)) (k:Nat) (hok:oI l [m] ex ((List.range k).map fun i=>m+1+i) m=true) (hcalm:uU l [m] m=true)
  {dd:Option Tmp} {args:Array Operand} {ats:Array TypeId} {ty:TypeId} {pos:String} {after:Array Edge} {gd:Option (Nat×Bool)} {g:FuncId} {xs:List V} {v:V} {fr fr1 fr5:Fr} {st:St} {Z:St→Prop}
  (h1:cJ P n l.toArray [] l fr st=some ({ dst:=dd,op:= .call { callee:= .value (.func g),args:=args,argTypes:=ats },type:=ty,pos:=pos,after:=after,guard:=gd }::post,fr1,st)) (hl:l.length - (post.length+1)=m)
  (hcall:∀ args w,(callFunc g args).run P w= .ok (.enter g args) w)
  (hg:goes l.toArray { dst:=dd,op:= .call { callee:= .value (.func g),args:=args,argTypes:=ats },type:=ty,pos:=pos,after:=after,guard:=gd } fr1=some true)
  (hx:args.toList.map (fun o=>(ev fr1 o).share)=xs)
  (h3:cJ P n l.toArray [] (post.take k) fr1 st=some ([],fr5,st)) (h:aA P G g xs st (fun q s=>q= .dw v∧Z s)) (kk:∀ fr s,Z s→Q (.dw v) fr s):AW P G n aC (.region id l.toArray true) Q fr st:=by
 subst hx
 obtain ⟨vs,ss,pre,e1,e2,hA⟩:=pL (G:=G) (muts:=[m]) 0 h1
 have hpl:pre.length=m:=by
  have:=congrArg List.length e1;simp only [aax,aav] at this;omega
 have hlm:l[m]?=some { dst:=dd,op:= .call { callee:= .value (.func g),args:=args,argTypes:=ats },type:=ty,pos:=pos,after:=after,guard:=gd }:=by rw [e1,←hpl];simp
 have hml:m<l.length:=(aao.1 hlm).1
 have hdst:∀ j o d,l[j]?=some o→o.dst=some d→iO l d=some j:=fun j o d ho hd=>(iY hok ho).dst d hd
 obtain ⟨vsB,ssB,hlB,hB⟩:=jZ.run' (G:=G) (muts:=[m]) (i:=m+1) (vs:=[]) (ss:=[]) h3 (.nil _ _ _)
 let W:Nat→V:=fun i=>if i<m then vs.getD i .aU else if i=m then (match dd with|some d=>fr d|none=> .aU) else (vsB++[]).getD (i - (m+1)) .aU
 have W0:∀ i,i<m→W i=vs.getD i .aU:=fun i h=>if_pos h
 have Wm:W m=(match dd with|some d=>fr d|none=> .aU):=by show (if m<m then _ else if m=m then _ else _)=_;rw [if_neg (by omega),if_pos rfl]
 have W1:∀ i,W (m+1+i)=(vsB++[]).getD i .aU:=fun i=>by show (if m+1+i<m then _ else if m+1+i=m then _ else _)=_;rw [if_neg (by omega),if_neg (by omega),show m+1+i - (m+1)=i by omega]
 obtain ⟨s1,s2,s3⟩:=hA.C0 l fr W (fun i=>(st::ss).getD i default) hdst (fun i hi=>by rw [e1,aaL,aaz hi]) (fun i hi=>by rw [aaL];exact W0 i (by omega)) (by simp) (by
  funext t;unfold valOf;cases iO l t<;>simp)
 simp only [aaL,hpl,aaK,true_implies] at s1 s2 s3
 have hfr:fr1=valOf l fr W (fun i=>decide (i<m+1)):=by
  rw [s2];funext t;unfold valOf;cases hw:iO l t with
  |none=>rfl
  |some i=>
   by_cases him:i=m
   ·subst him
    obtain ⟨o',q1,q2⟩:=fE hw
    rw [hlm] at q1
    cases q1
    simp only at q2
    subst q2
    simp [Wm]
   ·have:decide (i<m)=decide (i<m+1):=by simp;omega
    simp only [this]
 obtain ⟨f1,_,_⟩:=hB.C0 l fr W (fun i=>(st::(ssB++[])).getD (i - (m+1)) default) hdst (fun i hi=>by
  rw [e1,aay (by omega),hpl,show m+1+i - m=i+1 by omega,List.getElem?_cons_succ,abl,if_pos (by rw [aan] at hi;omega)]) (fun i _=>W1 i) (fun i _=>by
  show (st::(ssB++[])).getD (m+1+i - (m+1)) default=_;rw [show m+1+i - (m+1)=i by omega]) hfr
 have hsame:∀ k,k≤m→(st::ss).getD k default=st:=by
  intro k;induction k with
  |zero=>intro _;rfl
  |succ k ih=>
   intro hk
   have ih:=ih (by omega)
   have hkl:k<l.length:=by omega
   obtain ⟨q1,q2⟩:=s1 k l[k] (by omega) (by simp [hkl])
   have hc:=aaE.1 hcalm (l[k],k) (by rw [aa9];simp [hkl])
   simp only [aaU,aau,bne_iff_ne,ne_eq] at hc
   have hk2:bp [m] k l[k]≠2:=hc.resolve_left (by omega)
   by_cases hk0:bp [m] k l[k]=0
   ·have hq:eu l[k].op=true:=by
     unfold bp at hk0;split at hk0
     ·simp at hk0
     ·split at hk0
      ·assumption
      ·split at hk0<;>simp at hk0
    exact ((q1.quiet hq).1).trans ih
   ·have hk1:bp [m] k l[k]=1:=by
     have:bp [m] k l[k]=0∨bp [m] k l[k]=1∨bp [m] k l[k]=2:=by
      unfold bp;split
      ·simp
      ·split
       ·simp
       ·split<;>simp
     omega
    exact (q2 hk1).trans ih
 intro c0 c w a h0 he hc hgg hf hs hdf
 have hg0:G c0.w0 c0.base:=by rw [←he.w0,←he.base];exact hgg
 have R:EG P G n l [m] ex ((List.range k).map fun i=>m+1+i) m fr W (fun i=>(st::ss).getD i default):=by
  refine ⟨hok,by omega,fun i o hi ho=>(s1 i o hi ho).1,fun i o hi ho=>(s1 i o hi ho).2,?_,fun j o hj hmem ho=>?_⟩
  case refine_2=>
   obtain ⟨i,hi,rfl⟩:=abm.1 hmem
   have hi:=List.mem_range.1 hi
   have hil:=(aao.1 ho).1
   have:i< (post.take k).length:=by
    rw [aan];rw [e1,aax,aav,hpl] at hil;omega
   exact ⟨_,_,(f1 (m+1+i) o (by omega) (by omega) ho).1⟩
  intro i hi o hmem ho him k hk hkm;have:=(s1 i o him ho).1;have t1:=hsame i (by omega);have t2:=hsame (i+1) (by omega);have t3:=hsame k hkm;rw [t1,t2] at this;show cL P G n l.toArray o _ ((st::ss).getD k default) (W i) ((st::ss).getD k default);rw [t3];exact this
 refine wp_region_any hm ?_
 have hrep:∀ i,(Array.replicate l.toArray.size false).getD i false=false:=fun i=>by
  rw [aap,abK];split<;>rfl
 refine kE R hg0 (.inr (.inl ⟨_,hlm,by simp [bp],v,Z,g,[],.func g,args,ats,by rw [←s2];exact hg,rfl,rfl,hcall,?_,kk⟩)) _ _ 0 a _ c ?_ ?_ he (kF hc) ?_ hs hdf
 ·have t1:=hsame m (aat _)
  rw [aaM,←s2]
  show aA P G g _ ((st::ss).getD m default) _
  rw [t1];exact h
 ·refine ⟨by simp,fun j o _ hj=>?_,fun j hj=>?_,aaK _,fun i o _ _=>?_⟩
  ·exact absurd hj (by rw [hrep];simp)
  ·exact absurd hj (by rw [hrep];simp)
  ·rw [hrep];simp
 ·exact abj Array.count_le_size (by simp)
 ·intro t
  have:=hf t
  unfold valOf
  cases iO l t with
  |none=>exact this
  |some i=>simp only [hrep];exact this
def AW.Ni (hm:P.follows .mixedOrders=true) {id:Nat} {l post:List Oper} (m:Nat) (ex:List (Nat×Nat)) (hok:fM l [m] ex m=true) (hcalm:uU l [m] m=true)
  {dd:Option Tmp} {args:Array Operand} {ats:Array TypeId} {ty:TypeId} {pos:String} {after:Array Edge} {gd:Option (Nat×Bool)} {g:FuncId} {xs:List V} {v:V} {fr fr1:Fr} {st:St} {Z:St→Prop}
  (h1:cJ P n l.toArray [] l fr st=some ({ dst:=dd,op:= .call { callee:= .value (.func g),args:=args,argTypes:=ats },type:=ty,pos:=pos,after:=after,guard:=gd }::post,fr1,st)) (hl:l.length - (post.length+1)=m)
  (hcall:∀ args w,(callFunc g args).run P w= .ok (.enter g args) w)
  (hg:goes l.toArray { dst:=dd,op:= .call { callee:= .value (.func g),args:=args,argTypes:=ats },type:=ty,pos:=pos,after:=after,guard:=gd } fr1=some true)
  (hx:args.toList.map (fun o=>(ev fr1 o).share)=xs)
  (h:aA P G g xs st (fun q s=>q= .dw v∧Z s)) (k:∀ fr s,Z s→Q (.dw v) fr s):AW P G n aC (.region id l.toArray true) Q fr st:=
 AW.Nh hm m ex 0 hok hcalm h1 hl hcall hg hx rfl h k
def AW.H7 (hm:P.follows .mixedOrders=true) {id:Nat} {l post:List Oper} (m:Nat) (ex:List (Nat×Nat)) (hok:fM l [m] ex m=true) (hcalm:uU l [m] m=true)
  {dd:Option Tmp} {args:Array Operand} {ats:Array TypeId} {ty:TypeId} {pos:String} {after:Array Edge} {gd:Option (Nat×Bool)} {g:FuncId} {xs:List V} {v:V} {fr fr1:Fr} {st st2:St}
  (h1:cJ P n l.toArray [] l fr st=some ({ dst:=dd,op:= .call { callee:= .value (.func g),args:=args,argTypes:=ats },type:=ty,pos:=pos,after:=after,guard:=gd }::post,fr1,st)) (hl:l.length - (post.length+1)=m)
  (hcall:∀ args w,(callFunc g args).run P w= .ok (.enter g args) w)
  (hg:goes l.toArray { dst:=dd,op:= .call { callee:= .value (.func g),args:=args,argTypes:=ats },type:=ty,pos:=pos,after:=after,guard:=gd } fr1=some true)
  (hx:args.toList.map (fun o=>(ev fr1 o).share)=xs)
  (h:aA P G g xs st (fun q s=>q= .dw v∧s=st2)) (k:∀ fr,Q (.dw v) fr st2):AW P G n aC (.region id l.toArray true) Q fr st:=
 AW.Ni hm m ex hok hcalm h1 hl hcall hg hx h fun fr s e=>e▸k fr
def iz {l:List Oper} {fr':Fr} {st st2:St} {m:Nat}:∀ p∈([]:List (Nat×Nat)),Qf P l fr' st st2 m p:=fun _ h=>by cases h
def fF {l:List Oper} {fr':Fr} {st st2:St} {m i hi:Nat} {ps:List (Nat×Nat)} {dd:Option Tmp} {ty:TypeId} {t:Tmp} {tt:TypeId} {pos:String} {after:Array Edge} (h1:i<m) (h2:hi≤m+1)
  (h3:l[i]?=some ⟨dd,.load ty (.tmp t),tt,pos,after,none⟩) (h4:(match iO l t with|some j=>decide (j<i)|none=>true)=true) (h5:bn P ty (fr' t) st=bn P ty (fr' t) st2)
  (hr:∀ p∈ps,Qf P l fr' st st2 m p):∀ p∈(i,hi)::ps,Qf P l fr' st st2 m p:=by
 intro p hp
 rcases abc.1 hp with rfl|hp
 ·exact ⟨h1,h2,_,t,ty,h3,rfl,rfl,fun j hj=>by rw [hj] at h4;simpa using h4,h5⟩
 ·exact hr p hp
end
end Go.Abs
end
section
namespace Go.Abs
open Go.RowKit
open Go.Sort (grow heap_grow_old size_grow)
def bf.later {c:Ctx} {w w':World} {st:St} (h:bf c w st) (hb:Below w.heap.size w w'):bf c w' st where
 cN:=h.cN
 dH:=h.dH
 cI:=h.cI
 mS:=h.mS
 blk:=fun b k B hk hB=>let ⟨o,ho,hr⟩:=h.blk b k B hk hB;⟨o,by rw [hb.block k (h.mult hk)];exact ho,hr⟩
 cu:=h.cu
 cz:=by
  intro id t ht;obtain ⟨h0,hd|⟨xs,⟨hx,ho⟩,hg⟩⟩:=h.cz id t ht
  ·exact ⟨h0,.inl hd⟩
  ·refine ⟨h0,.inr ⟨xs,⟨hx,?_⟩,hg⟩⟩;rcases ho with ho|⟨g,cap,cur,hv,hbg,hh,hrest⟩
   ·exact .inl ho
   ·refine .inr ⟨g,cap,cur,hv,hbg,?_,hrest⟩;rw [hb.block g (aa8.1 hh).1];exact hh
 cK:=h.cK
 cy:=by
  intro k o v hv;have:=h.cy k o v hv;rw [World.cell?_of_block (hb.block k (World.block_lt_of_cell? w _ this))];exact this
 below:=h.below.trans (hb.mono h.cw)
 cw:=abj h.cw hb.size
end Go.Abs
end
section
namespace Go.Abs
open Go.RowKit
def yK (M N:List ec):Prop:=N.length=M.length∧∀ (i:Nat) (B B':ec),M[i]?=some B→N[i]?=some B'→B'=B∨B'=xU B
def yK.refl (M:List ec):yK M M:=⟨rfl,fun i B B' h1 h2=> .inl (by rw [h1] at h2;injection h2 with h;exact h.symm)⟩
def yK.app {M N L L':List ec} (h:yK M N) (hl:L.map xU=L'):yK (M++L) (N++L'):=by
 subst hl;refine ⟨by simp [h.1],fun i B B' h1 h2=>?_⟩;by_cases hi:i<M.length
 ·rw [aaz hi] at h1;rw [aaz (by rw [h.1];exact hi)] at h2;exact h.2 i B B' h1 h2
 ·rw [aay (by omega)] at h1;rw [aay (by rw [h.1];omega),aaV,h.1,h1] at h2;exact .inr (by simpa using h2.symm)
section
variable {P:Program} {G:World→Nat→Prop} {n:NDs} {aC:St} {Q:AX→Fr→St→Prop} {fr:Fr} {st:St}
structure H8 {τ:Type} (aC:St) (σ:τ→List (Nat×V)) (S:τ→St) (p:τ→Prop) (μ:τ→Nat) (x:τ) (fr:Fr) (st:St) (x':τ):Prop where
 slots:okF fr (σ x')
 ok:p x'
 less:μ x'<μ x
 state:∃ M,st.cut (S x').aj.length (S x').toks.length=⟨M,(S x').toks⟩∧yK M (S x').aj∧∀ (b:Nat) (B:ec),M[b]?=some B→aC.aj[b]?=some B∨B.within (S x').aj.length (S x').toks.length=true
 aj:aC.aj.length≤(S x').aj.length
 toks:aC.toks.length≤(S x').toks.length
 win:okW (S x').aj.length (S x').toks.length (σ x')=true
def AW.Bz {τ:Type} (σ:τ→List (Nat×V)) (S:τ→St) (p:τ→Prop) (μ:τ→Nat) (x0:τ) {body:Code} {M0:List ec}
  (hst:st=⟨M0,(S x0).toks⟩) (hM:yK M0 (S x0).aj) (h0:okF fr (σ x0)) (hp:p x0)
  (round:∀ x,p x→AW P G n aC body (bz (fun fr' st'=>∃ x',H8 aC σ S p μ x fr' st' x') Q) (jO (σ x)) (S x)):AW P G n aC (.loop body) Q fr st:=by
 subst hst
 refine AW.prune (jO (σ x0)) (eG h0) ?_
 intro c0 c w a h0' he0 hc hg hf hs hd
 refine wp_loop_ghost (fun k a w=>∃ x c1,p x∧μ x=k∧Ext c0 c1∧bf c1 w (S x)∧cC c1 a.tmps (jO (σ x))∧a.tmps.size=n.sz∧a.defers=n.ds) (μ x0)
  ⟨x0,c,hp,rfl,he0,hc.xU hM.1 hM.2,hf,hs,hd⟩ ?_
 rintro k a1 w1 ⟨x,c1,hI,rfl,he,hc1,hf1,hs1,hd1⟩
 refine wp_mono (round x hI c0 c1 w1 a1 h0' he hc1 (by rw [he.w0,he.base,←he0.w0,←he0.base];exact hg) hf1 hs1 hd1) ?_
 rintro e a2 w2 ⟨x2,fr2,st2,c2,hq,he2,hc2,hf2,hs2,hd2,hx⟩
 cases e<;>cases x2<;>simp only [lY] at hx
 ·obtain ⟨x',hN⟩:=hq
  obtain ⟨M,hst,hsh,hold⟩:=hN.state
  have hb:st2.aj.take (S x').aj.length=M:=congrArg St.aj hst
  have hcut:rV aC st2 (S x').aj.length (S x').toks.length:=by
   refine ⟨hN.aj,hN.toks,fun b B hlt hB=>hold b B ?_⟩;rw [←hb,aa7 hlt];exact hB
  obtain ⟨h1,h2⟩:=hcut.DS h0' he2 hc2
  refine ⟨_,hN.less,x',_,hN.ok,rfl,h2,?_,?_,hs2,hd2⟩
  ·rw [hst] at h1;exact h1.xU hsh.1 hsh.2
  ·have:=hf2.oy (S x').aj.length (S x').toks.length
   intro t
   rcases eG (kG hN.slots hN.win) t with e|e<;>rw [e]
   ·exact this t
   ·exact .aU _
 ·exact ⟨.exit _,fr2,st2,c2,hq,he2,hc2,hf2,hs2,hd2,hx⟩
 ·exact ⟨.ret,fr2,st2,c2,hq,he2,hc2,hf2,hs2,hd2,trivial⟩
 ·exact ⟨.dw _,fr2,st2,c2,hq,he2,hc2,hf2,hs2,hd2,hx⟩
end
theorem kI {P:Program} {ops:Array Oper} {Q:Exit→Act→List Frame→World→Prop} {cs:List Frame} (hQ:∀ a w,¬ Q .outgrown a cs w):∀ (l:List Oper) (k:Nat),(∀ j:Nat,l[j]?=ops[k+j]?)→∀ (a:Act) (w:World),wpList P ops (fun e a w=>Q e a cs w) l a w→wpOpsS P ops Q (List.range' k l.length) a cs w
 |[],k,_,a,w,h=>h
 |o::l,k,hl,a,w,h=>by
  have h0:ops[k]?=some o:=by simpa using (hl 0).symm
  have ih:=kI (P:=P) hQ l (k+1) (fun j=>by have:=hl (j+1);simpa [abt,Nat.add_comm 1 j] using this);simp only [aav,List.range'_succ,wpOpsS,h0];unfold wpList at h;split
  ·rename_i hw;rw [if_pos hw] at h;rcases h with h|⟨_,a',w',h⟩
   ·unfold Oper.wp at h;split
    ·rename_i w' hr;rw [hr] at h;exact absurd h (by simp [Oper.upon])
    ·exact rX (fun a w h=>ih a w h) (fun _ _ _ h=>h) _ h
   ·exact absurd h (hQ _ _)
  ·rename_i hw;rw [if_neg hw] at h;exact ih _ _ h
section
variable {P:Program} {G:World→Nat→Prop} {st:St}
def pM (v:Option Value):FrameMode:=match v with|none=> .returning|some p=> .panicking [{ v:=p,recovered:=false }]
def jQ (v:Option Value):FrameMode:=match v with|none=> .returning|some p=> .panicking [{ v:=p,recovered:=true }]
def Ia (c:Ctx) (x:Option V) (p:Option Value):Prop:=match x,p with
 |none,none=>True
 |some v,some q=>Rel c q v
 |_,_=>False
def fN (P:Program) (G:World→Nat→Prop) (f:FuncId) (args:List V) (x:Option V) (st:St) (R:Out→St→Prop):Prop:=
 ∀ (c:Ctx) (w:World) (cargs:Array Value) (pv:Option Value),bf c w st→G c.w0 c.base→cargs.size=args.length→(∀ i,i<args.length→Rel c (cargs.getD i undef) (args.getD i .aU))→Ia c x pv→
  CallsD P f cargs (pM pv) w fun e u' w'=>u'=jQ pv∧∃ out st' c',R out st'∧Ext c c'∧bf c' w' st'∧gT c' e out
def fN.mono {f:FuncId} {args:List V} {x:Option V} {R R':Out→St→Prop} (h:fN P G f args x st R) (hr:∀ o s,R o s→R' o s):fN P G f args x st R':=
 fun c w cargs pv hc hg hs ha hx=>(h c w cargs pv hc hg hs ha hx).mono fun _ _ _ ⟨h0,o,s,c',h1,h2⟩=>⟨h0,o,s,c',hr _ _ h1,h2⟩
def VC (P:Program) (fn:Func) (R:Out→St→Prop) (c:Ctx) (tmps:Array Value) (w:World):Exit→Prop
 | .normal| .ret=>∃ v,(results fn tmps).run P w= .ok v w∧∃ out st c',R out st∧Ext c c'∧bf c' w st∧gT c' (.returned v) out
 | .panic chain=>∃ out st c',R out st∧Ext c c'∧bf c' w st∧gT c' (.panicked chain) out
 |_=>False
def qy {fn:Func} {R:Out→St→Prop} {c c':Ctx} {w w':World} {st':St} {tmps:Array Value} {fr:Fr} (hc:bf c w st) (hext:Ext c c') (hc':bf c' w' st') (hf':cC c' tmps fr) {e:Exit} {x:AX} (hx:lY c' e x) (hq:bK P fn st R x fr st'):VC P fn R c tmps w' e:=by
 obtain ⟨m,hcut,h5⟩:=hq;obtain ⟨hcc,hext'⟩:=hcut.DS hc.J8 hext hc';have fin:∀ l,eT P fr st' fn.results.toList=some l→(eD l).share.within st.aj.length m=true→R (.ret (eD l).share) (st'.cut st.aj.length m)→
   ∃ v,(results fn tmps).run P w'= .ok v w'∧∃ out st'' c'',R out st''∧Ext c c''∧bf c'' w' st''∧gT c'' (.returned v) out:=by
  intro l hl hw hR
  obtain ⟨cv,hrun,hrel⟩:=rY (P:=P) hc' hf' hl
  exact ⟨cv,hrun,_,_,_,hR,hext',hcc,hrel.share.cut hw⟩
 cases e<;>cases x<;>simp only [lY] at hx
 ·obtain ⟨l,a1,a2,a3⟩:=h5;exact fin l a1 a2 a3
 ·exact h5.elim
 ·obtain ⟨l,a1,a2,a3⟩:=h5;exact fin l a1 a2 a3
 ·obtain ⟨a1,a2⟩:=h5;obtain ⟨cv,b1,b2⟩:=hx;exact ⟨_,_,_,a2,hext',hcc,cv,b1,b2.cut a1⟩
def pO {c:Ctx} {args:List V} {cargs:Array Value} {k:Nat} (hs:cargs.size=args.length) (hr:∀ i,i<args.length→Rel c (cargs.getD i undef) (args.getD i .aU)):cC c (cargs++Array.replicate k undef) (dr args):=by
 intro t;simp only [dr];by_cases ht:t<args.length
 ·rw [show (cargs++Array.replicate k undef).getD t undef=cargs.getD t undef by
   simp [aap,abr,show t<cargs.size by omega]]
  exact hr t ht
 ·rw [show args.getD t .aU= .aU by simp [aam,show args.length≤t by omega]];exact .aU _
def fN.body {f:FuncId} {fn:Func} {k id:Nat} {o0:Oper} {l:List Oper} {rest:Code} {args:List V} {x:Option V} {R:Out→St→Prop} {t:Tmp} {ca:Array Operand} {cat:Array TypeId}
  (hf:P.funcs[f]?=some fn) (hb:fn.body=some (.seq (.region id (o0::l).toArray false) rest)) (hn:fn.ntmps=k) (hargs:args.length≤k)
  (ho:o0.op= .call { callee:= .builtin .recover,args:=ca,argTypes:=cat }) (hg0:o0.guard=none) (hd0:o0.dst=some t) (ht:t<k)
  (h:OW P G ⟨k,[]⟩ st (o0::l).toArray (bz (AW P G ⟨k,[]⟩ st rest (bK P fn st R)) (bK P fn st R)) l (upd (dr args) t (x.getD (.d .fD))) st):fN P G f args x st R:=by
 intro c w cargs pv hc hG hs hr hx
 refine callsD_of_wpS hf hb fun c₀ cs hu=>?_
 have hfr:=pO (k:=fn.ntmps - cargs.size) hs hr
 have hsz:(cargs++Array.replicate (fn.ntmps - cargs.size) undef).size=k:=by
  simp only [abN,Array.size_replicate];omega
 generalize cargs++Array.replicate (fn.ntmps - cargs.size) undef=tmps at hfr hsz
 apply wpS_seq
 apply wpS_region
 have hrange:List.range (o0::l).toArray.size=0::List.range' 1 l.length:=by
  rw [List.range_eq_range',aaW,aav,List.range'_succ]
 rw [hrange]
 have hexec:(execOp (Act.eval { tmps:=tmps,defers:=[] }) o0).run P w= .ok .recover w:=by
  simp [execOp,ho,resolve,invoke,builtin,Sem.run]
 have hwant:∀ y,Region.wanted o0 y=true:=fun y=>by simp [Region.wanted,hg0]
 have key:∀ (v:Value) (cs':List Frame),cs'= { c₀ with mode:=jQ pv }::cs→Rel c v (x.getD (.d .fD))→
   wpOpsS P (o0::l).toArray (Exit.thenS (rest.wpS P (bodyPostS P fn c₀ cs fun e u' w'=>u'=jQ pv∧∃ out st' c',R out st'∧Ext c c'∧bf c' w' st'∧gT c' e out)) (bodyPostS P fn c₀ cs fun e u' w'=>u'=jQ pv∧∃ out st' c',R out st'∧Ext c c'∧bf c' w' st'∧gT c' e out)) (List.range' 1 l.length) (Act.put { tmps:=tmps,defers:=[] } o0.dst v) cs' w:=by
  intro v cs' hcs hv
  have post:∀ e (a:Act) (w':World) (x:AX) (fr:Fr) (st':St) (c':Ctx),Ext c c'→bf c' w' st'→cC c' a.tmps fr→a.defers=[]→lY c' e x→bK P fn st R x fr st'→
    bodyPostS P fn c₀ cs (fun e u' w'=>u'=jQ pv∧∃ out st' c',R out st'∧Ext c c'∧bf c' w' st'∧gT c' e out) e a cs' w':=by
   intro e a w' x fr st' c' he hc' hf' hd' hx' hq
   have:=qy hc he hc' hf' hx' hq
   cases e with
   |normal=>
    obtain ⟨v,h1,h2⟩:=this
    exact ⟨hd',_,hcs,v,h1,rfl,h2⟩
   |ret=>
    obtain ⟨v,h1,h2⟩:=this
    exact ⟨hd',_,hcs,v,h1,rfl,h2⟩
   |panic ch=>exact ⟨hd',_,hcs,rfl,this⟩
   |exit i=>exact this.elim
   |goto i=>exact this.elim
   |outgrown=>exact this.elim
  refine kI (fun a w=>?_) l 1 (fun j=>by simp [Nat.add_comm 1 j]) _ _ ?_
  ·rintro ⟨u',_,out,st',c',_,_,_,hE⟩
   cases out<;>exact hE
  ·have hput:cC c (Act.put { tmps:=tmps,defers:=[] } o0.dst v).tmps (upd (dr args) t (x.getD (.d .fD))):=by
    rw [hd0];exact hfr.put (by rw [hsz];exact ht) hv
   refine kY (fun e a w' hl=>?_) l _ _ (h c c w _ hc.J8 (Ext.refl c) hc hG hput (by rw [iy];exact hsz) (by rw [put_defers]))
   obtain ⟨x',fr',st',c',hq,he,hc',hf',hs',hd',hx'⟩:=hl
   cases e<;>cases x'<;>simp only [lY] at hx'
   ·refine wpS_of_wp (wp_mono (hq c c' w' a hc.J8 he hc' (by rw [he.w0,he.base];exact hG) hf' hs' hd') ?_)
    rintro e a2 w2 ⟨x2,fr2,st2,c2,hq2,he2,hc2,hf2,hs2,hd2,hx2⟩
    exact post e a2 w2 x2 fr2 st2 c2 he2 hc2 hf2 hd2 hx2 hq2
   ·exact post (.exit _) a w' (.exit _) fr' st' c' he hc' hf' hd' hx' (by exact hq)
   ·exact post .ret a w' .ret fr' st' c' he hc' hf' hd' trivial (by exact hq)
   ·exact post (.panic _) a w' (.dw _) fr' st' c' he hc' hf' hd' hx' (by exact hq)
 unfold wpOpsS
 simp only [List.getElem?_toArray,abw,hwant,if_true,hexec]
 cases pv with
 |none=>
  cases x with
  |some v=>exact hx.elim
  |none=>
   have:recoverD (c₀::cs)=none:=by simp [recoverD,hu,pM]
   rw [this]
   refine key _ _ ?_ (.d _ _ .fD)
   rw [jQ];simp only [pM] at hu;rw [←hu]
 |some p=>
  cases x with
  |none=>exact hx.elim
  |some v=>
   have:recoverD (c₀::cs)=some (p,{ c₀ with mode:=jQ (some p) }::cs):=by simp [recoverD,hu,pM,jQ]
   rw [this]
   exact key _ _ rfl hx
def DQ (P:Program) (G:World→Nat→Prop) (fd:FuncId) (fn:Func) (st:St) (R:Out→St→Prop) (xs:List V):AX→Fr→St→Prop:=fun x fr3 rB=>match x with
 | .ret=>fN P G fd xs none rB (fun o s=>(∃ v,o= .ret v)∧bK P fn st R .ret fr3 s)
 | .dw v=>fN P G fd xs (some v) rB (fun o s=>(∃ v,o= .ret v)∧bK P fn st R .ret fr3 s)
 |_=>False
def Ib {fd:FuncId} {fn:Func} {R:Out→St→Prop} {xs:List V} {fr3:Fr} {rB:St} (h:fN P G fd xs none rB (fun o s=>(∃ v,o= .ret v)∧bK P fn st R .ret fr3 s)):DQ P G fd fn st R xs .ret fr3 rB:=h
def Ic {fd:FuncId} {fn:Func} {R:Out→St→Prop} {xs:List V} {fr3:Fr} {rB:St} {v:V} (h:fN P G fd xs (some v) rB (fun o s=>(∃ v,o= .ret v)∧bK P fn st R .ret fr3 s)):DQ P G fd fn st R xs (.dw v) fr3 rB:=h
def uW {fn:Func} {k id:Nat} {rest:Code} {om od:Oper} {R:Out→St→Prop} {fd:FuncId} {tm:Tmp} {caps:Array Operand} {ats:Array TypeId}
  (hom:om.op= .makeFunc (.func fd) #[] caps) (hmg:om.guard=none) (hmd:om.dst=some tm) (htm:tm<k)
  (hod:od.op= .defer { callee:= .value (.tmp tm),args:= #[],argTypes:=ats }) (hog:od.guard=none) (hodd:od.dst=none)
  (hcall:∀ args w,(callFunc fd args).run P w= .ok (.enter fd args) w)
  {c c2:Ctx} {w w2:World} {a2:Act} {f2:Fr} {s2:St} (hc:bf c w st) (hG:G c.w0 c.base) (he2:Ext c c2) (hc2:bf c2 w2 s2) (hf2:cC c2 a2.tmps f2) (hs2:a2.tmps.size=k) (hd2:a2.defers=[])
  (h3:∀ ds,AW P G ⟨k,ds⟩ s2 rest (DQ P G fd fn st R (caps.toList.map (ev f2))) (upd f2 tm .aU) s2):
  (Code.seq (.region id #[om,od] false) rest).wp P (bodyPostD P fn (fun e w'=>∃ out st' c',R out st'∧Ext c c'∧bf c' w' st'∧gT c' e out)) a2 w2:=by
 refine wp_seq (wp_region_list ?_)
 have r1:(execOp a2.eval om).run P w2= .ok (.value (.func (.func fd) #[] (caps.map a2.eval))) w2:=by
  simp [execOp,hom,Instr.makeFunc]
 have w1':∀ y,Region.wanted om y=true:=fun y=>by simp [Region.wanted,hmg]
 have w2':∀ y,Region.wanted od y=true:=fun y=>by simp [Region.wanted,hog]
 have hev:(a2.put om.dst (.func (.func fd) #[] (caps.map a2.eval))).eval (.tmp tm)= .func (.func fd) #[] (caps.map a2.eval):=by
  rw [hmd];simp [Act.eval,Act.put,Array.getD,htm,hs2]
 have r2:(execOp (a2.put om.dst (.func (.func fd) #[] (caps.map a2.eval))).eval od).run P w2= .ok (.defer { target:= .fn (.func fd) (caps.map a2.eval),args:= #[] }) w2:=by
  simp [execOp,hod,resolve,hev,Deferred.ofValue]
 show wpList P _ _ [om,od] a2 w2
 unfold wpList
 rw [if_pos (w1' _)]
 refine .inl ?_
 unfold Oper.wp
 rw [r1,Oper.upon_value]
 unfold wpList
 rw [if_pos (w2' _)]
 refine .inl ?_
 unfold Oper.wp
 rw [r2,Oper.upon_defer]
 refine wpList_nil ?_
 show rest.wp P _ _ w2
 have hG2:G c2.w0 c2.base:=by rw [he2.w0,he2.base];exact hG
 have hfr3:cC c2 (Act.put { a2.put om.dst (.func (.func fd) #[] (caps.map a2.eval)) with defers:= { target:= .fn (.func fd) (caps.map a2.eval),args:= #[] }::(a2.put om.dst (.func (.func fd) #[] (caps.map a2.eval))).defers } od.dst undef).tmps (upd f2 tm .aU):=by
  rw [hodd,hmd];exact hf2.put (by rw [show a2.tmps.size=k from hs2];exact htm) (.aU _)
 refine wp_mono (h3 [{ target:= .fn (.func fd) (caps.map a2.eval),args:= #[] }] c2 c2 w2 _ hc2.J8 (Ext.refl c2) hc2 hG2 hfr3 ?_ ?_) ?_
 ·rw [hodd,hmd]
  simp [Act.put]
  exact hs2
 ·rw [hodd,hmd]
  simp [Act.put]
  exact hd2
 rintro e3 a3 w3 ⟨x3,f3,s3,c3,hq,he3,hc3,hf3,hs3,hd3,hx3⟩
 simp only at hd3
 have hG3:G c3.w0 c3.base:=by rw [he3.w0,he3.base];exact hG2
 have hce:c.base=c3.base:=by rw [he3.base,he2.base]
 have hcaps:∀ i,i< (caps.toList.map (ev f2)).length→Rel c3 ((#[]++caps.map a2.eval).getD i undef) ((caps.toList.map (ev f2)).getD i .aU):=by
  intro i hi;rw [aaC] at hi;have hi':i<caps.size:=by simpa using hi
  have:=(bJ hf2 caps[i]).mono he3;simpa [aap,aam,hi'] using this
 have fin:∀ (pv:Option Value) (x:Option V),Ia c3 x pv→fN P G fd (caps.toList.map (ev f2)) x s3 (fun o s=>(∃ v,o= .ret v)∧bK P fn st R .ret f3 s)→
   Leaves P fn a3.tmps (fun e w'=>∃ out st' c',R out st'∧Ext c c'∧bf c' w' st'∧gT c' e out) a3.defers (pM pv) w3:=by
  intro pv x hrec hD
  rw [hd3]
  refine leaves_cons (f:=fd) (args:= #[]++caps.map a2.eval) (by cases pv<;>simp [pM]) (by simp only [invoke];exact hcall _ _) ?_
  refine (hD c3 w3 (#[]++caps.map a2.eval) pv hc3 hG3 (by simp) hcaps hrec).mono ?_
  rintro e u' w4 ⟨rfl,out,s4,c4,⟨⟨v,rfl⟩,hbq⟩,he4,hc4,hE⟩
  cases e with
  |panicked ch=>exact hE.elim
  |outgrown=>exact hE.elim
  |returned v'=>
   have hset:settle (jQ pv)= .returning:=by cases pv<;>simp [jQ,settle]
   show Leaves P fn a3.tmps _ [] (settle (jQ pv)) w4
   rw [hset]
   exact qy (e:= .ret) (x:= .ret) hc ((he2.trans he3).trans he4) hc4 (hf3.mono he4) trivial hbq
 cases e3<;>cases x3<;>simp only [lY,DQ] at hx3 hq
 ·exact fin none none trivial hq
 ·obtain ⟨cv,rfl,hrel⟩:=hx3
  exact fin (some cv) (some _) hrel hq
def aA.bodyD {f:FuncId} {fn:Func} {k id:Nat} {A B rest:Code} {om od:Oper} {args:List V} {R:Out→St→Prop} {fd:FuncId} {tm:Tmp} {caps:Array Operand} {ats:Array TypeId}
  (hf:P.funcs[f]?=some fn) (hb:fn.body=some (.seq A (.seq B (.seq (.region id #[om,od] false) rest)))) (hn:fn.ntmps=k) (hargs:args.length≤k)
  (hom:om.op= .makeFunc (.func fd) #[] caps) (hmg:om.guard=none) (hmd:om.dst=some tm) (htm:tm<k)
  (hod:od.op= .defer { callee:= .value (.tmp tm),args:= #[],argTypes:=ats }) (hog:od.guard=none) (hodd:od.dst=none)
  (hcall:∀ args w,(callFunc fd args).run P w= .ok (.enter fd args) w)
  (h:AW P G ⟨k,[]⟩ st A (fun x fr1 gD=>x= .normal∧AW P G ⟨k,[]⟩ st B (fun x fr2 st2=>x= .normal∧∃ xs,caps.toList.map (ev fr2)=xs∧∀ ds,AW P G ⟨k,ds⟩ st2 rest (DQ P G fd fn st R xs) (upd fr2 tm .aU) st2) fr1 gD) (dr args) st):aA P G f args st R:=by
 intro c w cargs hc hG hs hr
 have hfr:=pO (k:=fn.ntmps - cargs.size) hs hr
 have hsz:(cargs++Array.replicate (fn.ntmps - cargs.size) undef).size=k:=by
  simp only [abN,Array.size_replicate];omega
 refine calls_of_wp_defers hf hb ?_
 generalize cargs++Array.replicate (fn.ntmps - cargs.size) undef=tmps at hfr hsz ⊢
 refine wp_seq (wp_mono (h c c w _ hc.J8 (Ext.refl c) hc hG hfr hsz rfl) ?_)
 rintro e1 a1 w1 ⟨x1,f1,s1,c1,⟨rfl,h2⟩,he1,hc1,hf1,hs1,hd1,hx1⟩
 cases e1<;>simp only [lY] at hx1
 refine wp_seq (wp_mono (h2 c c1 w1 a1 hc.J8 he1 hc1 (by rw [he1.w0,he1.base];exact hG) hf1 hs1 hd1) ?_)
 rintro e2 a2 w2 ⟨x2,f2,s2,c2,⟨rfl,xs,rfl,h3⟩,he2,hc2,hf2,hs2,hd2,hx2⟩
 cases e2<;>simp only [lY] at hx2
 exact uW hom hmg hmd htm hod hog hodd hcall hc hG he2 hc2 hf2 hs2 hd2 h3
end
def Wk (p:Prop):Prop:=p
def TQ (b:Bool) (X Y:Fr→St→Prop) (f1 f2:Fr) (st:St):Prop:=if b=true then X f1 st else Y f2 st
def oL (b:Bool) (p:Prop):Prop:=b=true∧p
def EP (v:V) (X Y:Fr→St→Prop) (fr:Fr) (st:St):Prop:=match v with
 | .d (.bool b)=>TQ b X Y fr fr st
 |_=>False
def Nk (K:Fr→St→Prop) (fr:Fr) (st:St):Prop:=K fr st
def wQ (P:Program) (g:FuncId):Bool:=match P.funcs[g]? with
 |some fn=>fn.body.isSome&& !(fn.name== "runtime.NumGoroutine")
 |none=>false
def b7 (P:Program) (g:FuncId) (p:Prop):Prop:=(∀ args w,(callFunc g args).run P w= .ok (.enter g args) w)∧p
def wR {P:Program} {g:FuncId} (h:wQ P g=true) (args:Array Value) (w:World):(callFunc g args).run P w= .ok (.enter g args) w:=by
 unfold wQ at h;split at h
 ·rename_i fn hf;simp only [aas,abC] at h;obtain ⟨h1,h2⟩:=h;have hb:fn.body.isNone=false:=by cases hb:fn.body<;>simp_all
  simp only [callFunc,Sem.run_bind,run_program,Result.andThen_ok,hf,h2,hb,aa3,if_false];rfl
 ·cases h
def ak {P:Program} {g:FuncId} (h:wQ P g=true) (p:Prop):b7 P g p=p:=propext ⟨fun k=>k.2,fun k=>⟨wR h,k⟩⟩
section
variable (P:Program) (G:World→Nat→Prop) (n:NDs) (aC:St)
def dQ (d:Bool) (g:FuncId) (xs:List V) (st:St) (K Kp:V→St→Prop):Prop:=match d with
 |false=>∃ R,aA P G g xs st R∧(∀ v s,R (.ret v) s→K v s)∧(∀ v s,R (.dw v) s→Kp v s)
 |true=>∃ v,aA P G g xs st (fun q s=>q= .ret v∧s=st)∧K v st
def RX (d:Bool) (res:List Nat) (all:Array Oper) (Q:AX→Fr→St→Prop):Option (List Oper×Fr×St)→Prop
 |some ([],fr,st)=>Q .normal fr st
 |some (o::r,fr,st)=>OX P G n aC d res all Q (o::r) fr st
 |none=>False
def RL (d:Bool) (res:List Nat) (all:Array Oper) (Q:AX→Fr→St→Prop) (l:List Oper) (fr:Fr) (st:St):Prop:=RX P G n aC d res all Q (cJ P n all res l fr st)
def KR (d:Bool) (res:List Nat) (all:Array Oper) (Q:AX→Fr→St→Prop) (r:List Oper) (fr:Fr) (dd:Option Tmp) (v:V) (st:St):Prop:=RX P G n aC d res all Q (cJ P n all res r (eC fr dd v) st)
def KP (d:Bool) (Q:AX→Fr→St→Prop) (fr:Fr) (v:V) (st:St):Prop:=oL (!d) (Q (.dw v) fr st)
def OJ (d:Bool) (res:List Nat) (all:Array Oper) (Q:AX→Fr→St→Prop) (o:Oper) (r:List Oper) (fr:Fr) (st:St):Prop:=OX P G n aC d res all Q (o::r) fr st
def GX (d:Bool) (res:List Nat) (all:Array Oper) (Q:AX→Fr→St→Prop) (v:V) (j t:Nat) (l:List Oper) (fr:Fr) (st:St):Prop:=match v with
 | .d (.bool b)=>TQ b (RL P G n aC d (j::res) all Q l) (RL P G n aC d (j::res) all Q l) (upd fr t (.d (.bool true))) (upd fr t (.d (.bool false))) st
 | .cF []=>RX P G n aC d (j::res) all Q (cJ P n all (j::res) l fr st)
 |_=>False
def CV (d:Bool) (res:List Nat) (all:Array Oper) (Q:AX→Fr→St→Prop) (v:V) (args:List Operand) (dd:Option Tmp) (r:List Oper) (fr:Fr) (st:St):Prop:=match v with
 | .jE g cap=>b7 P g (dQ P G d g (args.map (fun o=>(ev fr o).share)++cap) st (KR P G n aC d res all Q r fr dd) (KP d Q fr))
 |_=>False
def PV (d:Bool) (Q:AX→Fr→St→Prop) (v:V) (fr:Fr) (st:St):Prop:=match v with
 | .d (.iface t y)=>oL (!d) (Q (.dw (.d (.iface t y))) fr st)
 |_=>False
def CX (d:Bool) (res:List Nat) (all:Array Oper) (Q:AX→Fr→St→Prop) (o:Oper) (r:List Oper) (fr:Fr) (st:St):Prop:=match o.op with
 | .call { callee:= .value x,args,.. }=>oL (decide (goes all o fr=some true)) (oL (fC n o.dst) (CV P G n aC d res all Q (ev fr x) args.toList o.dst r fr st))
 | .panic x=>oL (decide (goes all o fr=some true)) (PV d Q (ev fr x) fr st)
 |_=>False
def GD (d:Bool) (res:List Nat) (all:Array Oper) (Q:AX→Fr→St→Prop) (t:Option Tmp) (j:Nat) (o:Oper) (r:List Oper) (fr:Fr) (st:St):Prop:=match t with
 |some t=>GX P G n aC d res all Q (fr t) j t (o::r) fr st
 |none=>False
def HX (d:Bool) (res:List Nat) (all:Array Oper) (Q:AX→Fr→St→Prop) (o:Oper) (r:List Oper) (fr:Fr) (st:St):Prop:=match o.guard with
 |none=>CX P G n aC d res all Q o r fr st
 |some (j,_)=>if res.contains j=true then CX P G n aC d res all Q o r fr st else GD P G n aC d res all Q ((all[j]?).bind (·.dst)) j o r fr st
def QX (b:Bool) (Q:AX→Fr→St→Prop) (j:Nat) (fr:Fr) (st:St):Prop:=if b=true then Q .normal fr st else Q (.exit j) fr st
def SW:Code→(AX→Fr→St→Prop)→Fr→St→Prop
 | .seq x y,Q,fr,st=>SW x (bz (SW y Q) Q) fr st
 | .block id x,Q,fr,st=>SW x (aY id Q) fr st
 | .scope x,Q,fr,st=>SW x Q fr st
 | .skip,Q,fr,st=>Q .normal fr st
 | .label _,Q,fr,st=>Q .normal fr st
 | .exit i,Q,fr,st=>Q (.exit i) fr st
 | .ret,Q,fr,st=>Q .ret fr st
 | .cond o x y,Q,fr,st=>EP (ev fr o) (SW x Q) (SW y Q) fr st
 | .region id ops false,Q,fr,st=>RX P G n aC false [] ops Q (cJ P n ops [] ops.toList fr st)
 |c,Q,fr,st=>AW P G n aC c Q fr st
end
section
variable {P:Program} {G:World→Nat→Prop} {n:NDs} {aC:St} {Q:AX→Fr→St→Prop} {fr:Fr} {st:St} {d:Bool} {res:List Nat} {all:Array Oper}
def RX.sound {l:List Oper} (h:RX P G n aC d res all Q (cJ P n all res l fr st)):OX P G n aC d res all Q l fr st:=by
 cases hr:cJ P n all res l fr st with
 |none=>rw [hr] at h;exact h.elim
 |some x=>
  obtain ⟨l',fr',st'⟩:=x
  rw [hr] at h
  refine OX.run hr ?_
  cases l' with
  |nil=>exact OX.nil h
  |cons o r=>exact h
def mg {b:Bool} {p:Prop} (h:oL b p):b=true∧p:=h
def CX.sound {o:Oper} {r:List Oper} (h:CX P G n aC d res all Q o r fr st):OX P G n aC d res all Q (o::r) fr st:=by
 obtain ⟨dd,op,ty,pos,after,gd⟩:=o;unfold CX at h;split at h
 ·rename_i x args ats hop;simp only at hop;subst hop;obtain ⟨h1,h2,h3⟩:=h;have h1:=of_decide_eq_true h1;unfold CV at h3;split at h3
  ·rename_i g cap hcl;obtain ⟨h4,h5⟩:=h3;have hcall:=h4;cases d with
   |false=>
    obtain ⟨R,hA,hr,hp⟩:=h5
    refine OW.call h1 hcl hcall h2 (hA.mono ?_)
    rintro (v|v) s hR
    ·exact (RX.sound (d:=false) (hr v s hR):_)
    ·exact (hp v s hR).2
   |true=>
    obtain ⟨v,hA,hk⟩:=h5
    exact OX.call hcall hcl h1 h2 rfl hA (RX.sound hk)
  ·exact h3.elim
 ·rename_i x hop;simp only at hop;subst hop;obtain ⟨h1,h2⟩:=h;have h1:=of_decide_eq_true h1;unfold PV at h2;split at h2
  ·rename_i t y hx;obtain ⟨h3,h4⟩:=h2;cases d with
   |false=>exact OX.panic rfl h1 hx h4
   |true=>cases h3
  ·exact h2.elim
 ·exact h.elim
def GX.sound {j t:Nat} {l:List Oper} (h:GX P G n aC d res all Q (fr t) j t l fr st):OX P G n aC d res all Q l fr st:=by
 unfold GX at h;split at h
 ·rename_i b hb;unfold TQ at h;split at h
  ·rename_i hbt;subst hbt;rw [pJ hb] at h;exact RX.sound (res:=j::res) h
  ·rename_i hbf;rw [Bool.not_eq_true] at hbf;subst hbf;rw [pJ hb] at h;exact RX.sound (res:=j::res) h
 ·exact RX.sound (res:=j::res) h
 ·exact h.elim
def HX.sound {o:Oper} {r:List Oper} (h:HX P G n aC d res all Q o r fr st):OX P G n aC d res all Q (o::r) fr st:=by
 unfold HX at h;split at h
 ·exact h.sound
 ·split at h
  ·exact h.sound
  ·unfold GD at h;split at h
   ·exact h.sound
   ·exact h.elim
theorem SW.sound:∀ (c:Code) {Q:AX→Fr→St→Prop} {fr:Fr} {st:St},SW P G n aC c Q fr st→AW P G n aC c Q fr st
 | .seq x y,Q,fr,st,h=>by
  refine AW.seq ((SW.sound x h).mono fun e fr' st' hx=>?_);cases e with
  |normal=>exact SW.sound y hx
  |_=>exact hx
 | .block id x,Q,fr,st,h=>AW.block (SW.sound x h)
 | .scope x,Q,fr,st,h=>AW.scope (SW.sound x h)
 | .skip,Q,fr,st,h=>AW.skip h
 | .label _,Q,fr,st,h=>AW.label h
 | .exit i,Q,fr,st,h=>AW.exit h
 | .ret,Q,fr,st,h=>AW.ret h
 | .cond o x y,Q,fr,st,h=>by
  unfold SW EP at h;split at h
  ·rename_i b hb;refine AW.cond hb ?_;unfold TQ at h;split at h
   ·rename_i hbt;rw [if_pos hbt];exact SW.sound x h
   ·rename_i hbf;rw [if_neg hbf];exact SW.sound y h
  ·exact h.elim
 | .region id ops false,Q,fr,st,h=>by
  have:=RX.sound (show RX P G n aC false [] ops Q (cJ P n ops [] ops.toList fr st) from h);have e:AW P G n aC (.region id ops.toList.toArray false) Q fr st:=AW.region (by simpa using (show OW P G n aC ops Q ops.toList fr st from this));simpa using e
 | .region id ops true,Q,fr,st,h=>h
 | .loop x,Q,fr,st,h=>h
 | .rangeFunc a b c e,Q,fr,st,h=>h
 | .goto l,Q,fr,st,h=>h
 | .refuse s,Q,fr,st,h=>h
class Pl (Q:AX→Fr→St→Prop) (e:AX) (fr:Fr) (st:St) (p:outParam Prop):Prop where
 h:p→Q e fr st
class Qg (i j:Nat):Prop where
 h:i≠j
instance (priority:=low) VD {e:AX}:Pl Q e fr st (Q e fr st):=⟨id⟩
instance XZ {K:Fr→St→Prop}:Pl (bz K Q) .normal fr st (K fr st):=⟨id⟩
instance X0 {K:Fr→St→Prop} {p:Prop} [k:Pl Q .ret fr st p]:Pl (bz K Q) .ret fr st p:=⟨k.h⟩
instance X1 {K:Fr→St→Prop} {p:Prop} {i:Nat} [k:Pl Q (.exit i) fr st p]:Pl (bz K Q) (.exit i) fr st p:=⟨k.h⟩
instance X2 {K:Fr→St→Prop} {p:Prop} {v:V} [k:Pl Q (.dw v) fr st p]:Pl (bz K Q) (.dw v) fr st p:=⟨k.h⟩
instance X3 {p:Prop} {i:Nat} [k:Pl Q .normal fr st p]:Pl (aY i Q) .normal fr st p:=⟨k.h⟩
instance X4 {p:Prop} {i:Nat} [k:Pl Q .ret fr st p]:Pl (aY i Q) .ret fr st p:=⟨k.h⟩
instance X5 {p:Prop} {i:Nat} {v:V} [k:Pl Q (.dw v) fr st p]:Pl (aY i Q) (.dw v) fr st p:=⟨k.h⟩
instance X6 {p:Prop} {i:Nat} [k:Pl Q .normal fr st p]:Pl (aY i Q) (.exit i) fr st p:=⟨fun h=>by simp only [aY,if_true];exact k.h h⟩
instance X7 {p:Prop} {i j:Nat} [ne:Qg j i] [k:Pl Q (.exit j) fr st p]:Pl (aY i Q) (.exit j) fr st p:=⟨fun h=>by simp only [aY,if_neg ne.h];exact k.h h⟩
instance X8 {i j:Nat} [h:Qg i j]:Qg (i+1) (j+1):=⟨fun e=>h.h (Nat.succ.inj e)⟩
instance X9 {j:Nat}:Qg 0 (j+1):=⟨by omega⟩
instance Ya {j:Nat}:Qg (j+1) 0:=⟨by omega⟩
def Wk.aw {c:Code} (h:∀ Q',Q'=Q→Wk (SW P G n aC c Q' fr st)):AW P G n aC c Q fr st:=SW.sound c (h Q rfl)
def Wk.q {Q':AX→Fr→St→Prop} {e:AX} {p:Prop} (hQ:Q'=Q) [k:Pl Q e fr st p] (h:p):Q' e fr st:=by subst hQ;exact k.h h
def Wk.sw {c:Code} (h:∀ Q',Q'=Q→Wk (SW P G n aC c Q' fr st)):SW P G n aC c Q fr st:=h _ rfl
def Wk.ow {all:Array Oper} {l:List Oper} (h:∀ Q',Q'=Q→Wk (RX P G n aC false [] all Q' (cJ P n all [] l fr st))):OW P G n aC all Q l fr st:=RX.sound (d:=false) (h _ rfl)
def Wk.i {p:Prop} (h:Wk p):Wk p:=h
def Wk.o {p:Prop} (h:p):Wk p:=h
def Wk.k {K:Fr→St→Prop} (h:K fr st):Wk (Nk K fr st):=h
def Wk.bl {i:Nat} {x:AX} (h:Wk (aY i Q x fr st)):aY i Q x fr st:=h
def Wk.hd {o:Oper} {r:List Oper} (h:Wk (HX P G n aC d res all Q o r fr st)):Wk (OJ P G n aC d res all Q o r fr st):=HX.sound h
def Wk.rnd {body:Code} {k:Nat} (h:∀ Q',Q'=bz (bO P G n aC body Q k) Q→Wk (SW P G n aC body Q' fr st)):bO P G n aC body Q (k+1) fr st:=SW.sound body (h _ rfl)
def Wk.drawn (hm:P.follows .mixedOrders=true) {id:Nat} {l:List Oper} (hok:fM l [] [] l.length=true) (h:Wk (RX P G n aC true [] l.toArray Q (cJ P n l.toArray [] l fr st))):Wk (AW P G n aC (.region id l.toArray true) Q fr st):=
 AW.drawn hm hok (RX.sound (d:=true) h)
def Wk.Au {l:Array Oper} (id:Nat) (h:AW P G n aC (.region id l true) Q fr st):Wk (AW P G n aC (.region id l true) Q fr st):=h
def ah {g:FuncId} {xs:List V} {v:V} {K Kp:V→St→Prop} (h:aA P G g xs st (fun q s=>q= .ret v∧s=st)) (k:Wk (K v st)):Wk (dQ P G d g xs st K Kp):=by
 cases d
 ·exact ⟨_,h,by rintro v s ⟨hv,rfl⟩;cases hv;exact k,by rintro v s ⟨hv,_⟩;cases hv⟩
 ·exact ⟨v,h,k⟩
def aW {g:FuncId} {xs:List V} {v:V} {st':St} {K Kp:V→St→Prop} (h:aA P G g xs st (fun q s=>q= .ret v∧s=st')) (k:Wk (K v st')):Wk (dQ P G false g xs st K Kp):=
 ⟨_,h,by rintro v s ⟨hv,rfl⟩;cases hv;exact k,by rintro v s ⟨hv,_⟩;cases hv⟩
def cA {g:FuncId} {xs:List V} {v:V} {st':St} {K Kp:V→St→Prop} (h:aA P G g xs st (fun q s=>q= .dw v∧s=st')) (k:Wk (Kp v st')):Wk (dQ P G false g xs st K Kp):=
 ⟨_,h,(by rintro v s ⟨hv,_⟩;cases hv),(by rintro v s ⟨hv,rfl⟩;cases hv;exact k)⟩
def OK {τ:Type} {f:τ→V} {p:τ→Prop} {g:FuncId} {xs:List V} {K Kp:V→St→Prop} (h:aA P G g xs st (fun q s=>∃ x,q= .ret (f x)∧p x∧s=st)) (k:∀ x,p x→Wk (K (f x) st)):Wk (dQ P G false g xs st K Kp):=
 ⟨_,h,by rintro v s ⟨x,hv,hp,rfl⟩;cases hv;exact k x hp,by rintro v s ⟨x,hv,_⟩;cases hv⟩
class Sp (b:Bool) (p q:outParam Prop):Prop where
 t:b=true→p
 f:b=false→q
instance YN (b:Bool):Sp b (b=true) (b=false):=⟨id,id⟩
instance YO (b:Bool):Sp (!b) (b=false) (b=true):=⟨by simp,by simp⟩
instance YP (p:Prop) [Decidable p]:Sp (decide p) p (¬ p):=⟨of_decide_eq_true,of_decide_eq_false⟩
def ay {b:Bool} {p q:Prop} {X Y:Fr→St→Prop} {f1 f2:Fr} [s:Sp b p q] (h1:p→Wk (X f1 st)) (h2:q→Wk (Y f2 st)):Wk (TQ b X Y f1 f2 st):=by
 cases b
 ·exact h2 (s.f rfl)
 ·exact h1 (s.t rfl)
def fQ {b:Bool} (h:b=true) (k:b=false):False:=by rw [h] at k;cases k
def aQ (R:Out→St→Prop) (st:St) (v:V):Prop:=R (.ret v) st
def Ld (R:Out→St→Prop) (st:St) (v:V):Prop:=oL (v.within st.aj.length st.toks.length) (aQ R st v)
def Ie (R:Out→St→Prop) (st:St) (o:Option (List V)):Prop:=match o with
 |some l=>Ld R st (eD l).share
 |none=>False
def RetS (P:Program) (fn:Func) (st:St) (R:Out→St→Prop) (fr:Fr) (st':St):Prop:=st'.aj.take st.aj.length=st.aj∧st'.toks.take st.toks.length=st.toks∧Ie R st (eT P fr st' fn.results.toList)
def Wk.ret {fn:Func} {R:Out→St→Prop} {st':St} (h:∀ R',R'=R→Wk (RetS P fn st R' fr st')):bK P fn st R .ret fr st':=by
 obtain ⟨h1,h2,h3⟩:=h R rfl;unfold Ie at h3;split at h3
 ·rename_i l hl;exact uT h1 h2 hl rfl h3.1 h3.2
 ·exact h3.elim
def Wk.fin {R R':Out→St→Prop} {v:V} (hR:R'=R) (h:R (.ret v) st):Wk (aQ R' st v):=by subst hR;exact h
end
section
variable (P:Program) (G:World→Nat→Prop) (n:NDs) (aC:St) (Q:AX→Fr→St→Prop) (fr:Fr) (st:St) (d:Bool) (res:List Nat) (all:Array Oper) (K:Fr→St→Prop) (X Y:Fr→St→Prop)
def VE (g:Fr):TQ true X Y fr g st=X fr st:=by simp [TQ]
def VF (g:Fr):TQ false X Y fr g st=Y g st:=by simp [TQ]
def Nl (p:Prop):oL true p=p:=by simp [oL]
def OL (b:Bool):EP (.d (.bool b)) X Y fr st=TQ b X Y fr fr st:=(rfl)
def Ig (x y:Code):SW P G n aC (.seq x y) Q fr st=SW P G n aC x (bz (SW P G n aC y Q) Q) fr st:=(rfl)
def yM (i:Nat) (x:Code):SW P G n aC (.block i x) Q fr st=SW P G n aC x (aY i Q) fr st:=(rfl)
def C1:SW P G n aC .skip Q fr st=Q .normal fr st:=(rfl)
def C2 (i:Nat):SW P G n aC (.exit i) Q fr st=Q (.exit i) fr st:=(rfl)
def Ih:SW P G n aC .ret Q fr st=Q .ret fr st:=(rfl)
def C3 (o:Operand) (x y:Code):SW P G n aC (.cond o x y) Q fr st=EP (ev fr o) (SW P G n aC x Q) (SW P G n aC y Q) fr st:=(rfl)
def uX (id:Nat) (l:List Oper):SW P G n aC (.region id l.toArray false) Q fr st=RX P G n aC false [] l.toArray Q (cJ P n l.toArray [] l fr st):=(rfl)
def yO (id:Nat) (l:Array Oper):SW P G n aC (.region id l true) Q fr st=AW P G n aC (.region id l true) Q fr st:=(rfl)
def SW_loop (x:Code):SW P G n aC (.loop x) Q fr st=AW P G n aC (.loop x) Q fr st:=(rfl)
def OM:RX P G n aC d res all Q (some ([],fr,st))=Q .normal fr st:=(rfl)
def Le (o:Oper) (r:List Oper):RX P G n aC d res all Q (some (o::r,fr,st))=OJ P G n aC d res all Q o r fr st:=(rfl)
def Lf (dd op ty pos af) (r:List Oper):HX P G n aC d res all Q ⟨dd,op,ty,pos,af,none⟩ r fr st=CX P G n aC d res all Q ⟨dd,op,ty,pos,af,none⟩ r fr st:=(rfl)
def HG (b:Bool) (j:Nat) (o:Oper) (r:List Oper):Prop:=if b=true then CX P G n aC d res all Q o r fr st else GD P G n aC d res all Q ((all[j]?).bind (·.dst)) j o r fr st
def Lg (dd op ty pos af) (j:Nat) (b:Bool) (r:List Oper):HX P G n aC d res all Q ⟨dd,op,ty,pos,af,some (j,b)⟩ r fr st=HG P G n aC Q fr st d res all (ask res (some (j,b))) j ⟨dd,op,ty,pos,af,some (j,b)⟩ r:=(rfl)
def VG (j:Nat) (o:Oper) (r:List Oper):HG P G n aC Q fr st d res all true j o r=CX P G n aC d res all Q o r fr st:=by simp [HG]
def VH (j:Nat) (o:Oper) (r:List Oper):HG P G n aC Q fr st d res all false j o r=GD P G n aC d res all Q ((all[j]?).bind (·.dst)) j o r fr st:=by simp [HG]
def Lh (t j:Nat) (o:Oper) (r:List Oper):GD P G n aC d res all Q (some t) j o r fr st=GX P G n aC d res all Q (fr t) j t (o::r) fr st:=(rfl)
def VI (b:Bool) (j t:Nat) (l:List Oper):GX P G n aC d res all Q (.d (.bool b)) j t l fr st=TQ b (RL P G n aC d (j::res) all Q l) (RL P G n aC d (j::res) all Q l) (upd fr t (.d (.bool true))) (upd fr t (.d (.bool false))) st:=(rfl)
def QZ (l:List Oper):RL P G n aC d res all Q l fr st=RX P G n aC d res all Q (cJ P n all res l fr st):=(rfl)
def Q0 (l:List Oper) (dd:Option Tmp) (v:V):KR P G n aC d res all Q l fr dd v st=RX P G n aC d res all Q (cJ P n all res l (eC fr dd v) st):=(rfl)
def Nn (v:V):KP d Q fr v st=oL (!d) (Q (.dw v) fr st):=(rfl)
def VJ (j t:Nat) (l:List Oper):GX P G n aC d res all Q (.cF []) j t l fr st=RX P G n aC d (j::res) all Q (cJ P n all (j::res) l fr st):=(rfl)
def Li (dd ty pos af gd) (x:Operand) (args ats) (r:List Oper):CX P G n aC d res all Q ⟨dd,.call ⟨.value x,args,ats⟩,ty,pos,af,gd⟩ r fr st=oL (decide (goes all ⟨dd,.call ⟨.value x,args,ats⟩,ty,pos,af,gd⟩ fr=some true)) (oL (fC n dd) (CV P G n aC d res all Q (ev fr x) args.toList dd r fr st)):=(rfl)
def Ii (dd ty pos af gd) (x:Operand) (r:List Oper):CX P G n aC d res all Q ⟨dd,.panic x,ty,pos,af,gd⟩ r fr st=oL (decide (goes all ⟨dd,.panic x,ty,pos,af,gd⟩ fr=some true)) (PV d Q (ev fr x) fr st):=(rfl)
def OO (g:FuncId) (cap:List V) (args:List Operand) (dd:Option Tmp) (r:List Oper):CV P G n aC d res all Q (.jE g cap) args dd r fr st=b7 P g (dQ P G d g (args.map (fun o=>(ev fr o).share)++cap) st (KR P G n aC d res all Q r fr dd) (KP d Q fr)):=(rfl)
def VK (t:TypeId) (y:D):PV d Q (.d (.iface t y)) fr st=oL (!d) (Q (.dw (.d (.iface t y))) fr st):=(rfl)
def VL:bz K Q .normal fr st=Nk K fr st:=(rfl)
def VM:bz K Q .ret fr st=Q .ret fr st:=(rfl)
def VN (i:Nat):bz K Q (.exit i) fr st=Q (.exit i) fr st:=(rfl)
def VO (v:V):bz K Q (.dw v) fr st=Q (.dw v) fr st:=(rfl)
def OP (y:Code):Nk (SW P G n aC y Q) fr st=SW P G n aC y Q fr st:=(rfl)
def VP (i:Nat):aY i Q .normal fr st=Q .normal fr st:=(rfl)
def VQ (i:Nat):aY i Q .ret fr st=Q .ret fr st:=(rfl)
def VR (i:Nat) (v:V):aY i Q (.dw v) fr st=Q (.dw v) fr st:=(rfl)
def VS (i j:Nat):aY i Q (.exit j) fr st=QX (j==i) Q j fr st:=by simp [aY,QX]
def Q1 (j:Nat):QX true Q j fr st=Q .normal fr st:=by simp [QX]
def exQ_f (j:Nat):QX false Q j fr st=Q (.exit j) fr st:=by simp [QX]
def Lj (fn:Func) (s:St) (R:Out→St→Prop):RetS P fn s R fr st=(st.aj.take s.aj.length=s.aj∧st.toks.take s.toks.length=s.toks∧Ie R s (eT P fr st fn.results.toList)):=(rfl)
def ER (R:Out→St→Prop) (l:List V):Ie R st (some l)=Ld R st (eD l).share:=(rfl)
def Ll (R:Out→St→Prop) (v:V):Ld R st v=oL (v.within st.aj.length st.toks.length) (aQ R st v):=(rfl)
end
attribute [irreducible] b7 RL KR KP Wk TQ oL EP Nk RX OJ GX CV PV CX GD HX HG QX SW dQ aQ Ld Ie RetS
attribute [go_sem] VE VF Nl OL Ig yM C1 C2 Ih C3 uX yO SW_loop OM Le Lf Lg VG VH Lh VI QZ Q0 Nn VJ Li Ii OO VK VL VM VN VO OP VP VQ VR VS Q1 exQ_f Lj ER Ll
def yP (sz:Nat):cr sz []=true:=(rfl)
def wU (sz:Nat) (r:List D) (es:List (List D)):cr sz (r::es)=(r.length==sz&&cr sz es):=(rfl)
def VT (b:Option Bool) (q:Bool) (v:D) (ok:Bool):Option V:=match b with
 |some false=>if q=true then (if ok then some (.cF [.d v,.d (.bool true)]) else some (.d v)) else none
 |_=>none
def VU (P:Program) (t u:TypeId) (v:D) (ok:Bool):yI P (.d (.iface t v)) u ok=VT (isIface P u) (t==u) v ok:=by
 unfold yI VT;cases hi:isIface P u with
 |none=>rfl
 |some b=>cases b<;>simp_all
def OQ (v:D):VT (some false) true v true=some (.cF [.d v,.d (.bool true)]):=(rfl)
def VV (b:Option Bool) (z:Option V):Option V:=match b,z with
 |some false,some z=>some (.cF [z,.d (.bool false)])
 |_,_=>none
def VW (P:Program) (u:TypeId):yI P (.d .fD) u true=VV (isIface P u) ((zeroOf P u).map ofConst):=by
 unfold yI VV;cases hi:isIface P u with
 |none=>rfl
 |some b=>cases b<;>cases hz:zeroOf P u<;>simp_all
def OS (z:V):VV (some false) (some z)=some (.cF [z,.d (.bool false)]):=(rfl)
attribute [go_sem] VU OQ VW OS
def Q3 (r:List D) (es:List (List D)):wI true (r::es) 0=some (.ep r 0):=by rw [Bo (by omega) (by simp)];rfl
def Q4 (r:List D) (es:List (List D)) (i:Int) (h:0<i):wI true (r::es) i=wI true es (i - 1):=by
 obtain ⟨k,rfl⟩:∃ k:Nat,i=(k:Int)+1:=⟨(i - 1).toNat,by omega⟩;have e1:((k:Int)+1).toNat=k+1:=by omega
 have e2:((k:Int)+1 - 1).toNat=k:=by omega
 have e3:((k:Int)+1 - 1)=k:=by omega
 by_cases hk:k<es.length
 ·rw [Bo (by omega) (by rw [e1];simpa using hk),Bo (by omega) (by rw [e2];exact hk),e1,e2];rfl
 ·simp [wI,e3,e1,hk]
attribute [go_sem] Q3 Q4 yP wU
end Go.Abs
end
section
namespace Go.Proofs.YtbcillkajdnljaaGreatDoor
open Tryz
open Go.Abs
def mx:Tryz.prog.follows .mixedOrders=true:=Tryz.checked.mixed
def enR {a b:Nat} (k:((List.range (b+1 - a)).all fun i=>wQ prog (a+i))=true) {g:Nat} (h:a≤g∧g≤b) (p:Prop):b7 prog g p=p:=by
 have h2:=aaE.1 k (g - a) (List.mem_range.2 (by omega));rw [show a+(g - a)=g by omega] at h2;exact ak h2 p
def en0 (g:Nat) (h:3≤g∧g≤183) (p:Prop):b7 prog g p=p:=enR (by kernel_rfl) h p
def en1 (g:Nat) (h:185≤g∧g≤345) (p:Prop):b7 prog g p=p:=enR (by kernel_rfl) h p
def en2 (g:Nat) (h:347≤g∧g≤377) (p:Prop):b7 prog g p=p:=enR (by kernel_rfl) h p
def en3 (g:Nat) (h:379≤g∧g≤388) (p:Prop):b7 prog g p=p:=enR (by kernel_rfl) h p
def en4 (g:Nat) (h:390≤g∧g≤450) (p:Prop):b7 prog g p=p:=enR (by kernel_rfl) h p
def en5 (g:Nat) (h:452≤g∧g≤562) (p:Prop):b7 prog g p=p:=enR (by kernel_rfl) h p
def en6 (g:Nat) (h:564≤g∧g≤578) (p:Prop):b7 prog g p=p:=enR (by kernel_rfl) h p
attribute [go_sem] en0 en1 en2 en3 en4 en5 en6 results3 results4 results5 results6 results7 results8 results9 results10 results11 results12 results13 results14 results15 results16 results17 results18 results19 results20 results21 results22 results23 results24 results25 results26 results27 results28 results29 results30 results31 results32 results33 results34 results35 results36 results37 results38 results39 results40 results41 results42 results43 results44 results45 results46 results47 results48 results49 results50 results51 results52 results53 results54 results55 results56 results57 results58 results59 results60 results61 results62 results63 results64 results65 results66 results67 results68 results69 results70 results71 results72 results73 results74 results75 results76 results77 results78 results79 results80 results81 results82 results83 results84 results85 results86 results87 results88 results89 results90 results91 results92 results93 results94 results95 results96 results97 results98 results99 results100 results101 results102 results103 results104 results105 results106 results107 results108 results109 results110 results111 results112 results113 results114 results115 results116 results117 results118 results119 results120 results121 results122 results123 results124 results125 results126 results127 results128 results129 results130 results131 results132 results133 results134 results135 results136 results137 results138 results139 results140 results141 results142 results143 results144 results145 results146 results147 results148 results149 results150 results151 results152 results153 results154 results155 results156 results157 results158 results159 results160 results161 results162 results163 results164 results165 results166 results167 results168 results169 results170 results171 results172 results173 results174 results175 results176 results177 results178 results179 results180 results181 results182 results183 results185 results186 results187 results188 results189 results190 results191 results192 results193 results194 results195 results196 results197 results198 results199 results200 results201 results202 results203 results204 results205 results206 results207 results208 results209 results210 results211 results212 results213 results214 results215 results216 results217 results218 results219 results220 results221 results222 results223 results224 results225 results226 results227 results228 results229 results230 results231 results232 results233 results234 results235 results236 results237 results238 results239 results240 results241 results242 results243 results244 results245 results246 results247 results248 results249 results250 results251 results252 results253 results254 results255 results256 results257 results258 results259 results260 results261 results262 results263 results264 results265 results266 results267 results268 results269 results270 results271 results272 results273 results274 results275 results276 results277 results278 results279 results280 results281 results282 results283 results284 results285 results286 results287 results288 results289 results290 results291 results292 results293 results294 results295 results296 results297 results298 results299 results300 results301 results302 results303 results304 results305 results306 results307 results308 results309 results310 results311 results312 results313 results314 results315 results316 results317 results318 results319 results320 results321 results322 results323 results324 results325 results326 results327 results328 results329 results330 results331 results332 results333 results334 results335 results336 results337 results338 results339 results340 results341 results342 results343 results344 results345 results347 results348 results349 results350 results351 results352 results353 results354 results355 results356 results357 results358 results359 results360 results361 results362 results363 results364 results365 results366 results367 results368 results369 results370 results371 results372 results373 results374 results375 results376 results377 results379 results380 results381 results382 results383 results384 results385 results386 results387 results388 results390 results391 results392 results393 results394 results395 results396 results397 results398 results399 results400 results401 results402 results403 results404 results405 results406 results407 results408 results409 results410 results411 results412 results413 results414 results415 results416 results417 results418 results419 results420 results421 results422 results423 results424 results425 results426 results427 results428 results429 results430 results431 results432 results433 results434 results435 results436 results437 results438 results439 results440 results441 results442 results443 results444 results445 results446 results447 results448 results449 results450 results452 results453 results454 results455 results456 results457 results458 results459 results460 results461 results462 results463 results464 results465 results466 results467 results468 results469 results470 results471 results472 results473 results474 results475 results476 results477 results478 results479 results480 results481 results482 results483 results484 results485 results486 results487 results488 results489 results490 results491 results492 results493 results494 results495 results496 results497 results498 results499 results500 results501 results502 results503 results504 results505 results506 results507 results508 results509 results510 results511 results512 results513 results514 results515 results516 results517 results518 results519 results520 results521 results522 results523 results524 results525 results526 results527 results528 results529 results530 results531 results532 results533 results534 results535 results536 results537 results538 results539 results540 results541 results542 results543 results544 results545 results546 results547 results548 results549 results550 results551 results552 results553 results554 results555 results556 results557 results558 results559 results560 results561 results562 results564 results565 results566 results567 results568 results569 results570 results571 results572 results573 results574 results575 results576 results577 results578 results610 Int.cast_ofNat_Int
