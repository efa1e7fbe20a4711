import Derived.Test.YtbcillkajdnljaaGreatDoorV8
set_option linter.all false
section
namespace Go.Abs
open Go.RowKit
inductive rz (l:List Oper):Nat→Nat→Prop
 |one (j:Nat) (o:Oper) (e:Edge):l[j]?=some o→e∈o.after→Region.binds .any e=true→rz l e.on j
 |step (i j:Nat) (o:Oper) (e:Edge):l[j]?=some o→e∈o.after→Region.binds .any e=true→rz l i e.on→rz l i j
def CU (acc:List Nat):List Edge→Nat→Nat
 |[],s=>s
 |e::r,s=>CU acc r (if Region.binds .any e then s|||2^e.on|||acc.getD e.on 0 else s)
def masks:List Oper→List Nat→List Nat
 |[],acc=>acc
 |o::r,acc=>masks r (acc++[CU acc o.after.toList 0])
theorem si {acc:List Nat} {i:Nat}:∀ (es:List Edge) (s:Nat),(CU acc es s).testBit i=true→
  s.testBit i=true∨∃ e∈es,Region.binds .any e=true∧(i=e.on∨(acc.getD e.on 0).testBit i=true)
 |[],s,h=> .inl h
 |e::r,s,h=>by
  simp only [CU] at h;rcases si r _ h with h1|⟨e',he,hb,h2⟩
  ·split at h1
   ·rename_i hb;simp only [Nat.testBit_or,aaU,Nat.testBit_two_pow,aau] at h1;rcases h1 with (h1|h1)|h1
    ·exact .inl h1
    ·exact .inr ⟨e,by simp,hb,.inl h1.symm⟩
    ·exact .inr ⟨e,by simp,hb,.inr h1⟩
   ·exact .inl h1
  ·exact .inr ⟨e',by simp [he],hb,h2⟩
theorem nX (l:List Oper):∀ (r:List Oper) (acc:List Nat),(∀ j o,r[j]?=some o→l[acc.length+j]?=some o)→
  (∀ i j,(acc.getD j 0).testBit i=true→rz l i j)→∀ i j,((masks r acc).getD j 0).testBit i=true→rz l i j
 |[],acc,_,h,i,j,hb=>h i j hb
 |o::r,acc,hl,h,i,j,hb=>by
  refine nX l r _ (fun j' o' hj=>?_) (fun i j h1=>?_) i j hb
  ·have:=hl (j'+1) o' (by simpa using hj);rw [aax,abb]
   rwa [show acc.length+1+j'=acc.length+(j'+1) by omega]
  ·have hlo:l[acc.length]?=some o:=hl 0 o rfl;by_cases hlt:j<acc.length
   ·rw [aam,aaz hlt,←aam] at h1;exact h i j h1
   ·by_cases heq:j=acc.length
    ·subst heq;simp only [aam,aay (aat _),Nat.sub_self,abw,aaS] at h1;rcases si _ _ h1 with h2|⟨e,he,hbe,h2|h2⟩
     ·simp at h2
     ·subst h2;exact .one _ o e hlo (by simpa using he) hbe
     ·exact .step _ _ o e hlo (by simpa using he) hbe (h _ _ h2)
    ·rw [aam,List.getElem?_eq_none (by simp;omega)] at h1;simp at h1
def iO (l:List Oper) (t:Nat):Option Nat:=l.findIdx? (fun o=>o.dst==some t)
def bp (muts:List Nat) (i:Nat) (o:Oper):Nat:=
 if muts.contains i then 2 else if eu o.op then 0 else match o.op with
  | .load .. =>1
  | .lookup .. =>1
  | .call { callee:= .value _,.. }=>1
  |_=>2
def oI (l:List Oper) (muts:List Nat) (ex:List (Nat×Nat)) (fs:List Nat) (m:Nat):Bool:=
 let b:=masks l []
 let F9 (i j:Nat):Bool:=(b.getD j 0).testBit i
 let is:=l.zipIdx
 is.all fun (o,j)=>
  (match o.op with| .select .. =>false|_=>true)&&
  (o.after.all fun e=> !Region.binds .any e||decide (e.on<j))&&
  (match o.dst with|none=>true|some d=>iO l d==some j)&&
  ((o.looksAt l.toArray).all fun t=>match iO l t with|none=>true|some i=>i==j||(decide (i<j)&&F9 i j)||(decide (j<i)&&F9 j i))&&
  (decide (j≤m)||F9 m j||(bp muts j o==0&&fs.contains j))&&
  (decide (m<j)||bp muts j o==0||is.all fun (o',i)=>bp muts i o' !=2||i==j||(decide (i<j)&&F9 i j)||(decide (j<i)&&F9 j i)||
   (bp muts j o==1&&ex.any fun (j',hi)=>j'==j&&decide (i<hi)))&&
  (ex.all fun p=>decide (p.1≤p.2))
def fM (l:List Oper) (muts:List Nat) (ex:List (Nat×Nat)) (m:Nat):Bool:=oI l muts ex [] m
section
variable {P:Program} {G:World→Nat→Prop} {n:NDs}
def valOf (l:List Oper) (fr0:Fr) (vs:Nat→V) (L:Nat→Bool):Fr:=fun t=>match iO l t with
 |some i=>if L i then vs i else fr0 t
 |none=>fr0 t
def fE {l:List Oper} {t i:Nat} (h:iO l t=some i):∃ o,l[i]?=some o∧o.dst=some t:=by
 obtain ⟨hi,h1,_⟩:=List.findIdx?_eq_some_iff_getElem.1 h;exact ⟨l[i],by simp [hi],by simpa using h1⟩
structure EG (P:Program) (G:World→Nat→Prop) (n:NDs) (l:List Oper) (muts:List Nat) (ex:List (Nat×Nat)) (fs:List Nat) (m:Nat) (fr0:Fr) (vs:Nat→V) (S:Nat→St):Prop where
 ok:oI l muts ex fs m=true
 le:m≤l.length
 step:∀ i o,i<m→l[i]?=some o→cL P G n l.toArray o (valOf l fr0 vs (fun k=>decide (k<i))) (S i) (vs i) (S (i+1))
 still:∀ i o,i<m→l[i]?=some o→bp muts i o=1→S (i+1)=S i
 extra:∀ i hi o,(i,hi)∈ex→l[i]?=some o→i<m→∀ k,k≤hi→k≤m→cL P G n l.toArray o (valOf l fr0 vs (fun k=>decide (k<i))) (S k) (vs i) (S k)
 free:∀ j o,m<j→j∈fs→l[j]?=some o→∃ st st',cL P G n l.toArray o (valOf l fr0 vs (fun k=>decide (k<j))) st (vs j) st'
abbrev TX (P:Program) (G:World→Nat→Prop) (n:NDs) (l:List Oper) (muts:List Nat) (ex:List (Nat×Nat)) (m:Nat) (fr0:Fr) (vs:Nat→V) (S:Nat→St):Prop:=EG P G n l muts ex [] m fr0 vs S
structure CW (l:List Oper) (muts:List Nat) (ex:List (Nat×Nat)) (fs:List Nat) (m:Nat) (j:Nat) (o:Oper):Prop where
 Um:∀ e∈o.after,Region.binds .any e=true→e.on<j
 dst:∀ d,o.dst=some d→iO l d=some j
 look:∀ t∈o.looksAt l.toArray,∀ i,iO l t=some i→i=j∨(i<j∧rz l i j)∨(j<i∧rz l j i)
 late:j≤m∨rz l m j∨(m<j∧bp muts j o=0∧j∈fs)
 Un:∀ hi,(j,hi)∈ex→j≤hi
 wr:m<j∨bp muts j o=0∨∀ i o',l[i]?=some o'→bp muts i o'=2→i=j∨(i<j∧rz l i j)∨(j<i∧rz l j i)∨(bp muts j o=1∧∃ hi,(j,hi)∈ex∧i<hi)
def iY {l:List Oper} {muts fs:List Nat} {ex:List (Nat×Nat)} {m:Nat} (h:oI l muts ex fs m=true) {j:Nat} {o:Oper} (ho:l[j]?=some o):CW l muts ex fs m j o:=by
 have hb:∀ i j,((masks l []).getD j 0).testBit i=true→rz l i j:=nX l l [] (by simp) (by simp);simp only [oI,aaE] at h;have hm:(o,j)∈l.zipIdx:=by rw [aa9];exact ho
 have h1:=h (o,j) hm;simp only [aas,aaU,aau,beq_iff_eq] at h1;obtain ⟨⟨⟨⟨⟨⟨_,h2⟩,h3⟩,h4⟩,h5⟩,h6⟩,h7⟩:=h1;refine ⟨fun e he hbe=>?_,fun d hd=>?_,fun t ht i hi=>?_,?_,fun hi hmem=>?_,?_⟩
 ·have:=(Array.all_eq_true_iff_forall_mem.1 h2) e he;simpa [hbe] using this
 ·simpa [hd] using h3
 ·have:=(aaE.1 h4) t ht;rw [hi] at this;simp only [aaU,beq_iff_eq,aas,aau] at this;rcases this with (h|h)|h
  ·exact .inl h
  ·exact .inr (.inl ⟨h.1,hb _ _ h.2⟩)
  ·exact .inr (.inr ⟨h.1,hb _ _ h.2⟩)
 ·rcases h5 with (h5|h5)|h5
  ·exact .inl h5
  ·exact .inr (.inl (hb _ _ h5))
  ·rcases abe m j with h8|h8
   ·exact .inr (.inr ⟨h8,h5.1,by simpa using h5.2⟩)
   ·exact .inl h8
 ·have:=(aaE.1 h7) (j,hi) hmem;simpa using this
 ·rcases h6 with (h6|h6)|h7
  ·exact .inl h6
  ·exact .inr (.inl h6)
  refine .inr (.inr fun i o' ho' hk=>?_);have:=(aaE.1 h7) (o',i) (by rw [aa9];exact ho');simp only [aaU,beq_iff_eq,aas,aau,bne_iff_ne,ne_eq,hk,not_true_eq_false,false_or,List.any_eq_true] at this;rcases this with ((h|h)|h)|⟨h,⟨j',hi⟩,h8,h9,h10⟩
  ·exact .inl h
  ·exact .inr (.inl ⟨h.1,hb _ _ h.2⟩)
  ·exact .inr (.inr (.inl ⟨h.1,hb _ _ h.2⟩))
  ·simp only at h9;subst h9;exact .inr (.inr (.inr ⟨h,hi,h8,h10⟩))
def Pb {l:List Oper} {muts:List Nat} {ex:List (Nat×Nat)} {m:Nat} (h:fM l muts ex m=true) {j:Nat} {o:Oper} (ho:l[j]?=some o):CW l muts ex [] m j o:=iY h ho
structure Inv (l:List Oper) (muts fs:List Nat) (m:Nat) (S:Nat→St) (L:Array Bool) (k:Nat):Prop where
 size:L.size=l.length
 closed:∀ j o,l[j]?=some o→L.getD j false=true→∀ e∈o.after,Region.binds .any e=true→L.getD e.on false=true
 low:∀ j,L.getD j false=true→j<m∨(m<j∧j∈fs)
 phase:k≤m∧∀ i o,l[i]?=some o→bp muts i o=2→(L.getD i false=true↔i<k)
def Inv.F9 {l:List Oper} {muts fs:List Nat} {m:Nat} {S:Nat→St} {L:Array Bool} {k:Nat} (h:Inv l muts fs m S L k) {i j:Nat} (hb:rz l i j):
  (∃ o,l[j]?=some o∧∀ e∈o.after,Region.binds .any e=true→L.getD e.on false=true)→L.getD i false=true:=by
 induction hb with
 |one j o e ho he hbe=>
  rintro ⟨o',ho',hall⟩
  rw [ho] at ho'
  cases ho'
  exact hall e he hbe
 |step i j o e ho he hbe _ ih=>
  rintro ⟨o',ho',hall⟩
  rw [ho] at ho'
  cases ho'
  have h1:=hall e he hbe
  have hlt:e.on<l.length:=by
   rw [←h.size];rcases abe e.on L.size with h2|h2
   ·exact h2
   ·simp [abn h2] at h1
  exact ih ⟨l[e.on],by simp [hlt],fun e' he' hbe'=>h.closed e.on _ (by simp [hlt]) h1 e' he' hbe'⟩
def Inv.KS {l:List Oper} {muts fs:List Nat} {m:Nat} {S:Nat→St} {L:Array Bool} {k:Nat} (h:Inv l muts fs m S L k) {i j:Nat} (hb:rz l i j) (hj:L.getD j false=true):L.getD i false=true:=by
 have hlt:j<l.length:=by
  rw [←h.size];rcases abe j L.size with h2|h2
  ·exact h2
  ·simp [abn h2] at hj
 exact h.F9 hb ⟨l[j],by simp [hlt],fun e' he' hbe'=>h.closed j _ (by simp [hlt]) hj e' he' hbe'⟩
theorem nH {l:List Oper} {muts fs:List Nat} {ex:List (Nat×Nat)} {m:Nat} {fr0:Fr} {vs:Nat→V} {S:Nat→St} (R:EG P G n l muts ex fs m fr0 vs S):
  ∀ (d a:Nat),a+d≤m→(∀ i o,a≤i→i<a+d→l[i]?=some o→bp muts i o≠2)→S (a+d)=S a
 |0,a,_,_=>rfl
 |d+1,a,hm,h=>by
  have h1:=nH R d a (by omega) fun i o h1 h2=>h i o h1 (by omega);have hlt:a+d<l.length:=by have:=R.le;omega
  have ho:l[a+d]?=some l[a+d]:=by simp [hlt]
  have hk:=h (a+d) _ (by omega) (by omega) ho;rw [←h1,show a+(d+1)=a+d+1 by omega];by_cases h2:bp muts (a+d) l[a+d]=1
  ·exact R.still _ _ (by omega) ho h2
  ·have h0:eu (l[a+d]).op=true:=by
    have h3:=hk;have h4:=h2;unfold bp at h3 h4;split at h3
    ·simp at h3
    ·rename_i hc;rw [if_neg hc] at h4;split at h3
     ·assumption
     ·rename_i hq;rw [if_neg hq] at h4;split at h3<;>simp_all
   exact ((R.step _ _ (by omega) ho).quiet h0).1
def yC {l:List Oper} {muts fs:List Nat} {ex:List (Nat×Nat)} {m:Nat} {fr0:Fr} {vs:Nat→V} {S:Nat→St} {L:Array Bool} {k j:Nat} {o:Oper}
  (I:Inv l muts fs m S L k) (F:CW l muts ex fs m j o) (ho:l[j]?=some o) (hj:L.getD j false=false) (hr:∀ e∈o.after,Region.binds .any e=true→L.getD e.on false=true):
  ∀ t∈o.looksAt l.toArray,valOf l fr0 vs (fun k=>decide (k<j)) t=valOf l fr0 vs (fun k=>L.getD k false) t:=by
 intro t ht
 unfold valOf
 cases hw:iO l t with
 |none=>rfl
 |some i=>
  have:decide (i<j)=L.getD i false:=by
   rcases F.look t ht i hw with rfl|⟨h1,h2⟩|⟨h1,h2⟩
   ·rw [hj];simp
   ·rw [I.F9 h2 ⟨o,ho,hr⟩];simp [h1]
   ·cases hi:L.getD i false with
    |false=>simp;omega
    |true=>rw [I.KS h2 hi] at hj;simp at hj
  simp only [this]
def Bg {l:List Oper} {j:Nat} {o:Oper} {fr0:Fr} {vs:Nat→V} {L:Array Bool} (hsz:L.size=l.length) (ho:l[j]?=some o) (hd:∀ d,o.dst=some d→iO l d=some j):
  eC (valOf l fr0 vs (fun k=>L.getD k false)) o.dst (vs j)=valOf l fr0 vs (fun k=>(L.setIfInBounds j true).getD k false):=by
 have hlt:j<L.size:=by rw [hsz];exact (aao.1 ho).1
 funext t
 have key:∀ i,i≠j→(L.setIfInBounds j true).getD i false=L.getD i false:=fun i hi=>getD_set_ne false (Ne.symm hi)
 have keyj:(L.setIfInBounds j true).getD j false=true:=by simp [hlt]
 unfold eC
 cases hdst:o.dst with
 |none=>
  simp only [valOf]
  cases hw:iO l t with
  |none=>rfl
  |some i=>
   have hi:i≠j:=by
    rintro rfl;obtain ⟨o',h1,h2⟩:=fE hw;rw [ho] at h1;cases h1;rw [hdst] at h2;cases h2
   simp only [key i hi]
 |some d=>
  simp only [upd]
  split
  ·rename_i htd
   subst htd
   simp only [valOf,hd t hdst,keyj,if_true]
  ·rename_i htd
   simp only [valOf]
   cases hw:iO l t with
   |none=>rfl
   |some i=>
    have hi:i≠j:=by
     rintro rfl;obtain ⟨o',h1,h2⟩:=fE hw;rw [ho] at h1;cases h1;rw [hdst] at h2;cases h2;exact htd rfl
    simp only [key i hi]
def oJ {l:List Oper} {muts fs:List Nat} {ex:List (Nat×Nat)} {m:Nat} {fr0:Fr} {vs:Nat→V} {S:Nat→St} (R:EG P G n l muts ex fs m fr0 vs S) {a b:Nat} (hab:a≤b) (hb:b≤m)
  (h:∀ i o,a≤i→i<b→l[i]?=some o→bp muts i o≠2):S b=S a:=by
 have:=nH R (b - a) a (by omega) (fun i o h1 h2=>h i o h1 (by omega))
 rwa [show a+(b - a)=b by omega] at this
def Inv.rA {l:List Oper} {muts fs:List Nat} {ex:List (Nat×Nat)} {m:Nat} {fr0:Fr} {vs:Nat→V} {S:Nat→St} (R:EG P G n l muts ex fs m fr0 vs S) {L:Array Bool} {k j:Nat} {o:Oper}
  (I:Inv l muts fs m S L k) (F:CW l muts ex fs m j o) (ho:l[j]?=some o) (hjm:j≤m) (hj:L.getD j false=false) (hr:∀ e∈o.after,Region.binds .any e=true→L.getD e.on false=true)
  (hw:∀ i o',l[i]?=some o'→bp muts i o'=2→i=j∨(i<j∧rz l i j)∨(j<i∧rz l j i)) (hk1:bp muts j o=2∨True):S k=S j:=by
 rcases Nat.le_total k j with hle|hle
 ·refine (oJ R hle hjm fun i o' h1 h2 ho' h3=>?_).symm
  rcases hw i o' ho' h3 with rfl|⟨_,h4⟩|⟨h4,_⟩
  ·omega
  ·have:=(I.phase.2 i o' ho' h3).1 (I.F9 h4 ⟨o,ho,hr⟩)
   omega
  ·omega
 ·refine oJ R hle I.phase.1 fun i o' h1 h2 ho' h3=>?_
  have hi:=(I.phase.2 i o' ho' h3).2 h2
  rcases hw i o' ho' h3 with rfl|⟨h4,_⟩|⟨_,h4⟩
  ·rw [hi] at hj;simp at hj
  ·omega
  ·rw [I.KS h4 hi] at hj;simp at hj
def kE {l:List Oper} {muts fs:List Nat} {ex:List (Nat×Nat)} {m:Nat} {fr0:Fr} {vs:Nat→V} {S:Nat→St} (R:EG P G n l muts ex fs m fr0 vs S) {c0:Ctx} {Q:AX→Fr→St→Prop} (hG:G c0.w0 c0.base)
  (hend:(m=l.length∧Q .normal (valOf l fr0 vs (fun _=>true)) (S m))∨
   (∃ o,l[m]?=some o∧bp muts m o=2∧∃ (v:V) (Z:St→Prop) (g:FuncId) (cap:List V) (x:Operand) (args:Array Operand) (ats:Array TypeId),
    goes l.toArray o (valOf l fr0 vs (fun k=>decide (k<m)))=some true∧o.op= .call { callee:= .value x,args:=args,argTypes:=ats }∧ev (valOf l fr0 vs (fun k=>decide (k<m))) x= .jE g cap∧
    (∀ args w,(callFunc g args).run P w= .ok (.enter g args) w)∧
    aA P G g (args.toList.map (fun o=>(ev (valOf l fr0 vs (fun k=>decide (k<m))) o).share)++cap) (S m) (fun q s=>q= .dw v∧Z s)∧(∀ fr s,Z s→Q (.dw v) fr s))∨
   (∃ o,l[m]?=some o∧bp muts m o=2∧fs=[]∧(∀ i,i<m→rz l i m)∧∀ (fuel:Nat) (L:Array Bool) (a:Act) (w:World) (c:Ctx),L.size=l.length→(∀ i,L.getD i false=decide (i<m))→L.count false≤fuel+1→Ext c0 c→bf c w (S m)→
    cC c a.tmps (valOf l fr0 vs (fun k=>decide (k<m)))→a.tmps.size=n.sz→a.defers=n.ds→wpOp P l.toArray (nW c0 n Q) m (wpAny P .any l.toArray (nW c0 n Q) fuel (L.setIfInBounds m true)) a w)):
  ∀ (fuel:Nat) (L:Array Bool) (k:Nat) (a:Act) (w:World) (c:Ctx),Inv l muts fs m S L k→L.count false≤fuel→Ext c0 c→bf c w (S k)→cC c a.tmps (valOf l fr0 vs (fun i=>L.getD i false))→a.tmps.size=n.sz→a.defers=n.ds→
   wpAny P .any l.toArray (nW c0 n Q) fuel L a w:=by
 have hdone:∀ (L:Array Bool) (k:Nat) (a:Act) (w:World) (c:Ctx),Inv l muts fs m S L k→Ext c0 c→bf c w (S k)→cC c a.tmps (valOf l fr0 vs (fun i=>L.getD i false))→a.tmps.size=n.sz→a.defers=n.ds→
   Region.ready .any l.toArray L=[]→nW c0 n Q .normal a w:=by
  intro L k a w c I he hc hf hs hd hr
  have hall:∀ j,j<l.length→L.getD j false=true:=by
   intro j;induction j using Nat.strongRecOn with
   |ind j ih=>
    intro hj
    cases hL:L.getD j false with
    |true=>rfl
    |false=>
     have hmem:j∈Region.ready .any l.toArray L:=by
      rw [mem_ready];have hjL:j<L.size:=by rw [I.size];exact hj
      refine ⟨by simp [hjL] at hL ⊢;exact hL,l[j],by simp [hj],fun e he hb=>?_⟩;have:=(iY R.ok (show l[j]?=some l[j] by simp [hj])).Um e he hb;exact ih e.on this (by omega)
     rw [hr] at hmem
     cases hmem
  rcases hend with ⟨hm,hQ⟩|⟨o,ho,_⟩|⟨o,ho,_⟩
  ·refine ⟨.normal,_,_,c,hQ,he,?_,?_,hs,hd,trivial⟩
   ·have:S m=S k:=oJ R I.phase.1 (aat _) fun i o h1 h2 ho h3=>by
     have:=(I.phase.2 i o ho h3).1 (hall i (by omega));omega
    rw [this]
    exact hc
   ·have:valOf l fr0 vs (fun i=>L.getD i false)=valOf l fr0 vs (fun _=>true):=by
     funext t;unfold valOf;cases hw:iO l t with
     |none=>rfl
     |some i=>
      obtain ⟨o,h1,_⟩:=fE hw
      simp only [hall i (aao.1 h1).1]
    rw [←this]
    exact hf
  all_goals
   have hlt:=(aao.1 ho).1
   have:=I.low m (hall m hlt)
   omega
 intro fuel
 induction fuel with
 |zero=>
  intro L k a w c I hcnt he hc hf hs hd
  have hr:Region.ready .any l.toArray L=[]:=by
   rw [List.eq_nil_iff_forall_not_mem];intro j hj;rw [mem_ready] at hj;have h0:=hj.1;have:false∈L:=by
    rcases abe j L.size with h|h
    ·simp [h] at h0;exact h0▸abH h
    ·simp [abn h] at h0
   have:=abJ.2 this;omega
  exact ⟨hr,hdone L k a w c I he hc hf hs hd hr⟩
 |succ fuel ih=>
  intro L k a w c I hcnt he hc hf hs hd
  refine ⟨hdone L k a w c I he hc hf hs hd,fun j hj=>?_⟩
  obtain ⟨h0,o,ho,hall⟩:=mem_ready.1 hj
  have ho':l[j]?=some o:=by simpa using ho
  have F:=iY R.ok ho'
  have hjL:j<L.size:=by rw [I.size];exact (aao.1 ho').1
  have hjf:L.getD j false=false:=by simp [hjL] at h0 ⊢;exact h0
  have hjm:j≤m∨(m<j∧bp muts j o=0∧j∈fs):=by
   rcases F.late with h|h|h
   ·exact .inl h
   ·have:=I.low m (I.F9 h ⟨o,ho',hall⟩);omega
   ·exact .inr h
  have hlook:=yC (fr0:=fr0) (vs:=vs) I F ho' hjf hall
  have hGc:G c.w0 c.base:=by rw [he.w0,he.base];exact hG
  by_cases hlt:j≠m
  · -- an operation of the run
   have hphase:∃ st',cL P G n l.toArray o (valOf l fr0 vs (fun i=>L.getD i false)) (S k) (vs j) st'∧∃ k',S k'=st'∧Inv l muts fs m S (L.setIfInBounds j true) k':=by
    have mk:∀ k',k'≤m→(∀ i o',l[i]?=some o'→bp muts i o'=2→((L.setIfInBounds j true).getD i false=true↔i<k'))→Inv l muts fs m S (L.setIfInBounds j true) k':=by
     intro k' hk' hph;refine ⟨by simpa using I.size,fun i o' hi' hi e he hb=>?_,fun i hi=>?_,hk',hph⟩
     ·by_cases hij:j=i
      ·subst hij;rw [ho'] at hi';cases hi';exact getD_set_true (hall e he hb)
      ·rw [getD_set_ne false hij] at hi;exact getD_set_true (I.closed i o' hi' hi e he hb)
     ·by_cases hij:j=i
      ·subst hij;exact hjm.imp (fun h=>by omega) (fun h=>⟨h.1,h.2.2⟩)
      ·rw [getD_set_ne false hij] at hi;exact I.low i hi
    have hsame:bp muts j o≠2→Inv l muts fs m S (L.setIfInBounds j true) k:=fun hk2=>mk k I.phase.1 fun i o' hi' h3=>by
     have hij:j≠i:=by rintro rfl;rw [ho'] at hi';cases hi';exact hk2 h3
     rw [getD_set_ne false hij];exact I.phase.2 i o' hi' h3
    by_cases hk0:bp muts j o=0
    ·have hq:eu o.op=true:=by
      unfold bp at hk0;split at hk0
      ·simp at hk0
      ·split at hk0
       ·assumption
       ·split at hk0<;>simp at hk0
     obtain ⟨s1,s2,hstep⟩:∃ s s',cL P G n l.toArray o (valOf l fr0 vs (fun k=>decide (k<j))) s (vs j) s':=by
      rcases hjm with h|h
      ·exact ⟨_,_,R.step j o (by omega) ho'⟩
      ·exact R.free j o h.1 h.2.2 ho'
     exact ⟨S k,((hstep.congr hlook).quiet hq).2 _,k,rfl,hsame (by omega)⟩
    ·have hjm:=hjm.resolve_right (fun h=>hk0 h.2.1);have hlt:j<m:=by omega
     have hstep:=(R.step j o hlt ho').congr hlook;have hwr:=(F.wr.resolve_left (by omega)).resolve_left hk0;by_cases hk1:bp muts j o=1
     ·by_cases hx:∃ hi,(j,hi)∈ex
      · -- a reader that the run follows through several states
       have hok:cL P G n l.toArray o (valOf l fr0 vs (fun i=>L.getD i false)) (S k) (vs j) (S k):=by
        by_cases hxk:∃ hi,(j,hi)∈ex∧k≤hi
        ·obtain ⟨hi,h1,h2⟩:=hxk;exact (R.extra j hi o h1 ho' hlt k h2 I.phase.1).congr hlook
        · -- beyond every number:no writer lies between
         have hgen:∀ (d:Nat),d≤k→(∀ hi,(j,hi)∈ex→hi<k - d∨d=0∨True)→True:=fun _ _ _=>trivial
         obtain ⟨hi,h1⟩:=hx
         have hik:hi<k:=by
          rcases abe hi k with h|h
          ·exact h
          ·exact absurd ⟨hi,h1,h⟩ hxk
         have hmax:∃ H,(j,H)∈ex∧∀ h',(j,h')∈ex→h'≤H:=by
          have:∀ (q:Nat),(∀ h',(j,h')∈ex→h'<q)→(∃ h',(j,h')∈ex)→∃ H,(j,H)∈ex∧∀ h',(j,h')∈ex→h'≤H:=by
           intro q;induction q with
           |zero=>intro h ⟨h',hh⟩;exact absurd (h h' hh) (by omega)
           |succ q ihq=>
            intro h hne
            by_cases hq:(j,q)∈ex
            ·exact ⟨q,hq,fun h' hh=>by have:=h h' hh;omega⟩
            ·exact ihq (fun h' hh=>by
              have h1:=h h' hh;rcases abe h' q with h2|h2
              ·exact h2
              ·have:h'=q:=by omega
               subst this;exact absurd hh hq) hne
          exact this k (fun h' hh=>by
           rcases abe h' k with h|h
           ·exact h
           ·exact absurd ⟨h',hh,h⟩ hxk) ⟨hi,h1⟩
         obtain ⟨H,hH,hHmax⟩:=hmax
         have hHk:H<k:=by
          rcases abe H k with h|h
          ·exact h
          ·exact absurd ⟨H,hH,h⟩ hxk
         have hSk:S k=S H:=oJ R (by omega) I.phase.1 fun i o' h2 h3 hoi hki=>by
          have hli:=(I.phase.2 i o' hoi hki).2 h3;rcases hwr i o' hoi hki with rfl|⟨h4,h5⟩|⟨_,h4⟩|⟨_,h',h4,h5⟩
          ·rw [hli] at hjf;simp at hjf
          ·have:=F.Un H hH;omega
          ·rw [I.KS h4 hli] at hjf;simp at hjf
          ·have:=hHmax h' h4;omega
         rw [hSk]
         exact (R.extra j H o hH ho' hlt H (aat _) (by have:=I.phase.1;omega)).congr hlook
       exact ⟨S k,hok,k,rfl,hsame (by omega)⟩
      ·have hw':∀ i o',l[i]?=some o'→bp muts i o'=2→i=j∨(i<j∧rz l i j)∨(j<i∧rz l j i):=fun i o' h1 h2=>by
        rcases hwr i o' h1 h2 with h|h|h|⟨_,hi,h,_⟩
        ·exact .inl h
        ·exact .inr (.inl h)
        ·exact .inr (.inr h)
        ·exact absurd ⟨hi,h⟩ hx
       have hS:=I.rA R F ho' hjm hjf hall hw' (.inr trivial);have h2:=R.still j o hlt ho' hk1;rw [h2] at hstep;rw [hS];exact ⟨S j,hstep,k,hS,hsame (by omega)⟩
     ·have hk2:bp muts j o=2:=by
       have:bp muts j o≤2:=by unfold bp;split<;>(try split)<;>(try split)<;>omega
       omega
      have hw':∀ i o',l[i]?=some o'→bp muts i o'=2→i=j∨(i<j∧rz l i j)∨(j<i∧rz l j i):=fun i o' h1 h2=>by
       rcases hwr i o' h1 h2 with h|h|h|⟨h,_⟩
       ·exact .inl h
       ·exact .inr (.inl h)
       ·exact .inr (.inr h)
       ·omega
      have hS:=I.rA R F ho' hjm hjf hall hw' (.inr trivial);rw [hS];refine ⟨S (j+1),hstep,j+1,rfl,mk (j+1) (by omega) fun i o' hi' h3=>?_⟩;by_cases hij:j=i
      ·subst hij;simp [hjL]
      ·rw [getD_set_ne false hij];rcases hw' i o' hi' h3 with h|⟨h4,h5⟩|⟨h4,h5⟩
       ·omega
       ·have:=I.F9 h5 ⟨o,ho',hall⟩;rw [this];simp;omega
       ·cases hi:L.getD i false with
        |true=>rw [I.KS h5 hi] at hjf;simp at hjf
        |false=>simp;omega
   obtain ⟨st',hst,k',rfl,I'⟩:=hphase
   refine wH ho hc hGc hf hs hd hst fun c' a' w' hext hc' hf' hs' hd'=>?_
   refine ih _ k' a' w' c' I' ?_ (he.trans hext) hc' ?_ hs' hd'
   ·have h1:(L.setIfInBounds j true).count false+1=L.count false:=by
     have hLj:L[j]=false:=by simp [hjL] at h0;exact h0
     rw [Array.setIfInBounds,dif_pos hjL,Array.count_set];have:=abJ.2 (hLj▸abH hjL);simp [hLj];omega
    omega
   ·rw [←Bg I.size ho' F.dst]
    exact hf'
  · -- the operation that panics
   have hjm':j=m:=by omega
   subst hjm'
   rcases hend with ⟨hm,_⟩|⟨o2,ho2,hk2,v,Z,g,cap,x,args,ats,hg,hop,hx,hcall,hA,hQ⟩|⟨o2,ho2,hk2,hfs,hbef,hh⟩
   ·have:=(aao.1 ho').1
    omega
   case inr.inr=>
    rw [ho'] at ho2
    cases ho2
    have hw':∀ i o',l[i]?=some o'→bp muts i o'=2→i=j∨(i<j∧rz l i j)∨(j<i∧rz l j i):=fun i o' h1 h2=>by
     rcases ((F.wr.resolve_left (by omega)).resolve_left (by omega)) i o' h1 h2 with h|h|h|⟨h,_⟩
     ·exact .inl h
     ·exact .inr (.inl h)
     ·exact .inr (.inr h)
     ·omega
    have hS:=I.rA R F ho' (aat _) hjf hall hw' (.inr trivial)
    have hL:∀ i,L.getD i false=decide (i<j):=fun i=>by
     by_cases hi:i<j
     ·rw [I.F9 (hbef i hi) ⟨o,ho',hall⟩];simp [hi]
     ·cases h:L.getD i false with
      |true=>exact absurd ((I.low i h).resolve_right (by rw [hfs];simp)) hi
      |false=>simp [hi]
    refine hh fuel L a w c I.size hL hcnt he (hS▸hc) ?_ hs hd
    have:(fun i=>L.getD i false)=fun k=>decide (k<j):=funext hL
    rw [←this];exact hf
   rw [ho'] at ho2
   cases ho2
   have hwr:=(F.wr.resolve_left (by omega)).resolve_left (by omega)
   have hw':∀ i o',l[i]?=some o'→bp muts i o'=2→i=j∨(i<j∧rz l i j)∨(j<i∧rz l j i):=fun i o' h1 h2=>by
    rcases hwr i o' h1 h2 with h|h|h|⟨h,_⟩
    ·exact .inl h
    ·exact .inr (.inl h)
    ·exact .inr (.inr h)
    ·omega
   have hS:=I.rA R F ho' (aat _) hjf hall hw' (.inr trivial)
   have hge:=sg hlook
   have hev:=yB hlook
   rw [hge] at hg
   rw [hev x (by rw [hop];simp [Op.operands,Call.operands])] at hx
   have ha:args.toList.map (fun o=>(ev (valOf l fr0 vs (fun k=>decide (k<j))) o).share)=args.toList.map (fun o=>(ev (valOf l fr0 vs (fun i=>L.getD i false)) o).share):=abQ fun y hy=>by
    rw [hev y (by rw [hop];simp at hy;simp [Op.operands,Call.operands,hy])]
   rw [ha,←hS] at hA
   unfold wpOp
   simp only [ho]
   have hxr:=bJ hf x
   rw [hx] at hxr
   generalize hq:a.eval x=q at hxr
   cases hxr with|jE _ arr _ hcs hcr=>?_
   rw [if_pos (ZC hf hg)]
   refine .inl ?_
   unfold Oper.wp
   have hexec:(execOp a.eval o).run P w= .ok (.enter g (args.map a.eval++arr)) w:=by
    obtain ⟨dst,op,type,pos,after,guard⟩:=o;simp only at hop;subst hop;simp only [execOp,resolve,hq,Deferred.ofValue,Sem.run_bind,Sem.run_pure,Result.andThen_ok,invoke,hcall];simp
   rw [hexec,Oper.upon_enter]
   refine (hA c w (args.map a.eval++arr) hc hGc (by simp [hcs]) (uS hf hcr)).mono ?_
   rintro e w' ⟨out,s1,c',⟨rfl,hz⟩,hext,hc',hend⟩
   cases e<;>simp only [gT] at hend
   exact ⟨.dw _,_,_,c',hQ _ _ hz,he.trans hext,hc',hf.mono hext,hs,hd,hend⟩
end
section
variable {P:Program} {G:World→Nat→Prop} {n:NDs} {aC:St} {Q:AX→Fr→St→Prop}
inductive Nb (P:Program) (G:World→Nat→Prop) (n:NDs) (all:Array Oper):List Oper→Fr→St→List V→List St→Fr→St→Prop
 |nil (fr:Fr) (st:St):Nb P G n all [] fr st [] [] fr st
 |cons (o:Oper) (r:List Oper) (fr:Fr) (st:St) (v:V) (gD:St) (vs:List V) (ss:List St) (fr':Fr) (st':St):cL P G n all o fr st v gD→(bp [] 0 o=1→gD=st)→
   Nb P G n all r (eC fr o.dst v) gD vs ss fr' st'→Nb P G n all (o::r) fr st (v::vs) (gD::ss) fr' st'
def OT (P:Program) (G:World→Nat→Prop) (n:NDs) (all:Array Oper) (l:List Oper) (fr:Fr) (st:St) (K:Fr→St→Prop):Prop:=
 ∃ vs ss fr' st',Nb P G n all l fr st vs ss fr' st'∧K fr' st'
def OT.nil {all:Array Oper} {fr:Fr} {st:St} {K:Fr→St→Prop} (h:K fr st):OT P G n all [] fr st K:=⟨_,_,_,_,.nil fr st,h⟩
def OT.cons {all:Array Oper} {o:Oper} {r:List Oper} {fr:Fr} {st gD:St} {v:V} {K:Fr→St→Prop} (h:cL P G n all o fr st v gD) (hk:bp [] 0 o=1→gD=st)
  (k:OT P G n all r (eC fr o.dst v) gD K):OT P G n all (o::r) fr st K:=
 let ⟨_,_,_,_,h1,h2⟩:=k
 ⟨_,_,_,_,.cons _ _ _ _ _ _ _ _ _ _ h hk h1,h2⟩
def iZ {o:Oper} {fr:Fr} {st gD:St} {v:V} (he:bP o.op=false) (h:evalOp P o fr st=some (v,gD)) (hk:bp [] 0 o=1):gD=st:=by
 obtain ⟨dst,op,type,pos,after,guard⟩:=o;cases op<;>simp [bp,eu] at hk
 case load t a=>
  simp only [evalOp] at h
  exact (jj h).1
 case lookup t m x ok=>
  simp only [evalOp] at h
  exact (jj h).1
 case call c=>
  obtain ⟨callee,args,ats⟩:=c
  cases callee with
  |value x=>simp [bP] at he
  |invoke a b=>simp [bP] at he
  |builtin b=>cases b<;>simp at hk
theorem OT.run {all:Array Oper} {res:List Nat}:∀ {l:List Oper} {fr:Fr} {st:St} {rest:List Oper} {fr':Fr} {st':St} {K:Fr→St→Prop},cJ P n all res l fr st=some (rest,fr',st')→OT P G n all rest fr' st' K→OT P G n all l fr st K
 |[],fr,st,rest,fr',st',K,h,k=>by
  simp only [cJ,aal,aaq] at h;obtain ⟨rfl,rfl,rfl⟩:=h;exact k
 |o::r,fr,st,rest,fr',st',K,h,k=>by
  simp only [cJ] at h;split at h
  ·split at h
   ·rename_i hg;split at h
    ·simp only [aal,aaq] at h;obtain ⟨rfl,rfl,rfl⟩:=h;exact k
    ·rename_i hne;split at h
     ·rename_i v gD he;split at h
      ·rename_i hd;exact OT.cons (.op _ _ hg he hd) (iZ (by simpa using hne) he) (OT.run h k)
      ·simp at h
     ·simp at h
   ·rename_i hg;split at h
    ·rename_i hd;exact OT.cons (.skip hg hd) (fun _=>rfl) (OT.run h k)
    ·simp at h
   ·simp at h
  ·simp only [aal,aaq] at h;obtain ⟨rfl,rfl,rfl⟩:=h;exact k
def Nb.spec {all:Array Oper}:∀ {l:List Oper} {fr:Fr} {st:St} {vs:List V} {ss:List St} {fr':Fr} {st':St},Nb P G n all l fr st vs ss fr' st'→
  ∀ (pre:List Oper) (fr0:Fr) (W:Nat→V) (T:Nat→St),(∀ j o d,(pre++l)[j]?=some o→o.dst=some d→iO (pre++l) d=some j)→
   (∀ i,W (pre.length+i)=vs.getD i .aU)→(∀ i,T (pre.length+i)=(st::ss).getD i default)→fr=valOf (pre++l) fr0 W (fun k=>decide (k<pre.length))→
   (∀ i o,pre.length≤i→(pre++l)[i]?=some o→cL P G n all o (valOf (pre++l) fr0 W (fun k=>decide (k<i))) (T i) (W i) (T (i+1))∧(bp [] i o=1→T (i+1)=T i))∧
   fr'=valOf (pre++l) fr0 W (fun _=>true)∧st'=T (pre++l).length:=by
 intro l
 induction l with
 |nil=>
  intro fr st vs ss fr' st' h pre fr0 W T hd hW hT hfr
  cases h
  refine ⟨fun i o h1 h2=>?_,?_,?_⟩
  ·rw [aay h1] at h2
   simp at h2
  ·rw [hfr]
   funext t
   unfold valOf
   cases hw:iO (pre++[]) t with
   |none=>rfl
   |some i=>
    obtain ⟨o,h1,_⟩:=fE hw
    have:=(aao.1 h1).1
    simp only [aaM] at this
    simp [this]
  ·have:=hT 0
   simp at this ⊢
   exact this.symm
 |cons o r ih=>
  intro fr st vs ss fr' st' h pre fr0 W T hd hW hT hfr
  cases h with
  |cons _ _ _ _ v gD vs ss _ _ hs hk hr=>
   have heq:(pre++[o])++r=pre++o::r:=by simp
   have hlo:(pre++o::r)[pre.length]?=some o:=by simp
   have hput:eC fr o.dst v=valOf (pre++o::r) fr0 W (fun k=>decide (k<pre.length+1)):=by
    have hv:W pre.length=v:=by have:=hW 0;simpa using this
    funext t;rw [hfr];unfold eC;cases hdst:o.dst with
    |none=>
     simp only [valOf]
     cases hw:iO (pre++o::r) t with
     |none=>rfl
     |some i=>
      have hi:i≠pre.length:=by
       rintro rfl;obtain ⟨o',h1,h2⟩:=fE hw;rw [hlo] at h1;cases h1;rw [hdst] at h2;cases h2
      have:(decide (i<pre.length))=decide (i<pre.length+1):=by simp;omega
      simp only [this]
    |some d=>
     simp only [upd]
     split
     ·rename_i htd
      subst htd
      simp only [valOf,hd pre.length o t hlo hdst]
      simp [hv]
     ·rename_i htd
      simp only [valOf]
      cases hw:iO (pre++o::r) t with
      |none=>rfl
      |some i=>
       have hi:i≠pre.length:=by
        rintro rfl;obtain ⟨o',h1,h2⟩:=fE hw;rw [hlo] at h1;cases h1;rw [hdst] at h2;cases h2;exact htd rfl
       have:(decide (i<pre.length))=decide (i<pre.length+1):=by simp;omega
       simp only [this]
   have:=ih hr (pre++[o]) fr0 W T (by rw [heq];exact hd) (fun i=>by
     have:=hW (i+1);rw [aax,abb,show pre.length+1+i=pre.length+(i+1) by omega,this];simp) (fun i=>by
     have:=hT (i+1);rw [aax,abb,show pre.length+1+i=pre.length+(i+1) by omega,this];simp) (by rw [heq,aax,abb];exact hput)
   rw [heq,aax,abb] at this
   obtain ⟨h1,h2,h3⟩:=this
   refine ⟨fun i o' hi ho'=>?_,h2,h3⟩
   by_cases he:i=pre.length
   ·subst he
    rw [hlo] at ho'
    cases ho'
    have t0:=hT 0
    have t1:=hT 1
    have w0:=hW 0
    simp at t0 t1 w0
    rw [t0,t1,w0,←hfr]
    exact ⟨hs,fun hk1=>hk (by simpa [bp] using hk1)⟩
   ·exact h1 i o' (by omega) ho'
def kF {c:Ctx} {w:World} {st:St} (h:bf c w st):bf c { w with drawn:=w.drawn+1 } st where
 cN:=h.cN
 dH:=h.dH
 cI:=h.cI
 mS:=h.mS
 blk:=h.blk
 cu:=h.cu
 cz:=h.cz
 cK:=h.cK
 cy:=h.cy
 below:=⟨h.below.os,h.below.tape,h.below.output,h.below.size,h.below.block⟩
 cw:=h.cw
def AW.drawn {id:Nat} {l:List Oper} {fr:Fr} {st:St} (hm:P.follows .mixedOrders=true) (hok:fM l [] [] l.length=true) (h:OT P G n l.toArray l fr st (Q .normal)):
  AW P G n aC (.region id l.toArray true) Q fr st:=by
 obtain ⟨vs,ss,fr',st',htr,hQ⟩:=h
 intro c0 c w a h0 he hc hg hf hs hd
 have hg0:G c0.w0 c0.base:=by rw [←he.w0,←he.base];exact hg
 obtain ⟨h1,h2,h3⟩:=htr.spec [] fr (fun i=>vs.getD i .aU) (fun i=>(st::ss).getD i default) (fun j o d ho hd=>(Pb hok ho).dst d hd) (by simp) (by simp) (by
  funext t;unfold valOf;cases iO ([]++l) t<;>simp)
 simp only [aaN,aaA,aaK,true_implies] at h1 h2 h3
 have R:TX P G n l [] [] l.length fr (fun i=>vs.getD i .aU) (fun i=>(st::ss).getD i default):=
  ⟨hok,aat _,fun i o hi ho=>(h1 i o ho).1,fun i o hi ho=>(h1 i o ho).2,by simp,fun _ _ _ h=>by cases h⟩
 refine wp_region_any hm ?_
 have hrep:∀ i,(Array.replicate l.toArray.size false).getD i false=false:=fun i=>by
  rw [aap,abK];split<;>rfl
 refine kE R hg0 (.inl ⟨rfl,by rw [←h2,←h3];exact hQ⟩) _ _ 0 a _ c ?_ ?_ he (kF hc) ?_ hs hd
 ·refine ⟨by simp,fun j o _ hj=>?_,fun j hj=>?_,aaK _,fun i o _ _=>?_⟩
  ·exact absurd hj (by rw [hrep];simp)
  ·exact absurd hj (by rw [hrep];simp)
  ·rw [hrep];simp
 ·exact abj Array.count_le_size (by simp)
 ·intro t
  have:=hf t
  unfold valOf
  cases iO l t with
  |none=>exact this
  |some i=>simp only [hrep];exact this
end
section
variable {P:Program} {G:World→Nat→Prop} {n:NDs} {aC:St} {Q:AX→Fr→St→Prop}
def OX (P:Program) (G:World→Nat→Prop) (n:NDs) (aC:St) (d:Bool) (_res:List Nat) (all:Array Oper) (Q:AX→Fr→St→Prop) (l:List Oper) (fr:Fr) (st:St):Prop:=
 match d with
 |false=>OW P G n aC all Q l fr st
 |true=>OT P G n all l fr st (Q .normal)
variable {d:Bool} {res:List Nat} {all:Array Oper}
def OX.nil {fr:Fr} {st:St} (h:Q .normal fr st):OX P G n aC d res all Q [] fr st:=by
 cases d
 ·exact OW.nil h
 ·exact OT.nil h
def OX.run {l rest:List Oper} {fr fr':Fr} {st st':St} (h:cJ P n all res l fr st=some (rest,fr',st')) (k:OX P G n aC d res all Q rest fr' st'):OX P G n aC d res all Q l fr st:=by
 cases d
 ·exact OW.run h k
 ·exact OT.run h k
def pJ {fr:Fr} {t:Nat} {v:V} (h:fr t=v):upd fr t v=fr:=by
 funext i;unfold upd;split
 ·rename_i hi;subst hi;exact h.symm
 ·rfl
def OX.split {dd:Option Tmp} {op:Op} {ty:TypeId} {pos:String} {after:Array Edge} {r:List Oper} {j:Nat} {want:Bool} {t:Tmp} {fr:Fr} {st:St} {b:Bool} (_hn:res.contains j=false) (_ht:(all[j]?).bind (·.dst)=some t) (hb:fr t= .d (.bool b))
  (h1:b=true→OX P G n aC d (j::res) all Q ({ dst:=dd,op:=op,type:=ty,pos:=pos,after:=after,guard:=some (j,want) }::r) (upd fr t (.d (.bool true))) st) (h2:b=false→OX P G n aC d (j::res) all Q ({ dst:=dd,op:=op,type:=ty,pos:=pos,after:=after,guard:=some (j,want) }::r) (upd fr t (.d (.bool false))) st):
  OX P G n aC d res all Q ({ dst:=dd,op:=op,type:=ty,pos:=pos,after:=after,guard:=some (j,want) }::r) fr st:=by
 cases b
 ·rw [pJ hb] at h2;exact h2 rfl
 ·rw [pJ hb] at h1;exact h1 rfl
def KT {K:Fr→St→Prop} {Q:AX→Fr→St→Prop} {fr:Fr} {st:St} (h:K fr st):bz K Q .normal fr st:=h
def Hx {i:Nat} {Q:AX→Fr→St→Prop} {fr:Fr} {st:St} (h:Q .normal fr st):aY i Q .normal fr st:=h
def OX.Uk {dd:Option Tmp} {op:Op} {ty:TypeId} {pos:String} {after:Array Edge} {r:List Oper} {j:Nat} {want:Bool} {t:Tmp} {fr:Fr} {st:St} (_hn:res.contains j=false) (_ht:(all[j]?).bind (·.dst)=some t) (_hb:fr t= .cF [])
  (h:OX P G n aC d (j::res) all Q ({ dst:=dd,op:=op,type:=ty,pos:=pos,after:=after,guard:=some (j,want) }::r) fr st):
  OX P G n aC d res all Q ({ dst:=dd,op:=op,type:=ty,pos:=pos,after:=after,guard:=some (j,want) }::r) fr st:=h
def OX.call {dd:Option Tmp} {x:Operand} {args:Array Operand} {ats:Array TypeId} {ty:TypeId} {pos:String} {after:Array Edge} {gd:Option (Nat×Bool)} {rest:List Oper} {g:FuncId} {cap xs:List V} {fr:Fr} {st:St} {v:V}
  (hcall:∀ args w,(callFunc g args).run P w= .ok (.enter g args) w)
  (hf:ev fr x= .jE g cap) (hg:goes all { dst:=dd,op:= .call { callee:= .value x,args:=args,argTypes:=ats },type:=ty,pos:=pos,after:=after,guard:=gd } fr=some true) (hd:fC n dd=true)
  (hx:args.toList.map (fun o=>(ev fr o).share)++cap=xs)
  (h:aA P G g xs st (fun q s=>q= .ret v∧s=st)) (k:OX P G n aC d res all Q rest (eC fr dd v) st):
  OX P G n aC d res all Q ({ dst:=dd,op:= .call { callee:= .value x,args:=args,argTypes:=ats },type:=ty,pos:=pos,after:=after,guard:=gd }::rest) fr st:=by
 subst hx
 cases d
 ·refine OW.call hg hf hcall hd (h.mono ?_)
  rintro o s ⟨rfl,rfl⟩
  exact k
 ·exact OT.cons (.call _ _ g cap x args ats hg rfl hf hcall hd h) (fun _=>rfl) k
def OX.panic {o:Oper} {x:Operand} {rest:List Oper} {fr:Fr} {st:St} {t:TypeId} {y:D} (ho:o.op= .panic x) (hg:goes all o fr=some true) (hx:ev fr x= .d (.iface t y)) (h:Q (.dw (.d (.iface t y))) fr st):
  OX P G n aC false res all Q (o::rest) fr st:=OW.panic hg ho hx h
def KX (v:Option V) (l:Option (List V)):Option (List V):=match v,l with
 |some v,some l=>some (v::l)
 |_,_=>none
def EH (fr:Fr) (st:St):eT P fr st []=some []:=(rfl)
def bQ (fr:Fr) (st:St) (t:Tmp) (r:List ResultVar):eT P fr st (.tmp t::r)=KX (some (fr t)) (eT P fr st r):=by simp only [eT,KX];cases eT P fr st r<;>rfl
def bZ (fr:Fr) (st:St) (a:Tmp) (t:TypeId) (r:List ResultVar):eT P fr st (.cell a t::r)=KX (bn P t (fr a) st) (eT P fr st r):=(rfl)
def KY (v:V) (l:List V):KX (some v) (some l)=some (v::l):=(rfl)
def HC (v:V):eD [v]=v:=(rfl)
def HD:eD []= .cF []:=(rfl)
def HE (v u:V) (l:List V):eD (v::u::l)= .cF (v::u::l):=(rfl)
def within_d (a b:Nat) (x:D):(V.d x).within a b=true:=(rfl)
def Bh (a b:Nat) (l:List V):(V.cF l).within a b=V.within.all a b l:=(rfl)
def nY (a b:Nat) (l:List V):(V.agg l).within a b=V.within.all a b l:=(rfl)
def Bi (a b:Nat) (f:FuncId) (l:List V):(V.jE f l).within a b=V.within.all a b l:=(rfl)
def Bj (a b i:Nat) (es:List (List D)):(V.own i es).within a b=decide (i<b):=(rfl)
def Bm (a b i o:Nat):(V.ptr i o).within a b=decide (i<a):=(rfl)
def qx (a b:Nat):V.bh.within a b=true:=(rfl)
def Bn (a b:Nat):V.within.all a b []=true:=(rfl)
def yD (a b:Nat) (x:V) (l:List V):V.within.all a b (x::l)=(x.within a b&&V.within.all a b l):=(rfl)
def nZ (a b:Nat) (l:List D):V.within.all a b (l.map .d)=true:=by induction l<;>simp_all [V.within.all,within_d]
def uT {fn:Func} {R:Out→St→Prop} {fr:Fr} {st st':St} {l:List V} {v:V} (hb:st'.aj.take st.aj.length=st.aj) (ht:st'.toks.take st.toks.length=st.toks)
  (h:eT P fr st' fn.results.toList=some l) (hv:(eD l).share=v) (hw:v.within st.aj.length st.toks.length=true) (hR:R (.ret v) st):bK P fn st R .ret fr st':=by
 subst hv
 refine ⟨st.toks.length,⟨aat _,aat _,fun b B h1 h2=> .inl ?_⟩,l,h,hw,?_⟩
 ·rw [←hb,aa7 h1];exact h2
 ·simp only [St.cut,hb,ht];exact hR
def sw (N M:Nat) (v:V):V:=if v.within N M=true then v else .aU
def ug (N M:Nat) (cs:List V):(ec.cells cs).within N M=V.within.all N M cs:=(rfl)
def bwithin_tc (N M e:Nat) (cs:List V):(ec.tc e cs).within N M=V.within.all N M cs:=(rfl)
def bwithin_iter (N M:Nat) (s:List UInt8) (p:Nat):(ec.iter s p).within N M=true:=(rfl)
def st_eta (st:St):(⟨st.aj,st.toks⟩:St)=st:=(rfl)
attribute [go_sem] EH bQ bZ KY HC HD HE within_d Bi Bj Bm qx Bh nY Bn yD nZ ug bwithin_tc bwithin_iter
end
def jO:List (Nat×V)→Fr
 |[]=>fun _=> .aU
 |(i,v)::r=>fun t=>if t=i then v else jO r t
def EI (i:Nat) (v:V) (r:List (Nat×V)) (t:Nat):jO ((i,v)::r) t=if t=i then v else jO r t:=(rfl)
def okF (fr:Fr):List (Nat×V)→Prop
 |[]=>True
 |(t,v)::r=>fr t=v∧okF fr r
def okW (N M:Nat):List (Nat×V)→Bool
 |[]=>true
 |(_,v)::r=>v.within N M&&okW N M r
def KZ (fr:Fr):okF fr []=True:=(rfl)
def HF (fr:Fr) (t:Nat) (v:V) (r:List (Nat×V)):okF fr ((t,v)::r)=(fr t=v∧okF fr r):=(rfl)
def okW_nil (N M:Nat):okW N M []=true:=(rfl)
def HH (N M:Nat) (t:Nat) (v:V) (r:List (Nat×V)):okW N M ((t,v)::r)=(v.within N M&&okW N M r):=(rfl)
theorem eG {fr:Fr}:∀ {l:List (Nat×V)},okF fr l→∀ t,jO l t=fr t∨jO l t= .aU
 |[],_,_=> .inr rfl
 |(i,v)::r,h,t=>by
  simp only [jO];split
  ·rename_i e;subst e;exact .inl h.1.symm
  ·exact eG h.2 t
theorem kG {fr:Fr} {N M:Nat}:∀ {l:List (Nat×V)},okF fr l→okW N M l=true→okF (oy N M fr) l
 |[],_,_=>trivial
 |(i,v)::r,h,hw=>by
  simp only [okW,aas] at hw;refine ⟨?_,kG h.2 hw.2⟩;unfold oy;rw [h.1,if_pos hw.1]
def aD {k:IntKind} {a b:Int} (h:a=b):V.d (D.int k a)=V.d (D.int k b):=by rw [h]
def Pr {a b:List UInt8} (h:a=b):V.d (D.str a)=V.d (D.str b):=by rw [h]
def ax {i:Nat} {a b:List (List D)} (h:a=b):V.own i a=V.own i b:=by rw [h]
section loops
variable {P:Program} {G:World→Nat→Prop} {n:NDs} {aC:St} {Q:AX→Fr→St→Prop}
structure gk {τ:Type} (aC:St) (σ:τ→List (Nat×V)) (L:τ→List ec) (U:τ→List (Nat×Nat×Nat)) (p:τ→Prop) (μ:τ→Nat) (x:τ) (fr:Fr) (st:St) (x':τ):Prop where
 slots:okF fr (σ x')
 ok:p x'
 less:μ x'<μ x
 aj:st.aj.take (aC.aj.length+(L x').length)=aC.aj++L x'
 toks:st.toks.take (aC.toks.length+(U x').length)=aC.toks++U x'
 win:okW (aC.aj.length+(L x').length) (aC.toks.length+(U x').length) (σ x')=true
 HI:(L x').all (fun B=>B.within (aC.aj.length+(L x').length) (aC.toks.length+(U x').length))=true
def AW.cD {τ:Type} (σ:τ→List (Nat×V)) (L:τ→List ec) (U:τ→List (Nat×Nat×Nat)) (p:τ→Prop) (μ:τ→Nat) (x0:τ) {body:Code} {fr:Fr} {st:St}
  (hst:st=⟨aC.aj++L x0,aC.toks++U x0⟩) (h0:okF fr (σ x0)) (hp:p x0)
  (round:∀ x,p x→AW P G n aC body (bz (fun fr' st'=>∃ x',gk aC σ L U p μ x fr' st' x') Q) (jO (σ x)) ⟨aC.aj++L x,aC.toks++U x⟩):AW P G n aC (.loop body) Q fr st:=by
 subst hst
 refine AW.prune (jO (σ x0)) (eG h0) ?_
 intro c0 c w a h0' he0 hc hg hf hs hd
 refine wp_loop_ghost (fun k a w=>∃ x c1,p x∧μ x=k∧Ext c0 c1∧bf c1 w ⟨aC.aj++L x,aC.toks++U x⟩∧cC c1 a.tmps (jO (σ x))∧a.tmps.size=n.sz∧a.defers=n.ds) (μ x0)
  ⟨x0,c,hp,rfl,he0,hc,hf,hs,hd⟩ ?_
 rintro k a1 w1 ⟨x,c1,hI,rfl,he,hc1,hf1,hs1,hd1⟩
 refine wp_mono (round x hI c0 c1 w1 a1 h0' he hc1 (by rw [he.w0,he.base,←he0.w0,←he0.base];exact hg) hf1 hs1 hd1) ?_
 rintro e a2 w2 ⟨x2,fr2,st2,c2,hq,he2,hc2,hf2,hs2,hd2,hx⟩
 cases e<;>cases x2<;>simp only [lY] at hx
 ·obtain ⟨x',hN⟩:=hq
  have hcut:rV aC st2 (aC.aj.length+(L x').length) (aC.toks.length+(U x').length):=by
   refine ⟨by omega,by omega,fun b B hb hB=>?_⟩;have hB':(aC.aj++L x')[b]?=some B:=by rw [←hN.aj,aa7 hb];exact hB
   by_cases hlt:b<aC.aj.length
   ·rw [aaz hlt] at hB';exact .inl hB'
   ·rw [aay (by omega)] at hB';exact .inr ((aaE.1 hN.HI) B (aaR hB'))
  obtain ⟨h1,h2⟩:=hcut.DS h0' he2 hc2
  refine ⟨_,hN.less,x',_,hN.ok,rfl,h2,?_,?_,hs2,hd2⟩
  ·have:st2.cut (aC.aj.length+(L x').length) (aC.toks.length+(U x').length)=⟨aC.aj++L x',aC.toks++U x'⟩:=by
    simp only [St.cut,hN.aj,hN.toks]
   rw [←this]
   exact h1
  ·have:=hf2.oy (aC.aj.length+(L x').length) (aC.toks.length+(U x').length)
   intro t
   rcases eG (kG hN.slots hN.win) t with e|e<;>rw [e]
   ·exact this t
   ·exact .aU _
 ·exact ⟨.exit _,fr2,st2,c2,hq,he2,hc2,hf2,hs2,hd2,hx⟩
 ·exact ⟨.ret,fr2,st2,c2,hq,he2,hc2,hf2,hs2,hd2,trivial⟩
 ·exact ⟨.dw _,fr2,st2,c2,hq,he2,hc2,hf2,hs2,hd2,hx⟩
end loops
section
variable {P:Program}
def Uq (b:Bool) (s:List UInt8) (i:Int):Option V:=if b&&decide (0≤i) then (s[i.toNat]?).map fun b=> .d (.int .u8 b.toNat) else none
def yE (t:TypeId) (s:List UInt8) (k:IntKind) (i:Int):kC P t (.d (.str s)) (.d (.int k i))=Uq (isStr P t) s i:=(rfl)
def N1 {s:List UInt8} {i:Int} (h0:0≤i) (h1:i.toNat<s.length):Uq true s i=some (.d (.int .u8 (s.getD i.toNat 0).toNat)):=by simp [Uq,h0,h1]
def wI (r:Bool) (es:List (List D)) (i:Int):Option V:=if 0≤i∧i.toNat<es.length∧r=true then some (.ep (es.getD i.toNat []) 0) else none
def Ur (s:Option (Nat×Nat×Nat)) (es:List (List D)) (i:Int):Option V:=match s with|some (_,sz,_)=>wI (cr sz es) es i|none=>none
def di {t e sz by_:Nat} (h:mU P t=some (e,sz,by_)) (es:List (List D)) (k:IntKind) (i:Int):aI P t (.d (.sl es)) (.d (.int k i))=wI (cr sz es) es i:=by
 rw [yw P h (x:= .d (.sl es)) rfl];rfl
def evalIndexAddr_own {t e sz by_:Nat} (h:mU P t=some (e,sz,by_)) (id:Nat) (es:List (List D)) (k:IntKind) (i:Int):aI P t (.own id es) (.d (.int k i))=wI (cr sz es) es i:=by
 rw [yw P h (x:= .own id es) rfl];rfl
def Bo {es:List (List D)} {i:Int} (h0:0≤i) (h1:i.toNat<es.length):wI true es i=some (.ep (es.getD i.toNat []) 0):=by simp [wI,h0,h1]
def CY {α:Type} [Inhabited α] {f:α→List D} {l:List α} {i:Int} (h0:0≤i) (h1:i.toNat<l.length):wI true (l.map f) i=some (.ep (f (l.getD i.toNat default)) 0):=by
 simp [wI,h0,h1,aam]
def EJ {k:IntKind} {a:Int} (h:0≤a):boundX (.d (.int k a))=some a.toNat:=by simp [boundX,h]
def EK {l h:Nat} {x:List UInt8} (h1:l≤h) (h2:h≤x.length):Bd true (some l) (some h) x=some (.d (.str ((x.take h).drop l))):=by simp [Bd,h1,h2]
variable (k:IntKind) (t:TypeId)
def bin_shl' {k':IntKind} {a b:Int} (h:0≤b):evalBin P .shl t (.d (.int k a)) (.d (.int k' b))=some (.d (.int k (shlI k a b))):=by rw [bin_shl,if_neg (by omega)]
def HK {a b:Int} (h:b≠0):evalBin P .quo t (.d (.int k a)) (.d (.int k b))=some (.d (.int k (k.wrap (a.tdiv b)))):=by rw [KF,if_neg h]
def HL {a b:Int} (h:b≠0):evalBin P .rem t (.d (.int k a)) (.d (.int k b))=some (.d (.int k (a.tmod b))):=by rw [KG,if_neg h]
def HM (a b:Int):evalBin P .eql t (.d (.int k a)) (.d (.int k b))=some (.d (.bool (decide (a=b)))):=by
 rw [KH];by_cases h:a=b<;>simp [h]
def HN (a b:Int):evalBin P .neq t (.d (.int k a)) (.d (.int k b))=some (.d (.bool (decide (a≠b)))):=by
 rw [KI];by_cases h:a=b<;>simp [h]
def EL (x y:List UInt8):evalBin P .eql t (.d (.str x)) (.d (.str y))=some (.d (.bool (decide (x=y)))):=by
 rw [Hp];by_cases h:x=y<;>simp [h]
def EM (x y:List UInt8):evalBin P .neq t (.d (.str x)) (.d (.str y))=some (.d (.bool (decide (x≠y)))):=by
 rw [Hq];by_cases h:x=y<;>simp [h]
def Bp (p:Prop) [Decidable p]:(!decide p)=decide (¬ p):=by by_cases h:p<;>simp [h]
def wrap64 {n:Int} (h1: -9223372036854775808≤n) (h2:n≤9223372036854775807):IntKind.i64.wrap n=n:=Go.IntWalk.i64_in n ⟨h1,h2⟩
def Qu {n:Int} (h1:0≤n) (h2:n≤255):IntKind.u8.wrap n=n:=Go.IntWalk.u8_in n ⟨h1,h2⟩
def aB {α:Type} [Inhabited α] {l:List α} {i:Nat} (h:i<l.length):l.getD i default∈l:=by simp [aam,h]
def getD_eq {α:Type} [Inhabited α] {l:List α} {i:Nat} (h:i<l.length):l.getD i default=l[i]:=by simp [aam,h]
def wJ (i:Nat):(i:Int)+1=((i+1:Nat):Int):=(rfl)
def Bq (i:Nat):(i:Int)+2=((i+2:Nat):Int):=(rfl)
def Br (i:Nat):(i:Int)+3=((i+3:Nat):Int):=(rfl)
def HO (i j:Nat):(i:Int)+(j:Int)=((i+j:Nat):Int):=(rfl)
def cast_lt (i j:Nat):((i:Int)< (j:Int))=(i<j):=propext Int.ofNat_lt
def cast_le (i j:Nat):((i:Int)≤(j:Int))=(i≤j):=propext Int.ofNat_le
def cast_eq (i j:Nat):((i:Int)=(j:Int))=(i=j):=propext Int.ofNat_inj
def HP {i j:Nat} (h:j≤i):(i:Int) - (j:Int)=((i - j:Nat):Int):=by omega
def HQ {α:Type} (l m:List α) (k:Nat):(l++m).take (l.length+k)=l++m.take k:=by
 have:l.take (l.length+k)=l:=aaO (by omega);simp [List.take_append,this]
attribute [go_sem] EI KZ HF okW_nil HH HQ wJ Bq Br HO cast_lt cast_le cast_eq HP yE N1 CY EJ EK bin_shl' HK HL HM HN EL EM wrap64 Qu Bp
end
end Go.Abs
end
section
namespace Go.Abs
open Go.RowKit
section
variable {P:Program} {G:World→Nat→Prop} {n:NDs} {aC:St} {Q:AX→Fr→St→Prop} {fr:Fr} {st:St}
variable {d:Bool} {res:List Nat} {all:Array Oper}
def GQ (P:Program) (G:World→Nat→Prop) (n:NDs) (aC:St) (d:Bool) (res:List Nat) (all:Array Oper) (Q:AX→Fr→St→Prop) (v:V) (j t:Nat) (l:List Oper) (fr:Fr) (st:St):Prop:=
 fr t=v→OX P G n aC d res all Q l fr st
def OX.gd {dd:Option Tmp} {op:Op} {ty:TypeId} {pos:String} {after:Array Edge} {r:List Oper} {j:Nat} {want:Bool} {t:Tmp} {v:V} (_hn:res.contains j=false) (_ht:(all[j]?).bind (·.dst)=some t) (hb:fr t=v)
  (h:GQ P G n aC d res all Q v j t ({ dst:=dd,op:=op,type:=ty,pos:=pos,after:=after,guard:=some (j,want) }::r) fr st):
  OX P G n aC d res all Q ({ dst:=dd,op:=op,type:=ty,pos:=pos,after:=after,guard:=some (j,want) }::r) fr st:=h hb
structure Qz {τ:Type} (aC:St) (σ:τ→List (Nat×V)) (S:τ→St) (p:τ→Prop) (μ:τ→Nat) (x:τ) (fr:Fr) (st:St) (x':τ):Prop where
 slots:okF fr (σ x')
 ok:p x'
 less:μ x'<μ x
 state:st.cut (S x').aj.length (S x').toks.length=S x'
 aj:aC.aj.length≤(S x').aj.length
 toks:aC.toks.length≤(S x').toks.length
 win:okW (S x').aj.length (S x').toks.length (σ x')=true
 old:∀ (b:Nat) (B:ec),(S x').aj[b]?=some B→aC.aj[b]?=some B∨B.within (S x').aj.length (S x').toks.length=true
def AW.Nc {τ:Type} (σ:τ→List (Nat×V)) (S:τ→St) (p:τ→Prop) (μ:τ→Nat) (x0:τ) {body:Code}
  (hst:st=S x0) (h0:okF fr (σ x0)) (hp:p x0)
  (round:∀ x,p x→AW P G n aC body (bz (fun fr' st'=>∃ x',Qz aC σ S p μ x fr' st' x') Q) (jO (σ x)) (S x)):AW P G n aC (.loop body) Q fr st:=by
 subst hst
 refine AW.prune (jO (σ x0)) (eG h0) ?_
 intro c0 c w a h0' he0 hc hg hf hs hd
 refine wp_loop_ghost (fun k a w=>∃ x c1,p x∧μ x=k∧Ext c0 c1∧bf c1 w (S x)∧cC c1 a.tmps (jO (σ x))∧a.tmps.size=n.sz∧a.defers=n.ds) (μ x0)
  ⟨x0,c,hp,rfl,he0,hc,hf,hs,hd⟩ ?_
 rintro k a1 w1 ⟨x,c1,hI,rfl,he,hc1,hf1,hs1,hd1⟩
 refine wp_mono (round x hI c0 c1 w1 a1 h0' he hc1 (by rw [he.w0,he.base,←he0.w0,←he0.base];exact hg) hf1 hs1 hd1) ?_
 rintro e a2 w2 ⟨x2,fr2,st2,c2,hq,he2,hc2,hf2,hs2,hd2,hx⟩
 cases e<;>cases x2<;>simp only [lY] at hx
 ·obtain ⟨x',hN⟩:=hq
  have hb:st2.aj.take (S x').aj.length=(S x').aj:=congrArg St.aj hN.state
  have hcut:rV aC st2 (S x').aj.length (S x').toks.length:=by
   refine ⟨hN.aj,hN.toks,fun b B hlt hB=>hN.old b B ?_⟩;rw [←hb,aa7 hlt];exact hB
  obtain ⟨h1,h2⟩:=hcut.DS h0' he2 hc2
  refine ⟨_,hN.less,x',_,hN.ok,rfl,h2,?_,?_,hs2,hd2⟩
  ·rw [←hN.state];rw [←hN.state] at h1;simpa [hN.state] using h1
  ·have:=hf2.oy (S x').aj.length (S x').toks.length
   intro t
   rcases eG (kG hN.slots hN.win) t with e|e<;>rw [e]
   ·exact this t
   ·exact .aU _
 ·exact ⟨.exit _,fr2,st2,c2,hq,he2,hc2,hf2,hs2,hd2,hx⟩
 ·exact ⟨.ret,fr2,st2,c2,hq,he2,hc2,hf2,hs2,hd2,trivial⟩
 ·exact ⟨.dw _,fr2,st2,c2,hq,he2,hc2,hf2,hs2,hd2,hx⟩
def aM {fn:Func} {R:Out→St→Prop} {st' s1:St} {v:V} (hs:st'.cut st.aj.length st.toks.length=s1)
  (ho:∀ (b:Nat) (B:ec),s1.aj[b]?=some B→st.aj[b]?=some B∨B.within st.aj.length st.toks.length=true)
  (hw:v.within st.aj.length st.toks.length=true) (hR:R (.dw v) s1):bK P fn st R (.dw v) fr st':=by
 subst hs
 refine ⟨st.toks.length,⟨aat _,aat _,fun b B h1 h2=>ho b B ?_⟩,hw,hR⟩
 simp only [St.cut]
 rw [aa7 h1];exact h2
end
attribute [go_sem] List.length_cons List.length_nil List.length_append List.length_map List.append_assoc List.cons_append List.nil_append List.append_nil List.getElem?_cons_zero List.getElem?_cons_succ List.take_succ_cons List.take_zero List.take_nil List.drop_succ_cons List.drop_zero List.drop_nil List.map_cons List.map_nil List.map_append List.all_cons List.all_nil List.set_cons_zero List.set_cons_succ Option.map_some Option.map_none Option.bind_some Option.bind_none Option.getD_some Nat.add_zero Nat.zero_add Nat.le_refl Option.isSome_some Int.toNat_natCast List.getElem?_toArray Nat.sub_self List.length_set List.take_length List.take_left' st_eta Bool.true_or Bool.false_or Bool.or_true Bool.or_false Bool.not_true Bool.not_false Bool.and_false Bool.false_and decide_true decide_false decide_eq_true_eq Bool.false_eq_true Bool.true_and Bool.and_true true_and and_true if_true if_false and_self List.toList_toArray Int.zero_add Int.add_zero Int.mul_zero Int.zero_mul Int.sub_zero
end Go.Abs
namespace Go.Abs
open Go.RowKit
section
variable {P:Program} {G:World→Nat→Prop} {n:NDs} {aC:St} {Q:AX→Fr→St→Prop} {fr:Fr} {st:St}
end
end Go.Abs
namespace Go.Abs
open Go.RowKit
section
variable {P:Program} {G:World→Nat→Prop} {n:NDs} {aC:St} {Q:AX→Fr→St→Prop} {fr:Fr} {st:St}
def bO (P:Program) (G:World→Nat→Prop) (n:NDs) (aC:St) (body:Code) (Q:AX→Fr→St→Prop):Nat→Fr→St→Prop
 |0,_,_=>False
 |k+1,fr,st=>AW P G n aC body (bz (bO P G n aC body Q k) Q) fr st
def AW.rounds {body:Code} (k:Nat) (h:bO P G n aC body Q k fr st):AW P G n aC (.loop body) Q fr st:=by
 intro c0 c w a h0' he0 hc hg hf hs hd;refine wp_loop_ghost (fun k a w=>∃ c1 fr st,bO P G n aC body Q k fr st∧Ext c0 c1∧bf c1 w st∧cC c1 a.tmps fr∧a.tmps.size=n.sz∧a.defers=n.ds) k
  ⟨c,fr,st,h,he0,hc,hf,hs,hd⟩ ?_
 rintro k a1 w1 ⟨c1,fr1,gD,hI,he,hc1,hf1,hs1,hd1⟩;cases k with
 |zero=>exact hI.elim
 |succ k=>
  refine wp_mono (hI c0 c1 w1 a1 h0' he hc1 (by rw [he.w0,he.base,←he0.w0,←he0.base];exact hg) hf1 hs1 hd1) ?_
  rintro e a2 w2 ⟨x2,fr2,st2,c2,hq,he2,hc2,hf2,hs2,hd2,hx⟩
  cases e<;>cases x2<;>simp only [lY] at hx
  ·exact ⟨k,Nat.lt_succ_self _,c2,fr2,st2,hq,he2,hc2,hf2,hs2,hd2⟩
  ·exact ⟨.exit _,fr2,st2,c2,hq,he2,hc2,hf2,hs2,hd2,hx⟩
  ·exact ⟨.ret,fr2,st2,c2,hq,he2,hc2,hf2,hs2,hd2,trivial⟩
  ·exact ⟨.dw _,fr2,st2,c2,hq,he2,hc2,hf2,hs2,hd2,hx⟩
end
end Go.Abs
namespace Go.Abs
open Go.RowKit
section
variable {P:Program} {G:World→Nat→Prop} {n:NDs} {aC:St} {Q:AX→Fr→St→Prop} {fr:Fr} {st:St}
structure XY (P:Program) (G:World→Nat→Prop) (n:NDs) (aC:St) (y:Code) (Q:AX→Fr→St→Prop) (K:Fr→St→Prop):Prop where
 use:∀ fr st,AW P G n aC y Q fr st→K fr st
def XY.go {y:Code} {K:Fr→St→Prop} (h:XY P G n aC y Q K) (k:AW P G n aC y Q fr st):K fr st:=h.use _ _ k
def AW.blockN {x:Code} {id:Nat} (h:AW P G n aC x (aY id Q) fr st):AW P G n aC (.block id x) Q fr st:=AW.block h
end
end Go.Abs
namespace Go.Abs
open Go.RowKit
section
variable {P:Program} {G:World→Nat→Prop} {n:NDs} {aC:St} {Q:AX→Fr→St→Prop} {fr:Fr} {st:St}
def AW.Ga {x:Code} (h:AW P G n aC (.loop x) Q fr st):AW P G n aC (.loop x) Q fr st:=h
end
end Go.Abs
end
section
namespace Go.Abs
open Go.RowKit
def lz (id:Nat) (es:List (List D)):V:=match es with|[]=> .bh|es=> .own id es
def k9 (e sz:Nat) (es:List (List D)):List (Nat×Nat×Nat):=match es with|[]=>[]|es=>[(e,sz,es.length)]
def HV (id:Nat):lz id []= .bh:=(rfl)
def lzT_nil (e sz:Nat):k9 e sz []=[]:=(rfl)
section
variable {P:Program} {t:TypeId} {st:St}
def HW (id:Nat) (es:List (List D)):(lz id es).me=some (.sl es):=by cases es<;>rfl
def HY (id:Nat) (es:List (List D)):(lz id es).share= .d (.sl es):=by cases es<;>rfl
def N5 (id:Nat) (es:List (List D)):(lz id es).one=true:=by cases es<;>rfl
def HZ (id:Nat) (es:List (List D)):(lz id es).cells=some [lz id es]:=by cases es<;>rfl
def pK (N M:Nat) (e sz:Nat) (es:List (List D)):(lz M es).within N (M+(k9 e sz es).length)=true:=by cases es<;>simp [lz,k9,V.within]
def N6 (id:Nat) (es:List (List D)):gN P t (lz id es)=yy (mU P t) es.length:=by
 cases es
 ·exact oG P t
 ·exact qu P t id _
def lz_ix (id:Nat) (es:List (List D)) (k:IntKind) (i:Int):aI P t (lz id es) (.d (.int k i))=Ur (mU P t) es i:=by
 cases hs:mU P t with
 |none=>cases es<;>simp only [lz,aI,V.me,hs,Ur]<;>split<;>rfl
 |some g=>
  obtain ⟨e,sz,by_⟩:=g
  rw [yw P hs (x:=lz id es) (HW id es)];rfl
def H6 (e sz by_:Nat) (es:List (List D)) (i:Int):Ur (some (e,sz,by_)) es i=wI (cr sz es) es i:=(rfl)
def Bt (P:Program) (o:Option (Nat×Nat×Nat)) (X:Option D) (s:V) (st:St):Option (V×St):=
 match o,X with
 |some (e,sz,by_),some (.sl xs)=>
  if dA sz xs=true∧0<sz∧dy P e=some sz then match s with
   | .bh=>
    if xs.length*by_≤rS∧xs.length≤maxLen then
     if xs.isEmpty then some (.bh,st) else some (.own st.toks.length xs,{ st with toks:=st.toks++[(e,sz,xs.length)] })
    else none
   | .own id es=>
    if st.toks[id]?=some (e,sz,es.length)∧cr sz es=true∧(es.length+xs.length)*by_≤rS∧es.length+xs.length≤maxLen then
     if xs.isEmpty then some (.own id es,st) else some (.own id (es++xs),{ st with toks:=st.toks.set id (e,sz,es.length+xs.length) })
    else none
   |_=>none
  else none
 |_,_=>none
def N7 (s x:V):fu P t s x st=Bt P (mU P t) x.me s st:=(rfl)
def jt (z:Option Nat) (r l:Bool) (e sz by_:Nat) (xs:List (List D)) (s:V) (st:St):Option (V×St):=
  if r=true∧0<sz∧z=some sz then match s with
   | .bh=>
    if xs.length*by_≤rS∧xs.length≤maxLen then
     if xs.isEmpty then some (.bh,st) else some (.own st.toks.length xs,{ st with toks:=st.toks++[(e,sz,xs.length)] })
    else none
   | .own id es=>
    if st.toks[id]?=some (e,sz,es.length)∧l=true∧(es.length+xs.length)*by_≤rS∧es.length+xs.length≤maxLen then
     if xs.isEmpty then some (.own id es,st) else some (.own id (es++xs),{ st with toks:=st.toks.set id (e,sz,es.length+xs.length) })
    else none
   |_=>none
  else none
def N8 (e sz by_ id:Nat) (xs es:List (List D)):Bt P (some (e,sz,by_)) (some (.sl xs)) (lz id es) st=jt (dy P e) (dA sz xs) (cr sz es) e sz by_ xs (lz id es) st:=by cases es<;>rfl
def oK (e sz by_:Nat) (xs:List (List D)):Bt P (some (e,sz,by_)) (some (.sl xs)) .bh st=jt (dy P e) (dA sz xs) true e sz by_ xs .bh st:=(rfl)
def mV (e sz by_ id:Nat) (xs es:List (List D)):Bt P (some (e,sz,by_)) (some (.sl xs)) (.own id es) st=jt (dy P e) (dA sz xs) (cr sz es) e sz by_ xs (.own id es) st:=(rfl)
def CZ (e sz by_:Nat) (xs es:List (List D)) (B:List ec) (T:List (Nat×Nat×Nat)) (h0:0<sz) (hx:0<xs.length) (h1:(es.length+xs.length)*by_≤140737488355328) (h2:es.length+xs.length≤9223372036854775807):
  jt (some sz) true true e sz by_ xs (lz T.length es) ⟨B,T++k9 e sz es⟩=some (lz T.length (es++xs),⟨B,T++k9 e sz (es++xs)⟩):=by
 have hm:maxLen=9223372036854775807:=by decide
 have hxe:xs.isEmpty=false:=by cases xs<;>simp_all
 cases es with
 |nil=>
  simp only [aaA,aaL] at h1 h2
  cases xs with
  |nil=>simp at hx
  |cons x xs=>simp [jt,lz,k9,rS,hm,h0];simp at h1 h2;exact ⟨h1,h2⟩
 |cons y es=>
  simp only [jt,lz,k9,rS,hm,h0]
  rw [if_pos ⟨trivial,trivial,trivial⟩,if_pos ⟨by simp,trivial,by simpa using h1,by simpa using h2⟩,hxe]
  simp;omega
attribute [go_sem] HV lzT_nil HW HY N5 HZ pK N6 lz_ix H6 N7 N8 CZ
end
section
variable {P:Program} {G:World→Nat→Prop} {n:NDs} {aC:St} {Q:AX→Fr→St→Prop} {fr:Fr} {st:St} {d:Bool} {res:List Nat} {all:Array Oper}
attribute [go_sem] jG uQ shareL_nil qt iM
end
def xU:ec→ec
 | .cells cs=> .cells (V.share.fL cs)
 | .iter s p=> .iter s p
 | .mp kd n f=> .mp kd n f
 | .tc e cs=> .tc e (V.share.fL cs)
def EO (cs:List V):xU (.cells cs)= .cells (V.share.fL cs):=(rfl)
def L2.xU {c:Ctx} {o:Obj} {B:ec} (r:L2 c o B):L2 c o (Abs.xU B):=by
 cases r with
 |cells arr elem cs hs hr=>
  refine .cells arr elem _ (by rw [yA];exact hs) fun i hi=>?_
  rw [yA] at hi
  rw [jh cs i hi]
  exact (hr i hi).share
 |tc arr elem cs hs hr=>
  refine .tc arr elem _ (by rw [yA];exact hs) fun i hi=>?_
  rw [yA] at hi
  rw [jh cs i hi]
  exact (hr i hi).share
 |iter s l pos e=>exact .iter s l pos e
 |mp es clock kd n f hf=>exact .mp es clock kd n f hf
def bf.xU {c:Ctx} {w:World} {bs bs':List ec} {t:List (Nat×Nat×Nat)} (h:bf c w ⟨bs,t⟩) (hl:bs'.length=bs.length) (hb:∀ (i:Nat) (B B':ec),bs[i]?=some B→bs'[i]?=some B'→B'=B∨B'=Abs.xU B):bf c w ⟨bs',t⟩ where
 cN:=by rw [h.cN];exact hl.symm
 dH:=h.dH
 cI:=h.cI
 mS:=h.mS
 blk:=by
  intro b k B hk hB;have hlt:b<bs.length:=by rw [←hl];exact (aao.1 hB).1
  obtain ⟨o,ho,hr⟩:=h.blk b k bs[b] hk (aaw hlt);rcases hb b bs[b] B (aaw hlt) hB with rfl|rfl
  ·exact ⟨o,ho,hr⟩
  ·exact ⟨o,ho,hr.xU⟩
 cu:=h.cu
 cz:=h.cz
 cK:=h.cK
 cy:=h.cy
 below:=h.below
 cw:=h.cw
section
variable {P:Program} {G:World→Nat→Prop} {n:NDs} {aC:St} {Q:AX→Fr→St→Prop} {fr:Fr} {st:St}
structure wL {τ:Type} (aC:St) (σ:τ→List (Nat×V)) (L:τ→List ec) (U:τ→List (Nat×Nat×Nat)) (p:τ→Prop) (μ:τ→Nat) (x:τ) (fr:Fr) (st:St) (x':τ):Prop where
 slots:okF fr (σ x')
 ok:p x'
 less:μ x'<μ x
 aj:∃ M,st.aj.take (aC.aj.length+(L x').length)=aC.aj++M∧M.map xU=L x'
 toks:st.toks.take (aC.toks.length+(U x').length)=aC.toks++U x'
 win:okW (aC.aj.length+(L x').length) (aC.toks.length+(U x').length) (σ x')=true
 HI:∀ M,M.map xU=L x'→st.aj.take (aC.aj.length+(L x').length)=aC.aj++M→M.all (fun B=>B.within (aC.aj.length+(L x').length) (aC.toks.length+(U x').length))=true
end
attribute [go_sem] EO
section
variable {P:Program} {G:World→Nat→Prop} {n:NDs} {aC:St} {Q:AX→Fr→St→Prop}
inductive jZ (P:Program) (G:World→Nat→Prop) (n:NDs) (all:Array Oper) (muts:List Nat):Nat→List Oper→Fr→St→List V→List St→Fr→St→Prop
 |nil (i:Nat) (fr:Fr) (st:St):jZ P G n all muts i [] fr st [] [] fr st
 |cons (i:Nat) (o:Oper) (r:List Oper) (fr:Fr) (st:St) (v:V) (gD:St) (vs:List V) (ss:List St) (fr':Fr) (st':St):cL P G n all o fr st v gD→(bp muts i o=1→gD=st)→
   jZ P G n all muts (i+1) r (eC fr o.dst v) gD vs ss fr' st'→jZ P G n all muts i (o::r) fr st (v::vs) (gD::ss) fr' st'
def Nb.toM {all:Array Oper} {l:List Oper} {fr fr':Fr} {st st':St} {vs:List V} {ss:List St} (h:Nb P G n all l fr st vs ss fr' st'):∀ i,jZ P G n all [] i l fr st vs ss fr' st':=by
 induction h with
 |nil fr st=>intro i;exact .nil i fr st
 |cons o r fr st v gD vs ss fr' st' h1 h2 _ ih=>intro i;exact .cons i o r fr st v gD vs ss fr' st' h1 (fun hk=>h2 (by simpa [bp] using hk)) (ih (i+1))
theorem jZ.run {all:Array Oper} {muts:List Nat} {res:List Nat}:∀ {l:List Oper} {fr:Fr} {st:St} {rest:List Oper} {fr':Fr} {st':St} {fr'':Fr} {st'':St} {i:Nat} {vs ss},
  cJ P n all res l fr st=some (rest,fr',st')→jZ P G n all muts (i+(l.length - rest.length)) rest fr' st' vs ss fr'' st''→∃ vs ss,jZ P G n all muts i l fr st vs ss fr'' st''
 |[],fr,st,rest,fr',st',fr'',st'',i,vs,ss,h,k=>by
  simp only [cJ,aal,aaq] at h;obtain ⟨rfl,rfl,rfl⟩:=h;exact ⟨vs,ss,by simpa using k⟩
 |o::r,fr,st,rest,fr',st',fr'',st'',i,vs,ss,h,k=>by
  simp only [cJ] at h;split at h
  ·split at h
   ·rename_i hg;split at h
    ·simp only [aal,aaq] at h;obtain ⟨rfl,rfl,rfl⟩:=h;exact ⟨vs,ss,by simpa using k⟩
    ·rename_i hne;split at h
     ·rename_i v gD he;split at h
      ·rename_i hd;have hlen:=jP h;obtain ⟨vs1,ss1,h1⟩:=jZ.run (i:=i+1) (vs:=vs) (ss:=ss) h (by
        have:i+1+(r.length - rest.length)=i+((o::r).length - rest.length):=by simp only [aav];omega
        rw [this];exact k)
       exact ⟨_,_,.cons i o r fr st v gD _ _ _ _ (.op _ _ hg he hd) (fun hk=>iZ (by simpa using hne) he (wM hk)) h1⟩
      ·simp at h
     ·simp at h
   ·rename_i hg;split at h
    ·rename_i hd;have hlen:=jP h;obtain ⟨vs1,ss1,h1⟩:=jZ.run (i:=i+1) (vs:=vs) (ss:=ss) h (by
        have:i+1+(r.length - rest.length)=i+((o::r).length - rest.length):=by simp only [aav];omega
        rw [this];exact k)
     exact ⟨_,_,.cons i o r fr st _ st _ _ _ _ (.skip hg hd) (fun _=>rfl) h1⟩
    ·simp at h
   ·simp at h
  ·simp only [aal,aaq] at h;obtain ⟨rfl,rfl,rfl⟩:=h;exact ⟨vs,ss,by simpa using k⟩
where
 jP:∀ {l:List Oper} {fr:Fr} {st:St} {rest:List Oper} {fr':Fr} {st':St},cJ P n all res l fr st=some (rest,fr',st')→rest.length≤l.length
 |[],fr,st,rest,fr',st',h=>by
  simp only [cJ,aal,aaq] at h;obtain ⟨rfl,rfl,rfl⟩:=h;exact aat _
 |o::r,fr,st,rest,fr',st',h=>by
  simp only [cJ] at h;split at h
  ·split at h
   ·split at h
    ·simp only [aal,aaq] at h;obtain ⟨rfl,rfl,rfl⟩:=h;exact aat _
    ·split at h
     ·split at h
      ·have:=jP h;simp only [aav];omega
      ·simp at h
     ·simp at h
   ·split at h
    ·have:=jP h;simp only [aav];omega
    ·simp at h
   ·simp at h
  ·simp only [aal,aaq] at h;obtain ⟨rfl,rfl,rfl⟩:=h;exact aat _
 wM {i:Nat} {o:Oper} (h:bp muts i o=1):bp [] 0 o=1:=by
  unfold bp at h ⊢;split at h
  ·simp at h
  ·simpa using h
def jZ.spec {all:Array Oper} {muts:List Nat}:∀ {l:List Oper} {fr:Fr} {st:St} {vs:List V} {ss:List St} {fr':Fr} {st':St} {q:Nat},jZ P G n all muts q l fr st vs ss fr' st'→
  ∀ (pre:List Oper) (fr0:Fr) (W:Nat→V) (T:Nat→St),pre.length=q→(∀ j o d,(pre++l)[j]?=some o→o.dst=some d→iO (pre++l) d=some j)→
   (∀ i,W (pre.length+i)=vs.getD i .aU)→(∀ i,T (pre.length+i)=(st::ss).getD i default)→fr=valOf (pre++l) fr0 W (fun k=>decide (k<pre.length))→
   (∀ i o,pre.length≤i→(pre++l)[i]?=some o→cL P G n all o (valOf (pre++l) fr0 W (fun k=>decide (k<i))) (T i) (W i) (T (i+1))∧(bp muts i o=1→T (i+1)=T i))∧
   fr'=valOf (pre++l) fr0 W (fun _=>true)∧st'=T (pre++l).length:=by
 intro l
 induction l with
 |nil=>
  intro fr st vs ss fr' st' q h pre fr0 W T hq hd hW hT hfr
  cases h
  refine ⟨fun i o h1 h2=>?_,?_,?_⟩
  ·rw [aay h1] at h2
   simp at h2
  ·rw [hfr]
   funext t
   unfold valOf
   cases hw:iO (pre++[]) t with
   |none=>rfl
   |some i=>
    obtain ⟨o,h1,_⟩:=fE hw
    have:=(aao.1 h1).1
    simp only [aaM] at this
    simp [this]
  ·have:=hT 0
   simp at this ⊢
   exact this.symm
 |cons o r ih=>
  intro fr st vs ss fr' st' q h pre fr0 W T hq hd hW hT hfr
  cases h with
  |cons _ _ _ _ _ v gD vs ss _ _ hs hk hr=>
   subst hq
   have heq:(pre++[o])++r=pre++o::r:=by simp
   have hlo:(pre++o::r)[pre.length]?=some o:=by simp
   have hput:eC fr o.dst v=valOf (pre++o::r) fr0 W (fun k=>decide (k<pre.length+1)):=by
    have hv:W pre.length=v:=by have:=hW 0;simpa using this
    funext t;rw [hfr];unfold eC;cases hdst:o.dst with
    |none=>
     simp only [valOf]
     cases hw:iO (pre++o::r) t with
     |none=>rfl
     |some i=>
      have hi:i≠pre.length:=by
       rintro rfl;obtain ⟨o',h1,h2⟩:=fE hw;rw [hlo] at h1;cases h1;rw [hdst] at h2;cases h2
      have:(decide (i<pre.length))=decide (i<pre.length+1):=by simp;omega
      simp only [this]
    |some d=>
     simp only [upd]
     split
     ·rename_i htd
      subst htd
      simp only [valOf,hd pre.length o t hlo hdst]
      simp [hv]
     ·rename_i htd
      simp only [valOf]
      cases hw:iO (pre++o::r) t with
      |none=>rfl
      |some i=>
       have hi:i≠pre.length:=by
        rintro rfl;obtain ⟨o',h1,h2⟩:=fE hw;rw [hlo] at h1;cases h1;rw [hdst] at h2;cases h2;exact htd rfl
       have:(decide (i<pre.length))=decide (i<pre.length+1):=by simp;omega
       simp only [this]
   have:=ih hr (pre++[o]) fr0 W T (by simp) (by rw [heq];exact hd) (fun i=>by
     have:=hW (i+1);rw [aax,abb,show pre.length+1+i=pre.length+(i+1) by omega,this];simp) (fun i=>by
     have:=hT (i+1);rw [aax,abb,show pre.length+1+i=pre.length+(i+1) by omega,this];simp) (by rw [heq,aax,abb];exact hput)
   rw [heq,aax,abb] at this
   obtain ⟨h1,h2,h3⟩:=this
   refine ⟨fun i o' hi ho'=>?_,h2,h3⟩
   by_cases he:i=pre.length
   ·subst he
    rw [hlo] at ho'
    cases ho'
    have t0:=hT 0
    have t1:=hT 1
    have w0:=hW 0
    simp at t0 t1 w0
    rw [t0,t1,w0,←hfr]
    exact ⟨hs,hk⟩
   ·exact h1 i o' (by omega) ho'
def jZ.len {all:Array Oper} {muts:List Nat} {q:Nat} {l:List Oper} {fr fr':Fr} {st st':St} {vs:List V} {ss:List St} (h:jZ P G n all muts q l fr st vs ss fr' st'):vs.length=l.length∧ss.length=l.length:=by
 induction h with
 |nil=>exact ⟨rfl,rfl⟩
 |cons i o r fr st v gD vs ss fr' st' h1 h2 h3 ih=>simp [ih.1,ih.2]
structure Bu (P:Program) (l:List Oper) (fr':Fr) (S:Nat→St) (i hi:Nat):Prop where
 ex:∃ o t ty,l[i]?=some o∧o.op= .load ty (.tmp t)∧o.guard=none∧(∀ j,iO l t=some j→j<i)∧∀ k,k≤hi→∀ v s,bn P ty (fr' t) (S i)=some v→s=S k→bn P ty (fr' t) s=some v
def AW.wN {id:Nat} {l:List Oper} {fr:Fr} {st:St} {muts:List Nat} {ex:List (Nat×Nat)} (hm:P.follows .mixedOrders=true) (hok:fM l muts ex l.length=true)
  {vs:List V} {ss:List St} {fr':Fr} {st':St} (htr:jZ P G n l.toArray muts 0 l fr st vs ss fr' st') (hx:∀ i hi,(i,hi)∈ex→Bu P l fr' (fun k=>(st::ss).getD k default) i hi) (hQ:Q .normal fr' st'):
  AW P G n aC (.region id l.toArray true) Q fr st:=by
 intro c0 c w a h0 he hc hg hf hs hd
 have hg0:G c0.w0 c0.base:=by rw [←he.w0,←he.base];exact hg
 obtain ⟨h1,h2,h3⟩:=htr.spec [] fr (fun i=>vs.getD i .aU) (fun i=>(st::ss).getD i default) rfl (fun j o d ho hd=>(Pb hok ho).dst d hd) (by simp) (by simp) (by
  funext t;unfold valOf;cases iO ([]++l) t<;>simp)
 simp only [aaN,aaA,aaK,true_implies] at h1 h2 h3
 have R:TX P G n l muts ex l.length fr (fun i=>vs.getD i .aU) (fun i=>(st::ss).getD i default):=by
  refine ⟨hok,aat _,fun i o hi ho=>(h1 i o ho).1,fun i o hi ho=>(h1 i o ho).2,?_,fun _ _ _ h=>by cases h⟩;intro i hi o hmem ho hil k hk hkm;obtain ⟨o',t,ty,e1,e2,e3,e4,e5⟩:=(hx i hi hmem).ex;rw [ho] at e1;cases e1;obtain ⟨dst,op,type,pos,after,guard⟩:=o;simp only at e2 e3;subst e2 e3;have hfr:fr' t=valOf l fr (fun i=>vs.getD i .aU) (fun k=>decide (k<i)) t:=by
   rw [h2];unfold valOf;cases hw:iO l t with
   |none=>rfl
   |some j=>simp only [if_true,decide_eq_true (e4 j hw)]
  have hs:cL P G n l.toArray _ (valOf l fr (fun i=>vs.getD i .aU) (fun k=>decide (k<i))) ((st::ss).getD i default) (vs.getD i .aU) ((st::ss).getD (i+1) default):=(h1 i _ ho).1;show cL P G n l.toArray _ (valOf l fr (fun i=>vs.getD i .aU) (fun k=>decide (k<i))) ((st::ss).getD k default) (vs.getD i .aU) ((st::ss).getD k default);generalize hq:valOf l fr (fun i=>vs.getD i .aU) (fun k=>decide (k<i))=fq at hs hfr ⊢;generalize vs.getD i .aU=vv at hs ⊢;generalize hS:(st::ss).getD i default=S1 at hs;generalize (st::ss).getD (i+1) default=S2 at hs;have e5:∀ v s,bn P ty (fr' t) ((st::ss).getD i default)=some v→s=(st::ss).getD k default→bn P ty (fr' t) s=some v:=e5 k hk;rw [hS] at e5;cases hs with
  |op _ _ g1 g2 g3=>
   refine .op _ _ rfl ?_ g3
   simp only [evalOp,ev] at g2 ⊢
   obtain ⟨q1,q2⟩:=jj g2
   rw [←hfr] at q2 ⊢
   rw [e5 _ _ q2 rfl];rfl
  |skip g1 g2=>simp [goes] at g1
  |call _ _ g cap x args ats _ hop=>cases hop
 refine wp_region_any hm ?_
 have hrep:∀ i,(Array.replicate l.toArray.size false).getD i false=false:=fun i=>by
  rw [aap,abK];split<;>rfl
 refine kE R hg0 (.inl ⟨rfl,by rw [←h2,←h3];exact hQ⟩) _ _ 0 a _ c ?_ ?_ he (kF hc) ?_ hs hd
 ·refine ⟨by simp,fun j o _ hj=>?_,fun j hj=>?_,aaK _,fun i o _ _=>?_⟩
  ·exact absurd hj (by rw [hrep];simp)
  ·exact absurd hj (by rw [hrep];simp)
  ·rw [hrep];simp
 ·exact abj Array.count_le_size (by simp)
 ·intro t
  have:=hf t
  unfold valOf
  cases iO l t with
  |none=>exact this
  |some i=>simp only [hrep];exact this
def QB (l:List Oper) (fr:Fr) (i:Nat):Bool:=
 match l[i]? with
 |some ⟨_,.load _ (.tmp t),_,_,_,none⟩=>(match iO l t with|some j=>decide (j<i)|none=>true)&& (match fr t with| .ep _ _=>true|_=>false)
 |_=>false
def N9 {l:List Oper} {fr:Fr} {i:Nat} {S:Nat→St} (hi:Nat) (h:QB l fr i=true):Bu P l fr S i hi:=by
 unfold QB at h;split at h
 ·rename_i a ty t b c d he;simp only [aas] at h;refine ⟨_,t,ty,he,rfl,rfl,fun j hj=>by rw [hj] at h;simpa using h.1,fun k hk v s hv hs=>?_⟩;have h2:=h.2;split at h2
  ·rename_i cs off he2;rw [he2] at hv ⊢;unfold bn at hv ⊢;exact hv
  ·cases h2
 ·cases h
def AW.QC (hm:P.follows .mixedOrders=true) {id:Nat} {l rest:List Oper} (ex:List (Nat×Nat)) (hok:fM l [] ex l.length=true) {fr fr':Fr} {st st':St} (h:cJ P n l.toArray [] l fr st=some (rest,fr',st'))
  (k:OX P G n aC true [] l.toArray (fun x fr st=>(ex.all fun p=>QB l fr p.1)=true∧Q x fr st) rest fr' st'):AW P G n aC (.region id l.toArray true) Q fr st:=by
 obtain ⟨vs,ss,fr'',st'',htr,hb,hQ⟩:=OT.run h k
 exact AW.wN hm hok (htr.toM 0) (fun i hi hmem=>N9 hi (aaE.1 hb (i,hi) hmem)) hQ
def Ng {ex:List (Nat×Nat)} {l:List Oper} {fr:Fr} {q:Prop} (h:(ex.all fun p=>QB l fr p.1)=true) (k:q):(ex.all fun p=>QB l fr p.1)=true∧q:=⟨h,k⟩
def AW.Au {l:Array Oper} (id:Nat) {fr:Fr} {st:St} (h:AW P G n aC (.region id l true) Q fr st):AW P G n aC (.region id l true) Q fr st:=h
