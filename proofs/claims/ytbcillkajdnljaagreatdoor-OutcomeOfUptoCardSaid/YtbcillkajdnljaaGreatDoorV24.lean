import Derived.Test.YtbcillkajdnljaaGreatDoorV23
import Derived.LoopN
set_option linter.all false
section
namespace Go.En
open Go.RowKit
open Go.Abs (rz masks nX iO fE)
mutual
def V.beq:V→V→Bool
 | .aU,.aU=>true
 | .bool a,.bool b=>a==b
 | .int k n,.int k' n'=>decide (k=k')&&n==n'
 | .str a,.str b=>a==b
 | .eX,.eX=>true
 | .Am,.Am=>true
 | .fD,.fD=>true
 | .An,.An=>true
 | .bh,.bh=>true
 | .ptr a b,.ptr a' b'=>a==a'&&b==b'
 | .sl a b c d e,.sl a' b' c' d' e'=>a==a'&&b==b'&&c==c'&&d==d'&&e==e'
 | .mp a,.mp b=>a==b
 | .iface t v,.iface t' v'=>t==t'&&V.beq v v'
 | .jE f l,.jE f' l'=>f==f'&&beqL l l'
 | .agg l,.agg l'=>beqL l l'
 | .cF l,.cF l'=>beqL l l'
 |_,_=>false
def beqL:List V→List V→Bool
 |[],[]=>true
 |a::l,b::m=>V.beq a b&&beqL l m
 |_,_=>false
end
mutual
theorem V.eq_of:∀ {a b:V},V.beq a b=true→a=b
 |a,b,h=>by
  cases a<;>cases b<;>simp only [V.beq,aa3,aas,beq_iff_eq,aau] at h<;>try rfl
  ·rw [h]
  ·rw [h.1,h.2]
  ·rw [h]
  ·rw [h.1,h.2]
  ·obtain ⟨⟨⟨⟨h1,h2⟩,h3⟩,h4⟩,h5⟩:=h;rw [h1,h2,h3,h4,h5]
  ·rw [h]
  ·rw [h.1,V.eq_of h.2]
  ·rw [h.1,eqL_of h.2]
  ·rw [eqL_of h]
  ·rw [eqL_of h]
theorem eqL_of:∀ {a b:List V},beqL a b=true→a=b
 |[],[],_=>rfl
 |a::l,b::m,h=>by
  simp only [beqL,aas] at h;rw [V.eq_of h.1,eqL_of h.2]
 |[],_::_,h=>by simp [beqL] at h
 |_::_,[],h=>by simp [beqL] at h
end
structure Ent where
 fr:Fr
 v:V
 kd:Nat
 x:Option B
 deriving Inhabited
def putsI (base:Nat) (x:Nat→Option B) (p:Nat→Bool):Nat→S→S
 |0,s=>s
 |n+1,s=>match p n,x n with
  |true,some y=>(putsI base x p n s).put (base+n) y
  |_,_=>putsI base x p n s
theorem putsI_nx (base:Nat) (x:Nat→Option B) (p:Nat→Bool):∀ (n:Nat) (s:S),(putsI base x p n s).nx=s.nx
 |0,_=>rfl
 |n+1,s=>by
  simp only [putsI];split
  ·exact putsI_nx base x p n s
  ·exact putsI_nx base x p n s
theorem putsI_get (base:Nat) (x:Nat→Option B) (p:Nat→Bool):∀ (n:Nat) (s:S) (b:Nat),
  (∃ i y,i<n∧b=base+i∧p i=true∧x i=some y∧(putsI base x p n s).h.get b=some y)∨((∀ i,i<n→b=base+i→p i=true→x i=none)∧(putsI base x p n s).h.get b=s.h.get b)
 |0,s,b=> .inr ⟨by simp,rfl⟩
 |n+1,s,b=>by
  simp only [putsI];rcases putsI_get base x p n s b with ⟨i,y,h1,h2,h3,h4,h5⟩|⟨h1,h2⟩
  ·refine .inl ⟨i,y,by omega,h2,h3,h4,?_⟩;split
   ·rw [aae,if_neg (by omega)];exact h5
   ·exact h5
  ·by_cases hb:b=base+n
   ·split
    ·rename_i y hp hx;exact .inl ⟨n,y,by omega,hb,hp,hx,by rw [aae,if_pos hb]⟩
    ·rename_i hno;refine .inr ⟨fun i hi hbi hpi=>?_,h2⟩;have:i=n:=by omega
     subst this;cases hx:x i with
     |none=>rfl
     |some y=>exact (hno y hpi hx).elim
   ·refine .inr ⟨fun i hi hbi hpi=>h1 i (by omega) hbi hpi,?_⟩;split
    ·rw [aae,if_neg hb];exact h2
    ·exact h2
theorem putsI_congr {base:Nat} {x:Nat→Option B} {p q:Nat→Bool}:∀ {n:Nat} {s:S},(∀ i,i<n→p i=q i)→putsI base x p n s=putsI base x q n s
 |0,_,_=>rfl
 |n+1,s,h=>by
  simp only [putsI,h n (by omega),putsI_congr (n:=n) (s:=s) fun i hi=>h i (by omega)]
theorem putsI_congrX {base:Nat} {x y:Nat→Option B} {p q:Nat→Bool}:∀ {n:Nat} {s:S},(∀ i,i<n→p i=q i∧x i=y i)→putsI base x p n s=putsI base y q n s
 |0,_,_=>rfl
 |n+1,s,h=>by
  simp only [putsI,(h n (by omega)).1,(h n (by omega)).2,putsI_congrX (n:=n) (s:=s) fun i hi=>h i (by omega)]
def xR (E:List Ent) (i:Nat):Ent:=E.getD i default
def isW (E:List Ent) (i:Nat):Bool:=(xR E i).kd==3
def n9 (E:List Ent):Nat→Nat
 |0=>0
 |i+1=>n9 E i+(if isW E i then 1 else 0)
def unfl (E:List Ent) (m:List Nat) (k j:Nat):Nat→Bool
 |0=>true
 |n+1=>unfl E m k j n&& !(isW E n&&decide (n9 E n<k)&& (m.getD n 0).testBit j)
theorem unfl_iff {E:List Ent} {m:List Nat} {k j:Nat}:∀ {n:Nat},unfl E m k j n=true↔∀ w,w<n→isW E w=true→n9 E w<k→(m.getD w 0).testBit j=false
 |0=>by simp [unfl]
 |n+1=>by
  simp only [unfl,aas,unfl_iff (n:=n),abC,Bool.and_eq_false_iff,abz];constructor
  ·rintro ⟨h1,h2⟩ w hw a1 a2;by_cases e:w=n
   ·subst e;rcases h2 with (h2|h2)|h2
    ·rw [a1] at h2;cases h2
    ·exact absurd a2 h2
    ·exact h2
   ·exact h1 w (by omega) a1 a2
  ·intro h;refine ⟨fun w hw=>h w (by omega),?_⟩;by_cases a1:isW E n=true
   ·by_cases a2:n9 E n<k
    ·exact .inr (h n (by omega) a1 a2)
    ·exact .inl (.inr a2)
   ·exact .inl (.inl (by simpa using a1))
def stR (E:List Ent) (m:List Nat) (base i k:Nat) (B:S):S:=putsI base (fun j=>(xR E j).x) (fun j=>(xR E j).kd==2&& (m.getD i 0).testBit j&&unfl E m k j E.length) i B
def stepW (P:Program) (call:FuncId→List V→S→Option (V×S)) (o:Oper) (fr:Fr) (s:S) (id:Nat):Option (V×S):=
 match o.op with
 | .call { callee:= .value x,args,.. }=>(match ev fr x with
  | .jE g cap=>call g (evs fr args.toList++cap) s
  |_=>none)
 |op=>evalOp P op fr s id
def runD (P:Program) (call:FuncId→List V→S→Option (V×S)) (all:Array Oper) (m:List Nat) (base:Nat):List Oper→F→S→List Ent→List S→Option (F×List Ent×List S)
 |[],f,s,es,bs=>some (f,es,bs++[s])
 |o::r,f,s,es,bs=>match goes all o f.tm with
  |none=>none
  |some false=>(match f.put o.dst (.cF []) with
   |some f'=>runD P call all m base r f' s (es++[⟨f.tm,.cF [],4,none⟩]) bs
   |none=>none)
  |some true=>(match kind o.op with
   |3=>(match stepW P call o f.tm (stR es m base es.length (n9 es es.length) s) (base+es.length) with
    |some (v,s')=>(match f.put o.dst v with
     |some f'=>runD P call all m base r f' s' (es++[⟨f.tm,v,3,none⟩]) (bs++[s])
     |none=>none)
    |none=>none)
   |k=>(match evalOp P o.op f.tm (stR es m base es.length (n9 es es.length) s) (base+es.length) with
    |some (v,s1)=>(match f.put o.dst v with
     |some f'=>runD P call all m base r f' s (es++[⟨f.tm,v,k,match k with|2=>s1.h.get (base+es.length)|_=>none⟩]) bs
     |none=>none)
    |none=>none))
def mayAt (E:List Ent) (m:List Nat) (i k:Nat):Nat→Bool
 |0=>true
 |n+1=>mayAt E m i k n&& (!isW E n||((!(m.getD i 0).testBit n||decide (n9 E n<k))&& (!(m.getD n 0).testBit i||decide (k≤n9 E n))))
theorem mayAt_iff {E:List Ent} {m:List Nat} {i k:Nat}:∀ {n:Nat},mayAt E m i k n=true↔∀ w,w<n→isW E w=true→((m.getD i 0).testBit w=true→n9 E w<k)∧((m.getD w 0).testBit i=true→k≤n9 E w)
 |0=>by simp [mayAt]
 |n+1=>by
  simp only [mayAt,aas,mayAt_iff (n:=n),aaU,abC,aau];constructor
  ·rintro ⟨h1,h2⟩ w hw a1;by_cases e:w=n
   ·subst e;rcases h2 with h2|⟨h2,h3⟩
    ·rw [a1] at h2;cases h2
    ·exact ⟨fun a=>h2.resolve_left (by rw [a];simp),fun a=>h3.resolve_left (by rw [a];simp)⟩
   ·exact h1 w (by omega) a1
  ·intro h;refine ⟨fun w hw=>h w (by omega),?_⟩;by_cases a1:isW E n=true
   ·obtain ⟨h2,h3⟩:=h n (by omega) a1;refine .inr ⟨?_,?_⟩
    ·by_cases a:(m.getD i 0).testBit n=true
     ·exact .inr (h2 a)
     ·exact .inl (by simpa using a)
    ·by_cases a:(m.getD n 0).testBit i=true
     ·exact .inr (h3 a)
     ·exact .inl (by simpa using a)
   ·exact .inl (by simpa using a1)
def allTo (p:Nat→Bool):Nat→Bool
 |0=>true
 |n+1=>allTo p n&&p n
theorem allTo_iff {p:Nat→Bool}:∀ {n:Nat},allTo p n=true↔∀ i,i<n→p i=true
 |0=>by simp [allTo]
 |n+1=>by
  simp only [allTo,aas,allTo_iff (n:=n)];constructor
  ·rintro ⟨h1,h2⟩ i hi;by_cases e:i=n
   ·rw [e];exact h2
   ·exact h1 i (by omega)
  ·exact fun h=>⟨fun i hi=>h i (by omega),h n (by omega)⟩
def chkOne (P:Program) (E:List Ent) (m:List Nat) (base:Nat) (bs:List S) (o:Oper) (i:Nat):Bool:=
 match (xR E i).kd with
 |1=>allTo (fun k=> !mayAt E m i k E.length||(match evalOp P o.op (xR E i).fr (stR E m base i k (bs.getD k default)) (base+i) with
  |some (v,_)=>V.beq v (xR E i).v
  |none=>false)) bs.length
 |2=>allTo (fun k=> !unfl E m k i E.length||((bs.getD k default).h.get (base+i)).isNone) bs.length
 |_=>true
def chkAll (P:Program) (E:List Ent) (m:List Nat) (base:Nat) (bs:List S):List Oper→Nat→Bool
 |[],_=>true
 |o::r,i=>chkOne P E m base bs o i&&chkAll P E m base bs r (i+1)
def ordOK (l:List Oper) (E:List Ent) (m:List Nat):Bool:=
 l.zipIdx.all fun (o,j)=>
  (o.after.all fun e=> !Region.binds .any e||decide (e.on<j))&&
  (match o.dst with|none=>true|some d=>iO l d==some j)&&
  ((o.looksAt l.toArray).all fun t=>match iO l t with|none=>true|some i=>i==j||(decide (i<j)&& (m.getD j 0).testBit i)||(decide (j<i)&& (m.getD i 0).testBit j))&&
  (!isW E j||l.zipIdx.all fun (_,i)=> !isW E i||i==j||(decide (i<j)&& (m.getD j 0).testBit i)||(decide (j<i)&& (m.getD i 0).testBit j))
def runDraw (P:Program) (call:FuncId→List V→S→Option (V×S)) (all:Array Oper) (f:F) (s:S):Option (F×S):=
 match runD P call all (masks all.toList []) s.nx all.toList f ⟨s.nx+all.size,s.h⟩ [] [] with
 |some (f',E,bs)=>match ordOK all.toList E (masks all.toList [])&&chkAll P E (masks all.toList []) s.nx bs all.toList 0 with
  |true=>some (f',putsI s.nx (fun j=>(xR E j).x) (fun j=>(xR E j).kd==2&&unfl E (masks all.toList []) (n9 E E.length) j E.length) E.length (bs.getD (n9 E E.length) default))
  |false=>none
 |none=>none
def ent_left {es e2:List Ent} {i:Nat} (h:i<es.length):xR (es++e2) i=xR es i:=by
 simp only [xR,aam,aaz h]
def isW_left {es e2:List Ent} {i:Nat} (h:i<es.length):isW (es++e2) i=isW es i:=by simp only [isW,ent_left h]
theorem wnum_left {es e2:List Ent}:∀ {i:Nat},i≤es.length→n9 (es++e2) i=n9 es i
 |0,_=>rfl
 |i+1,h=>by simp only [n9,wnum_left (es:=es) (e2:=e2) (i:=i) (by omega),isW_left (es:=es) (e2:=e2) (show i<es.length by omega)]
def wnum_mono {E:List Ent} {i j:Nat} (h:i≤j):n9 E i≤n9 E j:=by
 induction j with
 |zero=>
  have:i=0:=by omega
  subst this;exact aat _
 |succ j ih=>
  by_cases e:i=j+1
  ·rw [e];exact aat _
  ·exact abj (ih (by omega)) (by simp only [n9];omega)
def wnum_lt {E:List Ent} {i j:Nat} (h:i<j) (hw:isW E i=true):n9 E i<n9 E j:=by
 have h1:n9 E (i+1)=n9 E i+1:=by simp [n9,hw]
 have:=wnum_mono (E:=E) (show i+1≤j by omega);omega
def wnum_inj {E:List Ent} {i j:Nat} (hi:isW E i=true) (hj:isW E j=true) (h:n9 E i=n9 E j):i=j:=by
 rcases Nat.lt_trichotomy i j with h1|h1|h1
 ·have:=wnum_lt h1 hi;omega
 ·exact h1
 ·have:=wnum_lt h1 hj;omega
theorem wnum_find {E:List Ent} {k:Nat}:∀ {n:Nat},k<n9 E n→∃ i,i<n∧isW E i=true∧n9 E i=k
 |0,h=>by simp [n9] at h
 |n+1,h=>by
  by_cases h1:k<n9 E n
  ·obtain ⟨i,a,b,c⟩:=wnum_find h1;exact ⟨i,by omega,b,c⟩
  ·simp only [n9] at h;split at h
   ·rename_i hw;exact ⟨n,by omega,hw,by omega⟩
   ·omega
def unfl_left {es e2:List Ent} {m:List Nat} {j:Nat}:unfl es m (n9 es es.length) j es.length=unfl (es++e2) m (n9 es es.length) j (es++e2).length:=by
 rw [abk,unfl_iff,unfl_iff];constructor
 ·intro h w hw a1 a2;by_cases hl:w<es.length
  ·rw [isW_left hl] at a1;rw [wnum_left (Nat.le_of_lt hl)] at a2;exact h w hl a1 a2
  ·have:=wnum_mono (E:=es++e2) (show es.length≤w by omega);rw [wnum_left (aat _)] at this;omega
 ·intro h w hw a1 a2;refine h w (by simp;omega) (by rw [isW_left hw];exact a1) (by rw [wnum_left (Nat.le_of_lt hw)];exact a2)
def stR_left {es e2:List Ent} {m:List Nat} {base:Nat} {B:S}:stR es m base es.length (n9 es es.length) B=stR (es++e2) m base es.length (n9 es es.length) B:=by
 unfold stR;refine putsI_congrX fun i hi=>?_;rw [ent_left hi,unfl_left (e2:=e2)];exact ⟨rfl,rfl⟩
structure Tells (P:Program) (call:FuncId→List V→S→Option (V×S)) (all:Array Oper) (m:List Nat) (base:Nat) (E:List Ent) (bs:List S) (Fm:Nat→F) (j:Nat) (o:Oper):Prop where
 fr:(xR E j).fr=(Fm j).tm
 put:(Fm j).put o.dst (xR E j).v=some (Fm (j+1))
 go:goes all o (xR E j).fr=some (!((xR E j).kd==4))
 k4:(xR E j).kd=4→(xR E j).v= .cF []
 k3:(xR E j).kd=3→stepW P call o (xR E j).fr (stR E m base j (n9 E j) (bs.getD (n9 E j) default)) (base+j)=some ((xR E j).v,bs.getD (n9 E j+1) default)
 k2:(xR E j).kd≠4→(xR E j).kd≠3→(xR E j).kd=kind o.op∧∃ s0 s1,evalOp P o.op (xR E j).fr s0 (base+j)=some ((xR E j).v,s1)∧((xR E j).kd=2→(xR E j).x=s1.h.get (base+j))
theorem runD_spec {P:Program} {call:FuncId→List V→S→Option (V×S)} {all:Array Oper} {m:List Nat} {base:Nat}:∀ {rest:List Oper} {f:F} {s:S} {es:List Ent} {bs:List S} {ff:F} {E:List Ent} {Bs:List S},
  runD P call all m base rest f s es bs=some (ff,E,Bs)→bs.length=n9 es es.length→∃ e2 b2,E=es++e2∧e2.length=rest.length∧Bs=bs++s::b2∧Bs.length=n9 E E.length+1∧
   ∃ Fm:Nat→F,Fm es.length=f∧ff=Fm E.length∧∀ j o,rest[j]?=some o→Tells P call all m base E Bs Fm (es.length+j) o
 |[],f,s,es,bs,ff,E,Bs,h,hb=>by
  simp only [runD,aal,aaq] at h;obtain ⟨rfl,rfl,rfl⟩:=h;exact ⟨[],[],by simp,rfl,by simp,by simp [hb],fun _=>f,rfl,rfl,by simp⟩
 |o::r,f,s,es,bs,ff,E,Bs,h,hb=>by
  have fin:∀ {f':F} {s':S} {e:Ent} {bs':List S} {b0:List S},runD P call all m base r f' s' (es++[e]) bs'=some (ff,E,Bs)→bs'.length=n9 (es++[e]) (es++[e]).length→(∀ b2,bs'++s'::b2=bs++s::(b0++b2))→
    e.fr=f.tm→f.put o.dst e.v=some f'→goes all o f.tm=some (!(e.kd==4))→(e.kd=4→e.v= .cF [])→
    (e.kd=3→b0=[s']∧stepW P call o f.tm (stR es m base es.length (n9 es es.length) s) (base+es.length)=some (e.v,s'))→
    (e.kd≠4→e.kd≠3→e.kd=kind o.op∧∃ s0 s1,evalOp P o.op f.tm s0 (base+es.length)=some (e.v,s1)∧(e.kd=2→e.x=s1.h.get (base+es.length)))→
    ∃ e2 b2,E=es++e2∧e2.length=(o::r).length∧Bs=bs++s::b2∧Bs.length=n9 E E.length+1∧
     ∃ Fm:Nat→F,Fm es.length=f∧ff=Fm E.length∧∀ j o',(o::r)[j]?=some o'→Tells P call all m base E Bs Fm (es.length+j) o':=by
   intro f' s' e bs' b0 h hb' hbs a1 a2 a3 a4 a5 a6
   obtain ⟨e2,b2,rfl,h2,rfl,h3,Fm,h4,h5,h6⟩:=runD_spec h hb'
   have hent:xR (es++[e]++e2) es.length=e:=by
    rw [ent_left (by simp)];simp [xR]
   have hwl:n9 (es++[e]++e2) es.length=n9 es es.length:=by
    rw [aaG,wnum_left (aat _)]
   refine ⟨e::e2,b0++b2,by simp,by simp [h2],hbs b2,h3,fun i=>if i=es.length then f else Fm i,by simp,?_,fun j o' hj=>?_⟩
   ·show ff=if (es++[e]++e2).length=es.length then f else Fm (es++[e]++e2).length
    rw [if_neg (by simp)]
    exact h5
   ·cases j with
    |zero=>
     simp only [abw,aal] at hj
     subst hj
     simp only [abE]
     refine ⟨by rw [hent,if_pos rfl,a1],?_,by rw [hent,a1];exact a3,by rw [hent];exact a4,fun h=>?_,fun h7 h8=>?_⟩
     ·rw [hent,if_pos rfl,if_neg (by omega),a2,←h4]
      simp
     ·rw [hent] at h ⊢
      obtain ⟨hb0,h7⟩:=a5 h
      subst hb0
      rw [hwl,hbs b2,a1,aaG,←stR_left]
      rw [show (bs++s::([s']++b2)).getD (n9 es es.length) default=s by simp [←hb,aam],
       show (bs++s::([s']++b2)).getD (n9 es es.length+1) default=s' by simp [←hb,aam,aay]]
      exact h7
     ·rw [hent] at h7 h8 ⊢
      rw [a1]
      exact a6 h7 h8
    |succ j=>
     have:=h6 j o' (by simpa using hj)
     simp only [aax,aav,aaA] at this
     rw [show es.length+(0+1)+j=es.length+(j+1) by omega] at this
     refine ⟨by rw [if_neg (by omega)];exact this.fr,by rw [if_neg (by omega),if_neg (by omega)];exact this.put,this.go,this.k4,this.k3,this.k2⟩
  simp only [runD] at h;split at h
  ·simp at h
  ·rename_i hg;split at h
   case h_2=>simp at h
   rename_i f' hp;refine fin (b0:=[]) h ?_ (fun b2=>by simp) rfl hp hg (fun _=>rfl) (fun h=>by cases h) (fun h=>absurd rfl h);rw [aax,abb];simp only [n9,isW_left (es:=es) (e2:=[_]) (i:=es.length)];have:isW (es++[⟨f.tm,.cF [],4,none⟩]) es.length=false:=by simp [isW,xR]
   simp [this,wnum_left,hb]
  ·rename_i hg;split at h
   ·rename_i hk;split at h
    case h_2=>simp at h
    rename_i v s' hst;split at h
    case h_2=>simp at h
    rename_i f' hp;refine fin (b0:=[s']) h ?_ (fun b2=>by simp) rfl hp hg (fun h=>by cases h) (fun _=>⟨rfl,hst⟩) (fun _ h=>absurd rfl h);have:isW (es++[⟨f.tm,v,3,none⟩]) es.length=true:=by simp [isW,xR]
    rw [aax,aax,abb,abb];simp [n9,this,wnum_left,hb]
   ·rename_i hk;split at h
    case h_2=>simp at h
    rename_i v s1 he;split at h
    case h_2=>simp at h
    rename_i f' hp;have hk4:kind o.op≠4:=by
     have:kind o.op≤3:=by
      unfold kind;split<;>simp
     omega
    have hk3:kind o.op≠3:=fun h=>hk h;refine fin (b0:=[]) h ?_ (fun b2=>by simp) rfl hp (by rw [hg];simp [hk4]) (fun h=>absurd h hk4) (fun h=>absurd h hk3) (fun _ _=>⟨rfl,_,s1,he,fun h2=>?_⟩)
    ·have:∀ x,isW (es++[⟨f.tm,v,kind o.op,x⟩]) es.length=false:=by intro x;simp [isW,xR,hk3]
     rw [aax,abb];simp [n9,this,wnum_left,hb]
    ·simp only at h2;simp only [h2]
end Go.En
end
section
namespace Go.En
open Go.RowKit
open Go.Abs (rz masks nX iO fE Yw iy put_defers)
variable {P:Program} {c:C} {w:World} {s:S}
structure OFacts (l:List Oper) (E:List Ent) (m:List Nat) (j:Nat) (o:Oper):Prop where
 Um:∀ e∈o.after,Region.binds .any e=true→e.on<j
 dst:∀ d,o.dst=some d→iO l d=some j
 look:∀ t∈o.looksAt l.toArray,∀ i,iO l t=some i→i=j∨(i<j∧rz l i j)∨(j<i∧rz l j i)
 wr:isW E j=true→∀ i,i<l.length→isW E i=true→i=j∨(i<j∧rz l i j)∨(j<i∧rz l j i)
def mask_bef {l:List Oper} {i j:Nat} (h:((masks l []).getD j 0).testBit i=true):rz l i j:=nX l l [] (by simp) (by simp) i j h
def ordOK_facts {l:List Oper} {E:List Ent} (h:ordOK l E (masks l [])=true) {j:Nat} {o:Oper} (ho:l[j]?=some o):OFacts l E (masks l []) j o:=by
 simp only [ordOK,aaE] at h;have hm:(o,j)∈l.zipIdx:=by rw [aa9];exact ho
 have h1:=h (o,j) hm;simp only [aas,aaU,aau,beq_iff_eq] at h1;obtain ⟨⟨⟨h2,h3⟩,h4⟩,h5⟩:=h1;refine ⟨fun e he hbe=>?_,fun d hd=>?_,fun t ht i hi=>?_,fun hw i hi hwi=>?_⟩
 ·have:=(Array.all_eq_true_iff_forall_mem.1 h2) e he;simpa [hbe] using this
 ·simpa [hd] using h3
 ·have:=(aaE.1 h4) t ht;rw [hi] at this;simp only [aaU,beq_iff_eq,aas,aau] at this;rcases this with (h|h)|h
  ·exact .inl h
  ·exact .inr (.inl ⟨h.1,mask_bef h.2⟩)
  ·exact .inr (.inr ⟨h.1,mask_bef h.2⟩)
 ·rcases h5 with h5|h5
  ·rw [hw] at h5;simp at h5
  ·have:=(aaE.1 h5) (l[i],i) (by rw [aa9];simp [hi]);simp only [aaU,abC,beq_iff_eq,aas,aau] at this;rcases this with ((h|h)|h)|h
   ·rw [hwi] at h;cases h
   ·exact .inl h
   ·exact .inr (.inl ⟨h.1,mask_bef h.2⟩)
   ·exact .inr (.inr ⟨h.1,mask_bef h.2⟩)
def rz.lt {l:List Oper} (he:∀ j o,l[j]?=some o→∀ e∈o.after,Region.binds .any e=true→e.on<j) {i j:Nat} (h:rz l i j):i<j:=by
 induction h with
 |one j o e ho hm hb=>exact he j o ho e hm hb
 |step i j o e ho hm hb _ ih=>exact Nat.lt_trans ih (he j o ho e hm hb)
theorem chkAll_one {E:List Ent} {m:List Nat} {base:Nat} {bs:List S}:∀ {l:List Oper} {n j:Nat} {o:Oper},chkAll P E m base bs l n=true→l[j]?=some o→chkOne P E m base bs o (n+j)=true
 |[],_,_,_,_,h=>by simp at h
 |o::r,n,0,o',h,hj=>by
  simp only [chkAll,aas] at h;simp only [abw,aal] at hj;subst hj;exact h.1
 |o::r,n,j+1,o',h,hj=>by
  simp only [chkAll,aas] at h;have:=chkAll_one h.2 (by simpa using hj)
  rwa [show n+(j+1)=n+1+j by omega]
def phi (l:List Oper) (E:List Ent) (f:F) (L:Nat→Bool) (t:Nat):Option V:=match iO l t with
 |some i=>if L i=true then some (xR E i).v else f.tm.get t
 |none=>f.tm.get t
def cutF (fr:Fr):List Nat→Fr
 |[]=> .nil
 |t::r=>(cutF fr r).set t (fr.get t)
theorem cutF_get (fr:Fr):∀ (ts:List Nat) (t:Nat),(cutF fr ts).get t=if t∈ts then fr.get t else none
 |[],t=>by simp [cutF,Tr.get]
 |u::r,t=>by
  simp only [cutF,Tr.get_set,cutF_get fr r t,abc];by_cases h:t=u
  ·simp [h]
  ·simp [h]
structure Drawn (P:Program) (l:List Oper) (E:List Ent) (bs:List S) (f:F) (s:S):Prop where
 len:E.length=l.length
 facts:∀ j o,l[j]?=some o→OFacts l E (masks l []) j o
 fr:∀ j o,l[j]?=some o→∀ t,(xR E j).fr.get t=phi l E f (fun i=>decide (i<j)) t
 bound:∀ (j:Nat) (o:Oper) (d:Tmp),l[j]?=some o→o.dst=some d→d<f.n
 go:∀ j o,l[j]?=some o→goes l.toArray o (xR E j).fr=some (!((xR E j).kd==4))
 k4:∀ j o,l[j]?=some o→(xR E j).kd=4→(xR E j).v= .cF []
 k3:∀ j o,l[j]?=some o→(xR E j).kd=3→∃ k,k=n9 E j∧
  ((∃ x args ats g cap,o.op= .call { callee:= .value x,args:=args,argTypes:=ats }∧ev (xR E j).fr x= .jE g cap∧CallOK P g (evs (xR E j).fr args.toList++cap) (stR E (masks l []) s.nx j k (bs.getD k default)) (xR E j).v (bs.getD (k+1) default))∨
   evalOp P o.op (xR E j).fr (stR E (masks l []) s.nx j k (bs.getD k default)) (s.nx+j)=some ((xR E j).v,bs.getD (k+1) default))
 k0:∀ j o,l[j]?=some o→(xR E j).kd≠4→(xR E j).kd≠3→(xR E j).kd≠2→∀ k,k≤n9 E l.length→mayAt E (masks l []) j k E.length=true→
  evalOp P o.op (xR E j).fr (stR E (masks l []) s.nx j k (bs.getD k default)) (s.nx+j)=some ((xR E j).v,stR E (masks l []) s.nx j k (bs.getD k default))
 k2:∀ j o,l[j]?=some o→(xR E j).kd=2→(∃ x,(xR E j).x=some x∧∀ s1,evalOp P o.op (xR E j).fr s1 (s.nx+j)=some ((xR E j).v,s1.put (s.nx+j) x))∧
  ∀ k,k≤n9 E l.length→unfl E (masks l []) k j E.length=true→(bs.getD k default).h.get (s.nx+j)=none
 b0:bs.getD 0 default=⟨s.nx+l.length,s.h⟩
def runDraw_spec {call:FuncId→List V→S→Option (V×S)} (hcall:∀ g args s v s',call g args s=some (v,s')→CallOK P g args s v s') {l:List Oper} {f f':F} {s s':S} (h:runDraw P call l.toArray f s=some (f',s')):
  ∃ E bs,Drawn P l E bs f s∧(∀ t,f'.tm.get t=phi l E f (fun i=>decide (i<l.length)) t)∧f'.n=f.n∧f'.ds=f.ds∧
   s'=putsI s.nx (fun j=>(xR E j).x) (fun j=>(xR E j).kd==2&&unfl E (masks l []) (n9 E E.length) j E.length) E.length (bs.getD (n9 E E.length) default):=by
 unfold runDraw at h
 simp only [aaW] at h
 split at h
 case h_2=>simp at h
 rename_i ff E bs hr
 split at h<;>simp only [aal,aaq,reduceCtorEq] at h
 rename_i hchk
 obtain ⟨rfl,rfl⟩:=h
 simp only [aas] at hchk
 obtain ⟨hord,hall⟩:=hchk
 obtain ⟨e2,b2,hE,he2,hbs,hbl,Fm,hF0,hFe,htell⟩:=runD_spec hr (by simp [n9])
 simp only [aaN] at hE hbs
 subst hE
 simp only [aaA,aaL] at hF0 htell
 have hfac:∀ j o,l[j]?=some o→OFacts l E (masks l []) j o:=fun j o ho=>ordOK_facts hord ho
 have hframe:∀ j,j≤l.length→(∀ t,(Fm j).tm.get t=phi l E f (fun i=>decide (i<j)) t)∧(Fm j).n=f.n∧(Fm j).ds=f.ds:=by
  intro j;induction j with
  |zero=>
   intro _
   rw [hF0]
   refine ⟨fun t=>?_,rfl,rfl⟩
   unfold phi
   cases iO l t<;>simp
  |succ j ih=>
   intro hj
   obtain ⟨h1,h2,h3⟩:=ih (by omega)
   have ho:l[j]?=some l[j]:=by simp
   have T:=htell j _ ho
   obtain ⟨p1,p2⟩:=put_n T.put
   refine ⟨fun t=>?_,by rw [p1,h2],by rw [p2,h3]⟩
   have hp:=T.put
   rw [F.put_eq] at hp
   unfold phi
   split at hp
   ·rename_i d hd
    split at hp<;>simp only [aal,reduceCtorEq] at hp
    rw [←hp]
    simp only [Tr.get_set]
    have hw:=(hfac j _ ho).dst d hd
    by_cases ht:t=d
    ·subst ht
     rw [hw]
     simp
    ·rw [if_neg ht,h1 t]
     unfold phi
     cases hwt:iO l t with
     |none=>rfl
     |some i=>
      have hij:i≠j:=by
       rintro rfl;obtain ⟨o',a1,a2⟩:=fE hwt;rw [ho] at a1;cases a1;rw [hd] at a2;cases a2;exact ht rfl
      have:decide (i<j)=decide (i<j+1):=by simp;omega
      simp only [this]
   ·rename_i hd
    simp only [aal] at hp
    rw [←hp,h1 t]
    unfold phi
    cases hwt:iO l t with
    |none=>rfl
    |some i=>
     have hij:i≠j:=by
      rintro rfl;obtain ⟨o',a1,a2⟩:=fE hwt;rw [ho] at a1;cases a1;rw [hd] at a2;cases a2
     have:decide (i<j)=decide (i<j+1):=by simp;omega
     simp only [this]
 have hlen:E.length=l.length:=he2
 refine ⟨E,bs,⟨hlen,hfac,fun j o ho t=>?_,fun j o d ho hd=>?_,fun j o ho=>(htell j o ho).go,fun j o ho=>(htell j o ho).k4,fun j o ho h3=>⟨_,rfl,?_⟩,fun j o ho n4 n3 n2 k hk hmay=>?_,fun j o ho h2=>?_,?_⟩,?_,?_,?_,rfl⟩
 ·have hj:=(aao.1 ho).1
  rw [(htell j o ho).fr]
  exact (hframe j (by omega)).1 t
 ·have hj:=(aao.1 ho).1
  have hp:=(htell j o ho).put
  rw [F.put_eq] at hp
  rw [hd] at hp
  simp only at hp
  split at hp<;>simp only [aal,reduceCtorEq] at hp
  rename_i hb
  have hb':d< (Fm j).n:=by simpa [Nat.blt_eq] using hb
  rw [(hframe j (by omega)).2.1] at hb'
  exact hb'
 ·have:=(htell j o ho).k3 h3
  unfold stepW at this
  split at this
  ·rename_i x args ats hop
   split at this
   case h_2=>simp at this
   rename_i g cap hx
   exact .inl ⟨x,args,ats,g,cap,hop,hx,hcall _ _ _ _ _ this⟩
  ·exact .inr this
 ·obtain ⟨hkd,s0,s1,he,_⟩:=(htell j o ho).k2 n4 n3
  have hle:kind o.op≤3:=by
   unfold kind;split<;>simp
  by_cases h0:kind o.op=0
  ·exact (wF h0 he).2 _ _
  ·have h1:kind o.op=1:=by omega
   have hc:=chkAll_one hall ho
   rw [aaL] at hc
   unfold chkOne at hc
   rw [hkd,h1] at hc
   simp only [allTo_iff] at hc
   have:=hc k (by rw [hbl,hlen];omega)
   rw [hmay] at this
   simp only [Bool.not_true,Bool.false_or] at this
   split at this
   ·rename_i v u hv
    have e1:=V.eq_of this
    have e2:=iZ h1 hv
    rw [hv,e1,e2]
   ·cases this
 ·obtain ⟨hkd,s0,s1,he,hx⟩:=(htell j o ho).k2 (by omega) (by omega)
  rw [h2] at hkd
  obtain ⟨x,hx1,hx2⟩:=evalOp_alloc hkd.symm he
  refine ⟨⟨x,?_,hx2⟩,fun k hk hu=>?_⟩
  ·rw [hx h2,hx1,aae,if_pos rfl]
  ·have hc:=chkAll_one hall ho
   rw [aaL] at hc
   unfold chkOne at hc
   rw [h2] at hc
   simp only [allTo_iff] at hc
   have:=hc k (by rw [hbl,hlen];omega)
   rw [hu] at this
   simpa using this
 ·rw [hbs]
  rfl
 ·rw [hFe,hlen]
  exact (hframe l.length (aat _)).1
 ·rw [hFe,hlen]
  exact (hframe l.length (aat _)).2.1
 ·rw [hFe,hlen]
  exact (hframe l.length (aat _)).2.2
end Go.En
end
section
namespace Go.En
open Go.RowKit
open Go.Abs (rz masks nX iO fE Yw iy put_defers)
variable {P:Program} {l:List Oper} {E:List Ent} {bs:List S} {f:F} {s:S}
abbrev bAt (bs:List S) (k:Nat):S:=bs.getD k default
def SP (l:List Oper) (E:List Ent) (bs:List S) (s:S) (L:Array Bool) (k:Nat):S:=
 putsI s.nx (fun j=>(xR E j).x) (fun j=>(xR E j).kd==2&&L.getD j false&&unfl E (masks l []) k j E.length) E.length (bAt bs k)
structure DInv (l:List Oper) (E:List Ent) (bs:List S) (f:F) (s:S) (c0:C) (w0:World) (L:Array Bool) (k:Nat) (a:Act) (w:World) (c:C):Prop where
 size:L.size=l.length
 closed:∀ j o,l[j]?=some o→L.getD j false=true→∀ e∈o.after,Region.binds .any e=true→L.getD e.on false=true
 kle:k≤n9 E l.length
 phase:∀ i,i<l.length→isW E i=true→(L.getD i false=true↔n9 E i<k)
 step:Step (fun b=>s.nx≤b) c0 s w0 c (SP l E bs s L k) w
 fresh:∀ j,j<l.length→L.getD j false=false→c (s.nx+j)=none
 nx:s.nx+l.length≤(bAt bs k).nx
 tm:∀ t x,phi l E f (fun i=>L.getD i false) t=some x→Rel c (a.tmps.getD t undef) x
 sz:a.tmps.size=f.n
 ds:DsRel c a.defers f.ds
section
variable {c0:C} {w0:World} {L:Array Bool} {k:Nat} {a:Act} {w:World} {c:C}
def DInv.F9 (h:DInv l E bs f s c0 w0 L k a w c) {i j:Nat} (hb:rz l i j):
  (∃ o,l[j]?=some o∧∀ e∈o.after,Region.binds .any e=true→L.getD e.on false=true)→L.getD i false=true:=by
 induction hb with
 |one j o e ho he hbe=>
  rintro ⟨o',ho',hall⟩
  rw [ho] at ho'
  cases ho'
  exact hall e he hbe
 |step i j o e ho he hbe _ ih=>
  rintro ⟨o',ho',hall⟩
  rw [ho] at ho'
  cases ho'
  have h1:=hall e he hbe
  have hlt:e.on<l.length:=by
   rw [←h.size];rcases abe e.on L.size with h2|h2
   ·exact h2
   ·simp [abn h2] at h1
  exact ih ⟨l[e.on],by simp [hlt],fun e' he' hbe'=>h.closed e.on _ (by simp [hlt]) h1 e' he' hbe'⟩
def DInv.KS (h:DInv l E bs f s c0 w0 L k a w c) {i j:Nat} (hb:rz l i j) (hj:L.getD j false=true):L.getD i false=true:=by
 have hlt:j<l.length:=by
  rw [←h.size];rcases abe j L.size with h2|h2
  ·exact h2
  ·simp [abn h2] at hj
 exact h.F9 hb ⟨l[j],by simp [hlt],fun e' he' hbe'=>h.closed j _ (by simp [hlt]) hj e' he' hbe'⟩
def SP_get (hE:E.length=l.length) (b:Nat):
  (∃ i y,i<l.length∧b=s.nx+i∧(xR E i).kd=2∧L.getD i false=true∧unfl E (masks l []) k i E.length=true∧(xR E i).x=some y∧(SP l E bs s L k).h.get b=some y)∨
  ((∀ i,i<l.length→b=s.nx+i→(xR E i).kd=2→L.getD i false=true→unfl E (masks l []) k i E.length=true→(xR E i).x=none)∧(SP l E bs s L k).h.get b=(bAt bs k).h.get b):=by
 rcases putsI_get s.nx (fun j=>(xR E j).x) (fun j=>(xR E j).kd==2&&L.getD j false&&unfl E (masks l []) k j E.length) E.length (bAt bs k) b with ⟨i,y,h1,h2,h3,h4,h5⟩|⟨h1,h2⟩
 ·simp only [aas,beq_iff_eq] at h3
  exact .inl ⟨i,y,by omega,h2,h3.1.1,h3.1.2,h3.2,h4,h5⟩
 ·exact .inr ⟨fun i hi hb a1 a2 a3=>h1 i (by omega) hb (by simp only [aas,beq_iff_eq];exact ⟨⟨a1,a2⟩,a3⟩),h2⟩
def stR_get (j:Nat) (b:Nat):
  (∃ i y,i<j∧b=s.nx+i∧(xR E i).kd=2∧((masks l []).getD j 0).testBit i=true∧unfl E (masks l []) k i E.length=true∧(xR E i).x=some y∧(stR E (masks l []) s.nx j k (bAt bs k)).h.get b=some y)∨
  ((∀ i,i<j→b=s.nx+i→(xR E i).kd=2→((masks l []).getD j 0).testBit i=true→unfl E (masks l []) k i E.length=true→(xR E i).x=none)∧(stR E (masks l []) s.nx j k (bAt bs k)).h.get b=(bAt bs k).h.get b):=by
 rcases putsI_get s.nx (fun j=>(xR E j).x) (fun i=>(xR E i).kd==2&& ((masks l []).getD j 0).testBit i&&unfl E (masks l []) k i E.length) j (bAt bs k) b with ⟨i,y,h1,h2,h3,h4,h5⟩|⟨h1,h2⟩
 ·simp only [aas,beq_iff_eq] at h3
  exact .inl ⟨i,y,h1,h2,h3.1.1,h3.1.2,h3.2,h4,h5⟩
 ·exact .inr ⟨fun i hi hb a1 a2 a3=>h1 i hi hb (by simp only [aas,beq_iff_eq];exact ⟨⟨a1,a2⟩,a3⟩),h2⟩
def getD_lt {i:Nat} (h:L.getD i false=true):i<L.size:=by
 rcases abe i L.size with h2|h2
 ·exact h2
 ·simp [abn h2] at h
def DInv.sub (R:Drawn P l E bs f s) (I:DInv l E bs f s c0 w0 L k a w c) {j:Nat} {o:Oper} (ho:l[j]?=some o) (hr:∀ e∈o.after,Region.binds .any e=true→L.getD e.on false=true) (b:Nat):
  (stR E (masks l []) s.nx j k (bAt bs k)).h.get b=none∨(stR E (masks l []) s.nx j k (bAt bs k)).h.get b=(SP l E bs s L k).h.get b:=by
 rcases stR_get (l:=l) (E:=E) (bs:=bs) (s:=s) (k:=k) j b with ⟨i,y,h1,h2,h3,h4,h5,h6,h7⟩|⟨h1,h2⟩
 ·right
  have hLi:=I.F9 (mask_bef h4) ⟨o,ho,hr⟩
  have hlt:=getD_lt hLi
  rw [I.size] at hlt
  rcases SP_get (l:=l) (E:=E) (bs:=bs) (s:=s) (L:=L) (k:=k) R.len b with ⟨i',y',g1,g2,g3,g4,g5,g6,g7⟩|⟨g1,_⟩
  ·have:i'=i:=by omega
   subst this
   rw [h6] at g6
   cases g6
   rw [h7,g7]
  ·have:=g1 i hlt h2 h3 hLi h5
   rw [this] at h6
   cases h6
 ·rcases SP_get (l:=l) (E:=E) (bs:=bs) (s:=s) (L:=L) (k:=k) R.len b with ⟨i',y',g1,g2,g3,g4,g5,g6,g7⟩|⟨_,g2⟩
  ·left
   rw [h2,g2]
   exact (R.k2 i' _ (by simp [g1];rfl) g3).2 k I.kle g5
  ·right
   rw [h2,g2]
def DInv.self (R:Drawn P l E bs f s) {j:Nat} (hj:L.getD j false=false):(SP l E bs s L k).h.get (s.nx+j)=(stR E (masks l []) s.nx j k (bAt bs k)).h.get (s.nx+j):=by
 rcases SP_get (l:=l) (E:=E) (bs:=bs) (s:=s) (L:=L) (k:=k) R.len (s.nx+j) with ⟨i',y',g1,g2,g3,g4,g5,g6,g7⟩|⟨_,g2⟩
 ·have:i'=j:=by omega
  subst this;rw [g4] at hj;cases hj
 ·rcases stR_get (l:=l) (E:=E) (bs:=bs) (s:=s) (k:=k) j (s.nx+j) with ⟨i,y,h1,h2,h3,h4,h5,h6,h7⟩|⟨h1,h2⟩
  ·omega
  ·rw [g2,h2]
def DInv.look (R:Drawn P l E bs f s) (I:DInv l E bs f s c0 w0 L k a w c) {j:Nat} {o:Oper} (ho:l[j]?=some o) (hj:L.getD j false=false) (hr:∀ e∈o.after,Region.binds .any e=true→L.getD e.on false=true):
  cC c a.tmps (cutF (xR E j).fr (o.looksAt l.toArray))∧(∀ t∈o.looksAt l.toArray,(cutF (xR E j).fr (o.looksAt l.toArray)).get t=(xR E j).fr.get t):=by
 have key:∀ t∈o.looksAt l.toArray,(cutF (xR E j).fr (o.looksAt l.toArray)).get t=(xR E j).fr.get t:=fun t ht=>by rw [cutF_get,if_pos ht]
 refine ⟨fun t x hx=>?_,key⟩
 rw [cutF_get] at hx
 split at hx
 ·rename_i ht
  rw [R.fr j o ho t] at hx
  refine I.tm t x ?_
  rw [←hx]
  unfold phi
  cases hw:iO l t with
  |none=>rfl
  |some i=>
   have:decide (i<j)=L.getD i false:=by
    rcases (R.facts j o ho).look t ht i hw with rfl|⟨h1,h2⟩|⟨h1,h2⟩
    ·rw [hj];simp
    ·rw [I.F9 h2 ⟨o,ho,hr⟩];simp [h1]
    ·cases hi:L.getD i false with
     |false=>simp;omega
     |true=>rw [I.KS h2 hi] at hj;simp at hj
   simp only [this]
 ·cases hx
def ev_cut {fr fr':Fr} {o:Oper} {all:Array Oper} (h:∀ t∈o.looksAt all,fr'.get t=fr.get t):∀ x∈o.op.operands,ev fr' x=ev fr x:=by
 intro x hx;cases x with
 |tmp t=>
  have:t∈o.looksAt all:=by
   unfold Oper.looksAt;refine List.mem_append_left _ (List.mem_filterMap.2 ⟨.tmp t,by simpa using hx,rfl⟩)
  simp only [ev,h t this]
 |const v=>rfl
 |global g=>rfl
 |func g=>rfl
def goes_cut {fr fr':Fr} {o:Oper} {all:Array Oper} (h:∀ t∈o.looksAt all,fr'.get t=fr.get t):goes all o fr'=goes all o fr:=by
 unfold goes;split
 ·rfl
 ·rename_i j b hg;split
  ·rename_i d hd;have:d∈o.looksAt all:=by
    unfold Oper.looksAt;refine List.mem_append_right _ ?_;rw [hg];simp [hd]
   rw [h d this]
  ·rfl
def phi_set {j:Nat} {o:Oper} (hsz:L.size=l.length) (ho:l[j]?=some o) (hd:∀ d,o.dst=some d→iO l d=some j) (hb:∀ d,o.dst=some d→d<f.n) {c':C} (hext:Ext c c') {a:Act} (hs:a.tmps.size=f.n)
  (h:∀ t x,phi l E f (fun i=>L.getD i false) t=some x→Rel c (a.tmps.getD t undef) x) {v:Value} (hv:Rel c' v (xR E j).v):
  ∀ t x,phi l E f (fun i=>(L.setIfInBounds j true).getD i false) t=some x→Rel c' ((a.put o.dst v).tmps.getD t undef) x:=by
 have hlt:j<L.size:=by rw [hsz];exact (aao.1 ho).1
 have key:∀ i,i≠j→(L.setIfInBounds j true).getD i false=L.getD i false:=fun i hi=>getD_set_ne false (Ne.symm hi)
 have keyj:(L.setIfInBounds j true).getD j false=true:=by simp [hlt]
 intro t x hx
 have same:o.dst≠some t→phi l E f (fun i=>L.getD i false) t=some x:=by
  intro hdt;rw [←hx];unfold phi;cases hw:iO l t with
  |none=>rfl
  |some i=>
   have hi:i≠j:=by
    rintro rfl;obtain ⟨o',h1,h2⟩:=fE hw;rw [ho] at h1;cases h1;exact hdt h2
   simp only [key i hi]
 cases hdst:o.dst with
 |none=>
  have:=h t x (same (by rw [hdst];simp))
  exact (show Rel c (((a.put none v)).tmps.getD t undef) x from this).mono hext
 |some d=>
  by_cases htd:t=d
  ·subst htd
   have hw:=hd t hdst
   unfold phi at hx
   rw [hw] at hx
   simp only [keyj,if_true,aal] at hx
   subst hx
   have:t<a.tmps.size:=by rw [hs];exact hb t hdst
   show Rel c' ((a.tmps.setIfInBounds t v).getD t undef) _
   simp [Array.getD,this,hv]
  ·have:=h t x (same (by rw [hdst];simp;exact fun e=>htd e.symm))
   show Rel c' ((a.tmps.setIfInBounds d v).getD t undef) x
   have h2:(a.tmps.setIfInBounds d v).getD t undef=a.tmps.getD t undef:=by
    simp [aap,abu (Ne.symm htd)]
   rw [h2]
   exact this.mono hext
def FRel.ds_put {a:Act} {xs:List (FuncId×List V)} (h:DsRel c a.defers xs) (d:Option Tmp) (v:Value):DsRel c (a.put d v).defers xs:=by rw [put_defers];exact h
end
end Go.En
end
section
namespace Go.En
open Go.RowKit
open Go.Abs (rz masks nX iO fE Yw iy put_defers)
variable {P:Program} {l:List Oper} {E:List Ent} {bs:List S} {f:F} {s:S} {c0:C} {w0:World} {L:Array Bool} {k:Nat} {a:Act} {w:World} {c:C}
def DInv.next (R:Drawn P l E bs f s) (I:DInv l E bs f s c0 w0 L k a w c) {j:Nat} {o:Oper} (ho:l[j]?=some o) (hr:∀ e∈o.after,Region.binds .any e=true→L.getD e.on false=true)
  {k':Nat} {c':C} {w':World} {v:Value} (hstep:Step (fun b=>s.nx≤b) c (SP l E bs s L k) w c' (SP l E bs s (L.setIfInBounds j true) k') w') (hk:(isW E j=true∧n9 E j=k∧k'=k+1)∨(isW E j=false∧k'=k))
  (hf:∀ i,i<l.length→i≠j→L.getD i false=false→c' (s.nx+i)=none) (hnx:s.nx+l.length≤(bAt bs k').nx) (hv:Rel c' v (xR E j).v):
  DInv l E bs f s c0 w0 (L.setIfInBounds j true) k' (a.put o.dst v) w' c':=by
 have hjl:=(aao.1 ho).1
 have hjL:j<L.size:=by rw [I.size];exact hjl
 have hoth:∀ i,i≠j→(L.setIfInBounds j true).getD i false=L.getD i false:=fun i hi=>getD_set_ne false (Ne.symm hi)
 have hself:(L.setIfInBounds j true).getD j false=true:=by simp [hjL]
 refine ⟨by simpa using I.size,fun i o' hi' hi e he hb=>?_,?_,fun i hi hw=>?_,I.step.trans hstep,fun i hi hLi=>?_,hnx,?_,(iy _ _ _).trans I.sz,FRel.ds_put (I.ds.mono hstep.ext) _ _⟩
 ·by_cases hij:i=j
  ·subst hij
   rw [ho] at hi'
   cases hi'
   exact getD_set_true (hr e he hb)
  ·rw [hoth i hij] at hi
   exact getD_set_true (I.closed i o' hi' hi e he hb)
 ·rcases hk with ⟨h1,h2,h3⟩|⟨h1,h2⟩
  ·have:=wnum_lt hjl h1
   omega
  ·rw [h2];exact I.kle
 ·by_cases hij:i=j
  ·subst hij
   rcases hk with ⟨h1,h2,h3⟩|⟨h1,h2⟩
   ·rw [hself];simp;omega
   ·rw [hw] at h1;cases h1
  ·rw [hoth i hij]
   have:=I.phase i hi hw
   rcases hk with ⟨h1,h2,h3⟩|⟨h1,h2⟩
   ·have hne:n9 E i≠k:=fun e=>hij (wnum_inj hw h1 (by rw [e,h2]))
    rw [this]
    omega
   ·rw [h2];exact this
 ·have hij:i≠j:=by rintro rfl;rw [hself] at hLi;cases hLi
  rw [hoth i hij] at hLi
  exact hf i hi hij hLi
 ·exact phi_set I.size ho (R.facts j o ho).dst (fun d hd=>R.bound j o d ho hd) hstep.ext I.sz I.tm hv
def SP_same (hE:E.length=l.length) {j:Nat} (h:(xR E j).kd≠2):SP l E bs s (L.setIfInBounds j true) k=SP l E bs s L k:=by
 unfold SP;refine putsI_congr fun i hi=>?_;by_cases hij:i=j
 ·subst hij;have:((xR E i).kd==2)=false:=by simpa using h
  simp [this]
 ·rw [getD_set_ne false (Ne.symm hij)]
def SP_made (hE:E.length=l.length) (hsz:L.size=l.length) {j:Nat} (hj:j<l.length) {x:B} (hk:(xR E j).kd=2) (hx:(xR E j).x=some x) (hu:unfl E (masks l []) k j E.length=true) (b:Nat):
  (SP l E bs s (L.setIfInBounds j true) k).h.get b=if b=s.nx+j then some x else (SP l E bs s L k).h.get b:=by
 have hself:(L.setIfInBounds j true).getD j false=true:=by simp [hsz,hj]
 rcases SP_get (l:=l) (E:=E) (bs:=bs) (s:=s) (L:=L.setIfInBounds j true) (k:=k) hE b with ⟨i,y,g1,g2,g3,g4,g5,g6,g7⟩|⟨g1,g2⟩
 ·by_cases hij:i=j
  ·subst hij
   rw [hx] at g6
   cases g6
   rw [if_pos g2,g7]
  ·rw [if_neg (by omega),g7]
   rw [getD_set_ne false (Ne.symm hij)] at g4
   rcases SP_get (l:=l) (E:=E) (bs:=bs) (s:=s) (L:=L) (k:=k) hE b with ⟨i',y',q1,q2,q3,q4,q5,q6,q7⟩|⟨q1,q2⟩
   ·have:i'=i:=by omega
    subst this
    rw [g6] at q6
    cases q6
    rw [q7]
   ·have:=q1 i g1 g2 g3 g4 g5
    rw [this] at g6
    cases g6
 ·by_cases hb:b=s.nx+j
  ·have:=g1 j hj hb hk hself hu
   rw [this] at hx
   cases hx
  ·rw [if_neg hb,g2]
   rcases SP_get (l:=l) (E:=E) (bs:=bs) (s:=s) (L:=L) (k:=k) hE b with ⟨i',y',q1,q2,q3,q4,q5,q6,q7⟩|⟨q1,q2⟩
   ·have hij:i'≠j:=fun e=>hb (by rw [q2,e])
    have:=g1 i' q1 q2 q3 (by rw [getD_set_ne false (Ne.symm hij)];exact q4) q5
    rw [this] at q6
    cases q6
   ·rw [q2]
def drawn_op (R:Drawn P l E bs f s) (I:DInv l E bs f s c0 w0 L k a w c) {j:Nat} {o:Oper} (ho:l[j]?=some o) (hj:L.getD j false=false) (hr:∀ e∈o.after,Region.binds .any e=true→L.getD e.on false=true) {Q:Exit→Act→World→Prop} {K:Act→World→Prop}
  (hK:∀ k' c' w' a',DInv l E bs f s c0 w0 (L.setIfInBounds j true) k' a' w' c'→K a' w'):wpOp P l.toArray Q j K a w:=by
 have hjl:=(aao.1 ho).1
 have hEl:=R.len
 obtain ⟨hlook,hcut⟩:=I.look R ho hj hr
 have hev:=ev_cut hcut
 have hgo:goes l.toArray o (cutF (xR E j).fr (o.looksAt l.toArray))=some (!((xR E j).kd==4)):=by rw [goes_cut hcut];exact R.go j o ho
 have hop:∀ (st:S) (id:Nat),evalOp P o.op (cutF (xR E j).fr (o.looksAt l.toArray)) st id=evalOp P o.op (xR E j).fr st id:=fun st id=>evalOp_congr o.op hev
 have hwant:=ZC hlook hgo
 have hid:=I.fresh j hjl hj
 have hRnx:(stR E (masks l []) s.nx j k (bAt bs k)).nx=(SP l E bs s L k).nx:=by simp only [stR,SP,putsI_nx]
 have hRnx':(stR E (masks l []) s.nx j k (bAt bs k)).nx=(bAt bs k).nx:=by simp only [stR,putsI_nx]
 have hconf:=I.step.DS
 have hsub:=I.sub R ho hr
 have hcR:=hconf.sub hRnx hsub
 have hbef:∀ i,i<l.length→isW E i=true→rz l i j→n9 E i<k:=fun i hi hw hb=>(I.phase i hi hw).1 (I.F9 hb ⟨o,ho,hr⟩)
 have haft:∀ i,i<l.length→isW E i=true→rz l j i→k≤n9 E i:=fun i hi hw hb=>by
  rcases abe (n9 E i) k with h|h
  ·have:=I.KS hb ((I.phase i hi hw).2 h);rw [this] at hj;cases hj
  ·exact h
 have hmay:mayAt E (masks l []) j k E.length=true:=mayAt_iff.2 fun i hi hw=>⟨fun hb=>hbef i (by omega) hw (mask_bef hb),fun hb=>haft i (by omega) hw (mask_bef hb)⟩
 have hunfl:unfl E (masks l []) k j E.length=true:=unfl_iff.2 fun i hi hw hlt=>by
  cases hb:((masks l []).getD i 0).testBit j with
  |false=>rfl
  |true=>
   have:=haft i (by omega) hw (mask_bef hb)
   omega
 have hv2:∀ b,(b=s.nx+j∨(stR E (masks l []) s.nx j k (bAt bs k)).h.get b≠none)→(SP l E bs s L k).h.get b=(stR E (masks l []) s.nx j k (bAt bs k)).h.get b:=by
  intro b hb;rcases hb with rfl|hb
  ·exact DInv.self R hj
  ·rcases hsub b with h1|h1
   ·exact absurd h1 hb
   ·exact h1.symm
 unfold wpOp
 rw [show l.toArray[j]?=some o by simpa using ho]
 simp only
 rw [hwant]
 by_cases h4:(xR E j).kd=4
 ·rw [h4]
  simp only [beq_self_eq_true,Bool.not_true,aa3,if_false]
  have hW:isW E j=false:=by simp [isW,h4]
  refine hK k c w _ (I.next R ho hr (v:=undef) ?_ (.inr ⟨hW,rfl⟩) (fun i hi _ h=>I.fresh i hi h) I.nx ?_)
  ·rw [SP_same hEl (by omega)]
   exact .refl hconf
  ·rw [R.k4 j o ho h4]
   exact .Uk
 ·have hne:(!((xR E j).kd==4))=true:=by simpa using h4
  rw [hne]
  simp only [if_true]
  refine .inl ?_
  have hlt:s.nx+j< (stR E (masks l []) s.nx j k (bAt bs k)).nx:=by rw [hRnx'];have:=I.nx;omega
  by_cases h3:(xR E j).kd=3
  · -- a writer
   have hW:isW E j=true:=by simp [isW,h3]
   have hwk:n9 E j=k:=by
    rcases Nat.lt_trichotomy (n9 E j) k with h|h|h
    ·have:=(I.phase j hjl hW).2 h;rw [this] at hj;cases hj
    ·exact h
    ·obtain ⟨i,h5,h6,h7⟩:=wnum_find h;have hLi:L.getD i false=false:=by
      cases hq:L.getD i false with
      |false=>rfl
      |true=>have:=(I.phase i (by omega) h6).1 hq;omega
     rcases (R.facts j o ho).wr hW i (by omega) h6 with h8|⟨_,h8⟩|⟨h8,_⟩
     ·omega
     ·rw [I.F9 h8 ⟨o,ho,hr⟩] at hLi;cases hLi
     ·omega
   obtain ⟨k2,hk2,hst⟩:=R.k3 j o ho h3
   rw [hwk] at hk2
   subst hk2
   have fin:∀ (c':C) (w':World) (v:Value) (D:Nat→Prop),Step D c (stR E (masks l []) s.nx j k2 (bAt bs k2)) w c' (bAt bs (k2+1)) w'→(∀ b,D b→s.nx+l.length≤b∨b=s.nx+j)→Rel c' v (xR E j).v→K (a.put o.dst v) w':=by
    intro c' w' v D hstep hD hv;have hn2:s.nx+l.length≤(bAt bs (k2+1)).nx:=by
     have:=hstep.nx;rw [hRnx'] at this;have:=I.nx;omega
    have hfr:Step (fun b=>s.nx≤b) c (SP l E bs s L k2) w c' (SP l E bs s (L.setIfInBounds j true) (k2+1)) w':=by
     refine (Step.frame (v:=SP l E bs s (L.setIfInBounds j true) (k2+1)) hconf hRnx hsub hstep ?_ ?_ (by simp only [SP,putsI_nx])).mono fun b hb=>?_
     ·intro b hb1 hb2;have hu:(bAt bs (k2+1)).h.get b=none:=by
       by_cases q:(bAt bs (k2+1)).h.get b=none
       ·exact q
       ·exact absurd hb2 (hstep.live b hb1 q)
      have hB:(bAt bs k2).h.get b=none:=by
       rcases stR_get (l:=l) (E:=E) (bs:=bs) (s:=s) (k:=k2) j b with ⟨i,y,_,_,_,_,_,_,h7⟩|⟨_,h2⟩
       ·rw [h7] at hb2;cases hb2
       ·rw [←h2];exact hb2
      rcases SP_get (l:=l) (E:=E) (bs:=bs) (s:=s) (L:=L.setIfInBounds j true) (k:=k2+1) hEl b with ⟨i,y,g1,g2,g3,g4,g5,g6,g7⟩|⟨g1,g2⟩
      ·have hij:i≠j:=by rintro rfl;omega
       rw [getD_set_ne false (Ne.symm hij)] at g4;have g5':unfl E (masks l []) k2 i E.length=true:=unfl_iff.2 fun w hw a1 a2=>unfl_iff.1 g5 w hw a1 (by omega);rcases SP_get (l:=l) (E:=E) (bs:=bs) (s:=s) (L:=L) (k:=k2) hEl b with ⟨i',y',q1,q2,q3,q4,q5,q6,q7⟩|⟨q1,q2⟩
       ·have:i'=i:=by omega
        subst this;rw [g6] at q6;cases q6;rw [g7,q7]
       ·have:=q1 i g1 g2 g3 g4 g5';rw [this] at g6;cases g6
      ·rw [g2,hu];rcases SP_get (l:=l) (E:=E) (bs:=bs) (s:=s) (L:=L) (k:=k2) hEl b with ⟨i',y',q1,q2,q3,q4,q5,q6,q7⟩|⟨q1,q2⟩
       ·exfalso;have hij:i'≠j:=by rintro rfl;omega
        by_cases hu':unfl E (masks l []) (k2+1) i' E.length=true
        ·have:=g1 i' q1 q2 q3 (by rw [getD_set_ne false (Ne.symm hij)];exact q4) hu';rw [this] at q6;cases q6
        · -- it has been laid by this writer:then it stands in what the writer looks at
         have:∃ w,w<E.length∧isW E w=true∧n9 E w<k2+1∧((masks l []).getD w 0).testBit i'=true:=by
          by_cases hex:∃ w,w<E.length∧isW E w=true∧n9 E w<k2+1∧((masks l []).getD w 0).testBit i'=true
          ·exact hex
          ·exfalso;refine hu' (unfl_iff.2 fun w hw a1 a2=>?_);cases hb3:((masks l []).getD w 0).testBit i' with
           |false=>rfl
           |true=>exact (hex ⟨w,hw,a1,a2,hb3⟩).elim
         obtain ⟨wj,hw1,hw2,hw3,hw4⟩:=this
         have hwj:wj=j:=by
          rcases abe (n9 E wj) k2 with h|h
          ·have:=unfl_iff.1 q5 wj hw1 hw2 h;rw [hw4] at this;cases this
          ·exact wnum_inj hw2 hW (by omega)
         subst hwj
         have hlt2:=rz.lt (fun j o ho=>(R.facts j o ho).Um) (mask_bef hw4)
         rcases stR_get (l:=l) (E:=E) (bs:=bs) (s:=s) (k:=k2) wj b with ⟨_,_,_,_,_,_,_,_,h7⟩|⟨h1,_⟩
         ·rw [h7] at hb2;cases hb2
         ·have:=h1 i' hlt2 q2 q3 hw4 q5
          rw [this] at q6
          cases q6
       ·rw [q2,hB]
     ·intro b hcb' hb;rcases SP_get (l:=l) (E:=E) (bs:=bs) (s:=s) (L:=L.setIfInBounds j true) (k:=k2+1) hEl b with ⟨i,y,g1,g2,g3,g4,g5,g6,g7⟩|⟨g1,g2⟩
      ·exfalso;have hij:i≠j:=by rintro rfl;omega
       rw [getD_set_ne false (Ne.symm hij)] at g4;have hb:(stR E (masks l []) s.nx j k2 (bAt bs k2)).h.get b≠none:=by
        rcases hb with hb|hb
        ·rcases hD b (hstep.dom b hb hcb') with h|h<;>omega
        ·exact hb
       have g5':unfl E (masks l []) k2 i E.length=true:=unfl_iff.2 fun w hw a1 a2=>unfl_iff.1 g5 w hw a1 (by omega);rcases stR_get (l:=l) (E:=E) (bs:=bs) (s:=s) (k:=k2) j b with ⟨i',y',h1,h2,h3',h4',h5,h6,h7⟩|⟨_,h2⟩
       ·have:i'=i:=by omega
        subst this;have:=unfl_iff.1 g5 j (by omega) hW (by omega);rw [h4'] at this;cases this
       ·rw [h2,g2] at hb;exact hb ((R.k2 i _ (by simp [g1];rfl) g3).2 k2 I.kle g5')
      ·exact g2
     ·rcases hD b hb with h|h<;>omega
    refine hK (k2+1) c' w' _ (I.next R ho hr hfr (.inl ⟨hW,hwk,rfl⟩) (fun i hi hij hLi=>?_) hn2 hv);cases hq:c' (s.nx+i) with
    |none=>rfl
    |some y=>
     have:=hD _ (hstep.dom (s.nx+i) (I.fresh i hi hLi) (by rw [hq];simp))
     omega
   rcases hst with ⟨x,args,ats,g,cap,hop1,hx,hcall⟩|he
   ·have hx':ev (cutF (xR E j).fr (o.looksAt l.toArray)) x= .jE g cap:=by rw [hev x (by simp [hop1,Op.operands,Call.operands])];exact hx
    have hargs':evs (cutF (xR E j).fr (o.looksAt l.toArray)) args.toList=evs (xR E j).fr args.toList:=evs_congr _ fun y hy=>hev y (by simp [hop1,Op.operands,Call.operands];exact .inr (by simpa using hy))
    rw [←hargs'] at hcall
    have hxr:=bJ hlook x
    rw [hx'] at hxr
    generalize hq:a.eval x=q at hxr
    cases hxr with|jE _ arr _ hs hr'=>?_
    unfold Oper.wp
    have hargs:=evs_rel hlook args hs hr'
    have hexec:execOp a.eval o=callFunc g (args.map a.eval++arr):=by
     simp only [execOp,hop1,resolve,hq,Deferred.ofValue,pure_bind,invoke];simp
    rw [hexec]
    have hDn:∀ b,(stR E (masks l []) s.nx j k2 (bAt bs k2)).nx≤b→s.nx+l.length≤b∨b=s.nx+j:=fun b hb=>by rw [hRnx'] at hb;have:=I.nx;exact .inl (by omega)
    rcases hcall c w _ hcR hargs with ⟨h1,h2⟩|⟨cv,w',h1,cv',c',h2,h5,h6⟩
    ·rw [h1,Oper.upon_enter]
     refine h2.mono ?_
     rintro e w' ⟨cv,c',rfl,h5,h6⟩
     exact fin c' w' cv _ h6 hDn h5
    ·rw [h1]
     cases h2
     exact fin c' w' cv _ h6 hDn h5
   ·rw [←hop] at he
    obtain ⟨cv,w',c',hrn,hv,hstep⟩:=oz (P:=P) (D:=fun b=>b=s.nx+j) hcR hid hlt rfl o hlook he
    have hk:=fin c' w' cv _ hstep (fun b hb=> .inr hb) hv
    unfold Oper.wp
    rcases hrn with hrn|⟨hrn,rfl⟩<;>rw [hrn]<;>exact hk
  ·have hW:isW E j=false:=by simp [isW,h3]
   have fresh':∀ {c':C} {w':World} {u:S},Step (fun b=>b=s.nx+j) c (stR E (masks l []) s.nx j k (bAt bs k)) w c' u w'→∀ i,i<l.length→i≠j→L.getD i false=false→c' (s.nx+i)=none:=by
    intro c' w' u hstep i hi hij hLi;cases hq:c' (s.nx+i) with
    |none=>rfl
    |some y=>
     have:=hstep.dom (s.nx+i) (I.fresh i hi hLi) (by rw [hq];simp)
     omega
   by_cases h2:(xR E j).kd=2
   ·obtain ⟨⟨x,hx,he⟩,_⟩:=R.k2 j o ho h2
    have he':=he (stR E (masks l []) s.nx j k (bAt bs k))
    rw [←hop] at he'
    obtain ⟨cv,w',c',hrn,hv,hstep⟩:=oz (P:=P) (D:=fun b=>b=s.nx+j) hcR hid hlt rfl o hlook he'
    have hmade:=SP_made (bs:=bs) (s:=s) (k:=k) hEl I.size hjl h2 hx hunfl
    have hk:K (a.put o.dst cv) w':=by
     refine hK k c' w' _ (I.next R ho hr ?_ (.inr ⟨hW,rfl⟩) (fresh' hstep) I.nx hv);refine (Step.frame (v:=SP l E bs s (L.setIfInBounds j true) k) hconf hRnx hsub hstep ?_ ?_ (by simp only [SP,stR,S.put,putsI_nx])).mono fun b hb=>by omega
     ·intro b hb1 hb2;rw [hmade b,if_neg (fun e=>hb1 (by rw [e];exact hid))]
     ·intro b hcb' hb;rw [hmade b,aae];split
      ·rfl
      ·refine hv2 b ?_;rcases hb with hb|hb
       ·exact .inl (hstep.dom b hb hcb')
       ·exact .inr hb
    unfold Oper.wp
    rcases hrn with hrn|⟨hrn,rfl⟩<;>rw [hrn]<;>exact hk
   ·have he:=R.k0 j o ho h4 h3 h2 k I.kle hmay
    rw [←hop] at he
    obtain ⟨cv,w',c',hrn,hv,hstep⟩:=oz (P:=P) (D:=fun b=>b=s.nx+j) hcR hid hlt rfl o hlook he
    have hk:K (a.put o.dst cv) w':=by
     refine hK k c' w' _ (I.next R ho hr ?_ (.inr ⟨hW,rfl⟩) (fresh' hstep) I.nx hv);rw [SP_same hEl h2];exact (Step.frame (v:=SP l E bs s L k) hconf hRnx hsub hstep (fun _ _ _=>rfl) (fun b hcb' hb=>hv2 b (hb.imp (fun h=>hstep.dom b h hcb') id)) (by simp only [SP,stR,putsI_nx])).mono fun b hb=>by omega
    unfold Oper.wp
    rcases hrn with hrn|⟨hrn,rfl⟩<;>rw [hrn]<;>exact hk
def drawn_any (R:Drawn P l E bs f s) {Q:Exit→Act→World→Prop}
  (hend:∀ a w c,Step (fun b=>s.nx≤b) c0 s w0 c (putsI s.nx (fun j=>(xR E j).x) (fun j=>(xR E j).kd==2&&unfl E (masks l []) (n9 E E.length) j E.length) E.length (bAt bs (n9 E E.length))) w→
   (∀ t x,phi l E f (fun i=>decide (i<l.length)) t=some x→Rel c (a.tmps.getD t undef) x)→a.tmps.size=f.n→DsRel c a.defers f.ds→Q .normal a w):
  ∀ (fuel:Nat) (L:Array Bool) (k:Nat) (a:Act) (w:World) (c:C),DInv l E bs f s c0 w0 L k a w c→L.count false≤fuel→wpAny P .any l.toArray Q fuel L a w:=by
 have hdone:∀ (L:Array Bool) (k:Nat) (a:Act) (w:World) (c:C),DInv l E bs f s c0 w0 L k a w c→Region.ready .any l.toArray L=[]→Q .normal a w:=by
  intro L k a w c I hr;have hall:∀ j,j<l.length→L.getD j false=true:=by
   intro j;induction j using Nat.strongRecOn with
   |ind j ih=>
    intro hj
    cases hL:L.getD j false with
    |true=>rfl
    |false=>
     have hmem:j∈Region.ready .any l.toArray L:=by
      rw [mem_ready];have hjL:j<L.size:=by rw [I.size];exact hj
      refine ⟨by simp [hjL] at hL ⊢;exact hL,l[j],by simp [hj],fun e he hb=>?_⟩;have:=(R.facts j _ (show l[j]?=some l[j] by simp [hj])).Um e he hb;exact ih e.on this (by omega)
     rw [hr] at hmem
     cases hmem
  have hk:k=n9 E l.length:=by
   rcases abe k (n9 E l.length) with h|h
   ·obtain ⟨i,h1,h2,h3⟩:=wnum_find h;have:=(I.phase i h1 h2).1 (hall i h1);omega
   ·have:=I.kle;omega
  refine hend a w c ?_ (fun t x hx=>I.tm t x ?_) I.sz I.ds
  ·have hst:=I.step;rw [hk] at hst;unfold SP at hst;rw [putsI_congr (q:=fun j=>(xR E j).kd==2&&unfl E (masks l []) (n9 E E.length) j E.length) (fun i hi=>by rw [hall i (by rw [←R.len];exact hi),R.len];simp)] at hst;rw [R.len] at hst ⊢;exact hst
  ·rw [←hx];unfold phi;cases hw:iO l t with
   |none=>rfl
   |some i=>
    obtain ⟨o,h1,_⟩:=fE hw
    have hi:=(aao.1 h1).1
    simp only [hall i hi,hi,decide_true]
 intro fuel
 induction fuel with
 |zero=>
  intro L k a w c I hcnt
  have hr:Region.ready .any l.toArray L=[]:=by
   rw [List.eq_nil_iff_forall_not_mem];intro j hj;rw [mem_ready] at hj;have h0:=hj.1;have:false∈L:=by
    rcases abe j L.size with h|h
    ·simp [h] at h0;exact h0▸abH h
    ·simp [abn h] at h0
   have:=abJ.2 this;omega
  exact ⟨hr,hdone L k a w c I hr⟩
 |succ fuel ih=>
  intro L k a w c I hcnt
  refine ⟨hdone L k a w c I,fun j hj=>?_⟩
  obtain ⟨h0,o,ho,hall⟩:=mem_ready.1 hj
  have ho':l[j]?=some o:=by simpa using ho
  have hjL:j<L.size:=by rw [I.size];exact (aao.1 ho').1
  have hjf:L.getD j false=false:=by simp [hjL] at h0 ⊢;exact h0
  exact drawn_op R I ho' hjf hall fun k' c' w' a' I'=>ih _ k' a' w' c' I' (by
   have hget:L[j]=false:=by simpa [hjL] using hjf
   have h1:(L.setIfInBounds j true).count false+1=L.count false:=by
    rw [Array.setIfInBounds,dif_pos hjL,Array.count_set];have hpos:0<L.count false:=abJ.2 (hget▸abH hjL);simp [hget];omega
   omega)
end Go.En
end
section
namespace Go.En
open Go.RowKit
open Go.Abs (masks Yw iy put_defers aK vX AG jM)
abbrev Orc:Type:=FuncId→List V→S→Option (V×S)
def recOf (o:Oper):Option Tmp:=match o.op,o.guard,o.dst with
 | .call { callee:= .builtin .recover,.. },none,some t=>some t
 |_,_,_=>none
mutual
def evC (P:Program) (O:Orc):Nat→Code→F→S→Option (X×F×S)
 |0,_,_,_=>none
 |n+1,c,f,s=>match c with
  | .skip=>some (.normal,f,s)
  | .region _ ops false=>match runOps P (evF P O n) ops ops.toList f s with
   |some (f',s')=>some (.normal,f',s')
   |none=>none
  | .region _ ops true=>match runDraw P (evF P O n) ops f s with
   |some (f',s')=>some (.normal,f',s')
   |none=>none
  | .seq a b=>match evC P O n a f s with
   |some (.normal,f',s')=>evC P O n b f' s'
   |r=>r
  | .cond x a b=>match ev f.tm x with
   | .bool true=>evC P O n a f s
   | .bool false=>evC P O n b f s
   |_=>none
  | .block id b=>match evC P O n b f s with
   |some (.exit j,f',s')=>if j=id then some (.normal,f',s') else some (.exit j,f',s')
   |r=>r
  | .loop b=>match evC P O n b f s with
   |some (.normal,f',s')=>evC P O n (.loop b) f' s'
   |r=>r
  | .exit id=>some (.exit id,f,s)
  | .scope b=>evC P O n b f s
  | .label _=>some (.normal,f,s)
  | .ret=>some (.ret,f,s)
  |_=>none
def evF (P:Program) (O:Orc):Nat→FuncId→List V→S→Option (V×S)
 |0,_,_,_=>none
 |n+1,g,args,s=>match O g args s with
  |some r=>some r
  |none=>match P.funcs[g]? with
   |some fn=>match fn.body with
    |some c=>if args.length≤fn.ntmps then match evC P O n c ⟨entry args 0 .nil,fn.ntmps,[]⟩ s with
     |some (x,f,s1)=>match x with
      | .exit _=>none
      |_=>match evDs P O n f.ds s1 with
       |some s2=>match eT P f.tm s2 fn.results.toList with
        |some l=>some (eD l,s2)
        |none=>none
       |none=>none
     |none=>none
     else none
    |none=>none
   |none=>none
def evDs (P:Program) (O:Orc):Nat→List (FuncId×List V)→S→Option S
 |0,_,_=>none
 |_+1,[],s=>some s
 |n+1,(g,args)::r,s=>match P.funcs[g]? with
  |some fn=>match fn.body with
   |some (.seq (.region _ ops false) rest)=>match ops.toList with
    |o0::l=>match recOf o0 with
     |some t=>if args.length≤fn.ntmps∧t<fn.ntmps then match runOps P (evF P O n) ops l ⟨(entry args 0 .nil).set t (some .fD),fn.ntmps,[]⟩ s with
      |some (f1,s1)=>match evC P O n rest f1 s1 with
       |some (x,f2,s2)=>match x with
        | .exit _=>none
        |_=>match f2.ds,eT P f2.tm s2 fn.results.toList with
         |[],some _=>evDs P O n r s2
         |_,_=>none
       |none=>none
      |none=>none
      else none
     |none=>none
    |[]=>none
   |_=>none
  |none=>none
end
section
variable {P:Program} {c:C} {w:World} {s:S}
def toExit:X→Exit
 | .normal=> .normal
 | .exit id=> .exit id
 | .ret=> .ret
theorem entry_get:∀ (args:List V) (i:Nat) (fr:Fr) (t:Nat),(entry args i fr).get t=if i≤t∧t<i+args.length then some (args.getD (t - i) .aU) else fr.get t
 |[],i,fr,t=>by simp [entry];omega
 |v::r,i,fr,t=>by
  simp only [entry,entry_get r (i+1),Tr.get_set,aav];by_cases h:t=i
  ·subst h;rw [if_neg (by omega),if_pos rfl,if_pos (by omega)];simp
  ·by_cases h2:i+1≤t∧t<i+1+r.length
   ·rw [if_pos h2,if_pos (by omega)];obtain ⟨d,hd⟩:∃ d,t - i=d+1:=⟨t - i - 1,by omega⟩;rw [hd,show t - (i+1)=d by omega];simp
   ·rw [if_neg h2,if_neg h,if_neg (by omega)]
theorem l9 (hc:bf c w s) {tmps:Array Value} {fr:Fr} (hf:cC c tmps fr):∀ (rs:List ResultVar) {l:List V},eT P fr s rs=some l→
  ∃ vs:List Value,(rs.mapM (vX tmps)).run P w= .ok vs w∧vs.length=l.length∧∀ i,i<l.length→Rel c (vs.getD i undef) (l.getD i .aU)
 |[],l,h=>by
  simp only [eT,aal] at h;subst h;exact ⟨[],by simp,rfl,by simp⟩
 | .tmp t::r,l,h=>by
  simp only [eT] at h;split at h<;>simp only [aal,reduceCtorEq] at h;rename_i l' h1;subst h;obtain ⟨vs,h2,h3,h4⟩:=l9 hc hf r h1;refine ⟨tmps.getD t undef::vs,?_,by simp [h3],fun i hi=>?_⟩
  ·simp only [List.mapM_cons,vX,Sem.run_bind,Sem.run_pure,Result.andThen_ok,h2]
  ·cases i with
   |zero=>simpa using hf.at t
   |succ i=>simpa using h4 i (by simpa using hi)
 | .cell a t::r,l,h=>by
  simp only [eT] at h;split at h<;>simp only [aal,reduceCtorEq] at h;rename_i v l' hv h1;subst h;obtain ⟨vs,h2,h3,h4⟩:=l9 hc hf r h1;obtain ⟨cv,h5,h6⟩:=mb (P:=P) hc t (hf.at a) hv;have hptr:∃ ad,tmps.getD a undef= .pointer (some ad):=by
   have hr:=hf.at a;unfold bn at hv;split at hv
   case h_2=>simp at hv
   rename_i hp;rw [hp] at hr;generalize tmps.getD a undef=q at hr ⊢;cases hr with|ptr _ k _ _ _=>exact ⟨_,rfl⟩
  obtain ⟨ad,had⟩:=hptr;rw [had,jM] at h5;refine ⟨cv::vs,?_,by simp [h3],fun i hi=>?_⟩
  ·have hasA:(asAddr (.pointer (some ad))).run P w= .ok ad w:=rfl;rw [List.mapM_cons];simp only [vX,had,hasA,Sem.run_bind,Sem.run_pure,Result.andThen_ok,h5,h2]
  ·cases i with
   |zero=>simpa using h6
   |succ i=>simpa using h4 i (by simpa using hi)
def rY (hc:bf c w s) {fn:Func} {tmps:Array Value} {fr:Fr} (hf:cC c tmps fr) {l:List V} (h:eT P fr s fn.results.toList=some l):
  ∃ cv,(results fn tmps).run P w= .ok cv w∧Rel c cv (eD l):=by
 obtain ⟨vs,h1,h2,h3⟩:=l9 hc hf fn.results.toList h
 rw [AG,Array.mapM_eq_mapM_toList]
 simp only [Sem.run_bind,Sem.run_map,h1,Result.andThen_ok,Sem.run_pure]
 refine ⟨_,rfl,?_⟩
 match l,vs,h2 with
 |[],[],_=>exact .cF _ _ rfl (by simp)
 |[v],[x],_=>simpa [eD] using h3 0 (by simp)
 |v::v2::r,x::x2::r2,h2=>
  rw [dif_neg (by simp)]
  refine .cF _ _ (by simpa using h2) fun i hi=>?_
  rw [aK]
  exact h3 i hi
def runDraw_sound {call:Orc} (hcall:∀ g args s v s',call g args s=some (v,s')→CallOK P g args s v s') {all:Array Oper} {f f':F} {s s':S} (h:runDraw P call all f s=some (f',s')) {c:C} {w:World} {a:Act} (hc:bf c w s) (hf:FRel c a f)
  {Q:Exit→Act→World→Prop} (hQ:∀ c' w' a',Step (fun b=>s.nx≤b) c s w c' s' w'→FRel c' a' f'→Q .normal a' w'):wpAny P .any all Q all.size (Array.replicate all.size false) a w:=by
 obtain ⟨l,rfl⟩:∃ l:List Oper,all=l.toArray:=⟨all.toList,by simp⟩
 obtain ⟨E,bs,R,h1,h2,h3,h4⟩:=runDraw_spec hcall h
 simp only [aaW]
 have hcnt:(Array.replicate l.length false).count false=l.length:=by simp
 refine drawn_any R (c0:=c) (w0:=w) (fun a' w' c' hst htm hsz hds=>hQ c' w' a' (by rw [h4];exact hst) ⟨fun t x hx=>htm t x (by rw [←h1 t];exact hx),by rw [h2];exact hsz,by rw [h3];exact hds⟩) l.length (Array.replicate l.length false) 0 a w c ?_ (by rw [hcnt];exact aat _)
 have hfalse:∀ i,(Array.replicate l.length false).getD i false=false:=by
  intro i;rw [aap];by_cases hi:i<l.length
  ·simp [hi]
  ·simp [hi]
 have hsp:SP l E bs s (Array.replicate l.length false) 0=⟨s.nx+l.length,s.h⟩:=by
  unfold SP;rw [show bAt bs 0=⟨s.nx+l.length,s.h⟩ from R.b0];have:∀ n,putsI s.nx (fun j=>(xR E j).x) (fun j=>(xR E j).kd==2&& (Array.replicate l.length false).getD j false&&unfl E (masks l []) 0 j E.length) n ⟨s.nx+l.length,s.h⟩=⟨s.nx+l.length,s.h⟩:=by
   intro n;induction n with
   |zero=>rfl
   |succ n ih=>
    simp only [putsI]
    rw [hfalse n]
    simp only [Bool.and_false,Bool.false_and]
    exact ih
  exact this _
 refine ⟨by simp,fun j o _ hL=>?_,aaK _,fun i hi hw=>?_,?_,fun j hj _=>hc.none_of (by omega),by rw [show bAt bs 0=⟨s.nx+l.length,s.h⟩ from R.b0];exact aat _,fun t x hx=>?_,hf.sz,hf.ds⟩
 ·rw [hfalse j] at hL;cases hL
 ·rw [hfalse i];simp
 ·rw [hsp]
  exact ⟨Ext.refl c,⟨fun b k o z h=>by have:=hc.lt b k o z h;exact ⟨by simp only;omega,this.2⟩,hc.inj,hc.blk⟩,⟨rfl,rfl,rfl,aat _,fun _ _ _=>rfl⟩,fun _ h h'=>absurd h h',fun _ _ _ _ h h'=>(by rw [h] at h';cases h'),fun _ _ h=>h,by simp⟩
 ·refine hf.tm t x ?_
  rw [←hx]
  unfold phi
  cases masks l []<;>cases Abs.iO l t with
  |none=>rfl
  |some i=>simp only [hfalse i];rfl
end
end Go.En
end
section
namespace Go.En
open Go.RowKit
open Go.Abs (iy put_defers)
variable {P:Program} {O:Orc}
def CodeOK (P:Program) (code:Code) (f:F) (s:S) (x:X) (f':F) (s':S):Prop:=
 ∀ (c:C) (w:World) (a:Act) (Q:Exit→Act→World→Prop),bf c w s→FRel c a f→(∀ c' w' a',Step (fun b=>s.nx≤b) c s w c' s' w'→FRel c' a' f'→Q (toExit x) a' w')→code.wp P Q a w
def DR {c:C} {a:Act} {f:F} (hf:FRel c a f) {x:Operand} {b:Bool} (h:ev f.tm x= .bool b):a.eval x= .bool b:=by
 have hr:=bJ hf.tm x;rw [h] at hr;generalize a.eval x=q at hr ⊢;cases hr;rfl
def DsOK (P:Program) (l:List (FuncId×List V)) (s s':S):Prop:=
 ∀ (c:C) (w:World) (ds:List Deferred) (fn:Func) (tmps:Array Value) (R:Ending→World→Prop),bf c w s→DsRel c ds l→
  (∀ c' w',Step (fun b=>s.nx≤b) c s w c' s' w'→∃ v,(results fn tmps).run P w'= .ok v w'∧R (.returned v) w')→Leaves P fn tmps R ds .returning w
def entry_frame {c:C} {cargs:Array Value} {args:List V} {k:Nat} (hrel:aag c cargs args) (hargs:args.length≤k):
  cC c (cargs++Array.replicate (k - cargs.size) undef) (entry args 0 .nil)∧(cargs++Array.replicate (k - cargs.size) undef).size=k:=by
 refine ⟨fun t y hy=>?_,?_⟩
 ·rw [entry_get] at hy
  split at hy
  ·rename_i ht
   simp only [aal] at hy
   subst hy
   have:=hrel.2 t (by omega)
   simp only [Nat.sub_zero]
   rwa [show (cargs++Array.replicate (k - cargs.size) undef).getD t undef=cargs.getD t undef by
    simp [aap,abr,show t<cargs.size by rw [hrel.1];omega]]
  ·simp [Tr.get] at hy
 ·have:=hrel.1
  simp only [abN,Array.size_replicate]
  omega
def recOf_eq {o:Oper} {t:Tmp} (h:recOf o=some t):o.guard=none∧o.dst=some t∧∃ asT ats,o.op= .call { callee:= .builtin .recover,args:=asT,argTypes:=ats }:=by
 unfold recOf at h;split at h<;>simp only [aal,reduceCtorEq] at h;rename_i ho hg hd;exact ⟨hg,by rw [hd,h],_,_,ho⟩
def defer_calls {call:Orc} (hcall:∀ g args s v s',call g args s=some (v,s')→CallOK P g args s v s') {g:FuncId} {fn:Func} {id:Nat} {ops:Array Oper} {rest:Code} {o0:Oper} {l:List Oper} {t:Tmp} {args:List V} {s s1 s2:S} {f1 f2:F} {x:X} {r:List V}
  (hf:P.funcs[g]?=some fn) (hb:fn.body=some (.seq (.region id ops false) rest)) (hl:ops.toList=o0::l) (ho:recOf o0=some t) (hargs:args.length≤fn.ntmps) (ht:t<fn.ntmps)
  (hr:runOps P call ops l ⟨(entry args 0 .nil).set t (some .fD),fn.ntmps,[]⟩ s=some (f1,s1)) (hrest:CodeOK P rest f1 s1 x f2 s2) (hx:∀ i,x≠ .exit i) (hds:f2.ds=[]) (hres:eT P f2.tm s2 fn.results.toList=some r)
  {c:C} {w:World} {cargs:Array Value} (hc:bf c w s) (hrel:aag c cargs args):
  CallsD P g cargs .returning w fun e u' w'=>u'= .returning∧∃ v c',e= .returned v∧Step (fun b=>s.nx≤b) c s w c' s2 w':=by
 obtain ⟨hg0,hd0,asT,ats,hop⟩:=recOf_eq ho
 refine callsD_of_wpS hf hb fun c₀ cs hu=>?_
 obtain ⟨hfr,hsz⟩:=entry_frame hrel hargs
 generalize cargs++Array.replicate (fn.ntmps - cargs.size) undef=tmps at hfr hsz
 apply wpS_seq
 apply wpS_region
 obtain rfl:ops=(o0::l).toArray:=by rw [←hl]
 have hrange:List.range (o0::l).toArray.size=0::List.range' 1 l.length:=by
  rw [List.range_eq_range',aaW,aav,List.range'_succ]
 rw [hrange]
 have hexec:(execOp (Act.eval { tmps:=tmps,defers:=[] }) o0).run P w= .ok .recover w:=by
  simp [execOp,hop,resolve,invoke,builtin,Sem.run]
 have hwant:∀ y,Region.wanted o0 y=true:=fun y=>by simp [Region.wanted,hg0]
 unfold wpOpsS
 simp only [List.getElem?_toArray,abw,hwant,if_true,hexec]
 have hrec:recoverD (c₀::cs)=none:=by simp [recoverD,hu]
 rw [hrec]
 refine Abs.kI (fun a w=>?_) l 1 (fun j=>by simp [Nat.add_comm 1 j]) _ _ ?_
 ·rintro ⟨u',_,v,c',h1,_⟩
  cases h1
 refine runOps_sound hcall hr hc ⟨?_,?_,?_⟩ fun c1 w1 a1 hst hf1=>?_
 ·rw [hd0]
  exact hfr.put (by rw [hsz];exact ht) .fD
 ·rw [iy]
  exact hsz
 ·rw [put_defers]
  trivial
 refine wpS_of_wp (hrest c1 w1 a1 _ hst.DS hf1 fun c2 w2 a2 hst2 hf2=>?_)
 obtain ⟨cv,h1,h2⟩:=rY (P:=P) hst2.DS hf2.tm hres
 have hdef:a2.defers=[]:=by
  have:=hf2.ds;rw [hds] at this;cases hd:a2.defers with
  |nil=>rfl
  |cons d ds=>rw [hd] at this;exact this.elim
 have hcs:c₀::cs= { c₀ with mode:= .returning }::cs:=by rw [←hu]
 cases x with
 |exit i=>exact absurd rfl (hx i)
 |normal=>exact ⟨hdef,.returning,hcs,cv,h1,rfl,cv,c2,rfl,hst.later hst2⟩
 |ret=>exact ⟨hdef,.returning,hcs,cv,h1,rfl,cv,c2,rfl,hst.later hst2⟩
def ev_sound (hO:∀ g args s v s',O g args s=some (v,s')→CallOK P g args s v s') (hm:P.follows .mixedOrders=true) (hN:∀ (g:FuncId) (fn:Func) (c:Code),P.funcs[g]?=some fn→fn.body=some c→fn.name≠ "runtime.NumGoroutine"):
  ∀ n:Nat,(∀ code f s x f' s',evC P O n code f s=some (x,f',s')→CodeOK P code f s x f' s')∧
   (∀ b f s x f' s',evC P O n (.loop b) f s=some (x,f',s')→∀ (c:C) (w:World) (a:Act) (Q:Exit→Act→World→Prop),bf c w s→FRel c a f→(∀ c' w' a',Step (fun b=>s.nx≤b) c s w c' s' w'→FRel c' a' f'→Q (toExit x) a' w')→Code.rounds P b Q n a w)∧
   (∀ g args s v s',evF P O n g args s=some (v,s')→CallOK P g args s v s')∧(∀ l s s',evDs P O n l s=some s'→DsOK P l s s'):=by
 intro n
 induction n with
 |zero=>exact ⟨fun _ _ _ _ _ _ h=>by simp [evC] at h,fun _ _ _ _ _ _ h=>by simp [evC] at h,fun _ _ _ _ _ h=>by simp [evF] at h,fun _ _ _ h=>by simp [evDs] at h⟩
 |succ n ih=>
  obtain ⟨ihC,ihL,ihF,ihD⟩:=ih
  have hL:∀ b f s x f' s',evC P O (n+1) (.loop b) f s=some (x,f',s')→∀ (c:C) (w:World) (a:Act) (Q:Exit→Act→World→Prop),bf c w s→FRel c a f→(∀ c' w' a',Step (fun b=>s.nx≤b) c s w c' s' w'→FRel c' a' f'→Q (toExit x) a' w')→Code.rounds P b Q (n+1) a w:=by
   intro b f s x f' s' h c w a Q hc hf hQ;rw [rounds_succ];simp only [evC] at h;cases hb:evC P O n b f s with
   |none=>rw [hb] at h;simp at h
   |some r=>
    obtain ⟨x1,f1,s1⟩:=r
    rw [hb] at h
    refine ihC b f s x1 f1 s1 hb c w a _ hc hf fun c1 w1 a1 hst hf1=>?_
    cases x1 with
    |normal=>exact ihL b f1 s1 x f' s' h c1 w1 a1 Q hst.DS hf1 fun c2 w2 a2 hst2 hf2=>hQ c2 w2 a2 (hst.later hst2) hf2
    |exit id=>
     simp only [aal,aaq] at h
     obtain ⟨rfl,rfl,rfl⟩:=h
     exact hQ c1 w1 a1 hst hf1
    |ret=>
     simp only [aal,aaq] at h
     obtain ⟨rfl,rfl,rfl⟩:=h
     exact hQ c1 w1 a1 hst hf1
  refine ⟨fun code f s x f' s' h c w a Q hc hf hQ=>?_,hL,fun g args s v s' h=>?_,fun l s s' h=>?_⟩
  ·cases code with
   |skip=>
    simp only [evC,aal,aaq] at h
    obtain ⟨rfl,rfl,rfl⟩:=h
    exact wp_skip (hQ c w a (.refl hc) hf)
   |region id ops d=>
    cases d with
    |false=>
     simp only [evC] at h
     split at h<;>simp only [aal,aaq,reduceCtorEq] at h
     rename_i f1 s1 hr
     obtain ⟨rfl,rfl,rfl⟩:=h
     have hwp:=runOps_sound (P:=P) (all:=ops) (Q:=Q) ihF hr hc hf hQ
     have:ops=ops.toList.toArray:=by simp
     rw [this] at hwp ⊢
     exact wp_region_lit (by simpa using hwp)
    |true=>
     simp only [evC] at h
     split at h<;>simp only [aal,aaq,reduceCtorEq] at h
     rename_i f1 s1 hr
     obtain ⟨rfl,rfl,rfl⟩:=h
     exact wp_region_any hm (runDraw_sound (P:=P) ihF hr hc.drew hf fun c' w' a' hst hf'=>hQ c' w' a' ((Step.drew (D:=fun b=>s.nx≤b) hc).trans hst) hf')
   |seq x1 y1=>
    simp only [evC] at h
    refine wp_seq ?_
    cases hb:evC P O n x1 f s with
    |none=>rw [hb] at h;simp at h
    |some r=>
     obtain ⟨x2,f1,s1⟩:=r
     rw [hb] at h
     refine ihC x1 f s x2 f1 s1 hb c w a _ hc hf fun c1 w1 a1 hst hf1=>?_
     cases x2 with
     |normal=>exact ihC y1 f1 s1 x f' s' h c1 w1 a1 Q hst.DS hf1 fun c2 w2 a2 hst2 hf2=>hQ c2 w2 a2 (hst.later hst2) hf2
     |exit id=>
      simp only [aal,aaq] at h
      obtain ⟨rfl,rfl,rfl⟩:=h
      exact hQ c1 w1 a1 hst hf1
     |ret=>
      simp only [aal,aaq] at h
      obtain ⟨rfl,rfl,rfl⟩:=h
      exact hQ c1 w1 a1 hst hf1
   |cond o x1 y1=>
    simp only [evC] at h
    split at h
    ·rename_i ho
     exact wp_cond_true (DR hf ho) (ihC x1 f s x f' s' h c w a Q hc hf hQ)
    ·rename_i ho
     exact wp_cond_false (DR hf ho) (ihC y1 f s x f' s' h c w a Q hc hf hQ)
    ·simp at h
   |block id b=>
    simp only [evC] at h
    refine wp_block ?_
    cases hb:evC P O n b f s with
    |none=>rw [hb] at h;simp at h
    |some r=>
     obtain ⟨x2,f1,s1⟩:=r
     rw [hb] at h
     refine ihC b f s x2 f1 s1 hb c w a _ hc hf fun c1 w1 a1 hst hf1=>?_
     cases x2 with
     |normal=>
      simp only [aal,aaq] at h
      obtain ⟨rfl,rfl,rfl⟩:=h
      exact hQ c1 w1 a1 hst hf1
     |ret=>
      simp only [aal,aaq] at h
      obtain ⟨rfl,rfl,rfl⟩:=h
      exact hQ c1 w1 a1 hst hf1
     |exit j=>
      show (if j=id then Q .normal a1 w1 else Q (.exit j) a1 w1)
      simp only at h
      split at h<;>simp only [aal,aaq] at h<;>obtain ⟨rfl,rfl,rfl⟩:=h
      ·rename_i e
       rw [if_pos e]
       exact hQ c1 w1 a1 hst hf1
      ·rename_i e
       rw [if_neg e]
       exact hQ c1 w1 a1 hst hf1
   |loop b=>exact wp_loop_rounds (n+1) (hL b f s x f' s' h c w a Q hc hf hQ)
   |exit id=>
    simp only [evC,aal,aaq] at h
    obtain ⟨rfl,rfl,rfl⟩:=h
    exact wp_exit (hQ c w a (.refl hc) hf)
   |scope b=>
    simp only [evC] at h
    refine wp_scope_straight (ihC b f s x f' s' h c w a _ hc hf fun c1 w1 a1 hst hf1=>?_)
    have:=hQ c1 w1 a1 hst hf1
    cases x<;>exact this
   |label k=>
    simp only [evC,aal,aaq] at h
    obtain ⟨rfl,rfl,rfl⟩:=h
    exact wp_label (hQ c w a (.refl hc) hf)
   |ret=>
    simp only [evC,aal,aaq] at h
    obtain ⟨rfl,rfl,rfl⟩:=h
    exact wp_ret (hQ c w a (.refl hc) hf)
   |rangeFunc _ _ _ _=>simp [evC] at h
   |goto _=>simp [evC] at h
   |refuse _=>simp [evC] at h
  ·simp only [evF] at h
   split at h
   ·rename_i r hr
    simp only [aal] at h
    subst h
    exact hO g args s v s' hr
   ·split at h
    case h_2=>simp at h
    rename_i fn hfn
    split at h
    case h_2=>simp at h
    rename_i code hbody
    split at h
    case isFalse=>simp at h
    rename_i hargs
    split at h
    case h_2=>simp at h
    rename_i x f1 s1 hev
    have hname:=hN g fn code hfn hbody
    intro c w cargs hc hrel
    left
    refine ⟨fun w'=>?_,?_⟩
    ·simp [callFunc,hfn,hbody,hname]
    ·obtain ⟨hfr,hsz⟩:=entry_frame hrel hargs
     refine calls_of_wp_defers hfn hbody (ihC code _ s x f1 s1 hev c w _ _ hc ⟨hfr,hsz,trivial⟩ fun c1 w1 a1 hst hf1=>?_)
     have fin:∀ {s2:S} {l:List V},evDs P O n f1.ds s1=some s2→eT P f1.tm s2 fn.results.toList=some l→eD l=v→s2=s'→Leaves P fn a1.tmps (RetQ c s w v s') a1.defers .returning w1:=by
      intro s2 l hds hl hv hs;subst hv;subst hs;refine ihD f1.ds s1 s2 hds c1 w1 a1.defers fn a1.tmps _ hst.DS hf1.ds fun c2 w2 hst2=>?_;obtain ⟨cv,h1,h2⟩:=rY (P:=P) hst2.DS (hf1.tm.mono hst2.ext) hl;exact ⟨cv,h1,cv,c2,rfl,h2,hst.later hst2⟩
     cases x with
     |exit id=>simp at h
     |normal=>
      simp only at h
      split at h
      case h_2=>simp at h
      rename_i s2 hds
      split at h<;>simp only [aal,aaq,reduceCtorEq] at h
      rename_i l hl
      exact fin hds hl h.1 h.2
     |ret=>
      simp only at h
      split at h
      case h_2=>simp at h
      rename_i s2 hds
      split at h<;>simp only [aal,aaq,reduceCtorEq] at h
      rename_i l hl
      exact fin hds hl h.1 h.2
  ·intro c w ds fn0 tmps R hc hds hR
   match l,ds,hds with
   |[],[],_=>
    simp only [evDs,aal] at h
    subst h
    exact hR c w (.refl hc)
   |(g,args)::r,⟨tg,das⟩::ds,hds=>
    obtain ⟨⟨cap,htar,hrel⟩,hds'⟩:=hds
    simp only at htar hrel
    subst htar
    simp only [evDs] at h
    split at h
    case h_2=>simp at h
    rename_i fn hfn
    split at h
    case h_2=>simp at h
    rename_i id ops rest hbody
    split at h
    case h_2=>simp at h
    rename_i o0 l0 hops
    split at h
    case h_2=>simp at h
    rename_i t ho
    split at h
    case isFalse=>simp at h
    rename_i hargs
    split at h
    case h_2=>simp at h
    rename_i f1 s1 hr
    split at h
    case h_2=>simp at h
    rename_i x f2 s2 hev
    have main:(∀ i,x≠ .exit i)→(match f2.ds,eT P f2.tm s2 fn.results.toList with|[],some _=>evDs P O n r s2|_,_=>none)=some s'→Leaves P fn0 tmps R ({ target:= .fn (.func g) cap,args:=das }::ds) .returning w:=by
     intro hx h;split at h
     case h_2=>simp at h
     rename_i l1 hd2 hres;refine leaves_cons (f:=g) (args:=das++cap) (by simp) (by simp [invoke,callFunc,hfn,hbody,hN g fn _ hfn hbody]) ?_;refine (defer_calls (P:=P) ihF hfn hbody hops ho hargs.1 hargs.2 hr (ihC rest f1 s1 x f2 s2 hev) hx hd2 hres hc hrel).mono ?_;rintro e u' w' ⟨rfl,v,c1,rfl,hst⟩;show Leaves P fn0 tmps R ds (settle .returning) w';exact ihD r s2 s' h c1 w' ds fn0 tmps R hst.DS (hds'.mono hst.ext) fun c2 w2 hst2=>hR c2 w2 (hst.later hst2)
    cases x with
    |exit i=>simp at h
    |normal=>exact main (by simp) h
    |ret=>exact main (by simp) h
