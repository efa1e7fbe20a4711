/- A step of the proofs of the seat's theorems. -/
import Derived.Test.YthnoiikjfcnlhaaGreatDoorZ1
set_option linter.unusedSimpArgs false
set_option linter.unusedVariables false
namespace Go.Proofs.YthnoiikjfcnlhaaGreatDoor
def Gb (x y:Option (dF Ex)):Prop:=x=none∨x=y
theorem Gb.rf {x:Option (dF Ex)}:Gb x x:= .inr rfl
theorem eZ {x y:Option (dF Ex)} {k k':Ex→List Tk→Option (dF Ex)} (h:Gb x y) (hk:∀ e r,Gb (k e r) (k' e r)):Gb (aL x k) (aL y k'):=by
 rcases h with rfl|rfl
 ·exact .inl rfl
 ·rcases x with _|(⟨c,r1⟩|⟨r1,ec⟩)
  ·exact .inl rfl
  ·exact hk c r1
  ·exact .inr rfl
theorem oc {s:az} {k k':List Tk→Option (dF Ex)} (hk:∀ r,Gb (k r) (k' r)) (l:List Tk):Gb (cU s k l) (cU s k' l):=by
 cases l with
 |nil=>exact .inr rfl
 |cons t r=>
  simp only [cU]
  split
  ·exact hk r
  ·exact .inr rfl
theorem dK {c:Prop} [Decidable c] {a b a' b':Option (dF Ex)} (h1:Gb a a') (h2:Gb b b'):Gb (if c then a else b) (if c then a' else b'):=by
 split
 ·exact h1
 ·exact h2
theorem S8:∀ (f g:Nat) (tag:Tag) (ts:List Tk),f≤g→Gb (pF f tag ts) (pF g tag ts):=by
 intro f
 induction f with
 |zero=>intro g tag ts _;exact .inl (by simp [pF])
 |succ f ih=>
  intro g tag ts hg
  obtain ⟨g,rfl⟩:∃ G,g=G+1:=⟨g - 1,by omega⟩
  have I:∀ (tag:Tag) (ts:List Tk),Gb (pF f tag ts) (pF g tag ts):=fun tag ts=>ih g tag ts (by omega)
  cases tag with
  |cond=>
   simp only [pF]
   refine eZ (I _ _) fun c r1=>?_
   rcases r1 with _|⟨t,r2⟩
   ·exact .rf
   ·exact dK (eZ (I _ _) fun a r3=>oc (fun r4=>eZ (I _ _) fun b r5=> .rf) _) .rf
  |op n=>simp only [pF];exact dK (I _ _) (eZ (I _ _) fun e r=>I _ _)
  |ops n e=>
   simp only [pF]
   rcases ts with _|⟨t,r⟩
   ·exact .rf
   ·exact dK (eZ (I _ _) fun x r2=>dK .rf (I _ _)) .rf
  |un=>
   simp only [pF]
   rcases ts with _|⟨t,r⟩
   ·exact I _ _
   ·exact dK (eZ (I _ _) fun x r2=> .rf) (eZ (I _ _) fun x r2=>I _ _)
  |chain e=>
   simp only [pF]
   rcases ts with _|⟨t,r⟩
   ·exact .rf
   ·refine dK ?_ (dK (eZ (I _ _) fun x r2=>oc (fun r3=>I _ _) _) .rf)
    rcases r with _|⟨u,r⟩
    ·exact .rf
    ·exact dK (I _ _) .rf
  |atom=>
   simp only [pF]
   rcases ts with _|⟨t,r⟩
   ·exact .rf
   ·refine dK .rf (dK .rf (dK (dK .rf (dK .rf (dK ?_ .rf))) (dK (eZ (I _ _) fun x r2=> .rf) (dK (eZ (I _ _) fun x r2=> .rf) (dK (I _ _) .rf)))))
    rcases r with _|⟨u,r⟩
    ·exact .rf
    ·exact dK (eZ (I _ _) fun x r2=> .rf) .rf
  |args close=>
   simp only [pF]
   rcases ts with _|⟨t,r⟩
   ·exact I _ _
   ·exact dK .rf (I _ _)
  |items close acc=>
   simp only [pF]
   refine eZ (I _ _) fun x r=>?_
   rcases r with _|⟨t,r⟩
   ·exact .rf
   ·exact dK .rf (dK (I _ _) .rf)
  |kW=>
   simp only [pF]
   rcases ts with _|⟨t,r⟩
   ·exact I _ _
   ·exact dK .rf (I _ _)
  |xR acc ks=>
   simp only [pF]
   rcases ts with _|⟨t,r⟩
   ·exact .rf
   ·refine dK (oc (fun r2=>eZ (I _ _) fun x r3=>?_) _) .rf
    rcases r3 with _|⟨u,r4⟩
    ·exact .rf
    ·exact dK .rf (dK (I _ _) .rf)
theorem zc {f g:Nat} {tag:Tag} {ts:List Tk} {x:dF Ex} (h:pF f tag ts=some x) (hg:f≤g):pF g tag ts=some x:=by
 rcases S8 f g tag ts hg with h1|h1
 ·rw [h] at h1;cases h1
 ·rw [←h1,h]
def jT:RB→List Tk
 | .ok _ r=>r
 | .err r _=>r
def lT:RB→Prop
 | .ok _ _=>True
 | .err _ c=>c≠0
theorem oS {p:Tk→Bool} {k:List Tk→Option RB} {l ts:List Tk} {x:RB} (h:gi p k l=some x) (hl:l<:+ts) (hk:∀ r,r<:+ts→r.length<l.length→k r=some x→jT x<:+ts):jT x<:+ts:=by
 cases l with
 |nil=>simp only [gi,Option.some.injEq] at h;subst h;exact hl
 |cons t r=>
  simp only [gi] at h
  split at h
  ·exact hk r (List.IsSuffix.trans (List.suffix_cons t r) hl) (by simp) h
  ·simp only [Option.some.injEq] at h;subst h;exact hl
theorem mZ (r:List Tk):(kB r).2<:+r:=by
 cases r with
 |nil=>exact List.suffix_refl _
 |cons t r=>
  simp only [kB]
  split
  ·exact List.suffix_cons t r
  ·exact List.suffix_refl _
theorem ZK {T:List Tk}:(∀ e r,eP T= .ok e r→r<:+T)∧∀ r c,eP T= .err r c→r<:+T:=by
 obtain ⟨x,hx⟩:=jL T
 have hs:=vW _ _ _ _ hx
 constructor
 ·intro e r h
  rw [eP,hx] at h
  rcases x with ⟨e1,r1⟩|⟨r1,c1⟩
  ·simp only at h
   split at h
   ·cases h
   ·cases h;exact hs
  ·cases h
 ·intro r c h
  rw [eP,hx] at h
  rcases x with ⟨e1,r1⟩|⟨r1,c1⟩
  ·simp only at h
   split at h
   ·cases h;exact List.suffix_refl _
   ·cases h
  ·cases h;exact hs
theorem mB:∀ (f:Nat) (tag:rR) (ts:List Tk) (x:RB),bF f tag ts=some x→jT x<:+ts:=by
 intro f
 induction f with
 |zero=>intro tag ts x h;simp [bF] at h
 |succ f ih=>
  intro tag ts x h
  have tl:∀ {t:Tk} {l ts:List Tk},(t::l)<:+ts→l<:+ts:=fun h=>List.IsSuffix.trans (List.suffix_cons _ _) h
  cases tag with
  |block=>
   cases ts with
   |nil=>simp only [bF,Option.some.injEq] at h;subst h;exact List.suffix_refl _
   |cons t r=>
    simp only [bF] at h
    split at h
    ·refine oS h ((mZ r).trans (List.suffix_cons t r)) fun r2 h2 _ h=>?_
     refine oS h h2 fun r3 h3 _ h=>?_
     exact (ih _ _ _ h).trans h3
    ·simp only [Option.some.injEq] at h;subst h;exact List.suffix_refl _
  |items k n a l=>
   simp only [bF] at h
   cases ts with
   |nil=>simp only [Option.some.injEq] at h;subst h;exact List.suffix_refl _
   |cons t r=>
    simp only at h
    have nest:∀ y:Option RB,(match bF f .block (t::r) with
       |some (.ok b r3)=>gi iu (fun r4=>bF f (.items k n a (l++[b])) r4) r3
       |y=>y)=some x→jT x<:+t::r:=by
     intro _ h
     cases hb:bF f .block (t::r) with
     |none=>rw [hb] at h;simp at h
     |some y=>
      have hs:=ih _ _ _ hb
      rw [hb] at h
      cases y with
      |ok b r3=>exact oS h hs fun r4 h4 _ h=>(ih _ _ _ h).trans h4
      |err r3 c=>simp only [Option.some.injEq] at h;subst h;exact hs
    split at h
    ·simp only [Option.some.injEq] at h;subst h;exact List.suffix_cons t r
    ·split at h
     ·simp only [Option.some.injEq] at h;subst h;exact List.suffix_refl _
     ·cases r with
      |nil=>exact nest none h
      |cons u r2=>
       simp only at h
       split at h
       ·have h2:r2<:+t::u::r2:=tl (List.suffix_cons t (u::r2))
        cases ht:eP r2 with
        |ok y r3=>
         rw [ht] at h
         exact oS h ((ZK.1 _ _ ht).trans h2) fun r4 h4 _ h=>(ih _ _ _ h).trans h4
        |err r3 c=>
         rw [ht] at h
         simp only [Option.some.injEq] at h;subst h
         exact (ZK.2 _ _ ht).trans h2
       ·exact nest none h
theorem lD {p:Tk→Bool} {k:List Tk→Option RB} {l:List Tk} (hk:∀ r,r.length<l.length→k r≠none):gi p k l≠none:=by
 cases l with
 |nil=>simp [gi]
 |cons t r=>
  simp only [gi]
  split
  ·exact hk r (by simp)
  ·simp
def wB:rR→Nat
 | .block=>0
 | .items _ _ _ _=>1
theorem nc {p:Tk→Bool} {k:List Tk→Option RB} {l:List Tk} {b:Bk} {r:List Tk} (h:gi p k l=some (.ok b r)):∃ t m,l=t::m∧p t=true∧k m=some (.ok b r):=by
 cases l with
 |nil=>simp [gi] at h
 |cons t m=>
  simp only [gi] at h
  split at h
  ·exact ⟨t,m,rfl,by assumption,h⟩
  ·simp at h
theorem jm {f:Nat} {ts r:List Tk} {b:Bk} (h:bF f .block ts=some (.ok b r)):r.length<ts.length:=by
 cases f with
 |zero=>simp [bF] at h
 |succ f=>
  cases ts with
  |nil=>simp [bF] at h
  |cons t m=>
   simp only [bF] at h
   split at h
   ·obtain ⟨u,m2,e1,_,h⟩:=nc h
    obtain ⟨v,m3,e2,_,h⟩:=nc h
    have h1:=(mB _ _ _ _ h).length_le
    have h2:=(mZ m).length_le
    rw [e1,e2] at h2
    simp only [jT,List.length_cons] at h1 h2 ⊢
    omega
   ·simp at h
theorem sH:∀ (f:Nat) (tag:rR) (ts:List Tk),2*ts.length+wB tag<f→bF f tag ts≠none:=by
 intro f
 induction f with
 |zero=>intro tag ts h;omega
 |succ f ih=>
  intro tag ts hf
  cases tag with
  |block=>
   cases ts with
   |nil=>simp [bF]
   |cons t r=>
    simp only [bF]
    simp only [wB,List.length_cons] at hf
    have hn:=(mZ r).length_le
    split
    ·refine lD fun r2 h2=>lD fun r3 h3=>ih _ _ ?_
     simp only [wB];omega
    ·simp
  |items k n a l=>
   simp only [wB] at hf
   simp only [bF]
   cases ts with
   |nil=>simp
   |cons t r=>
    simp only [List.length_cons] at hf
    have nest:(match bF f .block (t::r) with
       |some (.ok b r3)=>gi iu (fun r4=>bF f (.items k n a (l++[b])) r4) r3
       |y=>y)≠none:=by
     have hb0:=ih .block (t::r) (by simp only [wB,List.length_cons];omega)
     cases hb:bF f .block (t::r) with
     |none=>exact absurd hb hb0
     |some y=>
      cases y with
      |ok b r3=>
       have:=jm hb
       simp only [List.length_cons] at this
       refine lD fun r4 h4=>ih _ _ ?_
       simp only [wB];omega
      |err r3 c=>simp
    simp only
    split
    ·simp
    ·split
     ·simp
     ·cases r with
      |nil=>exact nest
      |cons u r2=>
       simp only
       split
       ·simp only [List.length_cons] at hf
        cases ht:eP r2 with
        |ok y r3=>
         have:=(ZK.1 _ _ ht).length_le
         refine lD fun r4 h4=>ih _ _ ?_
         simp only [wB];omega
        |err r3 c=>simp
       ·exact nest
def Pr (tag:Tag) (ts:List Tk) (x:dF Ex):Prop:=∃ f,pF f tag ts=some x
theorem Pr.two {t1 t2:Tag} {l1 l2:List Tk} {x y:dF Ex} (h:Pr t1 l1 x) (k:Pr t2 l2 y):∃ f,pF f t1 l1=some x∧pF f t2 l2=some y:=by
 obtain ⟨f,h⟩:=h
 obtain ⟨g,k⟩:=k
 exact ⟨max f g,zc h (Nat.le_max_left f g),zc k (Nat.le_max_right f g)⟩
def hs:List Tk→Nat
 |[]=>0
 |t::_=>if t.kind=4 then bB t.text else 0
def no (s:az) (l:List Tk):Prop:=∀ t r,l=t::r→cg s t=false
def IL (l:List Tk):Prop:=no [46] l∧no [91] l∧no [40] l
def S9 (l:List Tk):Prop:=hs l=0∧IL l∧no [63] l
section
variable {ts r r2 l:List Tk} {e a b x:Ex} {y:dF Ex} {t u:Tk} {n:Nat}
theorem Pr.cG {r4 r5:List Tk} (h:Pr (.op 2) ts (.ok e (t::r2))) (ht:cg [63] t=true) (h1:Pr .cond r2 (.ok a (u::r4))) (hu:cg [58] u=true) (h2:Pr .cond r4 (.ok b r5)):
  Pr .cond ts (.ok (.mk 8 [] ct [e,a,b] []) r5):=by
 obtain ⟨f,h,h1⟩:=h.two h1
 obtain ⟨g,h2⟩:=h2
 refine ⟨max f g+1,?_⟩
 have k:=zc h (Nat.le_max_left f g)
 have k1:=zc h1 (Nat.le_max_left f g)
 have k2:=zc h2 (Nat.le_max_right f g)
 simp only [pF,k,aL,ht,if_pos,k1,cU,hu,k2]
theorem Pr.op (hn:n≠7) (h:Pr (.op (n+1)) ts (.ok e r)) (k:Pr (.ops n e) r y):Pr (.op n) ts y:=by
 obtain ⟨f,h,k⟩:=h.two k
 exact ⟨f+1,by simp only [pF,if_neg hn,h,aL,k]⟩
theorem LF (h:Pr .atom ts (.ok a r)):∃ t l,ts=t::l∧cg [33] t=false∧cg [45] t=false:=by
 obtain ⟨f,h⟩:=h
 cases f with
 |zero=>simp [pF] at h
 |succ f=>
  cases ts with
  |nil=>simp [pF] at h
  |cons t l=>
   refine ⟨t,l,rfl,?_⟩
   have key:∀ s:az,(s=[33]∨s=[45])→cg s t=false:=by
    intro s hs
    cases ho:cg s t with
    |false=>rfl
    |true=>
     exfalso
     simp only [cg,decide_eq_true_eq] at ho
     obtain ⟨h1,h2⟩:=ho
     have e1:cg [40] t=false:=by simp only [cg,h1,h2];rcases hs with rfl|rfl<;>decide
     have e2:cg [91] t=false:=by simp only [cg,h1,h2];rcases hs with rfl|rfl<;>decide
     have e3:cg [123] t=false:=by simp only [cg,h1,h2];rcases hs with rfl|rfl<;>decide
     simp only [pF,e1,e2,e3,h1] at h
     simp at h
   exact ⟨key _ (.inl rfl),key _ (.inr rfl)⟩
def PC (ts:List Tk) (y:dF Ex):Prop:=∃ a r,Pr .atom ts (.ok a r)∧Pr (.chain a) r y
theorem PC.un (h:PC ts y):Pr .un ts y:=by
 obtain ⟨a,r,h1,h2⟩:=h
 obtain ⟨t,l,rfl,n1,n2⟩:=LF h1
 obtain ⟨f,h1,h2⟩:=h1.two h2
 exact ⟨f+1,by simp only [pF,n1,n2,Bool.or_self,Bool.false_eq_true,if_false,h1,aL,h2]⟩
end
def tO (s:az):Tk:=⟨4,s,0⟩
def tN (s:az):Tk:=⟨1,s,0⟩
def tS (s:az):Tk:=⟨3,s,0⟩
def tD (s:az):Tk:=⟨2,s,0⟩
def Qt (v:aX):Tk:=
 if v.kind=1 then tN (if v.bool then gX else fY) else if v.kind=2 then tD (rL v.int.natAbs) else if v.kind=3 then tS v.str else tN jc
def Xo (b:Bool) (l:List Tk):List Tk:=if b then tO [40]::l++[tO [41]] else l
def Df:List (List Tk)→List Tk
 |[]=>[]
 |a::r=>if r=[] then a else a++tO [44]::Df r
def LG:Ex→List Tk
 | .mk k n v ar ks=>
  if k=1 then [Qt v] else if k=2 then [tN n]
  else if k=3 then nI ar 0 8++[tO [46],tN n]
  else if k=4 then nI ar 0 8++tO [91]::nI ar 1 1++[tO [93]]
  else if k=5 then tN n::tO [40]::Df (O0 ar)++[tO [41]]
  else if k=6 then tO n::nI ar 0 7
  else if k=7 then nI ar 0 (if bB n=4 then 5 else bB n)++tO n::nI ar 1 (bB n+1)
  else if k=8 then nI ar 0 2++tO [63]::nI ar 1 1++tO [58]::nI ar 2 1
  else if k=9 then tO [91]::Df (O0 ar)++[tO [93]]
  else tO [123]::Df (aab ar ks)++[tO [125]]
where
 nI:List Ex→Nat→Nat→List Tk
 |[],_,_=>[]
 |e::_,0,need=>Xo (decide (force e<need)) (LG e)
 |_::r,i+1,need=>nI r i need
 O0:List Ex→List (List Tk)
 |[]=>[]
 |e::r=>LG e::O0 r
 aab:List Ex→List az→List (List Tk)
 |[],_=>[]
 |e::r,ks=>(tS (ks.headD [])::tO [58]::LG e)::aab r ks.tail
def Tb (v:aX):Prop:=
 v=ct∨(∃ b,v= .mk 1 b 0 [] [] [])∨(∃ n:Nat,v= .mk 2 false n [] [] []∧n≤9007199254740992)∨∃ s:az,v= .mk 3 false 0 s [] []∧s.length≤4096
def O1 (e : Ex) : Prop :=
  ((e.kind = 1 ∧ Tb e.value ∧ e.name = [] ∧ e.args = [] ∧ e.keys = []) ∨
   (e.value = ct ∧ e.keys = [] ∧ e.kind = 2 ∧ cc e.name = true ∧ e.args = []) ∨
   (e.value = ct ∧ e.keys = [] ∧ e.kind = 3 ∧ cc e.name = true ∧ ∃ a, e.args = [a]) ∨
   (e.value = ct ∧ e.keys = [] ∧ e.kind = 4 ∧ e.name = [] ∧ ∃ a b, e.args = [a, b]) ∨
   (e.value = ct ∧ e.keys = [] ∧ e.kind = 5 ∧ cc e.name = true) ∨
   (e.value = ct ∧ e.keys = [] ∧ e.kind = 6 ∧ (e.name = [33] ∨ e.name = [45]) ∧ ∃ a, e.args = [a]) ∨
   (e.value = ct ∧ e.keys = [] ∧ e.kind = 7 ∧ 0 < bB e.name ∧ ∃ a b, e.args = [a, b]) ∨
   (e.value = ct ∧ e.keys = [] ∧ e.kind = 8 ∧ e.name = [] ∧ ∃ a b c, e.args = [a, b, c]) ∨
   (e.value = ct ∧ e.keys = [] ∧ e.kind = 9 ∧ e.name = []) ∨
   (e.value = ct ∧ e.kind = 10 ∧ e.name = [] ∧ e.keys.length = e.args.length ∧ ∀ k ∈ e.keys, fP k = true))
inductive O2:Ex→Prop
 |mk (e:Ex):O1 e→(∀ x∈e.args,O2 x)→O2 e
structure Reads (e:Ex):Prop where
 pc:8≤force e→∀ r y,no [40] r→Pr (.chain e) r y→PC (LG e++r) y
 un:7≤force e→∀ r,IL r→Pr .un (LG e++r) (.ok e r)
 op:∀ n r y,2≤n→n≤6→n≤force e→hs r≤n→(hs r=4→n≠4)→IL r→Pr (.ops n e) r y→Pr (.op n) (LG e++r) y
 cond:∀ r,S9 r→Pr .cond (LG e++r) (.ok e r)
 head:∃ t l,LG e=t::l∧(t.kind=4→t.text=[33]∨t.text=[45]∨t.text=[40]∨t.text=[91]∨t.text=[123])
section
variable (n:az) (v:aX) (ar:List Ex) (ks:List az)
end
section
variable {r r2 r3:List Tk} {e x l:Ex} {y:dF Ex} {s:az}
end
def Lx (s:az) (T:List Tk) (ok:az→Prop):Prop:=
 ∀ X,ok X→∀ (g a op:Nat) (out:List Tk),s.length+X.length<g→∃ g' a' new,X.length<g'∧rT T new∧dV g a (s++X) op out=dV g' a' X (dep op T) (out++new)
def Zb (X:az):Prop:=∀ c r,X=c::r→b9 c=false
theorem sI:∀ {a b x y:List Tk},rT a x→rT b y→rT (a++b) (x++y)
 |[],_,[],_,_,h=>h
 |[],_,_::_,_,h,_=>h.elim
 |_::_,_,[],_,h,_=>h.elim
 |_::_,_,_::_,_,h,k=>⟨h.1,sI h.2 k⟩
theorem Lx.app {s1 s2:az} {T1 T2:List Tk} {ok1 ok2:az→Prop} (h1:Lx s1 T1 ok1) (h2:Lx s2 T2 ok2) (h:∀ X,ok2 X→ok1 (s2++X)):Lx (s1++s2) (T1++T2) ok2:=by
 intro X hX g a op out hg
 rw [List.length_append] at hg
 obtain ⟨g1,a1,n1,l1,m1,e1⟩:=h1 (s2++X) (h X hX) g a op out (by rw [List.length_append];omega)
 rw [List.length_append] at l1
 obtain ⟨g2,a2,n2,l2,m2,e2⟩:=h2 X hX g1 a1 (dep op T1) (out++n1) l1
 exact ⟨g2,a2,n1++n2,l2,sI m1 m2,by rw [List.append_assoc,e1,e2,List.append_assoc];simp only [dep,List.foldl_append]⟩
theorem Lx.mono {s:az} {T:List Tk} {ok ok':az→Prop} (h:Lx s T ok) (k:∀ X,ok' X→ok X):Lx s T ok':=fun X hX=>h X (k X hX)
theorem Lx.tok {c:UInt8} {r t:az} {k:Int} {ok:az→Prop} (hc:c.toNat≠32∧c.toNat≠9∧c.toNat≠35∧c.toNat≠10) (h:∀ X,ok X→jy (c::(r++X))= .ok k t (r.length+1)):Lx (c::r) [⟨k,t,0⟩] ok:=by
 intro X hX g a op out hg
 obtain ⟨g,rfl⟩:∃ G,g=G+1:=⟨g - 1,by omega⟩
 obtain ⟨h1,h2,h3,h4⟩:=hc
 simp only [List.length_cons] at hg
 refine ⟨g,a+(r.length+1),[⟨k,t,a⟩],by omega,⟨⟨rfl,rfl⟩,trivial⟩,?_⟩
 simp only [List.cons_append,dV]
 rw [if_neg (by omega),if_neg (by omega),if_neg (by omega),h X hX]
 simp [dep,Uj]
section
variable (n:az) (v:aX) (ar:List Ex) (ks:List az)
end
structure Yd (e:Ex):Prop where
 lx:Lx (src e) (LG e) Zb
 hd:∃ c r,src e=c::r∧c≠61
theorem any {ok:az→Prop}:∀ X,ok X→(fun _:az=>True) X:=fun _ _=>trivial
def Ly (s:az) (T:List Tk):Prop:=
 ∀ (X:az) (g a:Nat) (out:List Tk),s.length+X.length<g→∃ g' a' new,X.length<g'∧rT T new∧dV g a (s++X) 0 out=dV g' a' X 0 (out++new)
theorem Ly.nil:Ly [] []:=fun X g a out hg=>⟨g,a,[],by simpa using hg,trivial,by simp⟩
theorem Ly.app {s1 s2:az} {T1 T2:List Tk} (h1:Ly s1 T1) (h2:Ly s2 T2):Ly (s1++s2) (T1++T2):=by
 intro X g a out hg
 rw [List.length_append] at hg
 obtain ⟨g1,a1,n1,l1,m1,e1⟩:=h1 (s2++X) g a out (by rw [List.length_append];omega)
 rw [List.length_append] at l1
 obtain ⟨g2,a2,n2,l2,m2,e2⟩:=h2 X g1 a1 (out++n1) l1
 exact ⟨g2,a2,n1++n2,l2,sI m1 m2,by rw [List.append_assoc,e1,e2,List.append_assoc]⟩
inductive Ns:Bk→Prop
 |mk (b:Bk):cc b.kind=true→b.name.length≤64→(∀ x∈b.attrs,cc x.1=true∧O2 x.2∧dW x.2=0)→(∀ x∈b.blocks,Ns x)→Ns b
def Pb (tag:rR) (ts:List Tk) (x:RB):Prop:=∃ f,bF f tag ts=some x
theorem rE {p:Tk→Bool} {k k':List Tk→Option RB} {l:List Tk} {x:RB} (hk:∀ r,k r=some x→k' r=some x) (h:gi p k l=some x):gi p k' l=some x:=by
 cases l with
 |nil=>exact h
 |cons t r=>
  simp only [gi] at h ⊢
  split at h
  ·rename_i ht;rw [if_pos ht];exact hk r h
  ·rename_i ht;rw [if_neg ht];exact h
theorem Nt:∀ (f g:Nat) (tag:rR) (ts:List Tk) (x:RB),f≤g→bF f tag ts=some x→bF g tag ts=some x:=by
 intro f
 induction f with
 |zero=>intro g tag ts x _ h;simp [bF] at h
 |succ f ih=>
  intro g tag ts x hg h
  obtain ⟨g,rfl⟩:∃ G,g=G+1:=⟨g - 1,by omega⟩
  have I:∀ {tag:rR} {ts:List Tk} {x:RB},bF f tag ts=some x→bF g tag ts=some x:=fun h=>ih g _ _ _ (by omega) h
  cases tag with
  |block=>
   cases ts with
   |nil=>simpa only [bF] using h
   |cons t r=>
    simp only [bF] at h ⊢
    split at h
    ·rename_i ht
     rw [if_pos ht]
     exact rE (fun r h=>rE (fun r h=>I h) h) h
    ·rename_i ht
     rw [if_neg ht];exact h
  |items k n a l=>
   simp only [bF] at h ⊢
   cases ts with
   |nil=>exact h
   |cons t r=>
    have nest:(match bF f .block (t::r) with
       |some (.ok b r3)=>gi iu (fun r4=>bF f (.items k n a (l++[b])) r4) r3
       |y=>y)=some x→(match bF g .block (t::r) with
       |some (.ok b r3)=>gi iu (fun r4=>bF g (.items k n a (l++[b])) r4) r3
       |y=>y)=some x:=by
     intro h
     cases hb:bF f .block (t::r) with
     |none=>rw [hb] at h;simp at h
     |some y=>
      rw [hb] at h
      rw [I hb]
      cases y with
      |ok b r3=>exact rE (fun r h=>I h) h
      |err r3 c=>exact h
    simp only at h ⊢
    split at h
    ·rename_i h1;rw [if_pos h1];exact h
    ·rename_i h1
     rw [if_neg h1]
     split at h
     ·rename_i h2;rw [if_pos h2];exact h
     ·rename_i h2
      rw [if_neg h2]
      cases r with
      |nil=>exact nest h
      |cons u r2=>
       simp only at h ⊢
       split at h
       ·rename_i h3
        rw [if_pos h3]
        cases ht:eP r2 with
        |ok y r3=>rw [ht] at h;exact rE (fun r h=>I h) h
        |err r3 c=>rw [ht] at h;exact h
       ·rename_i h3
        rw [if_neg h3];exact nest h
section
variable {t u w:Tk} {r r2 r3 r4:List Tk} {k n:az} {a:List (az×Ex)} {l:List Bk} {x:Ex} {b:Bk} {y:RB}
theorem Pb.block (ht:fo t=true) (hn:kB r=(n,u::w::r3)) (hu:cg [123] u=true) (hw:iu w=true) (h:Pb (.items t.text n [] []) r3 y):Pb .block (t::r) y:=by
 obtain ⟨f,h⟩:=h
 exact ⟨f+1,by simp only [bF,ht,if_true,hn,gi,hu,hw,h]⟩
theorem Pb.stop (ht:cg [125] t=true):Pb (.items k n a l) (t::r) (.ok (.mk k n a l) r):=⟨1,by simp only [bF,ht,if_true]⟩
theorem LH {s:az} (ht:fo t=true):cg s t=false:=by
 simp only [fo,Bool.and_eq_true,decide_eq_true_eq] at ht
 simp only [cg,decide_eq_false_iff_not]
 rintro ⟨h,_⟩;omega
theorem Pb.sub (ht:fo t=true) (hu:no [61] r) (hb:Pb .block (t::r) (.ok b (w::r4))) (hw:iu w=true) (h:Pb (.items k n a (l++[b])) r4 y):Pb (.items k n a l) (t::r) y:=by
 obtain ⟨f,h⟩:=h
 obtain ⟨g,hb⟩:=hb
 have h1:=Nt _ _ _ _ _ (Nat.le_max_left f g) h
 have h2:=Nt _ _ _ _ _ (Nat.le_max_right f g) hb
 refine ⟨max f g+1,?_⟩
 simp only [bF,LH ht,Bool.false_eq_true,if_false,ht,Bool.true_eq_false]
 cases r with
 |nil=>simp only [h2,gi,hw,if_true,h1]
 |cons u r=>simp only [hu u r rfl,Bool.false_eq_true,if_false,h2,gi,hw,if_true,h1]
end
end Go.Proofs.YthnoiikjfcnlhaaGreatDoor
