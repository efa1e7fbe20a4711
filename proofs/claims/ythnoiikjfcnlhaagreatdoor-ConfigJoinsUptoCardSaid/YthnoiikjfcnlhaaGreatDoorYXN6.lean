/- A step of the proofs of the seat's theorems. -/
import Derived.Test.YthnoiikjfcnlhaaGreatDoorYA
import Derived.Test.YthnoiikjfcnlhaaGreatDoorY4
set_option linter.unusedSimpArgs false
set_option linter.unusedVariables false
namespace Go.Proofs.YthnoiikjfcnlhaaGreatDoor
def LocB (g:List Tk→Option RB) (ts:List Tk) (b:Bk) (r:List Tk):Prop:=
 ∃ a,a≠[]∧(∀ n,dep n a=n)∧ts=a++r∧∀ a' Z,rT a a'→g (a'++Z)=some (.ok b Z)
theorem dep_app (n:Nat) (a b:List Tk):dep n (a++b)=dep (dep n a) b:=by simp [dep,List.foldl_append]
theorem Z1 {t:Tk} (h:iu t=true) (n:Nat):Uj n t=n:=by
 simp only [iu,aal] at h
 simp only [Uj,if_neg (show t.kind≠4 by omega)]
theorem Z9 {t:Tk} (h:fo t=true) (n:Nat):Uj n t=n:=by
 simp only [fo,aap,aal] at h
 simp only [Uj,if_neg (show t.kind≠4 by omega)]
theorem op_opn {s:az} {t:Tk} (h:cg s t=true) (hs:s=[123]∨s=[125]∨s=[61]) (n:Nat):Uj n t=n:=by
 rw [(ZF h n).1]
 rcases hs with rfl|rfl|rfl<;>rfl
theorem LocB.cons {g h:List Tk→Option RB} {t:Tk} {l r:List Tk} {b:Bk} (hl:LocB h l b r) (hn:∀ n,Uj n t=n) (hg:∀ u l',Ui t u→g (u::l')=h l'):LocB g (t::l) b r:=by
 obtain ⟨a,_,d,rfl,p⟩:=hl
 refine ⟨t::a,by simp,fun n=>?_,rfl,?_⟩
 ·rw [show dep n (t::a)=dep (Uj n t) a from rfl,hn,d]
 ·intro a' Z hs
  cases a' with
  |nil=>exact hs.elim
  |cons u x=>exact (hg u (x++Z) hs.1).trans (p x Z hs.2)
theorem LocB.tok {p:Tk→Bool} {k:List Tk→Option RB} {t:Tk} {l r:List Tk} {b:Bk} (hl:LocB k l b r) (hn:∀ n,Uj n t=n) (ht:p t=true) (hp:∀ t u,Ui t u→p u=p t):LocB (gi p k) (t::l) b r:=
 hl.cons hn fun u l' hu=>by simp only [gi,hp t u hu,ht,if_true]
theorem bF_loc:∀ (f:Nat) (tag:rR) (ts:List Tk) (b:Bk) (r:List Tk),bF f tag ts=some (.ok b r)→∀ F,f≤F→LocB (fun l=>bF F tag l) ts b r:=by
 intro f
 induction f with
 |zero=>intro tag ts b r h;simp [bF] at h
 |succ f ih=>
  intro tag ts b r h F hF
  obtain ⟨F,rfl⟩:∃ G,F=G+1:=⟨F - 1,by omega⟩
  have I:∀ {tag:rR} {ts:List Tk} {b:Bk} {r:List Tk},bF f tag ts=some (.ok b r)→LocB (fun l=>bF F tag l) ts b r:=fun h=>ih _ _ _ _ h F (by omega)
  cases tag with
  |block=>
   cases ts with
   |nil=>simp [bF] at h
   |cons t m=>
    simp only [bF] at h
    split at h
    ·rename_i ht
     obtain ⟨u,m2,e2,hu,h⟩:=nc h
     obtain ⟨w,m3,rfl,hw,h⟩:=nc h
     have i:=(((I h).tok (Z1 hw) hw (fun t u h=>ZB h)).tok (p:=cg [123]) (op_opn hu (.inl rfl)) hu (fun t u h=>L0 h))
     cases m with
     |nil=>simp [kB] at e2
     |cons v m=>
      by_cases hv:v.kind=3∧v.text≠[]
      ·have e3:kB (v::m)=(v.text,m):=by simp only [kB,if_pos hv]
       rw [e3] at e2 i
       simp only at e2
       subst e2
       refine (i.cons (t:=v) (g:=fun l=>gi (cg [123]) (fun r2=>gi iu (fun r3=>bF F (.items t.text (kB l).1 [] []) r3) r2) (kB l).2) (fun n=>by simp only [Uj,if_neg (show v.kind≠4 by omega)]) (fun v' l' hv'=>?_)).cons (Z9 ht) (fun t' l' ht'=>?_)
       ·have e4:kB (v'::l')=(v.text,l'):=by simp only [kB,hv'.1,hv'.2,if_pos hv]
        rw [e4]
       ·simp only [bF,ZL ht',ht,if_true,ht'.2]
      ·have e3:kB (v::m)=([],v::m):=by simp only [kB,if_neg hv]
       rw [e3] at e2 i
       simp only [aa8] at e2
       obtain ⟨rfl,rfl⟩:=e2
       obtain ⟨a,a0,d,e5,p⟩:=i
       refine ⟨t::a,by simp,fun n=>?_,by rw [e5];rfl,?_⟩
       ·rw [show dep n (t::a)=dep (Uj n t) a from rfl,Z9 ht,d]
       ·intro a' Z hs
        cases a' with
        |nil=>exact hs.elim
        |cons t' x=>
         have hx:=p x Z hs.2
         cases a with
         |nil=>exact absurd rfl a0
         |cons v2 a=>
          cases x with
          |nil=>exact hs.2.elim
          |cons v' x=>
           simp only [aas,aa8] at e5
           obtain ⟨rfl,_⟩:=e5
           have e6:kB (v'::(x++Z))=([],v'::(x++Z)):=by simp only [kB,hs.2.1.1,hs.2.1.2,if_neg hv]
           simp only [aas,bF,ZL hs.1,ht,if_true,hs.1.2,e6]
           exact hx
    ·simp at h
  |items k n a l=>
   simp only [bF] at h
   cases ts with
   |nil=>simp at h
   |cons t m=>
    simp only at h
    split at h
    ·rename_i ht
     simp only [aaf,RB.ok.injEq] at h
     obtain ⟨rfl,rfl⟩:=h
     refine ⟨[t],by simp,fun n=>op_opn ht (.inr (.inl rfl)) n,rfl,?_⟩
     intro a' Z hs
     match a',hs with
     |[u],hs=>simp only [aas,aav,bF,L0 hs.1,ht,if_true]
    ·rename_i h1
     split at h
     ·simp at h
     ·rename_i h2
      have ht:fo t=true:=by simpa using h2
      have nest:(∀ u m',m=u::m'→cg [61] u=false)→(match bF f .block (t::m) with
       |some (.ok b r3)=>gi iu (fun r4=>bF f (.items k n a (l++[b])) r4) r3
       |y=>y)=some (.ok b r)→LocB (fun l_1=>bF (F+1) (.items k n a l) l_1) (t::m) b r:=by
       intro hno h
       cases hb:bF f .block (t::m) with
       |none=>rw [hb] at h;simp at h
       |some y=>
        rw [hb] at h
        cases y with
        |err r3 c=>simp at h
        |ok b1 r3=>
         obtain ⟨w,m3,rfl,hw,h⟩:=nc h
         have hlt:=jm hb
         obtain ⟨a1,a0,d1,e1,p1⟩:=I hb
         obtain ⟨a2,_,d2,e2,p2⟩:=(I h).tok (Z1 hw) hw (fun t u h=>ZB h)
         refine ⟨a1++a2,by simp [a0],fun n=>by rw [dep_app,d1,d2],by rw [e1,e2,aau],?_⟩
         intro a' Z hs
         obtain ⟨x1,x2,rfl,s1,s2⟩:=yf hs
         have q1:=p1 x1 (x2++Z) s1
         have q2:=p2 x2 Z s2
         simp only at q1 q2
         cases a1 with
         |nil=>exact absurd rfl a0
         |cons t2 a1=>
          cases x1 with
          |nil=>exact s1.elim
          |cons t' x1=>
           simp only [aas,aa8] at e1
           obtain ⟨rfl,e1⟩:=e1
           have ht':fo t'=true:=by rw [ZL s1.1];exact ht
           simp only [aas,aau] at q1 ⊢
           simp only [bF,LH ht',aay,if_false,ht',Bool.true_eq_false]
           have hno':∀ u l',x1++(x2++Z)=u::l'→cg [61] u=false:=by
            intro u l' e
            cases a1 with
            |nil=>
             exfalso
             simp only [aav] at e1
             rw [e1] at hlt
             simp at hlt
             have:=jm hb
             rw [e1] at this
             have h3:=mB _ _ _ _ hb
             cases f with
             |zero=>simp [bF] at hb
             |succ f=>
              simp only [bF] at hb
              rw [if_pos ht] at hb
              obtain ⟨_,k2,f2,_,hb⟩:=nc hb
              obtain ⟨_,k3,f3,_,hb⟩:=nc hb
              have g1:=(mB _ _ _ _ hb).length_le
              have g2:=(mZ m).length_le
              rw [f2,f3] at g2
              simp only [jT,aah] at g1 g2
              rw [e1] at g2
              simp only [aah] at g2
              omega
            |cons v a1=>
             cases x1 with
             |nil=>exact s1.2.elim
             |cons v' x1=>
              simp only [aas,aa8] at e
              obtain ⟨rfl,_⟩:=e
              rw [L0 s1.2.1]
              exact hno v _ (by rw [e1];rfl)
           cases hx:x1++(x2++Z) with
           |nil=>rw [hx] at q1;simp only [q1];exact q2
           |cons u l'=>rw [hx] at q1;simp only [hno' u l' hx,aay,if_false,q1];exact q2
      cases m with
      |nil=>exact nest (fun u m' e=>by cases e) h
      |cons u m2=>
       simp only at h
       split at h
       ·rename_i hu
        cases hx:eP m2 with
        |err r3 c=>rw [hx] at h;simp at h
        |ok y r3=>
         rw [hx] at h
         obtain ⟨w,m3,rfl,hw,h⟩:=nc h
         obtain ⟨x1,x2⟩:=takeF_ok hx
         obtain ⟨a2,a20,d2,e2,p2⟩:=(I h).tok (Z1 hw) hw (fun t u h=>ZB h)
         have key:∃ a1,(∀ n,dep n a1=n)∧m2=a1++w::m3∧∀ a' w' Z,rT a1 a'→iu w'=true→eP (a'++w'::Z)= .ok y (w'::Z):=by
          obtain ⟨a1,_,_,e1,p1⟩:=pF_loc _ .cond _ _ _ trivial x1 (nG m2) 0 (aan _)
          refine ⟨a1,fun n=>?_,e1,fun a' w' Z hs hw'=>takeF_of (p1 a' (w'::Z) hs (.inl fun h4=>?_)) x2⟩
          ·obtain ⟨a3,_,e0,e3,_⟩:=pF_loc _ .cond _ _ _ trivial x1 (nG m2) n (aan _)
           have:a3=a1:=List.append_cancel_right (e3.symm.trans e1)
           subst this
           exact e0.1
          ·simp only [iu,aal] at hw';omega
         obtain ⟨a1,d1,e1,p1⟩:=key
         refine ⟨t::u::(a1++a2),by simp,fun n=>?_,by rw [e1,e2];simp,?_⟩
         ·rw [show dep n (t::u::(a1++a2))=dep (Uj (Uj n t) u) (a1++a2) from rfl,Z9 ht,op_opn hu (.inr (.inr rfl)),dep_app,d1,d2]
         ·intro a' Z hs
          match a',hs with
          |t'::u'::x,hs=>
           obtain ⟨y1,y2,rfl,s1,s2⟩:=yf hs.2.2
           have ht':fo t'=true:=by rw [ZL hs.1];exact ht
           have hu':cg [61] u'=true:=by rw [L0 hs.2.1];exact hu
           have q2:=p2 y2 Z s2
           cases a2 with
           |nil=>exact absurd rfl a20
           |cons w2 a2=>
            cases y2 with
            |nil=>exact s2.elim
            |cons w' y2=>
             simp only [aas,aa8] at e2
             obtain ⟨rfl,_⟩:=e2
             have hw':iu w'=true:=by rw [ZB s2.1];exact hw
             have q1:=p1 y1 w' (y2++Z) s1 hw'
             simp only [aas,aau] at q1 q2 ⊢
             simp only [bF,LH ht',aay,if_false,ht',Bool.true_eq_false,hu',if_true,q1,hs.1.2]
             exact q2
       ·rename_i hu
        exact nest (fun u' m' e=>by cases e;simpa using hu) h
end Go.Proofs.YthnoiikjfcnlhaaGreatDoor
