/- A step of the proofs of the seat's theorems. -/
import Derived.Test.YthnoiikjfcnlhaaGreatDoorYA
import Derived.Test.YthnoiikjfcnlhaaGreatDoorYXN8
set_option linter.unusedSimpArgs false
set_option linter.unusedVariables false
namespace Go.Proofs.YthnoiikjfcnlhaaGreatDoor
theorem bF_last:∀ (f:Nat) (tag:rR) (ts:List Tk) (b:Bk) (r:List Tk),bF f tag ts=some (.ok b r)→∃ p t,ts=p++t::r∧cg [125] t=true:=by
 intro f
 induction f with
 |zero=>intro tag ts b r h;simp [bF] at h
 |succ f ih=>
  intro tag ts b r h
  have up:∀ {p:Tk→Bool} {k:List Tk→Option RB} {l:List Tk},gi p k l=some (.ok b r)→(∀ m,k m=some (.ok b r)→∃ p t,m=p++t::r∧cg [125] t=true)→∃ p t,l=p++t::r∧cg [125] t=true:=by
   intro p k l h hk
   obtain ⟨t,m,rfl,_,h⟩:=nc h
   obtain ⟨q,u,rfl,hu⟩:=hk m h
   exact ⟨t::q,u,rfl,hu⟩
  have xV:∀ {l ts:List Tk},l<:+ts→(∃ p t,l=p++t::r∧cg [125] t=true)→∃ p t,ts=p++t::r∧cg [125] t=true:=by
   rintro l ts ⟨q,rfl⟩ ⟨p,t,rfl,ht⟩
   exact ⟨q++p,t,by simp,ht⟩
  cases tag with
  |block=>
   cases ts with
   |nil=>simp [bF] at h
   |cons t m=>
    simp only [bF] at h
    split at h
    ·exact xV ((mZ m).trans (aaQ t m)) (up h fun m h=>up h fun m h=>ih _ _ _ _ h)
    ·simp at h
  |items k n a l=>
   simp only [bF] at h
   cases ts with
   |nil=>simp at h
   |cons t m=>
    simp only at h
    have nest:(match bF f .block (t::m) with
       |some (.ok b r3)=>gi iu (fun r4=>bF f (.items k n a (l++[b])) r4) r3
       |y=>y)=some (.ok b r)→∃ p t',t::m=p++t'::r∧cg [125] t'=true:=by
     intro h
     cases hb:bF f .block (t::m) with
     |none=>rw [hb] at h;simp at h
     |some y=>
      have hs:=mB _ _ _ _ hb
      rw [hb] at h
      cases y with
      |err r3 c=>simp at h
      |ok b1 r3=>exact xV hs (up h fun m h=>ih _ _ _ _ h)
    split at h
    ·rename_i h1
     simp only [aaf,RB.ok.injEq] at h
     obtain ⟨rfl,rfl⟩:=h
     exact ⟨[],t,rfl,h1⟩
    ·split at h
     ·simp at h
     ·cases m with
      |nil=>exact nest h
      |cons u m2=>
       simp only at h
       split at h
       ·cases ht:eP m2 with
        |err r3 c=>rw [ht] at h;simp at h
        |ok y r3=>
         rw [ht] at h
         exact xV ((ZK.1 _ _ ht).trans ((aaQ u m2).trans (aaQ t _))) (up h fun m h=>ih _ _ _ _ h)
       ·exact nest h
theorem file_acc:∀ (f:Nat) (acc l:List Bk) (ts:List Tk),gZ f acc ts= .ok l→∃ l',l=acc++l'∧∀ acc',gZ f acc' ts= .ok (acc'++l'):=by
 intro f
 induction f with
 |zero=>intro acc l ts h;simp only [gZ,RF.ok.injEq] at h;subst h;exact ⟨[],by simp,fun acc'=>by simp [gZ]⟩
 |succ f ih=>
  intro acc l ts h
  cases ts with
  |nil=>simp only [gZ,RF.ok.injEq] at h;subst h;exact ⟨[],by simp,fun acc'=>by simp [gZ]⟩
  |cons t m=>
   rw [gZ] at h
   cases hb:bF (ov (t::m)) .block (t::m) with
   |none=>rw [hb] at h;simp at h
   |some y=>
    rw [hb] at h
    cases y with
    |err r c=>simp at h
    |ok b r=>
     cases r with
     |nil=>
      simp only [RF.ok.injEq] at h
      subst h
      exact ⟨[b],rfl,fun acc'=>by rw [gZ,hb]⟩
     |cons u r2=>
      simp only at h
      split at h
      ·rename_i hu
       obtain ⟨l',rfl,h2⟩:=ih _ _ _ h
       exact ⟨b::l',by simp,fun acc'=>by rw [gZ,hb];simp only [hu,if_true];rw [h2];simp⟩
      ·cases h
theorem file_dep:∀ (f:Nat) (acc l:List Bk) (ts:List Tk),gZ f acc ts= .ok l→ts.length<f→∀ n,dep n ts=n:=by
 intro f
 induction f with
 |zero=>intro acc l ts _ h;omega
 |succ f ih=>
  intro acc l ts h hf n
  cases ts with
  |nil=>rfl
  |cons t m=>
   rw [gZ] at h
   cases hb:bF (ov (t::m)) .block (t::m) with
   |none=>rw [hb] at h;simp at h
   |some y=>
    rw [hb] at h
    cases y with
    |err r c=>simp at h
    |ok b r=>
     obtain ⟨a,_,d,e1,_⟩:=bF_loc _ _ _ _ _ hb _ (aan _)
     have hlt:=jm hb
     rw [e1,dep_app,d]
     cases r with
     |nil=>rfl
     |cons u r2=>
      simp only at h
      split at h
      ·rename_i hu
       rw [show dep n (u::r2)=dep (Uj n u) r2 from rfl,Z1 hu]
       simp only [aah] at hlt hf
       exact ih _ _ _ h (by omega) n
      ·cases h
theorem file_join {nb:List Tk} {lb:List Bk} (hnb:∀ acc f,nb.length<f→gZ f acc nb= .ok (acc++lb)):∀ (f:Nat) (acc l:List Bk) (ts x nlp:List Tk) (f':Nat),gZ f acc ts= .ok l→ts.length<f→ts≠[]→rT ts x→
  ((∃ w,nlp=[w]∧iu w=true∧Pu x)∨(nlp=[]∧¬ Pu x))→(x++(nlp++nb)).length<f'→gZ f' acc (x++(nlp++nb))= .ok (l++lb):=by
 intro f
 induction f with
 |zero=>intro acc l ts x nlp f' _ h;omega
 |succ f ih=>
  intro acc l ts x nlp f' h hf h0 hs ht hf'
  obtain ⟨f',rfl⟩:∃ F,f'=F+1:=⟨f' - 1,by omega⟩
  cases ts with
  |nil=>exact absurd rfl h0
  |cons t m=>
   rw [gZ] at h
   cases hb:bF (ov (t::m)) .block (t::m) with
   |none=>rw [hb] at h;simp at h
   |some y=>
    rw [hb] at h
    cases y with
    |err r c=>simp at h
    |ok b r=>
     obtain ⟨a,a0,_,e1,p⟩:=bF_loc _ _ _ _ _ hb _ (aan _)
     have hlt:=jm hb
     rw [e1] at hs
     obtain ⟨x1,x2,rfl,s1,s2⟩:=yf hs
     have q:=bF_fuel ⟨_,p x1 (x2++(nlp++nb)) s1⟩
     have hx0:x1≠[]:=by
      intro e;subst e
      cases a with
      |nil=>exact a0 rfl
      |cons _ _=>exact s1.elim
     rw [aau] at hf' ⊢
     cases hx:x1++(x2++(nlp++nb)) with
     |nil=>simp [hx0] at hx
     |cons v z=>
      rw [hx] at q hf'
      have hl:=congrArg List.length hx
      simp only [aak,aah] at hl hf' hlt hf
      rw [gZ,q]
      cases r with
      |nil=>
       cases x2 with
       |cons _ _=>exact s2.elim
       |nil=>
        simp only [RF.ok.injEq] at h
        subst h
        rcases ht with ⟨w,rfl,hw,_⟩|⟨rfl,hp⟩
        ·simp only [aav,aas,hw,if_true]
         rw [hnb _ f' (by simp only [aao,aah] at hl;omega)]
        ·exfalso
         obtain ⟨p',t',e2,ht'⟩:=bF_last _ _ _ _ _ hb
         rw [aaB] at e1
         rw [e1] at e2
         subst e2
         obtain ⟨y1,y2,rfl,_,s4⟩:=yf s1
         cases y2 with
         |nil=>exact s4.elim
         |cons u y2=>
          cases y2 with
          |cons _ _=>exact s4.2.elim
          |nil=>
           rw [aaB] at hp
           refine hp ((ZG y1 u).2 ?_)
           simp only [cg,aal] at ht'
           rw [s4.1.1];omega
      |cons u r2=>
       cases x2 with
       |nil=>exact s2.elim
       |cons u' x2=>
        simp only at h
        split at h
        ·rename_i hu
         have hu':iu u'=true:=by rw [ZB s2.1];exact hu
         simp only [aas,hu',if_true]
         simp only [aah] at hl hlt
         by_cases hr:r2=[]
         ·subst hr
          cases x2 with
          |cons _ _=>exact s2.2.elim
          |nil=>
           rcases ht with ⟨w,rfl,hw,hp⟩|⟨rfl,hp⟩
           ·exfalso
            have:=(ZG x1 u').1 hp
            simp only [iu,aal] at hu'
            exact this hu'
           ·have hl2:l=acc++[b]:=by
             cases f with
             |zero=>simp only [gZ,RF.ok.injEq] at h;exact h.symm
             |succ f=>simp only [gZ,RF.ok.injEq] at h;exact h.symm
            subst hl2
            simp only [aav]
            exact hnb _ f' (by simp only [aao] at hl;omega)
         ·refine ih _ _ r2 x2 nlp f' h (by omega) hr s2.2 ?_ (by simp only [aak];omega)
          have hpu:Pu (x1++u'::x2)↔Pu x2:=by
           cases x2 with
           |nil=>
            cases r2 with
            |nil=>exact absurd rfl hr
            |cons _ _=>exact s2.2.elim
           |cons v2 x2=>
            unfold Pu
            rw [List.getLast?_append,List.getLast?_cons_cons]
            cases hg:(v2::x2).getLast? with
            |none=>simp at hg
            |some z2=>simp
          rcases ht with ⟨w,e,hw,hp⟩|⟨e,hp⟩
          ·exact .inl ⟨w,e,hw,hpu.1 hp⟩
          ·exact .inr ⟨e,fun h=>hp (hpu.2 h)⟩
        ·cases h
end Go.Proofs.YthnoiikjfcnlhaaGreatDoor
