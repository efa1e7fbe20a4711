/- A step of the proofs of the seat's theorems. -/
import Derived.Test.YthnoiikjfcnlhaaGreatDoorYA
import Derived.Test.YthnoiikjfcnlhaaGreatDoorYXN6
set_option linter.unusedSimpArgs false
set_option linter.unusedVariables false
namespace Go.Proofs.YthnoiikjfcnlhaaGreatDoor
abbrev Pu (out:List Tk):Prop:=out=[]∨(out.getLast?.map Tk.kind)≠some 5
theorem ZG (out:List Tk) (t:Tk):Pu (out++[t])↔t.kind≠5:=by simp [Pu]
def endY (Y:az):Prop:=Y=[]∨∃ X,Y=10::X
theorem tw_Y {p:UInt8→Bool} {Y:az} (hY:endY Y) (hp:p 10=false) (s:az):(s++Y).takeWhile p=s.takeWhile p:=by
 rcases hY with rfl|⟨X,rfl⟩
 ·rw [aaB]
 ·exact tw_stopX hp s X
theorem tokF_Y {Y:az} (hY:endY Y) {a:UInt8} {r:az} {k:Int} {t:az} {n:Nat} (h:jy (a::r)= .ok k t n):jy (a::(r++Y))= .ok k t n∧1≤n∧n≤r.length+1∧k≠5:=by
 rcases hY with rfl|⟨X,rfl⟩
 ·rw [aaB]
  exact ⟨h,(tokF_app (X:=[]) h).2⟩
 ·exact tokF_app h
theorem ZM {Y:az} (hY:endY Y):∀ (f a:Nat) (s:az) (op:Nat) (out T:List Tk),dV f a s op out= .ok T→s.length<f→∀ (g b:Nat) (out':List Tk),s.length+Y.length<g→(Pu out↔Pu out')→
  ∃ g' b' new new',T=out++new∧rT new new'∧Y.length<g'∧dV g b (s++Y) op out'=dV g' b' (Y) (dep op new') (out'++new')
 |0,_,_,_,_,_,_,h,_,_,_,_,_=>by omega
 |f+1,_,[],_,out,T,h,_,g,b,out',hg,_=>by
  simp only [dV,qp.ok.injEq] at h
  exact ⟨g,b,[],[],by simp [h],trivial,by simpa using hg,by simp [dep]⟩
 |f+1,a,c::r,op,out,T,h,hf,g,b,out',hg,hq=>by
  obtain ⟨g,rfl⟩:∃ G,g=G+1:=⟨g - 1,by omega⟩
  simp only [aah] at hf hg
  simp only [dV,aas] at h ⊢
  split at h
  ·rename_i h1
   rw [if_pos h1]
   exact ZM hY f _ _ _ _ _ h (by omega) g _ _ (by omega) hq
  ·rename_i h1
   rw [if_neg h1]
   split at h
   ·rename_i h2
    rw [if_pos h2]
    have e1:(c::(r++Y)).takeWhile fO=(c::r).takeWhile fO:=tw_Y hY (by decide) (c::r)
    have hl:=tw_lenX (p:=fO) (c::r)
    have e2:(c::(r++Y)).drop ((c::r).takeWhile fO).length=(c::r).drop ((c::r).takeWhile fO).length++Y:=by
     rw [←aas,abG hl]
    have hp:1≤((c::r).takeWhile fO).length:=by
     rw [aaL,if_pos (by simp [fO];omega)];simp
    rw [e1,e2]
    simp only [aah] at hl
    exact ZM hY f _ _ _ _ _ h (by simp only [aai,aah];omega) g _ _ (by simp only [aai,aah];omega) hq
   ·rename_i h2
    rw [if_neg h2]
    split at h
    ·rename_i h3
     rw [if_pos h3]
     by_cases hc:op=0∧Pu out
     ·have hc':op=0∧Pu out':=⟨hc.1,hq.1 hc.2⟩
      rw [if_pos hc] at h
      rw [if_pos hc']
      obtain ⟨g',b',new,new',i1,i2,i3,i4⟩:=ZM hY f _ _ _ _ _ h (by omega) g (b+1) (out'++[⟨5,[],b⟩]) (by omega) (by rw [ZG,ZG])
      refine ⟨g',b',⟨5,[],a⟩::new,⟨5,[],b⟩::new',by rw [i1];simp,⟨⟨rfl,rfl⟩,i2⟩,i3,?_⟩
      rw [i4]
      simp only [aau,List.singleton_append]
      rfl
     ·have hc':¬ (op=0∧Pu out'):=fun h=>hc ⟨h.1,hq.2 h.2⟩
      rw [if_neg hc] at h
      rw [if_neg hc']
      exact ZM hY f _ _ _ _ _ h (by omega) g _ _ (by omega) hq
    ·rename_i h3
     rw [if_neg h3]
     cases ht:jy (c::r) with
     |err e=>rw [ht] at h;simp at h
     |ok k t n=>
      rw [ht] at h
      simp only at h
      obtain ⟨h4,h5,h6,h7⟩:=tokF_Y hY ht
      rw [h4]
      simp only
      have e2:(c::(r++Y)).drop n=(c::r).drop n++Y:=by
       rw [←aas,abG (by simpa using h6)]
      rw [e2]
      obtain ⟨g',b',new,new',i1,i2,i3,i4⟩:=ZM hY f _ _ _ _ _ h (by simp only [aai,aah];omega) g (b+n) (out'++[⟨k,t,b⟩]) (by simp only [aai,aah];omega) (by rw [ZG,ZG])
      refine ⟨g',b',⟨k,t,a⟩::new,⟨k,t,b⟩::new',by rw [i1];simp,⟨⟨rfl,rfl⟩,i2⟩,i3,?_⟩
      rw [i4]
      simp only [dep,abL,Uj,aau,List.singleton_append]
theorem ZS {Y:az} (hY:endY Y):∀ (f a:Nat) (s:az) (T:List Tk),dV f a s 0 []= .ok T→s.length<f→∀ (g b:Nat) (out':List Tk),s.length+Y.length<g→¬ Pu out'→
  ∃ g' b' new',rT (gJ T) new'∧Y.length<g'∧dV g b (s++Y) 0 out'=dV g' b' (Y) (dep 0 new') (out'++new')
 |0,_,_,_,_,h,_,_,_,_,_=>by omega
 |f+1,_,[],T,h,_,g,b,out',hg,_=>by
  simp only [dV,qp.ok.injEq] at h
  subst h
  exact ⟨g,b,[],trivial,by simpa using hg,by simp [dep]⟩
 |f+1,a,c::r,T,h,hf,g,b,out',hg,hq=>by
  obtain ⟨g,rfl⟩:∃ G,g=G+1:=⟨g - 1,by omega⟩
  simp only [aah] at hf hg
  simp only [dV,aas] at h ⊢
  split at h
  ·rename_i h1
   rw [if_pos h1]
   exact ZS hY f _ _ _ h (by omega) g _ _ (by omega) hq
  ·rename_i h1
   rw [if_neg h1]
   split at h
   ·rename_i h2
    rw [if_pos h2]
    have e1:(c::(r++Y)).takeWhile fO=(c::r).takeWhile fO:=tw_Y hY (by decide) (c::r)
    have hl:=tw_lenX (p:=fO) (c::r)
    have e2:(c::(r++Y)).drop ((c::r).takeWhile fO).length=(c::r).drop ((c::r).takeWhile fO).length++Y:=by
     rw [←aas,abG hl]
    have hp:1≤((c::r).takeWhile fO).length:=by
     rw [aaL,if_pos (by simp [fO];omega)];simp
    rw [e1,e2]
    simp only [aah] at hl
    exact ZS hY f _ _ _ h (by simp only [aai,aah];omega) g _ _ (by simp only [aai,aah];omega) hq
   ·rename_i h2
    rw [if_neg h2]
    split at h
    ·rename_i h3
     rw [if_pos h3]
     have hp:Pu ([]:List Tk):= .inl rfl
     rw [if_pos ⟨trivial,.inl trivial⟩] at h
     rw [if_neg (show ¬ (True∧Pu out') from fun h=>hq h.2)]
     obtain ⟨g',b',new,new',i1,i2,i3,i4⟩:=ZM hY f _ _ _ _ _ h (by omega) g (b+1) out' (by omega) (by rw [ZG];simp [hq])
     refine ⟨g',b',new',?_,i3,i4⟩
     rw [i1]
     exact i2
    ·rename_i h3
     rw [if_neg h3]
     cases ht:jy (c::r) with
     |err e=>rw [ht] at h;simp at h
     |ok k t n=>
      rw [ht] at h
      simp only at h
      obtain ⟨h4,h5,h6,h7⟩:=tokF_Y hY ht
      rw [h4]
      simp only
      have e2:(c::(r++Y)).drop n=(c::r).drop n++Y:=by
       rw [←aas,abG (by simpa using h6)]
      rw [e2]
      obtain ⟨g',b',new,new',i1,i2,i3,i4⟩:=ZM hY f _ _ _ _ _ h (by simp only [aai,aah];omega) g (b+n) (out'++[⟨k,t,b⟩]) (by simp only [aai,aah];omega) (by rw [ZG,ZG])
      refine ⟨g',b',⟨k,t,b⟩::new',?_,i3,?_⟩
      ·rw [i1]
       have:iu (⟨k,t,a⟩:Tk)=false:=by simp [iu,h7]
       simp only [aav,List.singleton_append,gJ,this,aay,if_false]
       exact ⟨⟨rfl,rfl⟩,i2⟩
      ·rw [i4]
       simp only [dep,abL,Uj,aau,List.singleton_append]
theorem file_tail:∀ (f:Nat) (acc l:List Bk) (ts ts' tail:List Tk) (f':Nat),gZ f acc ts= .ok l→ts.length<f→rT ts ts'→(tail=[]∨∃ w,tail=[w]∧iu w=true∧∃ t,ts'.getLast?=some t∧t.kind≠5)→(ts'++tail).length<f'→
  gZ f' acc (ts'++tail)= .ok l:=by
 intro f
 induction f with
 |zero=>intro acc l ts ts' tail f' _ h;omega
 |succ f ih=>
  intro acc l ts ts' tail f' h hf hs ht hf'
  obtain ⟨f',rfl⟩:∃ F,f'=F+1:=⟨f' - 1,by omega⟩
  cases ts with
  |nil=>
   cases ts' with
   |cons u ts'=>exact hs.elim
   |nil=>
    rcases ht with rfl|⟨w,_,_,t,h1,_⟩
    ·simp only [gZ] at h ⊢;exact h
    ·simp at h1
  |cons t m=>
   rw [gZ] at h
   cases hb:bF (ov (t::m)) .block (t::m) with
   |none=>rw [hb] at h;simp at h
   |some y=>
    rw [hb] at h
    cases y with
    |err r c=>simp at h
    |ok b r=>
     obtain ⟨a,a0,_,e1,p⟩:=bF_loc _ _ _ _ _ hb _ (aan _)
     have hlt:=jm hb
     rw [e1] at hs
     obtain ⟨x1,x2,rfl,s1,s2⟩:=yf hs
     have q:=bF_fuel ⟨_,p x1 (x2++tail) s1⟩
     have hx0:x1≠[]:=by
      intro e;subst e
      cases a with
      |nil=>exact a0 rfl
      |cons _ _=>exact s1.elim
     rw [aau] at hf' ⊢
     cases hx:x1++(x2++tail) with
     |nil=>simp [hx0] at hx
     |cons v z=>
      rw [hx] at q hf'
      rw [gZ,q]
      cases r with
      |nil=>
       cases x2 with
       |cons _ _=>exact s2.elim
       |nil=>
        simp only [RF.ok.injEq] at h
        subst h
        rcases ht with rfl|⟨w,rfl,hw,_⟩
        ·rfl
        ·simp only [aav,hw,if_true]
         cases f' with
         |zero=>simp at hf'
         |succ f'=>rfl
      |cons u r2=>
       cases x2 with
       |nil=>exact s2.elim
       |cons u' x2=>
        simp only at h
        split at h
        ·rename_i hu
         have hu':iu u'=true:=by rw [ZB s2.1];exact hu
         simp only [aas,hu',if_true]
         have hl:=congrArg List.length hx
         simp only [aak,aah] at hl hf' hlt hf
         refine ih _ _ r2 x2 tail f' h (by omega) s2.2 ?_ (by rw [aak];omega)
         rcases ht with rfl|⟨w,rfl,hw,t',h1,h2⟩
         ·exact .inl rfl
         ·refine .inr ⟨w,rfl,hw,t',?_,h2⟩
          cases x2 with
          |nil=>
           exfalso
           rw [List.getLast?_append] at h1
           simp at h1
           subst h1
           simp only [iu,aal] at hu'
           exact h2 hu'
          |cons v2 x2=>
           rw [List.getLast?_append,List.getLast?_cons_cons] at h1
           cases hg:(v2::x2).getLast? with
           |none=>simp at hg
           |some z2=>rw [hg] at h1;exact h1
        ·cases h
end Go.Proofs.YthnoiikjfcnlhaaGreatDoor
