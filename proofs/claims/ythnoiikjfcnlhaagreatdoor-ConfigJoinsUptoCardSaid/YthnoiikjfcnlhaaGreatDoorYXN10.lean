/- A step of the proofs of the seat's theorems. -/
import Derived.Test.YthnoiikjfcnlhaaGreatDoorYA
import Derived.Test.YthnoiikjfcnlhaaGreatDoorYXN9
set_option linter.unusedSimpArgs false
set_option linter.unusedVariables false
namespace Go.Proofs.YthnoiikjfcnlhaaGreatDoor
theorem bCheckL_app (level:Nat) (a b:List Bk):cH.en level a=0→cH.en level b=0→cH.en level (a++b)=0:=by
 induction a with
 |nil=>intro _ h;exact h
 |cons x a ih=>
  intro h1 h2
  simp only [aas,cH.en] at h1 ⊢
  split at h1
  ·rename_i h;exact absurd h1 h
  ·rename_i h;rw [if_neg h];exact ih h1 h2
theorem fValid_app {a b:List Bk} (h1:fK a=0) (h2:fK b=0) (hn:a.length+b.length≤1024):fK (a++b)=0:=by
 unfold fK at h1 h2 ⊢
 rw [if_neg (by omega)] at h1 h2
 rw [if_neg (by rw [aak];omega)]
 exact bCheckL_app 1 a b h1 h2
theorem startF_dep (T:List Tk) (n:Nat):dep n T=dep n (gJ T):=by
 cases T with
 |nil=>rfl
 |cons t r=>
  simp only [gJ]
  split
  ·rename_i h;rw [show dep n (t::r)=dep (Uj n t) r from rfl,Z1 h]
  ·rfl
theorem file_any {T nb:List Tk} {lb:List Bk} (h:gZ (T.length+1) [] (gJ T)= .ok lb) (hs:rT (gJ T) nb):∀ acc f,nb.length<f→gZ f acc nb= .ok (acc++lb):=by
 intro acc f hf
 have h1:=file_tail _ [] lb (gJ T) nb [] f h (by have:=Z8 T;omega) hs (.inl rfl) (by simpa using hf)
 rw [aaB] at h1
 obtain ⟨l',e,h2⟩:=file_acc _ _ _ _ h1
 rw [aav] at e
 subst e
 exact h2 acc
theorem cfg_joins {a b:az} {la lb:List Bk} (ha:tY a= .ok la) (hb:tY b= .ok lb) (hl:a.length+b.length+1≤65536) (hn:la.length+lb.length≤1024):tY (a++10::b)= .ok (la++lb):=by
 obtain ⟨Ta,hTa,hfa,hva⟩:=cfg_parts ha
 obtain ⟨Tb,hTb,hfb,hvb⟩:=cfg_parts hb
 rw [tokens,if_neg (by omega)] at hTa hTb
 obtain ⟨g1,b1,new,new',e1,h1,h2,h3⟩:=ZM (Y:=10::b) (.inr ⟨b,rfl⟩) _ _ _ _ _ _ hTa (by omega) (a.length+b.length+2) 0 [] (by simp only [aah];omega) (by simp [Pu])
 rw [aav] at e1
 subst e1
 have hd:dep 0 new'=0:=by
  rw [sims_dep 0 h1,startF_dep]
  exact file_dep _ _ _ _ hfa (by have:=Z8 Ta;omega) 0
 rw [hd,aav] at h3
 simp only [aah] at h2
 obtain ⟨g1,rfl⟩:∃ G,g1=G+1:=⟨g1 - 1,by omega⟩
 have hnl:∃ nlp:List Tk,((∃ w,nlp=[w]∧iu w=true∧Pu new')∨(nlp=[]∧¬ Pu new'))∧dV (g1+1) b1 (10::b) 0 new'=dV g1 (b1+1) b 0 (new'++nlp)∧¬ Pu (new'++nlp):=by
  by_cases hp:Pu new'
  ·refine ⟨[⟨5,[],b1⟩],.inl ⟨_,rfl,by simp [iu],hp⟩,?_,by rw [ZG];simp⟩
   rw [dV,if_neg (by decide),if_neg (by decide),if_pos (by decide),if_pos ⟨rfl,hp⟩]
  ·refine ⟨[],.inr ⟨rfl,hp⟩,?_,by rw [aaB];exact hp⟩
   rw [dV,if_neg (by decide),if_neg (by decide),if_pos (by decide),if_neg (fun h=>hp h.2),aaB]
 obtain ⟨nlp,hc,h4,h5⟩:=hnl
 obtain ⟨g2,b2,nb,h6,h7,h8⟩:=ZS (Y:=[]) (.inl rfl) _ _ _ _ hTb (by omega) g1 (b1+1) (new'++nlp) (by simp only [aao];omega) h5
 have key:tokens (a++10::b)= .ok (new'++nlp++nb):=by
  rw [tokens,if_neg (by simp only [aak,aah];omega)]
  rw [show (a++10::b).length+1=a.length+b.length+2 by simp only [aak,aah];omega,h3,h4]
  rw [aaB] at h8
  rw [h8]
  obtain ⟨g2,rfl⟩:∃ G,g2=G+1:=⟨g2 - 1,by simp at h7;omega⟩
  rw [dV]
 have hnb:=file_any hfb h6
 rw [tY,key]
 simp only
 have hv:=fValid_app hva hvb hn
 have goal:gZ ((new'++nlp++nb).length+1) [] (gJ (new'++nlp++nb))= .ok (la++lb):=by
  cases Ta with
  |nil=>
   cases new' with
   |cons _ _=>exact h1.elim
   |nil=>
    have el:la=[]:=by simp only [gJ,gZ,RF.ok.injEq] at hfa;exact hfa.symm
    subst el
    rcases hc with ⟨w,rfl,hw,_⟩|⟨_,hp⟩
    ·simp only [aav,List.singleton_append,gJ,hw,if_true]
     have:=hnb [] (([]++w::nb:List Tk).length+1) (by simp;omega)
     simpa using this
    ·exact absurd (.inl rfl) hp
  |cons t m=>
   cases new' with
   |nil=>exact h1.elim
   |cons t' m'=>
    simp only [aas,gJ] at hfa ⊢
    rw [ZB h1.1]
    split at hfa
    ·rename_i ht
     rw [if_pos ht]
     by_cases hm:m=[]
     ·subst hm
      cases m' with
      |cons _ _=>exact h1.2.elim
      |nil=>
       have el:la=[]:=by simp only [gZ,RF.ok.injEq] at hfa;exact hfa.symm
       subst el
       rcases hc with ⟨w,rfl,hw,hp⟩|⟨rfl,_⟩
       ·exfalso
        have:=(ZG [] t').1 hp
        have hk:iu t'=true:=by rw [ZB h1.1];exact ht
        simp only [iu,aal] at hk
        exact this hk
       ·simp only [aav]
        exact hnb [] _ (by simp only [aah];omega)
     ·have hpu:Pu (t'::m')↔Pu m':=by
       cases m' with
       |nil=>
        cases m with
        |nil=>exact absurd rfl hm
        |cons _ _=>exact h1.2.elim
       |cons v m'=>unfold Pu;rw [List.getLast?_cons_cons];simp
      rw [aau]
      refine file_join hnb _ [] la m m' nlp _ hfa (by simp only [aah];omega) hm h1.2 ?_ (by simp only [aah,aak];omega)
      rcases hc with ⟨w,e,hw,hp⟩|⟨e,hp⟩
      ·exact .inl ⟨w,e,hw,hpu.1 hp⟩
      ·exact .inr ⟨e,fun h=>hp (hpu.2 h)⟩
    ·rename_i ht
     rw [if_neg ht]
     have:=file_join hnb _ [] la (t::m) (t'::m') nlp ((t'::(m'++nlp++nb)).length+1) hfa (by omega) (by simp) h1 hc (by simp only [aah,aak,aas];omega)
     simpa [aau] using this
 rw [goal]
 simp [hv]
end Go.Proofs.YthnoiikjfcnlhaaGreatDoor
