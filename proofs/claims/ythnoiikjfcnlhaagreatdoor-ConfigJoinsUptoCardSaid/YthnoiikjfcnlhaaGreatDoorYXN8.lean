/- A step of the proofs of the seat's theorems. -/
import Derived.Test.YthnoiikjfcnlhaaGreatDoorYA
import Derived.Test.YthnoiikjfcnlhaaGreatDoorYXN7
set_option linter.unusedSimpArgs false
set_option linter.unusedVariables false
namespace Go.Proofs.YthnoiikjfcnlhaaGreatDoor
theorem Z8 (T:List Tk):(gJ T).length≤T.length:=by
 cases T with
 |nil=>exact aan _
 |cons t r=>simp only [gJ];split<;>simp
theorem cfg_parts {s:az} {l:List Bk} (h:tY s= .ok l):∃ T,tokens s= .ok T∧gZ (T.length+1) [] (gJ T)= .ok l∧fK l=0:=by
 unfold tY at h
 cases hT:tokens s with
 |err a c=>rw [hT] at h;cases h
 |ok T=>
  rw [hT] at h
  simp only at h
  cases hf:gZ (T.length+1) [] (gJ T) with
  |err r c=>rw [hf] at h;cases h
  |ok l'=>
   rw [hf] at h
   simp only at h
   split at h
   ·cases h
   ·rename_i hv
    cases h
    exact ⟨T,rfl,hf,by simpa using hv⟩
theorem tail_lex (g b q:Nat) (O:List Tk) (hg:5<g):∃ tail,dV g b [10,10,35,32,125] q O= .ok (O++tail)∧(tail=[]∨∃ w,tail=[w]∧iu w=true∧Pu O):=by
 obtain ⟨g,rfl⟩:∃ G,g=G+4:=⟨g - 4,by omega⟩
 have fin:∀ (b:Nat) (O:List Tk),dV (g+2) b [35,32,125] q O= .ok O:=by
  intro b O
  obtain ⟨g,rfl⟩:∃ G,g=G+2:=⟨g - 2,by omega⟩
  have e1:([35,32,125]:az).takeWhile fO=[35,32,125]:=by decide
  rw [dV,if_neg (by decide),if_pos (by decide),e1]
  rfl
 have nl2:∀ (O:List Tk) (b:Nat),¬ (q=0∧Pu O)→dV (g+3) b [10,35,32,125] q O= .ok O:=by
  intro O b h
  rw [dV,if_neg (by decide),if_neg (by decide),if_pos (by decide),if_neg h]
  exact fin _ _
 rw [dV,if_neg (by decide),if_neg (by decide),if_pos (by decide)]
 by_cases hc:q=0∧Pu O
 ·refine ⟨[⟨5,[],b⟩],?_,.inr ⟨_,rfl,by simp [iu],hc.2⟩⟩
  rw [if_pos hc]
  exact nl2 _ _ (by rw [ZG];simp)
 ·refine ⟨[],?_,.inl rfl⟩
  rw [if_neg hc,aaB]
  exact nl2 _ _ hc
theorem cfg_lines {s:az} {l:List Bk} (h:tY s= .ok l) (hl:s.length≤65516):tY (35::32::120::32::123::10::10::32::(s++[10,10,35,32,125]))= .ok l:=by
 obtain ⟨T,hT,hf,hv⟩:=cfg_parts h
 rw [tokens,if_neg (by omega)] at hT
 have hlen:(s++[10,10,35,32,125]).length=s.length+5:=by simp
 obtain ⟨g',b',new',h1,h2,h3⟩:=ZS (Y:=[10,10,35,32,125]) (.inr ⟨_,rfl⟩) _ _ _ _ hT (by omega) (s.length+10) 8 [⟨5,[],5⟩] (by simp only [aah,aao];omega) (by simp)
 obtain ⟨tail,h4,h5⟩:=tail_lex g' b' (dep 0 new') ([⟨5,[],5⟩]++new') (by simpa using h2)
 have key:tokens (35::32::120::32::123::10::10::32::(s++[10,10,35,32,125]))= .ok ([⟨5,[],5⟩]++new'++tail):=by
  rw [tokens,if_neg (by simp only [aah,hlen];omega)]
  simp only [aah,hlen]
  have e1:(35::32::120::32::123::10::10::32::(s++[10,10,35,32,125]):az).takeWhile fO=[35,32,120,32,123]:=by rfl
  rw [show s.length+5+1+1+1+1+1+1+1+1+1=(s.length+10)+4 by omega]
  rw [dV,if_neg (by decide),if_pos (by decide),e1]
  show dV (s.length+10+3) 5 (10::10::32::(s++[10,10,35,32,125])) 0 []=_
  rw [dV,if_neg (by decide),if_neg (by decide),if_pos (by decide),if_pos (by simp),aav]
  rw [dV,if_neg (by decide),if_neg (by decide),if_pos (by decide),if_neg (by simp)]
  rw [dV,if_pos (by decide)]
  show dV (s.length+10) 8 (s++[10,10,35,32,125]) 0 [⟨5,[],5⟩]=_
  rw [h3,h4]
 have hst:gJ ([⟨5,[],5⟩]++new'++tail)=new'++tail:=rfl
 rw [tY,key]
 simp only
 have:=file_tail _ [] l (gJ T) new' tail ((([⟨5,[],5⟩]:List Tk)++new'++tail).length+1) hf (by have:=Z8 T;omega) h1 (by
  rcases h5 with rfl|⟨w,rfl,hw,hp⟩
  ·exact .inl rfl
  ·refine .inr ⟨w,rfl,hw,?_⟩
   cases hn:new'.getLast? with
   |none=>
    rw [List.getLast?_eq_none_iff] at hn
    subst hn
    rcases hp with hp|hp
    ·cases hp
    ·exact absurd rfl hp
   |some t=>
    refine ⟨t,rfl,?_⟩
    rcases hp with hp|hp
    ·simp at hp
    ·rw [List.getLast?_append,hn] at hp
     simpa using hp) (by simp only [aak,aah,aao];omega)
 rw [hst,this]
 simp [hv]
end Go.Proofs.YthnoiikjfcnlhaaGreatDoor
