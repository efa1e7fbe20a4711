/- A step of the proofs of the seat's theorems. -/
import Derived.Test.YthnoiikjfcnlhaaGreatDoorYA
import Derived.Test.YthnoiikjfcnlhaaGreatDoorY2
import Derived.Test.YthnoiikjfcnlhaaGreatDoorY3
set_option linter.unusedSimpArgs false
set_option linter.unusedVariables false
namespace Go.Proofs.YthnoiikjfcnlhaaGreatDoor
theorem vzero {v:aX} (h:jg v=true):v=ct:=by
 simp only [jg,aap,aal,abb] at h
 obtain ⟨⟨⟨⟨⟨a,b⟩,c⟩,d⟩,e⟩,f⟩:=h
 rw [←aX.eta v,a,b,c,d,e,f];rfl
theorem lit_of {v:aX} (h:fk v=0) (h1:v.kind≤3) (h2:0≤v.int):litOK v:=by
 have hn:gY v 1=0:=by
  rcases v with ⟨k,b,i,s,l,ks⟩
  rw [fk,dI] at h
  split at h
  ·contradiction
  ·rename_i h';simpa using h'
 unfold gY at hn
 rw [if_neg (by decide)] at hn
 split at hn
 ·cases hn
 ·rename_i c1
  split at hn
  ·cases hn
  ·rename_i c2
   split at hn
   ·cases hn
   ·rename_i c3
    simp only [not_or,Bool.not_eq_false] at c1 c2 c3
    obtain ⟨c0,c1,c4⟩:=c1
    simp only [gM,aap,aaX,aal,abb] at c4
    obtain ⟨⟨⟨⟨u1,u2⟩,u3⟩,u4⟩,u5⟩:=c4
    have hl:v.list=[]:=by
     rcases u4 with (h|h)|h
     ·omega
     ·omega
     ·exact h
    have hks:v.keys=[]:=by
     rcases u5 with h|h
     ·omega
     ·exact h
    have hb:v.kind≠1→v.bool=false:=fun h=>u1.resolve_left h
    have hi:v.kind≠2→v.int=0:=fun h=>u2.resolve_left h
    have hstr:v.kind≠3→v.str=[]:=fun h=>u3.resolve_left h
    have hk:v.kind=0∨v.kind=1∨v.kind=2∨v.kind=3:=by omega
    have he:=aX.eta v
    rw [hl,hks] at he
    rcases hk with hk|hk|hk|hk
    ·rw [hk,hb (by omega),hi (by omega),hstr (by omega)] at he
     exact .inl he.symm
    ·rw [hk,hi (by omega),hstr (by omega)] at he
     exact .inr (.inl ⟨_,he.symm⟩)
    ·rw [hk,hb (by omega),hstr (by omega)] at he
     refine .inr (.inr (.inl ⟨v.int.toNat,?_,by omega⟩))
     rw [Int.toNat_of_nonneg h2]
     exact he.symm
    ·rw [hk,hb (by omega),hi (by omega)] at he
     exact .inr (.inr (.inr ⟨v.str,he.symm,by omega⟩))
theorem len1 {l:List Ex} (h:l.length=1):∃ a,l=[a]:=by
 match l,h with
 |[a],_=>exact ⟨a,rfl⟩
theorem len2 {l:List Ex} (h:l.length=2):∃ a b,l=[a,b]:=by
 match l,h with
 |[a,b],_=>exact ⟨a,b,rfl⟩
theorem len3 {l:List Ex} (h:l.length=3):∃ a b c,l=[a,b,c]:=by
 match l,h with
 |[a,b,c],_=>exact ⟨a,b,c,rfl⟩
theorem checkL_mem {level:Nat} {l:List Ex} (h:dc.gy level l=0):∀ x∈l,dc level x=0:=by
 induction l with
 |nil=>intro x hx;cases hx
 |cons a r ih=>
  intro x hx
  rw [dc.gy] at h
  split at h
  ·contradiction
  ·rename_i h1
   have h1:dc level a=0:=by simpa using h1
   rcases aaY.1 hx with rfl|hx
   ·exact h1
   ·exact ih h x hx
theorem cano_of:∀ (e:Ex) (level:Nat),dc level e=0→x8 e=true→O2 e:=by
 intro e
 induction e using Ex.ind with|h e ih=>?_
 intro level h hs
 rw [Z4] at hs
 simp only [aap,ZX,aaz] at hs
 obtain ⟨s1,s2⟩:=hs
 have hc:jv e level=0∧dc.gy (level+1) e.args=0:=by
  rcases e with ⟨k,n,v,ar,ks⟩
  rw [dc] at h
  split at h
  ·contradiction
  ·rename_i h1;exact ⟨by simpa using h1,h⟩
 obtain ⟨hn,hc⟩:=hc
 refine .mk e ?_ fun x hx=>ih x hx (level+1) (checkL_mem hc x hx) (s2 x hx)
 unfold jv at hn
 split at hn
 ·cases hn
 ·split at hn
  ·cases hn
  ·rename_i c1
   simp only [not_or,not_and,Bool.not_eq_false] at c1
   obtain ⟨k1,k2,k3,k4,k5,k6⟩:=c1
   split at hn
   ·rename_i c2;exact absurd hn c2.2
   ·rename_i c2
    have hv:e.kind≠1→e.value=ct:=fun h=>vzero (k3 h)
    have hk10:e.kind≠10→e.keys=[]:=by
     intro h;simpa [gR,h] using k6
    have hk:e.kind=1∨e.kind=2∨e.kind=3∨e.kind=4∨e.kind=5∨e.kind=6∨e.kind=7∨e.kind=8∨e.kind=9∨e.kind=10:=by omega
    rcases hk with hk|hk|hk|hk|hk|hk|hk|hk|hk|hk
    ·refine .inl ⟨hk,?_,by simpa [dJ,hk] using k4,by simpa [jJ,hk] using k5,hk10 (by omega)⟩
     have h0:fk e.value=0:=by
      refine Classical.byContradiction fun h=>c2 ⟨hk,h⟩
     simp only [hk,decide_true,abI,abb,abJ,aaG] at s1
     exact lit_of h0 (by omega) (by omega)
    ·exact .inr (.inl ⟨hv (by omega),hk10 (by omega),hk,by simpa [dJ,hk] using k4,by simpa [jJ,hk] using k5⟩)
    ·exact .inr (.inr (.inl ⟨hv (by omega),hk10 (by omega),hk,by simpa [dJ,hk] using k4,len1 (by simpa [jJ,hk] using k5)⟩))
    ·exact .inr (.inr (.inr (.inl ⟨hv (by omega),hk10 (by omega),hk,by simpa [dJ,hk] using k4,len2 (by simpa [jJ,hk] using k5)⟩)))
    ·exact .inr (.inr (.inr (.inr (.inl ⟨hv (by omega),hk10 (by omega),hk,by simpa [dJ,hk] using k4⟩))))
    ·exact .inr (.inr (.inr (.inr (.inr (.inl ⟨hv (by omega),hk10 (by omega),hk,by simpa [dJ,hk] using k4,len1 (by simpa [jJ,hk] using k5)⟩)))))
    ·exact .inr (.inr (.inr (.inr (.inr (.inr (.inl ⟨hv (by omega),hk10 (by omega),hk,by simpa [dJ,hk] using k4,len2 (by simpa [jJ,hk] using k5)⟩))))))
    ·exact .inr (.inr (.inr (.inr (.inr (.inr (.inr (.inl ⟨hv (by omega),hk10 (by omega),hk,by simpa [dJ,hk] using k4,len3 (by simpa [jJ,hk] using k5)⟩)))))))
    ·exact .inr (.inr (.inr (.inr (.inr (.inr (.inr (.inr (.inl ⟨hv (by omega),hk10 (by omega),hk,by simpa [dJ,hk] using k4⟩))))))))
    ·have h6:e.keys.length=e.args.length∧∀ k∈e.keys,fP k=true:=by
      simpa [gR,hk] using k6
     exact .inr (.inr (.inr (.inr (.inr (.inr (.inr (.inr (.inr ⟨hv (by omega),hk,by simpa [dJ,hk] using k4,h6.1,h6.2⟩))))))))
theorem cano_valid {e:Ex} (h:dW e=0) (hs:x8 e=true):O2 e:=by
 rw [dW] at h
 split at h
 ·cases h
 ·exact cano_of e 1 h hs
theorem show_src {e:Ex} (h:dW e=0):qq e=src e:=by rw [qq,if_neg (by simp [h])]
def nlT:Tk:=⟨5,[],0⟩
def Ly (s:az) (T:List Tk):Prop:=
 ∀ (X:az) (g a:Nat) (out:List Tk),s.length+X.length<g→∃ g' a' new,X.length<g'∧rT T new∧dV g a (s++X) 0 out=dV g' a' X 0 (out++new)
theorem Ly.nil:Ly [] []:=fun X g a out hg=>⟨g,a,[],by simpa using hg,trivial,by simp⟩
theorem Ly.app {s1 s2:az} {T1 T2:List Tk} (h1:Ly s1 T1) (h2:Ly s2 T2):Ly (s1++s2) (T1++T2):=by
 intro X g a out hg
 rw [aak] at hg
 obtain ⟨g1,a1,n1,l1,m1,e1⟩:=h1 (s2++X) g a out (by rw [aak];omega)
 rw [aak] at l1
 obtain ⟨g2,a2,n2,l2,m2,e2⟩:=h2 X g1 a1 (out++n1) l1
 exact ⟨g2,a2,n1++n2,l2,sI m1 m2,by rw [aau,e1,e2,aau]⟩
theorem sims_last {T new:List Tk} (h:rT T new) (h0:T≠[]) (hk:∀ t∈T,t.kind≠5):∃ t,new.getLast?=some t∧t.kind≠5:=by
 induction T generalizing new with
 |nil=>exact absurd rfl h0
 |cons t T ih=>
  cases new with
  |nil=>exact h.elim
  |cons u new=>
   by_cases hT:T=[]
   ·subst hT
    cases new with
    |nil=>exact ⟨u,rfl,by rw [h.1.1];exact hk t (by simp)⟩
    |cons v new=>exact h.2.elim
   ·obtain ⟨v,h1,h2⟩:=ih h.2 hT fun x hx=>hk x (by simp [hx])
    refine ⟨v,?_,h2⟩
    rw [List.getLast?_cons,h1];rfl
theorem Lx.line {s:az} {T:List Tk} (h:Lx s T Zb) (h0:T≠[]) (hk:∀ t∈T,t.kind≠5) (hd:dep 0 T=0):Ly (s++[10]) (T++[nlT]):=by
 intro X g a out hg
 rw [aak] at hg
 simp only [aah,aao] at hg
 obtain ⟨g1,a1,n1,l1,m1,e1⟩:=h (10::X) (ZN (by decide)) g a 0 out (by simp only [aah];omega)
 simp only [aah] at l1
 obtain ⟨g1,rfl⟩:∃ G,g1=G+1:=⟨g1 - 1,by omega⟩
 obtain ⟨t,h1,h2⟩:=sims_last m1 h0 hk
 refine ⟨g1,a1+1,n1++[⟨5,[],a1⟩],by omega,sI m1 ⟨⟨rfl,rfl⟩,trivial⟩,?_⟩
 rw [aau]
 show dV g a (s++10::X) 0 out=_
 rw [e1,hd,dV,if_neg (by decide),if_neg (by decide),if_pos (by decide),if_pos]
 ·rw [aau]
 ·refine ⟨rfl,.inr ?_⟩
  have:(out++n1).getLast?=some t:=by
   rw [List.getLast?_append,h1];rfl
  rw [this]
  simpa using h2
theorem lx_blanks (n:Nat):Lx (sp n) [] fun _=>True:=by
 induction n with
 |zero=>exact fun X _ g a op out hg=>⟨g,a,[],by simpa [sp] using hg,trivial,by simp [sp,dep]⟩
 |succ n ih=>
  have:=Lx.space.app ih any
  simpa [sp,List.replicate_succ] using this
theorem lx_eqs:Lx [61] [tO [61]] fun X=>∃ r,X=32::r:=by
 refine Lx.tok (by decide) fun X hX=>?_
 obtain ⟨r,rfl⟩:=hX
 rfl
def btk:Bk→List Tk
 | .mk k n a l=>tN k::(if n=[] then [] else [tS n])++tO [123]::nlT::a.flatMap (fun x=>tN x.1::tO [61]::LG x.2++[nlT])++Z0 l++[tO [125]]
where Z0:List Bk→List Tk
 |[]=>[]
 |b::r=>btk b++nlT::Z0 r
inductive Ns:Bk→Prop
 |mk (b:Bk):cc b.kind=true→b.name.length≤64→(∀ x∈b.attrs,cc x.1=true∧O2 x.2∧dW x.2=0)→(∀ x∈b.blocks,Ns x)→Ns b
theorem tks_flat {e:Ex} (h:O2 e) (n:Nat):dep n (LG e)=n∧∀ t∈LG e,t.kind≠5:=by
 have h4:=(reads_of e h).cond [] ⟨rfl,⟨(fun t l h=>by cases h),(fun t l h=>by cases h),(fun t l h=>by cases h)⟩,(fun t l h=>by cases h)⟩
 obtain ⟨f,h4⟩:=h4
 rw [aaB] at h4
 obtain ⟨a,_,e0,e1,_⟩:=pF_loc _ .cond _ _ _ trivial h4 f n (aan _)
 rw [aaB] at e1
 subst e1
 exact e0
theorem name_plain {s:az} (h:cc s=true):Lx s [tN s] Zb:=ZU (ZH h).1
theorem ly_attr {x:az×Ex} (h:cc x.1=true∧O2 x.2∧dW x.2=0) (n:Nat):Ly (sp n++x.1++[32,61,32]++qq x.2++[10]) (tN x.1::tO [61]::LG x.2++[nlT]):=by
 obtain ⟨h1,h2,h3⟩:=h
 rw [show_src h3]
 obtain ⟨d1,d2⟩:=tks_flat h2 0
 have hx:=((((lx_blanks n).app (name_plain h1) any).app Lx.space (fun X _=>ZN (by decide))).app lx_eqs any).app Lx.space (fun X _=>⟨X,rfl⟩)
 have hx2:=hx.app (lexed_of _ h2).lx any
 have:=hx2.line (by simp) (by
  intro t ht
  simp only [aav,aaB,aas,aaY] at ht
  rcases ht with rfl|rfl|ht
  ·simp [tN]
  ·simp [tO]
  ·exact d2 t ht) (by
  simp only [aav,aaB,aas,dep,abL]
  exact d1)
 simpa [aau] using this
theorem ly_attrs (n:Nat):∀ l:List (az×Ex),(∀ x∈l,cc x.1=true∧O2 x.2∧dW x.2=0)→Ly (l.flatMap fun x=>sp n++x.1++[32,61,32]++qq x.2++[10]) (l.flatMap fun x=>tN x.1::tO [61]::LG x.2++[nlT])
 |[],_=>Ly.nil
 |x::l,h=>by
  rw [abK,abK]
  exact (ly_attr (h x (by simp)) n).app (ly_attrs n l fun y hy=>h y (by simp [hy]))
theorem ly_blocks {level:Nat}:∀ l:List Bk,(∀ x∈l,Ly (ir level x) (btk x++[nlT]))→Ly (ir.gH level l) (btk.Z0 l)
 |[],_=>Ly.nil
 |b::l,h=>by
  rw [ir.gH,btk.Z0]
  have:=(h b (by simp)).app (ly_blocks l fun y hy=>h y (by simp [hy]))
  simpa [aau] using this
theorem ly_block:∀ (b:Bk),Ns b→∀ level,Ly (ir level b) (btk b++[nlT]):=by
 intro b h
 induction h with
 |mk b h1 h2 h3 _ ih=>
  intro level
  rcases b with ⟨k,n,a,l⟩
  simp only [Bk.kind,Bk.name,Bk.attrs,Bk.blocks] at h1 h2 h3 ih
  have hb:Lx [123] [tO [123]] _:=ZD (by decide)
  have hc:Lx [125] [tO [125]] _:=ZD (by decide)
  have hname:Lx (if n=[] then [] else 32::fl n) (if n=[] then [] else [tS n]) fun X=>∃ r,X=32::r:=by
   by_cases hn:n=[]
   ·simp only [hn,if_true]
    exact fun X _ g a op out hg=>⟨g,a,[],by simpa using hg,trivial,by simp [dep]⟩
   ·simp only [hn,if_false]
    have:=Lx.space.app (lx_str (s:=n) (by omega)) any
    exact this.mono any
  have l1:Ly (sp (2*level - 2)++k++(if n=[] then [] else 32::fl n)++[32,123,10]) (tN k::(if n=[] then [] else [tS n])++[tO [123],nlT]):=by
   have hx:=((((lx_blanks (2*level - 2)).app (name_plain h1) any).app hname (fun X hX=>by
    obtain ⟨r,rfl⟩:=hX
    by_cases hn:n=[]
    ·simp only [hn,if_true];exact ZN (by decide)
    ·simp only [hn,if_false];exact ZN (by decide))).app Lx.space (fun X _=>⟨X,rfl⟩)).app hb any
   have:=(hx.mono (ok':=Zb) any).line (by simp) (by
    intro t ht
    by_cases hn:n=[]
    ·simp only [hn,if_true] at ht
     simp at ht
     rcases ht with rfl|rfl<;>simp [tN,tO]
    ·simp only [hn,if_false] at ht
     simp at ht
     rcases ht with rfl|rfl|rfl<;>simp [tN,tO,tS]) (by
    by_cases hn:n=[]
    ·simp only [hn,if_true];rfl
    ·simp only [hn,if_false];rfl)
   simpa [aau] using this
  have l4:Ly (sp (2*level - 2)++[125,10]) [tO [125],nlT]:=by
   have hx:=((lx_blanks (2*level - 2)).app hc any)
   have:=(hx.mono (ok':=Zb) any).line (by simp) (by intro t ht;simp at ht;rw [ht];simp [tO]) rfl
   simpa [aau] using this
  have:=((l1.app (ly_attrs (2*level) a h3)).app (ly_blocks l fun x hx=>ih x hx (level+1))).app l4
  rw [ir,btk]
  simpa [aau] using this
def Pb (tag:rR) (ts:List Tk) (x:RB):Prop:=∃ f,bF f tag ts=some x
theorem rE {p:Tk→Bool} {k k':List Tk→Option RB} {l:List Tk} {x:RB} (hk:∀ r,k r=some x→k' r=some x) (h:gi p k l=some x):gi p k' l=some x:=by
 cases l with
 |nil=>exact h
 |cons t r=>
  simp only [gi] at h ⊢
  split at h
  ·rename_i ht;rw [if_pos ht];exact hk r h
  ·rename_i ht;rw [if_neg ht];exact h
theorem Nt:∀ (f g:Nat) (tag:rR) (ts:List Tk) (x:RB),f≤g→bF f tag ts=some x→bF g tag ts=some x:=by
 intro f
 induction f with
 |zero=>intro g tag ts x _ h;simp [bF] at h
 |succ f ih=>
  intro g tag ts x hg h
  obtain ⟨g,rfl⟩:∃ G,g=G+1:=⟨g - 1,by omega⟩
  have I:∀ {tag:rR} {ts:List Tk} {x:RB},bF f tag ts=some x→bF g tag ts=some x:=fun h=>ih g _ _ _ (by omega) h
  cases tag with
  |block=>
   cases ts with
   |nil=>simpa only [bF] using h
   |cons t r=>
    simp only [bF] at h ⊢
    split at h
    ·rename_i ht
     rw [if_pos ht]
     exact rE (fun r h=>rE (fun r h=>I h) h) h
    ·rename_i ht
     rw [if_neg ht];exact h
  |items k n a l=>
   simp only [bF] at h ⊢
   cases ts with
   |nil=>exact h
   |cons t r=>
    have nest:(match bF f .block (t::r) with
       |some (.ok b r3)=>gi iu (fun r4=>bF f (.items k n a (l++[b])) r4) r3
       |y=>y)=some x→(match bF g .block (t::r) with
       |some (.ok b r3)=>gi iu (fun r4=>bF g (.items k n a (l++[b])) r4) r3
       |y=>y)=some x:=by
     intro h
     cases hb:bF f .block (t::r) with
     |none=>rw [hb] at h;simp at h
     |some y=>
      rw [hb] at h
      rw [I hb]
      cases y with
      |ok b r3=>exact rE (fun r h=>I h) h
      |err r3 c=>exact h
    simp only at h ⊢
    split at h
    ·rename_i h1;rw [if_pos h1];exact h
    ·rename_i h1
     rw [if_neg h1]
     split at h
     ·rename_i h2;rw [if_pos h2];exact h
     ·rename_i h2
      rw [if_neg h2]
      cases r with
      |nil=>exact nest h
      |cons u r2=>
       simp only at h ⊢
       split at h
       ·rename_i h3
        rw [if_pos h3]
        cases ht:eP r2 with
        |ok y r3=>rw [ht] at h;exact rE (fun r h=>I h) h
        |err r3 c=>rw [ht] at h;exact h
       ·rename_i h3
        rw [if_neg h3];exact nest h
section
variable {t u w:Tk} {r r2 r3 r4:List Tk} {k n:az} {a:List (az×Ex)} {l:List Bk} {x:Ex} {b:Bk} {y:RB}
theorem Pb.block (ht:fo t=true) (hn:kB r=(n,u::w::r3)) (hu:cg [123] u=true) (hw:iu w=true) (h:Pb (.items t.text n [] []) r3 y):Pb .block (t::r) y:=by
 obtain ⟨f,h⟩:=h
 exact ⟨f+1,by simp only [bF,ht,if_true,hn,gi,hu,hw,h]⟩
theorem Pb.stop (ht:cg [125] t=true):Pb (.items k n a l) (t::r) (.ok (.mk k n a l) r):=⟨1,by simp only [bF,ht,if_true]⟩
theorem LH {s:az} (ht:fo t=true):cg s t=false:=by
 simp only [fo,aap,aal] at ht
 simp only [cg,aaG]
 rintro ⟨h,_⟩;omega
theorem Pb.attr (ht:fo t=true) (hu:cg [61] u=true) (hx:eP r2= .ok x (w::r4)) (hw:iu w=true) (h:Pb (.items k n (a++[(t.text,x)]) l) r4 y):Pb (.items k n a l) (t::u::r2) y:=by
 obtain ⟨f,h⟩:=h
 refine ⟨f+1,?_⟩
 simp only [bF,LH ht,aay,if_false,ht,hu,if_true,hx,gi,hw,h]
 rfl
theorem Pb.sub (ht:fo t=true) (hu:no [61] r) (hb:Pb .block (t::r) (.ok b (w::r4))) (hw:iu w=true) (h:Pb (.items k n a (l++[b])) r4 y):Pb (.items k n a l) (t::r) y:=by
 obtain ⟨f,h⟩:=h
 obtain ⟨g,hb⟩:=hb
 have h1:=Nt _ _ _ _ _ (Nat.le_max_left f g) h
 have h2:=Nt _ _ _ _ _ (Nat.le_max_right f g) hb
 refine ⟨max f g+1,?_⟩
 simp only [bF,LH ht,aay,if_false,ht,Bool.true_eq_false]
 cases r with
 |nil=>simp only [h2,gi,hw,if_true,h1]
 |cons u r=>simp only [hu u r rfl,aay,if_false,h2,gi,hw,if_true,h1]
end
theorem take_tks {e:Ex} (h:O2 e) (hv:dW e=0) (r:List Tk):eP (LG e++nlT::r)= .ok e (nlT::r):=by
 obtain ⟨f,h4⟩:=(reads_of e h).cond (nlT::r) ⟨by simp [hs,nlT],⟨by rintro t l ⟨⟩;simp [cg,nlT],by rintro t l ⟨⟩;simp [cg,nlT],by rintro t l ⟨⟩;simp [cg,nlT]⟩,by rintro t l ⟨⟩;simp [cg,nlT]⟩
 exact takeF_of h4 hv
theorem name_tok {s:az} (h:cc s=true):fo (tN s)=true:=by simp [fo,tN,h]
theorem attrs_read {k n:az} {L:List Bk} {T:List Tk} {y:RB}:∀ (a2 a1:List (az×Ex)),(∀ x∈a2,cc x.1=true∧O2 x.2∧dW x.2=0)→Pb (.items k n (a1++a2) L) T y→
  Pb (.items k n a1 L) (a2.flatMap (fun x=>tN x.1::tO [61]::LG x.2++[nlT])++T) y
 |[],a1,_,h=>by simpa using h
 |x::a2,a1,hx,h=>by
  obtain ⟨h1,h2,h3⟩:=hx x (by simp)
  have ih:=attrs_read a2 (a1++[(x.1,x.2)]) (fun z hz=>hx z (by simp [hz])) (by simpa using h)
  have:=Pb.attr (t:=tN x.1) (u:=tO [61]) (w:=nlT) (name_tok h1) (by decide) (take_tks h2 h3 (a2.flatMap (fun x=>tN x.1::tO [61]::LG x.2++[nlT])++T)) (by decide) ih
  simpa [aau] using this
theorem blocks_read {k n:az} {a:List (az×Ex)} (r:List Tk):∀ (l2 l1:List Bk),(∀ b∈l2,(∀ r,Pb .block (btk b++r) (.ok b r))∧cc b.kind=true)→Pb (.items k n a l1) (btk.Z0 l2++tO [125]::r) (.ok (.mk k n a (l1++l2)) r)
 |[],l1,_=>by simpa [btk.Z0] using (Pb.stop (r:=r) (by decide:cg [125] (tO [125])=true))
 |b::l2,l1,h=>by
  obtain ⟨h1,h2⟩:=h b (by simp)
  have ih:=blocks_read (k:=k) (n:=n) (a:=a) r l2 (l1++[b]) fun z hz=>h z (by simp [hz])
  have hb:=h1 (nlT::(btk.Z0 l2++tO [125]::r))
  have e1:∃ m,btk b++nlT::(btk.Z0 l2++tO [125]::r)=tN b.kind::m∧no [61] m:=by
   rcases b with ⟨k',n',a',l'⟩
   refine ⟨_,by rw [btk];rfl,?_⟩
   by_cases hn:n'=[]
   ·subst hn
    rintro t m ⟨⟩
    decide
   ·simp only [hn,if_false]
    rintro t m ⟨⟩
    simp [cg,tS]
  obtain ⟨m,e1,e2⟩:=e1
  rw [e1] at hb
  have:=Pb.sub (name_tok h2) e2 hb (by decide) ih
  rw [←e1] at this
  rw [btk.Z0]
  simpa [aau] using this
theorem bcano_kind {b:Bk} (h:Ns b):cc b.kind=true:=by cases h;assumption
theorem block_read:∀ b:Bk,Ns b→∀ r,Pb .block (btk b++r) (.ok b r):=by
 intro b h
 induction h with
 |mk b h1 h2 h3 h4 ih=>
  intro r
  rcases b with ⟨k,n,a,l⟩
  simp only [Bk.kind,Bk.name,Bk.attrs,Bk.blocks] at h1 h2 h3 h4 ih
  have hl:=blocks_read (k:=k) (n:=n) (a:=a) r l [] fun b hb=>⟨ih b hb,bcano_kind (h4 b hb)⟩
  have ha:=attrs_read (k:=k) (n:=n) (L:=[]) (T:=btk.Z0 l++tO [125]::r) a [] h3 hl
  have hn:kB ((if n=[] then [] else [tS n])++tO [123]::nlT::(a.flatMap (fun x=>tN x.1::tO [61]::LG x.2++[nlT])++(btk.Z0 l++tO [125]::r)))=(n,tO [123]::nlT::(a.flatMap (fun x=>tN x.1::tO [61]::LG x.2++[nlT])++(btk.Z0 l++tO [125]::r))):=by
   by_cases hn:n=[]
   ·subst hn;simp [kB,tO]
   ·simp [kB,hn,tS]
  have:=Pb.block (name_tok h1) hn (by decide) (by decide) ha
  rw [btk]
  simpa [aau] using this
theorem Kp_sims {r Z:List Tk} (h:rT r Z):Kp r Z:=by
 cases r with
 |nil=>cases Z with
  |nil=>exact .inl trivial
  |cons u Z=>exact h.elim
 |cons t r=>cases Z with
  |nil=>exact h.elim
  |cons u Z=>exact .inr ⟨t,r,u,Z,rfl,rfl,h.1⟩
theorem takeF_sims {ts ts' r:List Tk} {e:Ex} (h:eP ts= .ok e r) (hs:rT ts ts'):∃ r',rT r r'∧eP ts'= .ok e r':=by
 obtain ⟨h1,h2⟩:=takeF_ok h
 obtain ⟨a,_,_,e1,h3⟩:=pF_loc _ .cond _ _ _ trivial h1 (nG ts) 0 (aan _)
 subst e1
 obtain ⟨x1,x2,rfl,s1,s2⟩:=yf hs
 exact ⟨x2,s2,takeF_of (h3 x1 x2 s1 (Kp_sims s2)) h2⟩
theorem nameB_sims {r r':List Tk} (h:rT r r'):(kB r').1=(kB r).1∧rT (kB r).2 (kB r').2:=by
 cases r with
 |nil=>cases r' with
  |nil=>exact ⟨rfl,trivial⟩
  |cons u r'=>exact h.elim
 |cons t r=>cases r' with
  |nil=>exact h.elim
  |cons u r'=>
   simp only [kB,h.1.1,h.1.2]
   split
   ·exact ⟨rfl,h.2⟩
   ·exact ⟨rfl,h⟩
theorem Z3 {p:Tk→Bool} {k k':List Tk→Option RB} {l l':List Tk} {b:Bk} {r:List Tk} (hp:∀ t u,Ui t u→p u=p t) (hl:rT l l') (hk:∀ m m',rT m m'→k m=some (.ok b r)→∃ r',rT r r'∧k' m'=some (.ok b r'))
  (h:gi p k l=some (.ok b r)):∃ r',rT r r'∧gi p k' l'=some (.ok b r'):=by
 obtain ⟨t,m,rfl,h1,h2⟩:=nc h
 cases l' with
 |nil=>exact hl.elim
 |cons u m'=>
  obtain ⟨r',s,e⟩:=hk m m' hl.2 h2
  exact ⟨r',s,by simp only [gi,hp t u hl.1,h1,if_true,e]⟩
theorem ZB {t u:Tk} (h:Ui t u):iu u=iu t:=by simp only [iu,h.1]
theorem ZL {t u:Tk} (h:Ui t u):fo u=fo t:=by simp only [fo,h.1,h.2]
theorem bF_sims:∀ (f:Nat) (tag:rR) (ts ts':List Tk) (b:Bk) (r:List Tk),rT ts ts'→bF f tag ts=some (.ok b r)→∃ r',rT r r'∧bF f tag ts'=some (.ok b r'):=by
 intro f
 induction f with
 |zero=>intro tag ts ts' b r _ h;simp [bF] at h
 |succ f ih=>
  intro tag ts ts' b r hs h
  cases tag with
  |block=>
   cases ts with
   |nil=>simp [bF] at h
   |cons t m=>
    cases ts' with
    |nil=>exact hs.elim
    |cons u m'=>
     simp only [bF] at h ⊢
     rw [ZL hs.1]
     split at h
     ·rename_i ht
      rw [if_pos ht]
      obtain ⟨n1,n2⟩:=nameB_sims hs.2
      rw [n1,hs.1.2]
      exact Z3 (fun t u h=>L0 h) n2 (fun m m' hm h=>Z3 (fun t u h=>ZB h) hm (fun m m' hm h=>ih _ _ _ _ _ hm h) h) h
     ·simp at h
  |items k n a l=>
   simp only [bF] at h ⊢
   cases ts with
   |nil=>simp at h
   |cons t m=>
    cases ts' with
    |nil=>exact hs.elim
    |cons u m'=>
     simp only at h ⊢
     have nest:(match bF f .block (t::m) with
       |some (.ok b r3)=>gi iu (fun r4=>bF f (.items k n a (l++[b])) r4) r3
       |y=>y)=some (.ok b r)→∃ r',rT r r'∧(match bF f .block (u::m') with
       |some (.ok b r3)=>gi iu (fun r4=>bF f (.items k n a (l++[b])) r4) r3
       |y=>y)=some (.ok b r'):=by
      intro h
      cases hb:bF f .block (t::m) with
      |none=>rw [hb] at h;simp at h
      |some y=>
       rw [hb] at h
       cases y with
       |err r3 c=>simp at h
       |ok b1 r3=>
        obtain ⟨r3',s3,e3⟩:=ih _ _ (u::m') _ _ hs hb
        rw [e3]
        exact Z3 (fun t u h=>ZB h) s3 (fun m m' hm h=>ih _ _ _ _ _ hm h) h
     rw [L0 hs.1,ZL hs.1]
     split at h
     ·rename_i h1
      rw [if_pos h1]
      simp only [aaf,RB.ok.injEq] at h
      obtain ⟨rfl,rfl⟩:=h
      exact ⟨m',hs.2,rfl⟩
     ·rename_i h1
      rw [if_neg h1]
      split at h
      ·simp at h
      ·rename_i h2
       rw [if_neg h2]
       cases m with
       |nil=>
        cases m' with
        |nil=>exact nest h
        |cons v m'=>exact hs.2.elim
       |cons v m2=>
        cases m' with
        |nil=>exact hs.2.elim
        |cons v' m2'=>
         simp only at h ⊢
         rw [L0 hs.2.1]
         split at h
         ·rename_i h3
          rw [if_pos h3]
          cases ht:eP m2 with
          |err r3 c=>rw [ht] at h;simp at h
          |ok y r3=>
           rw [ht] at h
           obtain ⟨r3',s3,e3⟩:=takeF_sims ht hs.2.2
           rw [e3,hs.1.2]
           exact Z3 (fun t u h=>ZB h) s3 (fun m m' hm h=>ih _ _ _ _ _ hm h) h
         ·rename_i h3
          rw [if_neg h3];exact nest h
theorem bF_fuel {ts:List Tk} {x:RB} (h:Pb .block ts x):bF (ov ts) .block ts=some x:=by
 obtain ⟨f,h⟩:=h
 have ht:=sH (ov ts) .block ts (by simp only [wB,ov];omega)
 cases hy:bF (ov ts) .block ts with
 |none=>exact absurd hy ht
 |some y=>
  have e1:=Nt _ _ _ _ _ (Nat.le_max_left f (ov ts)) h
  have e2:=Nt _ _ _ _ _ (Nat.le_max_right f (ov ts)) hy
  rw [e1] at e2
  exact e2.symm▸rfl
theorem file_read:∀ (l acc:List Bk) (new:List Tk) (f:Nat),(∀ b∈l,Ns b)→rT (btk.Z0 l) new→new.length<f→gZ f acc new= .ok (acc++l)
 |[],acc,new,f,_,hs,hf=>by
  obtain ⟨f,rfl⟩:∃ F,f=F+1:=⟨f - 1,by omega⟩
  cases new with
  |nil=>simp [gZ]
  |cons u new=>exact hs.elim
 |b::l,acc,new,f,hb,hs,hf=>by
  obtain ⟨f,rfl⟩:∃ F,f=F+1:=⟨f - 1,by omega⟩
  rw [btk.Z0] at hs
  obtain ⟨g,hg⟩:=block_read b (hb b (by simp)) (nlT::btk.Z0 l)
  obtain ⟨r',s',e'⟩:=bF_sims _ _ _ _ _ _ hs hg
  have e2:=bF_fuel ⟨g,e'⟩
  have hlt:=jm e'
  cases new with
  |nil=>
   cases g<;>simp [bF] at e'
  |cons t m=>
   rw [gZ,e2]
   cases r' with
   |nil=>exact s'.elim
   |cons u r2=>
    simp only
    have hu:iu u=true:=by rw [ZB s'.1];decide
    rw [if_pos hu]
    simp only [aah] at hlt hf
    rw [file_read l (acc++[b]) r2 f (fun x hx=>hb x (by simp [hx])) s'.2 (by omega)]
    simp
theorem cfg_back {l:List Bk} (h:∀ b∈l,Ns b) (hv:fK l=0) (hl:(CQ l).length≤65536):tY (CQ l)= .ok l:=by
 have e:CQ l=ir.gH 1 l:=by rw [CQ,if_neg (by simp [hv])]
 rw [e] at hl ⊢
 obtain ⟨g',a',new,h1,h2,h3⟩:=(ly_blocks l fun b hb=>ly_block b (h b hb) 1) [] ((ir.gH 1 l).length+1) 0 [] (by simp)
 have h7:tokens (ir.gH 1 l)= .ok new:=by
  rw [tokens,if_neg (by omega)]
  rw [aaB,aav] at h3
  rw [h3]
  obtain ⟨g,rfl⟩:∃ G,g'=G+1:=⟨g' - 1,by simp at h1;omega⟩
  rw [dV]
 have hst:gJ new=new:=by
  cases new with
  |nil=>rfl
  |cons u new=>
   cases l with
   |nil=>exact h2.elim
   |cons b l=>
    have e1:∃ m,btk.Z0 (b::l)=tN b.kind::m:=by
     rw [btk.Z0]
     rcases b with ⟨k,n,a,l⟩
     exact ⟨_,by rw [btk];rfl⟩
    obtain ⟨m,e1⟩:=e1
    rw [e1] at h2
    have:iu u=false:=by rw [ZB h2.1];simp [iu,tN]
    rw [gJ,if_neg (by simp [this])]
 rw [tY,h7]
 simp only
 rw [hst,file_read l [] new _ h h2 (abz _)]
 simp [hv]
def exOK (e:Ex):Bool:=decide (dW e=0)&&x8 e
def Zw:Bk→Bool
 | .mk _ _ a l=>a.all (fun x=>exOK x.2)&&aad l
where aad:List Bk→Bool
 |[]=>true
 |b::r=>Zw b&&aad r
theorem bSimpleL_all (l:List Bk):Zw.aad l=l.all Zw:=by induction l<;>simp_all [Zw.aad]
theorem Z6 (b:Bk):Zw b=(b.attrs.all (fun x=>exOK x.2)&&b.blocks.all Zw):=by cases b;rw [Zw,bSimpleL_all];rfl
theorem atF_all:∀ (l:List (az×Ex)) (seen:List az),AF seen l=0→∀ x∈l,cc x.1=true∧dW x.2=0
 |[],_,_,x,hx=>by cases hx
 |a::l,seen,h,x,hx=>by
  rw [AF] at h
  split at h
  ·cases h
  ·rename_i h1
   split at h
   ·rename_i h2;exact absurd h h2
   ·rename_i h2
    split at h
    ·cases h
    ·rcases aaY.1 hx with rfl|hx
     ·exact ⟨by simpa using h1,by simpa using h2⟩
     ·exact atF_all l _ h x hx
theorem bCheckL_mem {level:Nat} {l:List Bk} (h:cH.en level l=0):∀ x∈l,cH level x=0:=by
 induction l with
 |nil=>intro x hx;cases hx
 |cons a r ih=>
  intro x hx
  rw [cH.en] at h
  split at h
  ·rename_i h1;exact absurd h h1
  ·rename_i h1
   rcases aaY.1 hx with rfl|hx
   ·simpa using h1
   ·exact ih h x hx
theorem bcano_of:∀ (b:Bk) (level:Nat),cH level b=0→Zw b=true→Ns b:=by
 intro b
 induction b using Bk.ind with|h b ih=>?_
 intro level h hs
 rw [Z6] at hs
 simp only [aap,aaz] at hs
 have hc:Gr b level=0∧cH.en (level+1) b.blocks=0:=by
  rcases b with ⟨k,n,a,l⟩
  rw [cH] at h
  split at h
  ·rename_i h1;exact absurd h h1
  ·rename_i h1;exact ⟨by simpa using h1,h⟩
 obtain ⟨hn,hc⟩:=hc
 unfold Gr at hn
 split at hn
 ·cases hn
 ·split at hn
  ·cases hn
  ·rename_i h1
   simp only [not_or,Bool.not_eq_false] at h1
   split at hn
   ·cases hn
   ·refine .mk b h1.1 (by omega) (fun x hx=>?_) fun x hx=>ih x hx (level+1) (bCheckL_mem hc x hx) (hs.2 x hx)
    obtain ⟨a1,a2⟩:=atF_all _ _ hn x hx
    have h3:=hs.1 x hx
    simp only [exOK,aap,aal] at h3
    exact ⟨a1,cano_valid h3.1 h3.2,a2⟩
theorem fcano_of {l:List Bk} (h:fK l=0) (hs:l.all Zw=true):∀ b∈l,Ns b:=by
 intro b hb
 rw [fK] at h
 split at h
 ·cases h
 ·exact bcano_of b 1 (bCheckL_mem h b hb) (aaz.1 hs b hb)
def smpB:rR→Prop
 | .block=>True
 | .items _ _ a l=>(∀ x∈a,exOK x.2=true)∧∀ x∈l,Zw x=true
theorem bF_smp:∀ (f:Nat) (tag:rR) (ts:List Tk) (b:Bk) (r:List Tk),smpB tag→bF f tag ts=some (.ok b r)→Zw b=true:=by
 intro f
 induction f with
 |zero=>intro tag ts b r _ h;simp [bF] at h
 |succ f ih=>
  intro tag ts b r hs h
  cases tag with
  |block=>
   cases ts with
   |nil=>simp [bF] at h
   |cons t m=>
    simp only [bF] at h
    split at h
    ·obtain ⟨_,m2,_,_,h⟩:=nc h
     obtain ⟨_,m3,_,_,h⟩:=nc h
     have q:=ih (.items t.text (kB m).1 [] []) _ _ _ ⟨(fun x hx=>by cases hx),fun x hx=>by cases hx⟩ h
     exact q
    ·simp at h
  |items k n a l=>
   simp only [bF] at h
   obtain ⟨s1,s2⟩:=hs
   cases ts with
   |nil=>simp at h
   |cons t m=>
    simp only at h
    have nest:(match bF f .block (t::m) with
       |some (.ok b r3)=>gi iu (fun r4=>bF f (.items k n a (l++[b])) r4) r3
       |y=>y)=some (.ok b r)→Zw b=true:=by
     intro h
     cases hb:bF f .block (t::m) with
     |none=>rw [hb] at h;simp at h
     |some y=>
      rw [hb] at h
      cases y with
      |err r3 c=>simp at h
      |ok b1 r3=>
       have i1:=ih .block _ _ _ trivial hb
       obtain ⟨_,m2,_,_,h⟩:=nc h
       have q:=ih (.items k n a (l++[b1])) _ _ _ ⟨s1,fun x hx=>by
        rcases aaV.1 hx with hx|hx
        ·exact s2 x hx
        ·simp only [aaY,List.not_mem_nil,or_false] at hx;rw [hx];exact i1⟩ h
       exact q
    split at h
    ·simp only [aaf,RB.ok.injEq] at h
     obtain ⟨rfl,rfl⟩:=h
     rw [Z6]
     simp only [Bk.attrs,Bk.blocks,aap,aaz]
     exact ⟨s1,s2⟩
    ·split at h
     ·simp at h
     ·cases m with
      |nil=>exact nest h
      |cons u m2=>
       simp only at h
       split at h
       ·cases ht:eP m2 with
        |err r3 c=>rw [ht] at h;simp at h
        |ok y r3=>
         rw [ht] at h
         obtain ⟨t1,t2⟩:=takeF_ok ht
         have i1:x8 y=true:=pF_smp _ .cond _ _ _ trivial t1
         obtain ⟨_,m3,_,_,h⟩:=nc h
         have q:=ih (.items k n (a++[(t.text,y)]) l) _ _ _ ⟨fun x hx=>by
          rcases aaV.1 hx with hx|hx
          ·exact s1 x hx
          ·simp only [aaY,List.not_mem_nil,or_false] at hx;rw [hx];simp [exOK,t2,i1],s2⟩ h
         exact q
       ·exact nest h
theorem fileF_smp:∀ (f:Nat) (acc l:List Bk) (ts:List Tk),(∀ x∈acc,Zw x=true)→gZ f acc ts= .ok l→∀ x∈l,Zw x=true:=by
 intro f
 induction f with
 |zero=>intro acc l ts h1 h;simp only [gZ,RF.ok.injEq] at h;subst h;exact h1
 |succ f ih=>
  intro acc l ts h1 h
  cases ts with
  |nil=>simp only [gZ,RF.ok.injEq] at h;subst h;exact h1
  |cons t m=>
   rw [gZ] at h
   cases hb:bF (ov (t::m)) .block (t::m) with
   |none=>rw [hb] at h;simp at h
   |some y=>
    rw [hb] at h
    cases y with
    |err r2 c=>simp at h
    |ok b r=>
     have i1:=bF_smp _ .block _ _ _ trivial hb
     have h2:∀ x∈acc++[b],Zw x=true:=fun x hx=>by
      rcases aaV.1 hx with hx|hx
      ·exact h1 x hx
      ·simp only [aaY,List.not_mem_nil,or_false] at hx;rw [hx];exact i1
     cases r with
     |nil=>simp only [RF.ok.injEq] at h;subst h;exact h2
     |cons u r2=>
      simp only at h
      split at h
      ·exact ih _ _ _ h2 h
      ·cases h
theorem cfg_good {s:az} {l:List Bk} (h:tY s= .ok l):fK l=0∧l.all Zw=true:=by
 unfold tY at h
 cases hT:tokens s with
 |err a c=>rw [hT] at h;cases h
 |ok T=>
  rw [hT] at h
  simp only at h
  cases hf:gZ (T.length+1) [] (gJ T) with
  |err r c=>rw [hf] at h;cases h
  |ok l'=>
   rw [hf] at h
   simp only at h
   split at h
   ·cases h
   ·rename_i hv
    cases h
    exact ⟨by simpa using hv,aaz.2 (fileF_smp _ _ _ _ (fun x hx=>by cases hx) hf)⟩
end Go.Proofs.YthnoiikjfcnlhaaGreatDoor
