/- A step of the proofs of the seat's theorems. -/
import Derived.Test.YthnoiikjfcnlhaaGreatDoorYA
import Derived.Test.YthnoiikjfcnlhaaGreatDoorY1
set_option linter.unusedSimpArgs false
set_option linter.unusedVariables false
namespace Go.Proofs.YthnoiikjfcnlhaaGreatDoor
theorem cm {x:Option (dF Ex)} {k:Ex→List Tk→Option (dF Ex)} {e:Ex} {rest:List Tk} (h:aL x k=some (.ok e rest)):∃ e1 r1,x=some (.ok e1 r1)∧k e1 r1=some (.ok e rest):=by
 cases x with
 |none=>simp [aL] at h
 |some r1=>
  cases r1 with
  |ok e1 r1=>exact ⟨e1,r1,rfl,h⟩
  |err r c=>simp [aL] at h
theorem Zz {s:az} {k:List Tk→Option (dF Ex)} {l:List Tk} {e:Ex} {rest:List Tk} (h:cU s k l=some (.ok e rest)):∃ t l2,l=t::l2∧cg s t=true∧k l2=some (.ok e rest):=by
 cases l with
 |nil=>simp [cU] at h
 |cons t l2=>
  simp only [cU] at h
  split at h
  ·exact ⟨t,l2,rfl,by assumption,h⟩
  ·simp at h
def Ui (t u:Tk):Prop:=u.kind=t.kind∧u.text=t.text
def rT:List Tk→List Tk→Prop
 |[],[]=>True
 |t::l,u::m=>Ui t u∧rT l m
 |_,_=>False
def stop:List Tk→Prop
 |[]=>True
 |t::_=>t.kind=4→bB t.text=0∧t.text≠[63]∧t.text≠[46]∧t.text≠[91]∧t.text≠[40]
def Kp (r Z:List Tk):Prop:=stop Z∨∃ t l u l',r=t::l∧Z=u::l'∧Ui t u
def Uj (n:Nat) (t:Tk):Nat:=if t.kind=4 then jI t.text n else n
def dep (n:Nat) (a:List Tk):Nat:=a.foldl Uj n
def Loc (b:Bool) (n m:Nat) (g:List Tk→Option (dF Ex)) (ts:List Tk) (e:Ex) (r:List Tk):Prop:=
 ∃ a,(b=true→a≠[])∧(dep n a=m∧∀ t∈a,t.kind≠5)∧ts=a++r∧∀ a' Z,rT a a'→Kp r Z→g (a'++Z)=some (.ok e Z)
theorem yf:∀ {a b x:List Tk},rT (a++b) x→∃ x1 x2,x=x1++x2∧rT a x1∧rT b x2
 |[],b,x,h=>⟨[],x,rfl,trivial,h⟩
 |t::a,b,[],h=>h.elim
 |t::a,b,u::x,h=>by
  obtain ⟨x1,x2,e,h1,h2⟩:=yf (a:=a) h.2
  exact ⟨u::x1,x2,by rw [e];rfl,⟨h.1,h1⟩,h2⟩
theorem NG {a x r Z:List Tk} (h:rT a x) (hK:Kp r Z):Kp (a++r) (x++Z):=by
 cases a with
 |nil=>cases x with
  |nil=>exact hK
  |cons u x=>exact h.elim
 |cons t a=>cases x with
  |nil=>exact h.elim
  |cons u x=>exact .inr ⟨t,a++r,u,x++Z,rfl,rfl,h.1⟩
theorem L0 {s:az} {t u:Tk} (h:Ui t u):cg s u=cg s t:=by simp only [cg,h.1,h.2]
theorem Kp_no {s:az} {r Z:List Tk} (hs:s=[63]∨s=[46]∨s=[91]∨s=[40]) (hr:∀ t l,r=t::l→cg s t=false) (hK:Kp r Z):∀ u l,Z=u::l→cg s u=false:=by
 rintro u l rfl
 rcases hK with h|⟨t,l1,u',l',rfl,e,h⟩
 ·simp only [cg,aaG]
  rintro ⟨h1,h2⟩
  obtain ⟨_,k1,k2,k3,k4⟩:=h h1
  rcases hs with rfl|rfl|rfl|rfl<;>contradiction
 ·cases e
  rw [L0 h]
  exact hr _ _ rfl
theorem Kp_str {n:Nat} {r Z:List Tk} (hn:1≤n) (hr:∀ t l,r=t::l→¬ (t.kind=4∧bB t.text=n)) (hK:Kp r Z):∀ u l,Z=u::l→¬ (u.kind=4∧bB u.text=n):=by
 rintro u l rfl
 rcases hK with h|⟨t,l1,u',l',rfl,e,h⟩
 ·rintro ⟨h1,h2⟩
  have:=(h h1).1
  omega
 ·cases e
  rw [h.1,h.2]
  exact hr _ _ rfl
section
variable {b b':Bool} {n m q:Nat} {g G:List Tk→Option (dF Ex)} {ts r:List Tk} {e:Ex} {t:Tk} {l:List Tk}
theorem Loc.weak (h:Loc true n m g ts e r):Loc b n m g ts e r:=by
 obtain ⟨a,k,d⟩:=h
 exact ⟨a,fun _=>k rfl,d⟩
theorem Loc.bind {k:Ex→List Tk→Option (dF Ex)} {e1:Ex} {r1:List Tk} (h1:Loc b n m g ts e1 r1) (h2:Loc b' m q (k e1) r1 e r):Loc b n q (fun l=>aL (g l) k) ts e r:=by
 obtain ⟨a1,n1,d1,rfl,p1⟩:=h1
 obtain ⟨a2,n2,d2,rfl,p2⟩:=h2
 refine ⟨a1++a2,fun h=>by simp [n1 h],?_,by simp,?_⟩
 ·refine ⟨by rw [←d2.1,←d1.1];simp [dep,List.foldl_append],fun t ht=>?_⟩
  rcases aaV.1 ht with ht|ht
  ·exact d1.2 t ht
  ·exact d2.2 t ht
 ·intro a' Z hs hK
  obtain ⟨x1,x2,rfl,s1,s2⟩:=yf hs
  simp only [aau]
  rw [p1 x1 (x2++Z) s1 (NG s2 hK)]
  exact p2 x2 Z s2 hK
theorem Loc.cons {h:List Tk→Option (dF Ex)} (hl:Loc b m q h l e r) (hn:Uj n t=m∧t.kind≠5) (hg:∀ u l',Ui t u→g (u::l')=h l'):Loc true n q g (t::l) e r:=by
 obtain ⟨a,_,d,rfl,p⟩:=hl
 refine ⟨t::a,fun _=>by simp,?_,rfl,?_⟩
 ·refine ⟨by rw [←d.1,←hn.1];rfl,fun u hu=>?_⟩
  rcases aaY.1 hu with rfl|hu
  ·exact hn.2
  ·exact d.2 u hu
 ·intro a' Z hs hK
  cases a' with
  |nil=>exact hs.elim
  |cons u x=>exact (hg u (x++Z) hs.1).trans (p x Z hs.2 hK)
theorem Loc.done (hg:∀ Z,Kp r Z→g Z=some (.ok e Z)):Loc false n n g r e r:=by
 refine ⟨[],(fun h=>by cases h),⟨rfl,fun t ht=>by cases ht⟩,rfl,fun a' Z hs hK=>?_⟩
 cases a' with
 |nil=>exact hg Z hK
 |cons u x=>exact hs.elim
theorem Loc.peek (h:Loc true n m g (t::l) e r) (hg:∀ u l',Ui t u→G (u::l')=g (u::l')):Loc true n m G (t::l) e r:=by
 obtain ⟨a,k,d,h1,p⟩:=h
 cases a with
 |nil=>exact absurd rfl (k rfl)
 |cons t' a=>
  simp only [aas,aa8] at h1
  obtain ⟨rfl,rfl⟩:=h1
  refine ⟨t::a,fun _=>by simp,d,rfl,?_⟩
  intro a' Z hs hK
  cases a' with
  |nil=>exact hs.elim
  |cons u x=>exact (hg u (x++Z) hs.1).trans (p (u::x) Z hs hK)
theorem Loc.nil (h:Loc true n m g [] e r):False:=by
 obtain ⟨a,k,_,h1,_⟩:=h
 simp at h1
 exact k rfl h1.1
theorem ZF {s:az} {t:Tk} (h:cg s t=true) (n:Nat):Uj n t=jI s n∧t.kind≠5:=by
 simp only [cg,aal] at h
 exact ⟨by simp only [Uj,if_pos h.1,h.2],by omega⟩
theorem Loc.expect {s:az} {k:List Tk→Option (dF Ex)} (hs:cg s t=true) (hl:Loc b (jI s n) q k l e r):Loc true n q (cU s k) (t::l) e r:=
 hl.cons (ZF hs n) fun u l' hu=>by simp only [cU,L0 hu,hs,if_pos]
end
def needs:Tag→Bool
 | .ops _ _| .chain _=>false
 |_=>true
def effs:Tag→Nat→Nat
 | .args c,n| .items c _,n=>jI c n
 |_,n=>n
def okN:Tag→Prop
 | .op n| .ops n _=>1≤n
 |_=>True
theorem opn_ne {t:Tk} (h:t.kind≠4∧t.kind≠5) (n:Nat):Uj n t=n∧t.kind≠5:=⟨by simp only [Uj,if_neg h.1],h.2⟩
theorem str_open {s:az} (h:0<bB s) (n:Nat):jI s n=n:=by
 unfold jI
 split
 ·rename_i h1;rcases h1 with rfl|rfl<;>simp [bB] at h
 ·split
  ·rename_i h1;rcases h1 with rfl|rfl<;>simp [bB] at h
  ·rfl
theorem pF_loc:∀ (f:Nat) (tag:Tag) (ts:List Tk) (e:Ex) (r:List Tk),okN tag→pF f tag ts=some (.ok e r)→∀ F n,f≤F→Loc (needs tag) n (effs tag n) (fun l=>pF F tag l) ts e r:=by
 intro f
 induction f with
 |zero=>intro tag ts e r _ h;simp [pF] at h
 |succ f ih=>
  intro tag ts e r ho h F' n hF
  obtain ⟨F,rfl⟩:∃ F,F'=F+1:=⟨F' - 1,by omega⟩
  have IH:∀ {tag:Tag} {ts:List Tk} {e:Ex} {r:List Tk} (n:Nat),pF f tag ts=some (.ok e r)→okN tag→Loc (needs tag) n (effs tag n) (fun l=>pF F tag l) ts e r:=fun n h ho=>ih _ _ _ _ ho h F n (by omega)
  have fin:∀ {x:Ex} {l:List Tk} {n:Nat},Loc false n n (fun l=>some (.ok x l)) l x l:=fun {x l n}=>Loc.done fun Z _=>rfl
  cases tag with
  |cond=>
   simp only [pF] at h ⊢
   obtain ⟨c,r1,h1,h⟩:=cm h
   refine (IH n h1 (by decide:1≤2)).bind (b':=false) ?_
   cases r1 with
   |nil=>
    simp only [aaf,dF.ok.injEq] at h
    obtain ⟨rfl,rfl⟩:=h
    refine Loc.done fun Z hK=>?_
    have:=Kp_no (s:=[63]) (.inl rfl) (fun t l h=>by cases h) hK
    cases Z with
    |nil=>rfl
    |cons u l=>simp only [this u l rfl];rfl
   |cons t r2=>
    simp only at h
    split at h
    ·rename_i ht
     obtain ⟨a,r3,h3,h⟩:=cm h
     obtain ⟨u,r4,rfl,hu,h⟩:=Zz h
     obtain ⟨b,r5,h5,h⟩:=cm h
     simp only [aaf,dF.ok.injEq] at h
     obtain ⟨rfl,rfl⟩:=h
     refine Loc.weak (Loc.cons (b:=true) (h:=fun r2=>aL (pF F .cond r2) fun a r3=>cU [58] (fun r4=>aL (pF F .cond r4) fun b r5=>some (.ok (.mk 8 [] ct [c,a,b] []) r5)) r3) ?_ (ZF ht n) (fun u l' hu=>?_))
     ·refine (IH _ h3 trivial).bind (b':=true) ?_
      refine Loc.expect (b:=true) hu ?_
      exact (IH _ h5 trivial).bind fin
     ·simp only [L0 hu,ht,if_pos]
    ·rename_i ht
     simp only [aaf,dF.ok.injEq] at h
     obtain ⟨rfl,rfl⟩:=h
     refine Loc.done fun Z hK=>?_
     have:=Kp_no (s:=[63]) (.inl rfl) (fun t l h=>by cases h;simpa using ht) hK
     cases Z with
     |nil=>rfl
     |cons u l=>simp only [this u l rfl];rfl
  |op k=>
   simp only [okN] at ho
   simp only [pF] at h ⊢
   by_cases hn:k=7
   ·simp only [if_pos hn] at h ⊢
    exact IH n h trivial
   ·simp only [if_neg hn] at h ⊢
    obtain ⟨c,r1,h1,h⟩:=cm h
    exact (IH n h1 (show 1≤k+1 by omega)).bind (IH n h ho)
  |ops k e0=>
   simp only [okN] at ho
   simp only [pF] at h ⊢
   cases ts with
   |nil=>
    simp only [aaf,dF.ok.injEq] at h;obtain ⟨rfl,rfl⟩:=h
    refine Loc.done fun Z hK=>?_
    have:=Kp_str ho (fun t l h=>by cases h) hK
    cases Z with
    |nil=>rfl
    |cons u l=>simp only [if_neg (this u l rfl)]
   |cons t l=>
    simp only at h
    split at h
    ·rename_i ht
     obtain ⟨x,r2,h2,h⟩:=cm h
     refine Loc.weak (Loc.cons (b:=true) (m:=n) (h:=fun r=>aL (pF F (.op (k+1)) r) fun x r2=>if k=4 then some (.ok (.mk 7 t.text ct [e0,x] []) r2) else pF F (.ops k (.mk 7 t.text ct [e0,x] [])) r2) ?_ ?_ (fun u l' hu=>?_))
     ·refine (IH _ h2 (show 1≤k+1 by omega)).bind (b':=false) ?_
      by_cases hn:k=4
      ·simp only [if_pos hn,aaf,dF.ok.injEq] at h ⊢
       obtain ⟨rfl,rfl⟩:=h
       exact fin
      ·simp only [if_neg hn] at h ⊢
       exact IH _ h ho
     ·exact ⟨by simp only [Uj,if_pos ht.1];exact str_open (by omega) n,by omega⟩
     ·simp only [hu.1,hu.2,if_pos ht]
    ·rename_i ht
     simp only [aaf,dF.ok.injEq] at h
     obtain ⟨rfl,rfl⟩:=h
     refine Loc.done fun Z hK=>?_
     have:=Kp_str ho (fun t l h=>by cases h;exact ht) hK
     cases Z with
     |nil=>rfl
     |cons u l=>simp only [if_neg (this u l rfl)]
  |un=>
   simp only [pF] at h ⊢
   cases ts with
   |nil=>exact (IH n h trivial).nil.elim
   |cons t l=>
    simp only at h
    split at h
    ·rename_i ht
     obtain ⟨x,r2,h2,h⟩:=cm h
     simp only [aaf,dF.ok.injEq] at h
     obtain ⟨rfl,rfl⟩:=h
     refine Loc.cons (b:=true) (m:=n) (h:=fun r=>aL (pF F .un r) fun x r2=>some (.ok (.mk 6 t.text ct [x] []) r2)) ((IH _ h2 trivial).bind fin) ?_ (fun u l' hu=>?_)
     ·rcases Bool.or_eq_true_iff.1 ht with ht|ht<;>exact ⟨(ZF ht n).1,(ZF ht n).2⟩
     ·simp only [L0 hu,hu.2,ht,if_pos]
    ·rename_i ht
     obtain ⟨x,r2,h2,h⟩:=cm h
     refine Loc.peek (g:=fun ts=>aL (pF F .atom ts) fun e r2=>pF F (.chain e) r2) ((IH n h2 trivial).bind (IH n h trivial)) (fun u l' hu=>?_)
     simp only [L0 hu,if_neg ht]
  |chain e0=>
   simp only [pF] at h ⊢
   have no:∀ r:List Tk,(∀ t l,r=t::l→cg [46] t=false∧cg [91] t=false)→∀ Z,Kp r Z→(∀ u l,Z=u::l→cg [46] u=false∧cg [91] u=false):=
    fun r h Z hK u l hz=>⟨Kp_no (.inr (.inl rfl)) (fun t l e=>(h t l e).1) hK u l hz,Kp_no (.inr (.inr (.inl rfl))) (fun t l e=>(h t l e).2) hK u l hz⟩
   cases ts with
   |nil=>
    simp only [aaf,dF.ok.injEq] at h;obtain ⟨rfl,rfl⟩:=h
    refine Loc.done fun Z hK=>?_
    have:=no [] (fun t l h=>by cases h) Z hK
    cases Z with
    |nil=>rfl
    |cons u l=>simp only [this u l rfl];rfl
   |cons t l=>
    simp only at h
    split at h
    ·rename_i ht
     cases l with
     |nil=>simp at h
     |cons u r2=>
      simp only at h
      split at h
      ·rename_i hu
       refine Loc.weak (Loc.cons (b:=true) (h:=fun l=>match l with|[]=>some (.err [] 4)|u::r2=>if u.kind=1∧cc u.text=true then pF F (.chain (.mk 3 u.text ct [e0] [])) r2 else some (.err (u::r2) 5)) ?_ (ZF ht n) (fun v l' hv=>?_))
       ·have i:=IH n h trivial
        refine Loc.cons i (opn_ne (show u.kind≠4∧u.kind≠5 by omega) _) (fun v l' hv=>?_)
        simp only [hv.1,hv.2,if_pos hu]
       ·simp only [L0 hv,ht,if_pos]
        rfl
      ·simp at h
    ·rename_i ht
     split at h
     ·rename_i ht2
      obtain ⟨x,r2,h2,h⟩:=cm h
      obtain ⟨u,r4,rfl,hu,h⟩:=Zz h
      refine Loc.weak (Loc.cons (b:=true) (h:=fun r=>aL (pF F .cond r) fun i r2=>cU [93] (fun r3=>pF F (.chain (.mk 4 [] ct [e0,i] [])) r3) r2) ?_ (ZF ht2 n) (fun v l' hv=>?_))
      ·refine (IH _ h2 trivial).bind (b':=true) ?_
       refine Loc.expect (b:=false) hu ?_
       exact IH n h trivial
      ·simp only [L0 hv,if_neg ht,ht2,if_pos]
     ·rename_i ht2
      simp only [aaf,dF.ok.injEq] at h;obtain ⟨rfl,rfl⟩:=h
      refine Loc.done fun Z hK=>?_
      have:=no (t::l) (fun t l h=>by cases h;exact ⟨by simpa using ht,by simpa using ht2⟩) Z hK
      cases Z with
      |nil=>rfl
      |cons u l=>simp only [this u l rfl];rfl
  |atom=>
   simp only [pF] at h ⊢
   cases ts with
   |nil=>simp at h
   |cons t l=>
    have one:∀ {x:Ex} {G:List Tk→Option (dF Ex)},t.kind≠4∧t.kind≠5→(∀ u l',Ui t u→G (u::l')=some (.ok x l'))→Loc true n n G (t::l) x l:=
     fun {x G} hk hG=>Loc.cons (h:=fun l=>some (.ok x l)) fin (opn_ne hk n) hG
    simp only at h
    split at h
    ·rename_i hk
     split at h
     ·rename_i hd
      simp only [aaf,dF.ok.injEq] at h;obtain ⟨rfl,rfl⟩:=h
      exact one (by omega) fun u l' hu=>by simp only [hu.1,hu.2,if_pos hk,if_pos hd]
     ·simp at h
    ·rename_i hk
     split at h
     ·rename_i hk3
      split at h
      ·rename_i hd
       simp only [aaf,dF.ok.injEq] at h;obtain ⟨rfl,rfl⟩:=h
       exact one (by omega) fun u l' hu=>by simp only [hu.1,hu.2,if_neg hk,if_pos hk3,if_pos hd]
      ·simp at h
     ·rename_i hk3
      split at h
      ·rename_i hk1
       split at h
       ·rename_i hd
        simp only [aaf,dF.ok.injEq] at h;obtain ⟨rfl,rfl⟩:=h
        exact one (by omega) fun u l' hu=>by simp only [hu.1,hu.2,if_neg hk,if_neg hk3,if_pos hk1,if_pos hd]
       ·rename_i hd
        split at h
        ·rename_i hd2
         simp only [aaf,dF.ok.injEq] at h;obtain ⟨rfl,rfl⟩:=h
         exact one (by omega) fun u l' hu=>by simp only [hu.1,hu.2,if_neg hk,if_neg hk3,if_pos hk1,if_neg hd,if_pos hd2]
        ·rename_i hd2
         split at h
         ·rename_i hd3
          refine Loc.cons (b:=false) (h:=fun r=>match r with|[]=>some (.ok (.mk 2 t.text ct [] []) r)|u::r2=>if cg [40] u then aL (pF F (.args [41]) r2) fun l r3=>some (.ok (.mk 5 t.text ct l.args []) r3) else some (.ok (.mk 2 t.text ct [] []) r)) ?_ (opn_ne (show t.kind≠4∧t.kind≠5 by omega) n) (fun v l' hv=>?_)
          ·cases l with
           |nil=>
            simp only [aaf,dF.ok.injEq] at h;obtain ⟨rfl,rfl⟩:=h
            refine Loc.done fun Z hK=>?_
            have:=Kp_no (s:=[40]) (.inr (.inr (.inr rfl))) (fun t l h=>by cases h) hK
            cases Z with
            |nil=>rfl
            |cons u l=>simp only [this u l rfl];rfl
           |cons u r2=>
            simp only at h
            split at h
            ·rename_i hu
             obtain ⟨x,r3,h3,h⟩:=cm h
             simp only [aaf,dF.ok.injEq] at h;obtain ⟨rfl,rfl⟩:=h
             refine Loc.weak (Loc.cons (b:=true) (h:=fun r2=>aL (pF F (.args [41]) r2) fun l r3=>some (.ok (.mk 5 t.text ct l.args []) r3)) ((IH _ h3 trivial).bind fin) (ZF hu n) (fun v l' hv=>?_))
             simp only [L0 hv,hu,if_pos]
            ·rename_i hu
             simp only [aaf,dF.ok.injEq] at h;obtain ⟨rfl,rfl⟩:=h
             refine Loc.done fun Z hK=>?_
             have:=Kp_no (s:=[40]) (.inr (.inr (.inr rfl))) (fun t l h=>by cases h;simpa using hu) hK
             cases Z with
             |nil=>rfl
             |cons u l=>simp only [this u l rfl];rfl
          ·simp only [hv.1,hv.2,if_neg hk,if_neg hk3,if_pos hk1,if_neg hd,if_neg hd2,if_pos hd3]
           rfl
         ·simp at h
      ·rename_i hk1
       split at h
       ·rename_i hp
        obtain ⟨x,r2,h2,h⟩:=cm h
        obtain ⟨u,r4,rfl,hu,h⟩:=Zz h
        simp only [aaf,dF.ok.injEq] at h;obtain ⟨rfl,rfl⟩:=h
        refine Loc.cons (b:=true) (h:=fun r=>aL (pF F .cond r) fun e r2=>cU [41] (fun r3=>some (.ok e r3)) r2) ?_ (ZF hp n) (fun v l' hv=>?_)
        ·refine (IH _ h2 trivial).bind (b':=true) ?_
         exact Loc.expect hu fin
        ·simp only [hv.1,if_neg hk,if_neg hk3,if_neg hk1,L0 hv,hp,if_pos]
       ·rename_i hp
        split at h
        ·rename_i hb
         obtain ⟨x,r3,h3,h⟩:=cm h
         simp only [aaf,dF.ok.injEq] at h;obtain ⟨rfl,rfl⟩:=h
         refine Loc.cons (b:=true) (h:=fun r=>aL (pF F (.args [93]) r) fun l r3=>some (.ok (.mk 9 [] ct l.args []) r3)) ((IH _ h3 trivial).bind fin) (ZF hb n) (fun v l' hv=>?_)
         simp only [hv.1,if_neg hk,if_neg hk3,if_neg hk1,L0 hv,if_neg hp,hb,if_pos]
        ·rename_i hb
         split at h
         ·rename_i hc
          have i:=IH n h trivial
          refine Loc.cons i (ZF hc n) (fun v l' hv=>?_)
          simp only [hv.1,if_neg hk,if_neg hk3,if_neg hk1,L0 hv,if_neg hp,if_neg hb,hc,if_pos]
         ·simp at h
  |args close=>
   simp only [pF] at h ⊢
   cases ts with
   |nil=>exact (IH n h trivial).nil.elim
   |cons t l=>
    simp only at h
    split at h
    ·rename_i ht
     simp only [aaf,dF.ok.injEq] at h;obtain ⟨rfl,rfl⟩:=h
     refine Loc.cons (h:=fun l=>some (.ok (.mk 0 [] ct [] []) l)) fin (ZF ht n) (fun u l' hu=>?_)
     simp only [L0 hu,ht,if_pos]
    ·rename_i ht
     refine (IH n h trivial).peek (fun u l' hu=>?_)
     simp only [L0 hu,if_neg ht]
  |items close acc=>
   simp only [pF] at h ⊢
   obtain ⟨x,r1,h1,h⟩:=cm h
   refine (IH n h1 trivial).bind (b':=true) ?_
   cases r1 with
   |nil=>simp at h
   |cons t r2=>
    simp only at h
    split at h
    ·rename_i ht
     simp only [aaf,dF.ok.injEq] at h;obtain ⟨rfl,rfl⟩:=h
     refine Loc.cons (h:=fun l=>some (.ok (.mk 0 [] ct (acc++[x]) []) l)) fin (ZF ht _) (fun u l' hu=>?_)
     simp only [L0 hu,ht,if_pos]
    ·rename_i ht
     split at h
     ·rename_i hc
      have i:=IH n h trivial
      refine Loc.cons i (ZF hc _) (fun u l' hu=>?_)
      simp only [L0 hu,if_neg ht,hc,if_pos]
     ·simp at h
  |kW=>
   simp only [pF] at h ⊢
   cases ts with
   |nil=>exact (IH n h trivial).nil.elim
   |cons t l=>
    simp only at h
    split at h
    ·rename_i ht
     simp only [aaf,dF.ok.injEq] at h;obtain ⟨rfl,rfl⟩:=h
     refine Loc.cons (h:=fun l=>some (.ok (.mk 10 [] ct [] []) l)) fin (ZF ht n) (fun u l' hu=>?_)
     simp only [L0 hu,ht,if_pos]
    ·rename_i ht
     refine (IH n h trivial).peek (fun u l' hu=>?_)
     simp only [L0 hu,if_neg ht]
  |xR acc ks=>
   simp only [pF] at h ⊢
   cases ts with
   |nil=>simp at h
   |cons t l=>
    simp only at h
    split at h
    ·rename_i ht
     obtain ⟨v,r2,rfl,hv,h⟩:=Zz h
     obtain ⟨x,r3,h3,h⟩:=cm h
     have hk4:t.kind≠4∧t.kind≠5:=by
      constructor<;>(intro h4;simp [kq,h4] at ht)
     refine Loc.cons (b:=true) (h:=fun r=>cU [58] (fun r2=>aL (pF F .cond r2) fun x r3=>match r3 with
       |[]=>some (.err [] 4)
       |u::r4=>if cg [125] u then some (.ok (.mk 10 [] ct (acc++[x]) (ks++[t.text])) r4) else if cg [44] u then pF F (.xR (acc++[x]) (ks++[t.text])) r4 else some (.err r3 5)) r) ?_ (opn_ne hk4 n) (fun u l' hu=>?_)
     ·refine Loc.expect (b:=true) hv ?_
      refine (IH _ h3 trivial).bind (b':=true) ?_
      cases r3 with
      |nil=>simp at h
      |cons w r4=>
       simp only at h
       split at h
       ·rename_i hw
        simp only [aaf,dF.ok.injEq] at h;obtain ⟨rfl,rfl⟩:=h
        refine Loc.cons (h:=fun l=>some (.ok (.mk 10 [] ct (acc++[x]) (ks++[t.text])) l)) fin (ZF hw _) (fun u l' hu=>?_)
        simp only [L0 hu,hw,if_pos]
       ·rename_i hw
        split at h
        ·rename_i hc
         have i:=IH n h trivial
         refine Loc.cons i (ZF hc _) (fun u l' hu=>?_)
         simp only [L0 hu,if_neg hw,hc,if_pos]
        ·simp at h
     ·have:kq u=true:=by simpa only [kq,hu.1,hu.2] using ht
      simp only [this,if_pos,hu.2]
      rfl
    ·simp at h
def Gb (x y:Option (dF Ex)):Prop:=x=none∨x=y
theorem Gb.rf {x:Option (dF Ex)}:Gb x x:= .inr rfl
theorem eZ {x y:Option (dF Ex)} {k k':Ex→List Tk→Option (dF Ex)} (h:Gb x y) (hk:∀ e r,Gb (k e r) (k' e r)):Gb (aL x k) (aL y k'):=by
 rcases h with rfl|rfl
 ·exact .inl rfl
 ·rcases x with _|(⟨c,r1⟩|⟨r1,ec⟩)
  ·exact .inl rfl
  ·exact hk c r1
  ·exact .inr rfl
theorem oc {s:az} {k k':List Tk→Option (dF Ex)} (hk:∀ r,Gb (k r) (k' r)) (l:List Tk):Gb (cU s k l) (cU s k' l):=by
 cases l with
 |nil=>exact .inr rfl
 |cons t r=>
  simp only [cU]
  split
  ·exact hk r
  ·exact .inr rfl
theorem dK {c:Prop} [Decidable c] {a b a' b':Option (dF Ex)} (h1:Gb a a') (h2:Gb b b'):Gb (if c then a else b) (if c then a' else b'):=by
 split
 ·exact h1
 ·exact h2
theorem S8:∀ (f g:Nat) (tag:Tag) (ts:List Tk),f≤g→Gb (pF f tag ts) (pF g tag ts):=by
 intro f
 induction f with
 |zero=>intro g tag ts _;exact .inl (by simp [pF])
 |succ f ih=>
  intro g tag ts hg
  obtain ⟨g,rfl⟩:∃ G,g=G+1:=⟨g - 1,by omega⟩
  have I:∀ (tag:Tag) (ts:List Tk),Gb (pF f tag ts) (pF g tag ts):=fun tag ts=>ih g tag ts (by omega)
  cases tag with
  |cond=>
   simp only [pF]
   refine eZ (I _ _) fun c r1=>?_
   rcases r1 with _|⟨t,r2⟩
   ·exact .rf
   ·exact dK (eZ (I _ _) fun a r3=>oc (fun r4=>eZ (I _ _) fun b r5=> .rf) _) .rf
  |op n=>simp only [pF];exact dK (I _ _) (eZ (I _ _) fun e r=>I _ _)
  |ops n e=>
   simp only [pF]
   rcases ts with _|⟨t,r⟩
   ·exact .rf
   ·exact dK (eZ (I _ _) fun x r2=>dK .rf (I _ _)) .rf
  |un=>
   simp only [pF]
   rcases ts with _|⟨t,r⟩
   ·exact I _ _
   ·exact dK (eZ (I _ _) fun x r2=> .rf) (eZ (I _ _) fun x r2=>I _ _)
  |chain e=>
   simp only [pF]
   rcases ts with _|⟨t,r⟩
   ·exact .rf
   ·refine dK ?_ (dK (eZ (I _ _) fun x r2=>oc (fun r3=>I _ _) _) .rf)
    rcases r with _|⟨u,r⟩
    ·exact .rf
    ·exact dK (I _ _) .rf
  |atom=>
   simp only [pF]
   rcases ts with _|⟨t,r⟩
   ·exact .rf
   ·refine dK .rf (dK .rf (dK (dK .rf (dK .rf (dK ?_ .rf))) (dK (eZ (I _ _) fun x r2=> .rf) (dK (eZ (I _ _) fun x r2=> .rf) (dK (I _ _) .rf)))))
    rcases r with _|⟨u,r⟩
    ·exact .rf
    ·exact dK (eZ (I _ _) fun x r2=> .rf) .rf
  |args close=>
   simp only [pF]
   rcases ts with _|⟨t,r⟩
   ·exact I _ _
   ·exact dK .rf (I _ _)
  |items close acc=>
   simp only [pF]
   refine eZ (I _ _) fun x r=>?_
   rcases r with _|⟨t,r⟩
   ·exact .rf
   ·exact dK .rf (dK (I _ _) .rf)
  |kW=>
   simp only [pF]
   rcases ts with _|⟨t,r⟩
   ·exact I _ _
   ·exact dK .rf (I _ _)
  |xR acc ks=>
   simp only [pF]
   rcases ts with _|⟨t,r⟩
   ·exact .rf
   ·refine dK (oc (fun r2=>eZ (I _ _) fun x r3=>?_) _) .rf
    rcases r3 with _|⟨u,r4⟩
    ·exact .rf
    ·exact dK .rf (dK (I _ _) .rf)
theorem zc {f g:Nat} {tag:Tag} {ts:List Tk} {x:dF Ex} (h:pF f tag ts=some x) (hg:f≤g):pF g tag ts=some x:=by
 rcases S8 f g tag ts hg with h1|h1
 ·rw [h] at h1;cases h1
 ·rw [←h1,h]
theorem takeF_of {f:Nat} {ts r:List Tk} {e:Ex} (h:pF f .cond ts=some (.ok e r)) (hv:dW e=0):eP ts= .ok e r:=by
 obtain ⟨x,hx⟩:=jL ts
 have e1:=zc h (Nat.le_max_left f (nG ts))
 have e2:=zc hx (Nat.le_max_right f (nG ts))
 rw [e1] at e2
 cases e2
 rw [eP,hx]
 simp [hv]
theorem takeF_ok {ts r:List Tk} {e:Ex} (h:eP ts= .ok e r):pF (nG ts) .cond ts=some (.ok e r)∧dW e=0:=by
 obtain ⟨x,hx⟩:=jL ts
 rw [eP,hx] at h
 rcases x with ⟨e1,r1⟩|⟨r1,c⟩
 ·simp only at h
  split at h
  ·cases h
  ·rename_i hv
   cases h
   exact ⟨hx,by simpa using hv⟩
 ·simp at h
theorem tw_stopX {p:UInt8→Bool} {c:UInt8} (hc:p c=false) (s X:az):(s++c::X).takeWhile p=s.takeWhile p:=by
 induction s with
 |nil=>simp [hc]
 |cons a s ih=>simp only [aas,aaL,ih]
theorem Z2 {s X:az} {i:Nat} {d:UInt8} (h:i<s.length):(s++X).getD i d=s.getD i d:=by
 simp [aaj,aaw h]
theorem getD_atX {s X:az} {c d:UInt8}:(s++c::X).getD s.length d=c:=by
 simp [aaj]
theorem escF_app {r X:az} {c:UInt8} {n:Nat} (h:nQ r= .ok c n):nQ (r++X)= .ok c n∧2≤n∧n≤r.length+1:=by
 unfold nQ at h ⊢
 split at h
 ·cases h
 ·rename_i h0
  have g0:=Z2 (X:=X) (d:=0) (show 0<r.length by omega)
  rw [if_neg (by rw [aak];omega),g0]
  split at h
  ·rename_i h1;rw [if_pos h1];cases h;exact ⟨rfl,by omega,by omega⟩
  ·rename_i h1
   rw [if_neg h1]
   split at h
   ·rename_i h2;rw [if_pos h2];cases h;exact ⟨rfl,by omega,by omega⟩
   ·rename_i h2
    rw [if_neg h2]
    split at h
    ·rename_i h3;rw [if_pos h3];cases h;exact ⟨rfl,by omega,by omega⟩
    ·rename_i h3
     rw [if_neg h3]
     split at h
     ·rename_i h4
      rw [if_pos h4]
      split at h
      ·cases h
      ·rename_i h5
       have g1:=Z2 (X:=X) (d:=0) (show 1<r.length by omega)
       rw [if_neg (by rw [aak];omega),g1]
       split at h
       ·cases h
       ·rename_i h6
        rw [if_neg h6]
        split at h
        ·cases h
        ·rename_i h7
         have g2:=Z2 (X:=X) (d:=0) (show 2<r.length by omega)
         rw [if_neg (by rw [aak];omega),g2]
         split at h
         ·cases h
         ·rename_i h8
          rw [if_neg h8]
          cases h
          exact ⟨rfl,by omega,by omega⟩
     ·cases h
theorem chF_app {a:UInt8} {r X:az} {c:UInt8} {n:Nat} (h:tW (a::r)= .ok c n):tW (a::(r++X))= .ok c n∧1≤n∧n≤r.length+1:=by
 unfold tW at h ⊢
 simp only [aa0,abv,abc] at h ⊢
 split at h
 ·cases h
 ·rename_i h1
  rw [if_neg h1]
  split at h
  ·rename_i h2;rw [if_pos h2];cases h;exact ⟨rfl,by omega,by omega⟩
  ·rename_i h2
   rw [if_neg h2]
   obtain ⟨h3,h4,h5⟩:=escF_app (X:=X) h
   exact ⟨h3,by omega,by omega⟩
theorem strF_app {X:az}:∀ (f g:Nat) (r acc:az) (n:Nat) {k:Int} {t:az} {m:Nat},f≤g→Az f r acc n= .ok k t m→Az g (r++X) acc n= .ok k t m∧n+1≤m∧m≤n+r.length
 |0,_,_,_,_,_,_,_,_,h=>by simp [Az] at h
 |f+1,0,_,_,_,_,_,_,hg,_=>by omega
 |f+1,g+1,[],_,_,_,_,_,_,h=>by simp [Az] at h
 |f+1,g+1,a::r,acc,n,k,t,m,hg,h=>by
  simp only [Az,aas] at h ⊢
  split at h
  ·rename_i h1
   rw [if_pos h1]
   split at h
   ·cases h
   ·rename_i h2
    rw [if_neg h2]
    cases h
    exact ⟨rfl,by omega,by simp only [aah];omega⟩
  ·rename_i h1
   rw [if_neg h1]
   cases hc:tW (a::r) with
   |err c=>rw [hc] at h;simp at h
   |ok b j=>
    rw [hc] at h
    simp only at h
    obtain ⟨h3,h4,h5⟩:=chF_app (X:=X) hc
    rw [h3]
    simp only
    have hd:(a::(r++X)).drop j=(a::r).drop j++X:=by
     rw [←aas,abG (by simp;omega)]
    rw [hd]
    obtain ⟨i1,i2,i3⟩:=strF_app f g _ _ _ (by omega) h
    refine ⟨i1,by omega,?_⟩
    simp only [aai,aah] at i3 ⊢
    omega
theorem tw_lenX {p:UInt8→Bool} (s:az):(s.takeWhile p).length≤s.length:=by
 induction s with
 |nil=>simp
 |cons a s ih=>rw [aaL];split<;>simp [ih]
theorem tokF_app {a:UInt8} {r X:az} {k:Int} {t:az} {n:Nat} (h:jy (a::r)= .ok k t n):jy (a::(r++10::X))= .ok k t n∧1≤n∧n≤r.length+1∧k≠5:=by
 unfold jy at h ⊢
 simp only at h ⊢
 split at h
 ·rename_i h1
  rw [if_pos h1]
  have e1:((a::r)++10::X).takeWhile b9=(a::r).takeWhile b9:=tw_stopX (by decide) _ _
  unfold lZ at h ⊢
  rw [←aas,e1]
  simp only at h ⊢
  split at h
  ·cases h
  ·rename_i h2
   rw [if_neg h2]
   cases h
   refine ⟨rfl,?_,?_,by decide⟩
   ·rw [aaL,if_pos (by simp [b9,h1])];simp
   ·have:=tw_lenX (p:=b9) (a::r);simpa using this
 ·rename_i h1
  rw [if_neg h1]
  split at h
  ·rename_i h2
   rw [if_pos h2]
   have e1:((a::r)++10::X).takeWhile isDigit=(a::r).takeWhile isDigit:=tw_stopX (by decide) _ _
   unfold vU at h ⊢
   rw [←aas,e1]
   simp only at h ⊢
   have hl:=tw_lenX (p:=isDigit) (a::r)
   have ht:1≤((a::r).takeWhile isDigit).length:=by rw [aaL,if_pos h2];simp
   generalize (a::r).takeWhile isDigit=w at*
   split at h
   ·cases h
   ·rename_i h3
    have h4:¬ ((1<w.length∧(w.getD 0 0).toNat=48)∨(w.length< ((a::r)++10::X).length∧bN (((a::r)++10::X).getD w.length 0)=true)):=by
     rintro (h5|⟨h5,h6⟩)
     ·exact h3 (.inl h5)
     ·by_cases h7:w.length< (a::r).length
      ·rw [Z2 h7] at h6
       exact h3 (.inr ⟨h7,h6⟩)
      ·have h8:w.length=(a::r).length:=by omega
       rw [h8,getD_atX] at h6
       exact absurd h6 (by decide)
    rw [if_neg h4]
    split at h
    ·cases h
    ·rename_i h5
     rw [if_neg h5]
     cases h
     exact ⟨rfl,ht,by simpa using hl,by decide⟩
  ·rename_i h2
   rw [if_neg h2]
   split at h
   ·rename_i h3
    rw [if_pos h3]
    obtain ⟨h4,h5,h6⟩:=strF_app (X:=10::X) _ ((r++10::X).length+1) _ _ _ (by simp) h
    refine ⟨h4,by omega,by omega,?_⟩
    have key:∀ (f:Nat) (r acc:az) (n:Nat) {k:Int} {t:az} {m:Nat},Az f r acc n= .ok k t m→k≠5:=by
     intro f
     induction f with
     |zero=>intro r acc n k t m h;simp [Az] at h
     |succ f ih=>
      intro r acc n k t m h
      cases r with
      |nil=>simp [Az] at h
      |cons a r=>
       simp only [Az] at h
       split at h
       ·split at h
        ·cases h
        ·cases h;decide
       ·split at h
        ·cases h
        ·exact ih _ _ _ h
    exact key _ _ _ _ h
   ·rename_i h3
    rw [if_neg h3]
    unfold AA at h ⊢
    cases r with
    |nil=>
     have e1:j5 [a]=false:=by simp [j5]
     have e2:j5 [a,10]=false:=by simp [j5]
     simp only [abo,List.take_zero,List.take_nil,aav,e1,e2] at h ⊢
     simp only [aay,if_false] at h ⊢
     split at h
     ·rename_i h4;rw [if_pos h4];cases h;exact ⟨rfl,by omega,by simp,by decide⟩
     ·cases h
    |cons b r=>
     have e2:(a::(b::r++10::X)).take 2=(a::b::r).take 2:=rfl
     rw [e2]
     by_cases h4:j5 ((a::b::r).take 2)=true
     ·rw [if_pos h4] at h ⊢;cases h;exact ⟨rfl,by omega,by simp,by decide⟩
     ·rw [if_neg h4] at h ⊢
      simp only at h ⊢
      by_cases h5:rJ.contains a=true
      ·rw [if_pos h5] at h ⊢;cases h;exact ⟨rfl,by omega,by simp,by decide⟩
      ·rw [if_neg h5] at h;cases h
theorem sims_dep:∀ {a b:List Tk} (n:Nat),rT a b→dep n b=dep n a
 |[],[],_,_=>rfl
 |[],_::_,_,h=>h.elim
 |_::_,[],_,h=>h.elim
 |t::a,u::b,n,h=>by
  simp only [dep,abL]
  have:Uj n u=Uj n t:=by simp only [Uj,h.1.1,h.1.2]
  rw [this]
  exact sims_dep _ h.2
def jT:RB→List Tk
 | .ok _ r=>r
 | .err r _=>r
def lT:RB→Prop
 | .ok _ _=>True
 | .err _ c=>c≠0
theorem oS {p:Tk→Bool} {k:List Tk→Option RB} {l ts:List Tk} {x:RB} (h:gi p k l=some x) (hl:l<:+ts) (hk:∀ r,r<:+ts→r.length<l.length→k r=some x→jT x<:+ts):jT x<:+ts:=by
 cases l with
 |nil=>simp only [gi,aaf] at h;subst h;exact hl
 |cons t r=>
  simp only [gi] at h
  split at h
  ·exact hk r (List.IsSuffix.trans (aaQ t r) hl) (by simp) h
  ·simp only [aaf] at h;subst h;exact hl
theorem mZ (r:List Tk):(kB r).2<:+r:=by
 cases r with
 |nil=>exact abA _
 |cons t r=>
  simp only [kB]
  split
  ·exact aaQ t r
  ·exact abA _
theorem ZK {T:List Tk}:(∀ e r,eP T= .ok e r→r<:+T)∧∀ r c,eP T= .err r c→r<:+T:=by
 obtain ⟨x,hx⟩:=jL T
 have hs:=vW _ _ _ _ hx
 constructor
 ·intro e r h
  rw [eP,hx] at h
  rcases x with ⟨e1,r1⟩|⟨r1,c1⟩
  ·simp only at h
   split at h
   ·cases h
   ·cases h;exact hs
  ·cases h
 ·intro r c h
  rw [eP,hx] at h
  rcases x with ⟨e1,r1⟩|⟨r1,c1⟩
  ·simp only at h
   split at h
   ·cases h;exact abA _
   ·cases h
  ·cases h;exact hs
theorem mB:∀ (f:Nat) (tag:rR) (ts:List Tk) (x:RB),bF f tag ts=some x→jT x<:+ts:=by
 intro f
 induction f with
 |zero=>intro tag ts x h;simp [bF] at h
 |succ f ih=>
  intro tag ts x h
  have tl:∀ {t:Tk} {l ts:List Tk},(t::l)<:+ts→l<:+ts:=fun h=>List.IsSuffix.trans (aaQ _ _) h
  cases tag with
  |block=>
   cases ts with
   |nil=>simp only [bF,aaf] at h;subst h;exact abA _
   |cons t r=>
    simp only [bF] at h
    split at h
    ·refine oS h ((mZ r).trans (aaQ t r)) fun r2 h2 _ h=>?_
     refine oS h h2 fun r3 h3 _ h=>?_
     exact (ih _ _ _ h).trans h3
    ·simp only [aaf] at h;subst h;exact abA _
  |items k n a l=>
   simp only [bF] at h
   cases ts with
   |nil=>simp only [aaf] at h;subst h;exact abA _
   |cons t r=>
    simp only at h
    have nest:∀ y:Option RB,(match bF f .block (t::r) with
       |some (.ok b r3)=>gi iu (fun r4=>bF f (.items k n a (l++[b])) r4) r3
       |y=>y)=some x→jT x<:+t::r:=by
     intro _ h
     cases hb:bF f .block (t::r) with
     |none=>rw [hb] at h;simp at h
     |some y=>
      have hs:=ih _ _ _ hb
      rw [hb] at h
      cases y with
      |ok b r3=>exact oS h hs fun r4 h4 _ h=>(ih _ _ _ h).trans h4
      |err r3 c=>simp only [aaf] at h;subst h;exact hs
    split at h
    ·simp only [aaf] at h;subst h;exact aaQ t r
    ·split at h
     ·simp only [aaf] at h;subst h;exact abA _
     ·cases r with
      |nil=>exact nest none h
      |cons u r2=>
       simp only at h
       split at h
       ·have h2:r2<:+t::u::r2:=tl (aaQ t (u::r2))
        cases ht:eP r2 with
        |ok y r3=>
         rw [ht] at h
         exact oS h ((ZK.1 _ _ ht).trans h2) fun r4 h4 _ h=>(ih _ _ _ h).trans h4
        |err r3 c=>
         rw [ht] at h
         simp only [aaf] at h;subst h
         exact (ZK.2 _ _ ht).trans h2
       ·exact nest none h
theorem lD {p:Tk→Bool} {k:List Tk→Option RB} {l:List Tk} (hk:∀ r,r.length<l.length→k r≠none):gi p k l≠none:=by
 cases l with
 |nil=>simp [gi]
 |cons t r=>
  simp only [gi]
  split
  ·exact hk r (by simp)
  ·simp
def wB:rR→Nat
 | .block=>0
 | .items _ _ _ _=>1
theorem nc {p:Tk→Bool} {k:List Tk→Option RB} {l:List Tk} {b:Bk} {r:List Tk} (h:gi p k l=some (.ok b r)):∃ t m,l=t::m∧p t=true∧k m=some (.ok b r):=by
 cases l with
 |nil=>simp [gi] at h
 |cons t m=>
  simp only [gi] at h
  split at h
  ·exact ⟨t,m,rfl,by assumption,h⟩
  ·simp at h
theorem jm {f:Nat} {ts r:List Tk} {b:Bk} (h:bF f .block ts=some (.ok b r)):r.length<ts.length:=by
 cases f with
 |zero=>simp [bF] at h
 |succ f=>
  cases ts with
  |nil=>simp [bF] at h
  |cons t m=>
   simp only [bF] at h
   split at h
   ·obtain ⟨u,m2,e1,_,h⟩:=nc h
    obtain ⟨v,m3,e2,_,h⟩:=nc h
    have h1:=(mB _ _ _ _ h).length_le
    have h2:=(mZ m).length_le
    rw [e1,e2] at h2
    simp only [jT,aah] at h1 h2 ⊢
    omega
   ·simp at h
theorem sH:∀ (f:Nat) (tag:rR) (ts:List Tk),2*ts.length+wB tag<f→bF f tag ts≠none:=by
 intro f
 induction f with
 |zero=>intro tag ts h;omega
 |succ f ih=>
  intro tag ts hf
  cases tag with
  |block=>
   cases ts with
   |nil=>simp [bF]
   |cons t r=>
    simp only [bF]
    simp only [wB,aah] at hf
    have hn:=(mZ r).length_le
    split
    ·refine lD fun r2 h2=>lD fun r3 h3=>ih _ _ ?_
     simp only [wB];omega
    ·simp
  |items k n a l=>
   simp only [wB] at hf
   simp only [bF]
   cases ts with
   |nil=>simp
   |cons t r=>
    simp only [aah] at hf
    have nest:(match bF f .block (t::r) with
       |some (.ok b r3)=>gi iu (fun r4=>bF f (.items k n a (l++[b])) r4) r3
       |y=>y)≠none:=by
     have hb0:=ih .block (t::r) (by simp only [wB,aah];omega)
     cases hb:bF f .block (t::r) with
     |none=>exact absurd hb hb0
     |some y=>
      cases y with
      |ok b r3=>
       have:=jm hb
       simp only [aah] at this
       refine lD fun r4 h4=>ih _ _ ?_
       simp only [wB];omega
      |err r3 c=>simp
    simp only
    split
    ·simp
    ·split
     ·simp
     ·cases r with
      |nil=>exact nest
      |cons u r2=>
       simp only
       split
       ·simp only [aah] at hf
        cases ht:eP r2 with
        |ok y r3=>
         have:=(ZK.1 _ _ ht).length_le
         refine lD fun r4 h4=>ih _ _ ?_
         simp only [wB];omega
        |err r3 c=>simp
       ·exact nest
def Pr (tag:Tag) (ts:List Tk) (x:dF Ex):Prop:=∃ f,pF f tag ts=some x
theorem Pr.uniq {tag:Tag} {ts:List Tk} {x y:dF Ex} (h:Pr tag ts x) (k:Pr tag ts y):x=y:=by
 obtain ⟨f,h⟩:=h
 obtain ⟨g,k⟩:=k
 have e1:=zc h (Nat.le_max_left f g)
 have e2:=zc k (Nat.le_max_right f g)
 rw [e1] at e2
 exact Option.some.inj e2
theorem Pr.two {t1 t2:Tag} {l1 l2:List Tk} {x y:dF Ex} (h:Pr t1 l1 x) (k:Pr t2 l2 y):∃ f,pF f t1 l1=some x∧pF f t2 l2=some y:=by
 obtain ⟨f,h⟩:=h
 obtain ⟨g,k⟩:=k
 exact ⟨max f g,zc h (Nat.le_max_left f g),zc k (Nat.le_max_right f g)⟩
def hs:List Tk→Nat
 |[]=>0
 |t::_=>if t.kind=4 then bB t.text else 0
def no (s:az) (l:List Tk):Prop:=∀ t r,l=t::r→cg s t=false
def IL (l:List Tk):Prop:=no [46] l∧no [91] l∧no [40] l
def S9 (l:List Tk):Prop:=hs l=0∧IL l∧no [63] l
section
variable {ts r r2 l:List Tk} {e a b x:Ex} {y:dF Ex} {t u:Tk} {n:Nat}
theorem Pr.cond0 (h:Pr (.op 2) ts (.ok a r)) (hq:no [63] r):Pr .cond ts (.ok a r):=by
 obtain ⟨f,h⟩:=h
 refine ⟨f+1,?_⟩
 simp only [pF,h,aL]
 cases r with
 |nil=>rfl
 |cons t r=>simp only [hq t r rfl];rfl
theorem Pr.cG {r4 r5:List Tk} (h:Pr (.op 2) ts (.ok e (t::r2))) (ht:cg [63] t=true) (h1:Pr .cond r2 (.ok a (u::r4))) (hu:cg [58] u=true) (h2:Pr .cond r4 (.ok b r5)):
  Pr .cond ts (.ok (.mk 8 [] ct [e,a,b] []) r5):=by
 obtain ⟨f,h,h1⟩:=h.two h1
 obtain ⟨g,h2⟩:=h2
 refine ⟨max f g+1,?_⟩
 have k:=zc h (Nat.le_max_left f g)
 have k1:=zc h1 (Nat.le_max_left f g)
 have k2:=zc h2 (Nat.le_max_right f g)
 simp only [pF,k,aL,ht,if_pos,k1,cU,hu,k2]
theorem Pr.op7 (h:Pr .un ts y):Pr (.op 7) ts y:=by
 obtain ⟨f,h⟩:=h
 exact ⟨f+1,by simp only [pF,if_pos,h]⟩
theorem Pr.op (hn:n≠7) (h:Pr (.op (n+1)) ts (.ok e r)) (k:Pr (.ops n e) r y):Pr (.op n) ts y:=by
 obtain ⟨f,h,k⟩:=h.two k
 exact ⟨f+1,by simp only [pF,if_neg hn,h,aL,k]⟩
theorem Pr.ops0 (h:hs r<n∨n<hs r):Pr (.ops n e) r (.ok e r):=by
 refine ⟨1,?_⟩
 simp only [pF]
 cases r with
 |nil=>rfl
 |cons t r=>
  have:¬ (t.kind=4∧bB t.text=n):=by
   rintro ⟨h1,h2⟩
   simp only [hs,if_pos h1] at h
   omega
  simp only [if_neg this]
theorem Pr.ops4 (ht:t.kind=4∧bB t.text=4) (h:Pr (.op 5) r (.ok x r2)):Pr (.ops 4 e) (t::r) (.ok (.mk 7 t.text ct [e,x] []) r2):=by
 obtain ⟨f,h⟩:=h
 exact ⟨f+1,by simp only [pF,if_pos ht,h,aL,if_pos]⟩
theorem Pr.opsS (hn:n≠4) (ht:t.kind=4∧bB t.text=n) (h:Pr (.op (n+1)) r (.ok x r2)) (k:Pr (.ops n (.mk 7 t.text ct [e,x] [])) r2 y):Pr (.ops n e) (t::r) y:=by
 obtain ⟨f,h,k⟩:=h.two k
 exact ⟨f+1,by simp only [pF,if_pos ht,h,aL,if_neg hn,k]⟩
theorem Pr.unO (ht:cg [33] t=true∨cg [45] t=true) (h:Pr .un r (.ok x r2)):Pr .un (t::r) (.ok (.mk 6 t.text ct [x] []) r2):=by
 obtain ⟨f,h⟩:=h
 exact ⟨f+1,by simp only [pF,if_pos (Bool.or_eq_true_iff.2 ht),h,aL]⟩
theorem LF (h:Pr .atom ts (.ok a r)):∃ t l,ts=t::l∧cg [33] t=false∧cg [45] t=false:=by
 obtain ⟨f,h⟩:=h
 cases f with
 |zero=>simp [pF] at h
 |succ f=>
  cases ts with
  |nil=>simp [pF] at h
  |cons t l=>
   refine ⟨t,l,rfl,?_⟩
   have key:∀ s:az,(s=[33]∨s=[45])→cg s t=false:=by
    intro s hs
    cases ho:cg s t with
    |false=>rfl
    |true=>
     exfalso
     simp only [cg,aal] at ho
     obtain ⟨h1,h2⟩:=ho
     have e1:cg [40] t=false:=by simp only [cg,h1,h2];rcases hs with rfl|rfl<;>decide
     have e2:cg [91] t=false:=by simp only [cg,h1,h2];rcases hs with rfl|rfl<;>decide
     have e3:cg [123] t=false:=by simp only [cg,h1,h2];rcases hs with rfl|rfl<;>decide
     simp only [pF,e1,e2,e3,h1] at h
     simp at h
   exact ⟨key _ (.inl rfl),key _ (.inr rfl)⟩
def PC (ts:List Tk) (y:dF Ex):Prop:=∃ a r,Pr .atom ts (.ok a r)∧Pr (.chain a) r y
theorem PC.un (h:PC ts y):Pr .un ts y:=by
 obtain ⟨a,r,h1,h2⟩:=h
 obtain ⟨t,l,rfl,n1,n2⟩:=LF h1
 obtain ⟨f,h1,h2⟩:=h1.two h2
 exact ⟨f+1,by simp only [pF,n1,n2,Bool.or_self,aay,if_false,h1,aL,h2]⟩
theorem Pr.ch0 (h:IL r):Pr (.chain e) r (.ok e r):=by
 refine ⟨1,?_⟩
 simp only [pF]
 cases r with
 |nil=>rfl
 |cons t r=>simp only [h.1 t r rfl,h.2.1 t r rfl];rfl
theorem Pr.chDot (ht:cg [46] t=true) (hu:u.kind=1∧cc u.text=true) (h:Pr (.chain (.mk 3 u.text ct [e] [])) r y):Pr (.chain e) (t::u::r) y:=by
 obtain ⟨f,h⟩:=h
 exact ⟨f+1,by simp only [pF,ht,if_pos,if_pos hu,h]⟩
theorem Pr.chIx (ht:cg [91] t=true) (h:Pr .cond r (.ok x (u::r2))) (hu:cg [93] u=true) (k:Pr (.chain (.mk 4 [] ct [e,x] [])) r2 y):Pr (.chain e) (t::r) y:=by
 obtain ⟨f,h,k⟩:=h.two k
 have ht2:cg [46] t=false:=by
  simp only [cg,aal,aaG] at ht ⊢
  rintro ⟨_,h2⟩;rw [ht.2] at h2;cases h2
 exact ⟨f+1,by simp only [pF,ht2,aay,if_false,ht,if_pos,h,aL,cU,hu,k]⟩
theorem Pr.par (ht:t.kind=4∧t.text=[40]) (h:Pr .cond r (.ok x (u::r2))) (hu:cg [41] u=true):Pr .atom (t::r) (.ok x r2):=by
 obtain ⟨f,h⟩:=h
 have o1:cg [40] t=true:=by simp [cg,ht.1,ht.2]
 refine ⟨f+1,?_⟩
 simp only [pF,ht.1,o1,if_pos]
 rw [if_neg (by decide),if_neg (by decide),if_neg (by decide),h]
 simp only [aL,cU,hu,if_pos]
theorem Pr.down (h:Pr (.op (n+1)) ts (.ok e r)) (hr:hs r≤n):∀ {m:Nat},m≤n→n≤6→Pr (.ops m e) r y→hs r≤m→Pr (.op m) ts y:=by
 intro m hm hn hy hrm
 induction n with
 |zero=>
  obtain rfl:m=0:=by omega
  exact Pr.op (by decide) h hy
 |succ n ih=>
  by_cases he:m=n+1
  ·subst he
   exact Pr.op (by omega) h hy
  ·exact ih (Pr.op (by omega) h (Pr.ops0 (.inl (by omega)))) (by omega) (by omega) (by omega)
theorem Pr.args0 {close:az} (ht:cg close t=true):Pr (.args close) (t::r) (.ok (.mk 0 [] ct [] []) r):=
 ⟨1,by simp only [pF,ht,if_pos]⟩
theorem Pr.args1 {close:az} (ht:cg close t=false) (h:Pr (.items close []) (t::r) y):Pr (.args close) (t::r) y:=by
 obtain ⟨f,h⟩:=h
 exact ⟨f+1,by simp only [pF,ht,aay,if_false,h]⟩
theorem Pr.itemE {close:az} {acc:List Ex} (h:Pr .cond ts (.ok x (t::r))) (ht:cg close t=true):Pr (.items close acc) ts (.ok (.mk 0 [] ct (acc++[x]) []) r):=by
 obtain ⟨f,h⟩:=h
 exact ⟨f+1,by simp only [pF,h,aL,ht,if_pos]⟩
theorem Pr.itemC {close:az} {acc:List Ex} (h:Pr .cond ts (.ok x (t::r))) (ht:cg [44] t=true) (hc:cg close t=false) (k:Pr (.items close (acc++[x])) r y):Pr (.items close acc) ts y:=by
 obtain ⟨f,h,k⟩:=h.two k
 exact ⟨f+1,by simp only [pF,h,aL,ht,hc,aay,if_false,if_pos,k]⟩
theorem Pr.ents0 (ht:cg [125] t=true):Pr .kW (t::r) (.ok (.mk 10 [] ct [] []) r):=⟨1,by simp only [pF,ht,if_pos]⟩
theorem Pr.ents1 (ht:cg [125] t=false) (h:Pr (.xR [] []) (t::r) y):Pr .kW (t::r) y:=by
 obtain ⟨f,h⟩:=h
 exact ⟨f+1,by simp only [pF,ht,aay,if_false,h]⟩
theorem Pr.entE {acc:List Ex} {ks:List az} {w:Tk} (ht:kq t=true) (hu:cg [58] u=true) (h:Pr .cond l (.ok x (w::r))) (hw:cg [125] w=true):
  Pr (.xR acc ks) (t::u::l) (.ok (.mk 10 [] ct (acc++[x]) (ks++[t.text])) r):=by
 obtain ⟨f,h⟩:=h
 exact ⟨f+1,by simp only [pF,ht,if_pos,cU,hu,h,aL,hw]⟩
theorem Pr.entC {acc:List Ex} {ks:List az} {w:Tk} (ht:kq t=true) (hu:cg [58] u=true) (h:Pr .cond l (.ok x (w::r))) (hw:cg [44] w=true) (k:Pr (.xR (acc++[x]) (ks++[t.text])) r y):
  Pr (.xR acc ks) (t::u::l) y:=by
 obtain ⟨f,h,k⟩:=h.two k
 have hw2:cg [125] w=false:=by
  simp only [cg,aal,aaG] at hw ⊢
  rintro ⟨_,h2⟩;rw [hw.2] at h2;cases h2
 exact ⟨f+1,by simp only [pF,ht,if_pos,cU,hu,h,aL,hw,hw2,aay,if_false,k]⟩
end
end Go.Proofs.YthnoiikjfcnlhaaGreatDoor
