/- A step of the proofs of the seat's theorems. -/
import Derived.Test.YthnoiikjfcnlhaaGreatDoorZ20
import Derived.Test.YthnoiikjfcnlhaaGreatDoorZ21
import Derived.Test.YthnoiikjfcnlhaaGreatDoorZ25
set_option linter.unusedSimpArgs false
set_option linter.unusedVariables false
set_option maxHeartbeats 8000000
set_option maxRecDepth 20000
namespace Go.Proofs.YthnoiikjfcnlhaaGreatDoor
open Go.Abs
attribute [local irreducible] AW OX cG GQ bK bO bz aY aa
variable {G:World→Nat→Prop}
theorem cW (T:List Tk) (j:Nat) (s:az):J5 T j s=bU T j s:=by
 rw [J5,bU,ez]
 by_cases h:j<T.length
 ·rw [if_pos h,decide_eq_true h,Bool.true_and,cg]
  by_cases hk:(T.getD j default).kind=4
  ·have:fT (T.getD j default)=true:=by rw [fT,if_neg (by omega),if_neg (by omega),if_neg (by omega),decide_eq_true hk]
   rw [if_pos this]
   generalize T.getD j default=t at*
   simp [hk]
  ·generalize T.getD j default=t at*
   by_cases hr:fT t=true
   ·rw [if_pos hr];simp [hk]
   ·rw [if_neg hr];simp [hk,MZ]
 ·rw [if_neg h,decide_eq_false h];simp [MZ]
def fh (T:List Tk):dF Ex→Out
 | .ok e _=> .ret (vE e)
 | .err rest c=> .dw (j4 (T.length - rest.length) c)
def kf (G:World→Nat→Prop) (T:List Tk) (f:FuncId) (args:List V) (j:Nat) (r:dF Ex):Prop:=
 ∀ B K b,B[b]?=some (bI T j)→aa Tryz.prog G f (.ptr b 0::args) ⟨B,K⟩ (fun o s=>o=fh T r∧s=⟨B.set b (bI T (T.length - (au r).length)),K⟩)
theorem fU {l m:List aJ} {b:Nat} {x:aJ} (h:l[b]?=some x):(l++m)[b]?=some x:=by rw [List.getElem?_append_left (List.getElem?_eq_some_iff.1 h).1];exact h
theorem kg {l m:List aJ} {b:Nat} {x y:aJ} (h:l[b]?=some x):(l++m).set b y=l.set b y++m:=List.set_append_left _ _ (List.getElem?_eq_some_iff.1 h).1
theorem jU {l m:List aJ} {b:Nat} {x y z:aJ} (h:l[b]?=some x):(l.set b z++m).set b y=l.set b y++m:=by rw [kg (iA (y:=z) h),List.set_set]
structure ur (G:World→Nat→Prop) (T:List Tk) (f:Nat):Prop where
 cond:∀ i,i≤T.length→∀ r,pF f .cond (T.drop i)=some r→kf G T 171 [] i r
 op:∀ n,1≤n→n≤7→∀ i,i≤T.length→∀ r,pF f (.op n) (T.drop i)=some r→kf G T 183 [ai ↑n] i r
 un:∀ i,i≤T.length→∀ r,pF f .un (T.drop i)=some r→kf G T 192 [] i r
 chain:∀ i,i≤T.length→∀ r,aL (pF f .atom (T.drop i)) (fun e r2=>pF f (.chain e) r2)=some r→kf G T 210 [] i r
theorem Pk (hg:GV G) {T:List Tk} {f:Nat} (hT:T.length≤1048576) (hx:∀ t∈T,t.text.length≤1048576) (hf:ur G T f) (i:Nat) (hi:i≤T.length) (r:dF Ex) (h:pF (f+1) .cond (T.drop i)=some r):
  kf G T 171 [] i r:=by
 intro B K b hb
 have hbl:b<B.length:=(List.getElem?_eq_some_iff.1 hb).1
 have hs1:∀ m y,(B++m).set b y=B.set b y++m:=fun m y=>kg hb
 have hs2:∀ z m y,(B.set b z++m).set b y=B.set b y++m:=fun z m y=>jU hb
 have hg1:∀ m,(B++m)[b]?=some (bI T i):=fun m=>fU hb
 have hg2:∀ z m,(B.set b z++m)[b]?=some z:=fun z m=>fU (iA hb)
 have hl:∀ z,(B.set b z).length=B.length:=fun z=>List.length_set
 have hG:∀ (z:aJ) (m:List aJ) (k:Nat),(B.set b z++m)[B.length+k]?=m[k]?:=fun z m k=>by rw [List.getElem?_append_right (by simp)];simp
 have hG0:∀ (z:aJ) (m:List aJ),(B.set b z++m)[B.length]?=m[0]?:=fun z m=>by rw [List.getElem?_append_right (by simp)];simp
 have hS:∀ (z y:aJ) (m:List aJ) (k:Nat),(B.set b z++m).set (B.length+k) y=B.set b z++m.set k y:=fun z y m k=>by rw [List.set_append_right _ _ (by simp)];simp
 have hS0:∀ (z y:aJ) (m:List aJ),(B.set b z++m).set B.length y=B.set b z++m.set 0 y:=fun z y m=>by rw [List.set_append_right _ _ (by simp)];simp
 simp only [pF] at h
 have len:∀ j,j≤T.length→T.length - (T.drop j).length=j:=fun j hj=>by simp only [List.length_drop];omega
 rcases h1:pF f (.op 2) (T.drop i) with _|(⟨c,r1⟩|⟨r1,ec⟩)
 ·rw [h1] at h;simp [aL] at h
 ·have c1:=hf.op 2 (by omega) (by omega) i hi _ h1
  obtain ⟨j,hij,hj,d1,e1⟩:=fS h1 hi
  simp only [au] at d1 e1
  subst d1
  simp only [kf,fh,au,e1] at c1
  rw [h1] at h
  simp only [aL] at h
  cases hbq:bU T j [63]
  ·have hr:r= .ok c (T.drop j):=by
    by_cases hjl:j<T.length
    ·rw [bM hjl] at h
     simp only [dj hjl hbq,Bool.false_eq_true,if_false,Option.some.injEq] at h
     rw [←h,bM hjl]
    ·rw [bk hjl] at h
     simp only [Option.some.injEq] at h
     rw [←h,bk hjl]
   subst hr
   simp only [fh,au,e1]
   refine aa.body Tryz.func171 rfl Tryz.ntmps171 (by simp) ?_
   (try refine Wk.aw fun _ ag=>?_);(repeat' (first|((first|refine Wk.hd ?_|refine Wk.i ?_);simp -implicitDefEqProofs only [go_sem,seval,hs1,hs2,hl,hG,hG0,hS,hS0])|refine aW (c1 _ _ b (hg1 _)) ?_|refine ah (eK hg _ b j T hT hx (by omega) (by exact hg2 _ _) _ (by rw [cW];exact hbq)) ?_|first|refine Wk.o ?_|refine Wk.q (by assumption) ?_));all_goals (repeat subst ag)
   refine aV (v:=vE c) K.length (Nat.le_refl _) (s1:=⟨B.set b (bI T j),K⟩) (by simp [St.cut]) (aR ?_) (by simp -implicitDefEqProofs only [go_sem,seval,bQ,bZ,Tryz.results171,hG,hG0];first|done|exact rfl) (by simp -implicitDefEqProofs only [go_sem,seval,eD];first|done|exact rfl) (by simp -implicitDefEqProofs only [go_sem,seval];first|done|exact rfl) ⟨rfl,rfl⟩
   simp [aJ.within,V.within,V.within.all]
  ·have hjl:=bW hbq
   rw [bM hjl] at h
   simp only [eH hbq,if_true] at h
   have ha:=fun m=>eL (G:=G) hg ⟨B.set b (bI T j)++m,K⟩ b j T hT hx (by omega) (by exact hg2 _ _) [63] (by rw [cW];exact hbq)
   have ha':∀ m,aa Tryz.prog G 184 [.ptr b 0,vs [63]] ⟨B.set b (bI T j)++m,K⟩ (fun o s'=>o= .ret (vb true)∧s'=⟨B.set b (bI T (j+1))++m,K⟩):=fun m=>by have:=ha m;simp only [hs2] at this;exact this
   rcases h2:pF f .cond (T.drop (j+1)) with _|(⟨a,r3⟩|⟨r3,e3⟩)
   ·rw [h2] at h;simp at h
   ·have c2:=hf.cond (j+1) (by omega) _ h2
    obtain ⟨k,hjk,hk,d2,e2⟩:=fS h2 (by omega)
    simp only [au] at d2 e2
    subst d2
    simp only [kf,fh,au,e2] at c2
    rw [h2] at h
    simp only at h
    rw [gp] at h
    have c2':∀ m,aa Tryz.prog G 171 [.ptr b 0] ⟨B.set b (bI T (j+1))++m,K⟩ (fun o s=>o= .ret (vE a)∧s=⟨B.set b (bI T k)++m,K⟩):=fun m=>by have:=c2 _ K b (hg2 _ m);simp only [hs2] at this;exact this
    cases hb2:bU T k [58]
    ·rw [hb2] at h
     simp only [Bool.false_eq_true,if_false,Option.some.injEq] at h
     subst h
     have hx2:=fun m=>iR (G:=G) hg ⟨B.set b (bI T k)++m,K⟩ b k T hT hx (by omega) (by exact hg2 _ _) [58] (by rw [cW];exact hb2)
     simp only [fh,au,len k hk]
     refine aa.body Tryz.func171 rfl Tryz.ntmps171 (by simp) ?_
     (try refine Wk.aw fun _ ag=>?_);(repeat' (first|((first|refine Wk.hd ?_|refine Wk.i ?_);simp -implicitDefEqProofs only [go_sem,seval,hs1,hs2,hl,hG,hG0,hS,hS0])|refine aW (c1 _ _ b (hg1 _)) ?_|refine aW (ha' _) ?_|refine aW (c2' _) ?_|refine cA (hx2 _) ?_|first|refine Wk.o ?_|refine Wk.q (by assumption) ?_));all_goals (repeat subst ag)
     refine aM (s1:=⟨B.set b (bI T k),K⟩) (by simp [St.cut]) (aR ?_) rfl ⟨rfl,rfl⟩
     simp [aJ.within,V.within,V.within.all]
    ·have hkl:=bW hb2
     rw [hb2] at h
     simp only [if_true] at h
     have hx2:=fun m=>iQ (G:=G) hg ⟨B.set b (bI T k)++m,K⟩ b k T hT hx (by omega) (by exact hg2 _ _) [58] (by rw [cW];exact hb2)
     have hx2':∀ m,aa Tryz.prog G 185 [.ptr b 0,vs [58]] ⟨B.set b (bI T k)++m,K⟩ (fun o s'=>o= .ret (.cF [])∧s'=⟨B.set b (bI T (k+1))++m,K⟩):=fun m=>by have:=hx2 m;simp only [hs2] at this;exact this
     rcases h3:pF f .cond (T.drop (k+1)) with _|(⟨d,r5⟩|⟨r5,e5⟩)
     ·rw [h3] at h;simp [aL] at h
     ·have c3:=hf.cond (k+1) (by omega) _ h3
      obtain ⟨m,hkm,hm,d3,e3⟩:=fS h3 (by omega)
      simp only [au] at d3 e3
      subst d3
      simp only [kf,fh,au,e3] at c3
      rw [h3] at h
      simp only [aL,Option.some.injEq] at h
      subst h
      have c3':∀ m',aa Tryz.prog G 171 [.ptr b 0] ⟨B.set b (bI T (k+1))++m',K⟩ (fun o s=>o= .ret (vE d)∧s=⟨B.set b (bI T m)++m',K⟩):=fun m'=>by have:=c3 _ K b (hg2 _ m');simp only [hs2] at this;exact this
      simp only [fh,au,len m hm]
      refine aa.body Tryz.func171 rfl Tryz.ntmps171 (by simp) ?_
      (try refine Wk.aw fun _ ag=>?_);(repeat' (first|((first|refine Wk.hd ?_|refine Wk.i ?_);simp -implicitDefEqProofs only [go_sem,seval,hs1,hs2,hl,hG,hG0,hS,hS0])|refine aW (c1 _ _ b (hg1 _)) ?_|refine aW (ha' _) ?_|refine aW ((by first|exact c2' _|exact c3' _)) ?_|refine aW (hx2' _) ?_|first|refine Wk.o ?_|refine Wk.q (by assumption) ?_));all_goals (repeat subst ag)
      refine aV (v:=vE (Ex.mk 8 [] ct [c,a,d] [])) K.length (Nat.le_refl _) (s1:=⟨B.set b (bI T m),K⟩) (by simp [St.cut]) (aR ?_) (by simp -implicitDefEqProofs only [go_sem,seval,bQ,bZ,Tryz.results171,hG,hG0];first|done|exact rfl) (by simp -implicitDefEqProofs only [go_sem,seval,eD];first|done|exact rfl) (by simp -implicitDefEqProofs only [go_sem,seval];first|done|exact rfl) ⟨rfl,rfl⟩
      simp [aJ.within,V.within,V.within.all]
     ·have c3:=hf.cond (k+1) (by omega) _ h3
      have he:=fJ h3
      rw [h3] at h
      simp only [aL,Option.some.injEq] at h
      subst h
      simp only [kf,fh,au] at c3
      have c3':∀ m',aa Tryz.prog G 171 [.ptr b 0] ⟨B.set b (bI T (k+1))++m',K⟩ (fun o s=>o= .dw (j4 (T.length - r5.length) e5)∧s=⟨B.set b (bI T (T.length - r5.length))++m',K⟩):=fun m'=>by have:=c3 _ K b (hg2 _ m');simp only [hs2] at this;exact this
      simp only [fh,au]
      refine aa.body Tryz.func171 rfl Tryz.ntmps171 (by simp) ?_
      (try refine Wk.aw fun _ ag=>?_);(repeat' (first|((first|refine Wk.hd ?_|refine Wk.i ?_);simp -implicitDefEqProofs only [go_sem,seval,hs1,hs2,hl,hG,hG0,hS,hS0])|refine aW (c1 _ _ b (hg1 _)) ?_|refine aW (ha' _) ?_|refine aW (c2' _) ?_|refine cA (c3' _) ?_|refine aW (hx2' _) ?_|first|refine Wk.o ?_|refine Wk.q (by assumption) ?_));all_goals (repeat subst ag)
      refine aM (s1:=⟨B.set b (bI T (T.length - r5.length)),K⟩) (by simp [St.cut]) (aR ?_) rfl ⟨rfl,rfl⟩
      simp [aJ.within,V.within,V.within.all]
   ·have c2:=hf.cond (j+1) (by omega) _ h2
    have he:=fJ h2
    rw [h2] at h
    simp only [Option.some.injEq] at h
    subst h
    simp only [kf,fh,au] at c2
    have c2':∀ m,aa Tryz.prog G 171 [.ptr b 0] ⟨B.set b (bI T (j+1))++m,K⟩ (fun o s=>o= .dw (j4 (T.length - r3.length) e3)∧s=⟨B.set b (bI T (T.length - r3.length))++m,K⟩):=fun m=>by have:=c2 _ K b (hg2 _ m);simp only [hs2] at this;exact this
    simp only [fh,au]
    refine aa.body Tryz.func171 rfl Tryz.ntmps171 (by simp) ?_
    (try refine Wk.aw fun _ ag=>?_);(repeat' (first|((first|refine Wk.hd ?_|refine Wk.i ?_);simp -implicitDefEqProofs only [go_sem,seval,hs1,hs2,hl,hG,hG0,hS,hS0])|refine aW (c1 _ _ b (hg1 _)) ?_|refine aW (ha' _) ?_|refine cA (c2' _) ?_|first|refine Wk.o ?_|refine Wk.q (by assumption) ?_));all_goals (repeat subst ag)
    refine aM (s1:=⟨B.set b (bI T (T.length - r3.length)),K⟩) (by simp [St.cut]) (aR ?_) rfl ⟨rfl,rfl⟩
    simp [aJ.within,V.within,V.within.all]
 ·have c1:=hf.op 2 (by omega) (by omega) i hi _ h1
  have he:=fJ h1
  rw [h1] at h
  simp only [aL,Option.some.injEq] at h
  subst h
  simp only [kf,fh,au] at c1
  simp only [fh,au]
  refine aa.body Tryz.func171 rfl Tryz.ntmps171 (by simp) ?_
  (try refine Wk.aw fun _ ag=>?_);(repeat' (first|((first|refine Wk.hd ?_|refine Wk.i ?_);simp -implicitDefEqProofs only [go_sem,seval])|refine cA (c1 _ _ b (hg1 _)) ?_|first|refine Wk.o ?_|refine Wk.q (by assumption) ?_));all_goals (repeat subst ag)
  refine aM (s1:=⟨B.set b (bI T (T.length - r1.length)),K⟩) (by rw [hs1];simp [St.cut]) (aR ?_) rfl ⟨rfl,rfl⟩
  simp [aJ.within,V.within,V.within.all]
theorem Pm {T:List Tk} {f:Nat} (hT:T.length≤1048576) (hf:mC G T f) (i:Nat) (hi:i≤T.length) (r:dF Ex) (h:pF (f+1) .un (T.drop i)=some r):
  lE G T 155 [jA T,ai i] r:=by
 intro st
 simp only [pF] at h
 have len:∀ j,j≤T.length→T.length - (T.drop j).length=j:=fun j hj=>by simp only [List.length_drop];omega
 have hop1:=nB (G:=G) T i [33] hT (by omega)
 have hop2:=nB (G:=G) T i [45] hT (by omega)
 by_cases hb:(bU T i [33]||bU T i [45])=true
 ·have hil:i<T.length:=by
   rw [Bool.or_eq_true] at hb
   rcases hb with hb|hb<;>exact bW hb
  have hb':(cg [33] (T.getD i default)||cg [45] (T.getD i default))=true:=by simpa [bU,hil] using hb
  rw [bM hil] at h
  simp only [hb',if_true] at h
  rcases h1:pF f .un (T.drop (i+1)) with _|(⟨c,r1⟩|⟨r1,ec⟩)
  ·rw [h1] at h;simp [aL] at h
  ·have c1:=(hf.un (i+1) (by omega) _ h1).ok
   obtain ⟨j,hij,hj,d1,e1⟩:=fS h1 (by omega)
   simp only [au] at d1 e1
   subst d1
   rw [e1] at c1
   rw [h1] at h
   simp only [aL,Option.some.injEq] at h
   subst h
   cases hb1:bU T i [33]
   ·rw [hb1,Bool.false_or] at hb
    rw [hb1] at hop1
    rw [hb] at hop2
    refine aa.body Tryz.func155 rfl Tryz.ntmps155 (by simp) ?_
    (try refine Wk.aw fun _ ag=>?_);(repeat' (first|((first|refine Wk.hd ?_|refine Wk.i ?_);simp -implicitDefEqProofs (disch:=omega) only [go_sem,seval])|refine ah (c1 _) ?_|refine ah ((by first|exact hop1 _|exact hop2 _)) ?_|refine Wk.drawn mx (by kernel_rfl) ?_|refine Wk.ret fun _ _=>?_|refine Wk.fin (by assumption) ?_|first|refine Wk.o ?_|refine Wk.q (by assumption) ?_));all_goals (repeat subst ag)
    all_goals exact ⟨by rw [len j hj];rfl,rfl⟩
   ·rw [hb1] at hop1
    refine aa.body Tryz.func155 rfl Tryz.ntmps155 (by simp) ?_
    (try refine Wk.aw fun _ ag=>?_);(repeat' (first|((first|refine Wk.hd ?_|refine Wk.i ?_);simp -implicitDefEqProofs (disch:=omega) only [go_sem,seval])|refine ah (c1 _) ?_|refine ah ((by first|exact hop1 _|exact hop2 _)) ?_|refine Wk.drawn mx (by kernel_rfl) ?_|refine Wk.ret fun _ _=>?_|refine Wk.fin (by assumption) ?_|first|refine Wk.o ?_|refine Wk.q (by assumption) ?_));all_goals (repeat subst ag)
    all_goals exact ⟨by rw [len j hj];rfl,rfl⟩
  ·have c1:=(hf.un (i+1) (by omega) _ h1).err
   rw [h1] at h
   simp only [aL,Option.some.injEq] at h
   subst h
   cases hb1:bU T i [33]
   ·rw [hb1,Bool.false_or] at hb
    rw [hb1] at hop1
    rw [hb] at hop2
    refine aa.body Tryz.func155 rfl Tryz.ntmps155 (by simp) ?_
    (try refine Wk.aw fun _ ag=>?_);(repeat' (first|((first|refine Wk.hd ?_|refine Wk.i ?_);simp -implicitDefEqProofs (disch:=omega) only [go_sem,seval])|refine iI (c1 _) fun x_=>?_|refine ah ((by first|exact hop1 _|exact hop2 _)) ?_|refine Wk.drawn mx (by kernel_rfl) ?_|refine Wk.ret fun _ _=>?_|refine Wk.fin (by assumption) ?_|first|refine Wk.o ?_|refine Wk.q (by assumption) ?_));all_goals (repeat subst ag)
    all_goals exact ⟨.mk 6 _ ct [_] [],rfl,rfl⟩
   ·rw [hb1] at hop1
    refine aa.body Tryz.func155 rfl Tryz.ntmps155 (by simp) ?_
    (try refine Wk.aw fun _ ag=>?_);(repeat' (first|((first|refine Wk.hd ?_|refine Wk.i ?_);simp -implicitDefEqProofs (disch:=omega) only [go_sem,seval])|refine iI (c1 _) fun x_=>?_|refine ah ((by first|exact hop1 _|exact hop2 _)) ?_|refine Wk.drawn mx (by kernel_rfl) ?_|refine Wk.ret fun _ _=>?_|refine Wk.fin (by assumption) ?_|first|refine Wk.o ?_|refine Wk.q (by assumption) ?_));all_goals (repeat subst ag)
    all_goals exact ⟨.mk 6 _ ct [_] [],rfl,rfl⟩
 ·have hb:=Bool.eq_false_iff.2 hb
  rw [Bool.or_eq_false_iff] at hb
  rw [hb.1] at hop1
  rw [hb.2] at hop2
  have h':aL (pF f .atom (T.drop i)) (fun e r2=>pF f (.chain e) r2)=some r:=by
   by_cases hil:i<T.length
   ·rw [bM hil] at h
    simp only [dj hil hb.1,dj hil hb.2,Bool.or_self,Bool.false_eq_true,if_false] at h
    rw [←bM hil] at h
    exact h
   ·rw [bk hil] at h ⊢
    simp only at h
    cases f with
    |zero=>simp [pF] at h
    |succ f=>
     simp only [pF,Option.some.injEq] at h ⊢
     subst h;rfl
  have c1:=hf.chain i hi _ h'
  cases r with
  |ok e rest=>
   have c1:=c1.ok
   refine aa.body Tryz.func155 rfl Tryz.ntmps155 (by simp) ?_
   (try refine Wk.aw fun _ ag=>?_);(repeat' (first|((first|refine Wk.hd ?_|refine Wk.i ?_);simp -implicitDefEqProofs (disch:=omega) only [go_sem,seval])|refine ah (c1 _) ?_|refine ah ((by first|exact hop1 _|exact hop2 _)) ?_|refine Wk.ret fun _ _=>?_|refine Wk.fin (by assumption) ?_|first|refine Wk.o ?_|refine Wk.q (by assumption) ?_));all_goals (repeat subst ag)
   all_goals exact ⟨rfl,rfl⟩
  |err rest c=>
   have c1:=c1.err
   refine aa.body Tryz.func155 rfl Tryz.ntmps155 (by simp) ?_
   (try refine Wk.aw fun _ ag=>?_);(repeat' (first|((first|refine Wk.hd ?_|refine Wk.i ?_);simp -implicitDefEqProofs (disch:=omega) only [go_sem,seval])|refine iI (c1 _) fun x_=>?_|refine ah ((by first|exact hop1 _|exact hop2 _)) ?_|refine Wk.ret fun _ _=>?_|refine Wk.fin (by assumption) ?_|first|refine Wk.o ?_|refine Wk.q (by assumption) ?_));all_goals (repeat subst ag)
   all_goals exact ⟨_,rfl,rfl⟩
theorem ni {T:List Tk} {i:Nat} {s:az} (h:bU T i s=true):(T.getD i default).text=s:=by
 have:=eH h
 simp only [cg,Bool.and_eq_true,decide_eq_true_eq] at this
 exact this.2
theorem Xq (hg:GV G) {T:List Tk} {f:Nat} (hT:T.length≤1048576) (hx:∀ t∈T,t.text.length≤1048576) (hf:ur G T f) (i:Nat) (hi:i≤T.length) (r:dF Ex) (h:pF (f+1) .un (T.drop i)=some r):
  kf G T 192 [] i r:=by
 intro B K b hb
 have hbl:b<B.length:=(List.getElem?_eq_some_iff.1 hb).1
 have hs1:∀ m y,(B++m).set b y=B.set b y++m:=fun m y=>kg hb
 have hs2:∀ z m y,(B.set b z++m).set b y=B.set b y++m:=fun z m y=>jU hb
 have hg1:∀ m,(B++m)[b]?=some (bI T i):=fun m=>fU hb
 have hg2:∀ z m,(B.set b z++m)[b]?=some z:=fun z m=>fU (iA hb)
 have hl:∀ z,(B.set b z).length=B.length:=fun z=>List.length_set
 have hG:∀ (z:aJ) (m:List aJ) (k:Nat),(B.set b z++m)[B.length+k]?=m[k]?:=fun z m k=>by rw [List.getElem?_append_right (by simp)];simp
 have hG0:∀ (z:aJ) (m:List aJ),(B.set b z++m)[B.length]?=m[0]?:=fun z m=>by rw [List.getElem?_append_right (by simp)];simp
 have hS:∀ (z y:aJ) (m:List aJ) (k:Nat),(B.set b z++m).set (B.length+k) y=B.set b z++m.set k y:=fun z y m k=>by rw [List.set_append_right _ _ (by simp)];simp
 have hS0:∀ (z y:aJ) (m:List aJ),(B.set b z++m).set B.length y=B.set b z++m.set 0 y:=fun z y m=>by rw [List.set_append_right _ _ (by simp)];simp
 simp only [pF] at h
 have len:∀ j,j≤T.length→T.length - (T.drop j).length=j:=fun j hj=>by simp only [List.length_drop];omega
 have at_:∀ s,bU T i s=true→∀ m,aa Tryz.prog G 184 [.ptr b 0,vs s] ⟨B++m,K⟩ (fun o s'=>o= .ret (vb true)∧s'=⟨B.set b (bI T (i+1))++m,K⟩):=fun s hs m=>by
  have:=eL (G:=G) hg ⟨B++m,K⟩ b i T hT hx (by omega) (hg1 m) s (by rw [cW];exact hs)
  simp only [hs1] at this;exact this
 have af_:∀ s,bU T i s=false→∀ m,aa Tryz.prog G 184 [.ptr b 0,vs s] ⟨B++m,K⟩ (fun o s'=>o= .ret (vb false)∧s'=⟨B++m,K⟩):=fun s hs m=>
  eK (G:=G) hg ⟨B++m,K⟩ b i T hT hx (by omega) (hg1 m) s (by rw [cW];exact hs)
 by_cases hb':(bU T i [33]||bU T i [45])=true
 ·have hil:i<T.length:=by
   rw [Bool.or_eq_true] at hb'
   rcases hb' with hb'|hb'<;>exact bW hb'
  have hb2:(cg [33] (T.getD i default)||cg [45] (T.getD i default))=true:=by simpa [bU,hil] using hb'
  rw [bM hil] at h
  simp only [hb2,if_true] at h
  rcases h1:pF f .un (T.drop (i+1)) with _|(⟨c,r1⟩|⟨r1,ec⟩)
  ·rw [h1] at h;simp [aL] at h
  ·have c1:=hf.un (i+1) (by omega) _ h1
   obtain ⟨j,hij,hj,d1,e1⟩:=fS h1 (by omega)
   simp only [au] at d1 e1
   subst d1
   simp only [kf,fh,au,e1] at c1
   have c1':∀ m,aa Tryz.prog G 192 [.ptr b 0] ⟨B.set b (bI T (i+1))++m,K⟩ (fun o s=>o= .ret (vE c)∧s=⟨B.set b (bI T j)++m,K⟩):=fun m=>by have:=c1 _ K b (hg2 _ m);simp only [hs2] at this;exact this
   rw [h1] at h
   simp only [aL,Option.some.injEq] at h
   subst h
   simp only [fh,au,len j hj]
   cases hb1:bU T i [33]
   ·rw [hb1,Bool.false_or] at hb'
    rw [ni hb']
    have a1:=af_ _ hb1
    have a2:=at_ _ hb'
    refine aa.body Tryz.func192 rfl Tryz.ntmps192 (by simp) ?_
    (try refine Wk.aw fun _ ag=>?_);(repeat' (first|((refine AW.Ga ?_);refine AW.rounds 2 ?_)|((first|refine Wk.hd ?_|refine Wk.i ?_);simp -implicitDefEqProofs only [go_sem,seval,hs1,hs2,hl,hG,hG0,hS,hS0])|refine ah (a1 _) ?_|refine aW (a2 _) ?_|refine aW (c1' _) ?_|first|refine Wk.o ?_|refine Wk.q (by assumption) ?_|refine Wk.sk fun _ ag=>?_));all_goals (repeat subst ag)
    refine aV (v:=vE (Ex.mk 6 [45] ct [c] [])) K.length (Nat.le_refl _) (s1:=⟨B.set b (bI T j),K⟩) (by simp [St.cut]) (aR ?_) (by simp -implicitDefEqProofs only [go_sem,seval,bQ,bZ,Tryz.results192,hG,hG0];first|done|exact rfl) (by simp -implicitDefEqProofs only [go_sem,seval,eD];first|done|exact rfl) (by simp -implicitDefEqProofs only [go_sem,seval];first|done|exact rfl) ⟨rfl,rfl⟩
    simp [aJ.within,V.within,V.within.all]
   ·rw [ni hb1]
    have a1:=at_ _ hb1
    refine aa.body Tryz.func192 rfl Tryz.ntmps192 (by simp) ?_
    (try refine Wk.aw fun _ ag=>?_);(repeat' (first|((refine AW.Ga ?_);refine AW.rounds 1 ?_)|((first|refine Wk.hd ?_|refine Wk.i ?_);simp -implicitDefEqProofs only [go_sem,seval,hs1,hs2,hl,hG,hG0,hS,hS0])|refine aW (a1 _) ?_|refine aW (c1' _) ?_|first|refine Wk.o ?_|refine Wk.q (by assumption) ?_|refine Wk.sk fun _ ag=>?_));all_goals (repeat subst ag)
    refine aV (v:=vE (Ex.mk 6 [33] ct [c] [])) K.length (Nat.le_refl _) (s1:=⟨B.set b (bI T j),K⟩) (by simp [St.cut]) (aR ?_) (by simp -implicitDefEqProofs only [go_sem,seval,bQ,bZ,Tryz.results192,hG,hG0];first|done|exact rfl) (by simp -implicitDefEqProofs only [go_sem,seval,eD];first|done|exact rfl) (by simp -implicitDefEqProofs only [go_sem,seval];first|done|exact rfl) ⟨rfl,rfl⟩
    simp [aJ.within,V.within,V.within.all]
  ·have c1:=hf.un (i+1) (by omega) _ h1
   rw [h1] at h
   simp only [aL,Option.some.injEq] at h
   subst h
   simp only [kf,fh,au] at c1
   have c1':∀ m,aa Tryz.prog G 192 [.ptr b 0] ⟨B.set b (bI T (i+1))++m,K⟩ (fun o s=>o= .dw (j4 (T.length - r1.length) ec)∧s=⟨B.set b (bI T (T.length - r1.length))++m,K⟩):=fun m=>by have:=c1 _ K b (hg2 _ m);simp only [hs2] at this;exact this
   simp only [fh,au]
   cases hb1:bU T i [33]
   ·rw [hb1,Bool.false_or] at hb'
    have a1:=af_ _ hb1
    have a2:=at_ _ hb'
    refine aa.body Tryz.func192 rfl Tryz.ntmps192 (by simp) ?_
    (try refine Wk.aw fun _ ag=>?_);(repeat' (first|((refine AW.Ga ?_);refine AW.rounds 2 ?_)|((first|refine Wk.hd ?_|refine Wk.i ?_);simp -implicitDefEqProofs only [go_sem,seval,hs1,hs2,hl,hG,hG0,hS,hS0])|refine ah (a1 _) ?_|refine aW (a2 _) ?_|refine cA (c1' _) ?_|first|refine Wk.o ?_|refine Wk.q (by assumption) ?_|refine Wk.sk fun _ ag=>?_));all_goals (repeat subst ag)
    refine aM (s1:=⟨B.set b (bI T (T.length - r1.length)),K⟩) (by simp [St.cut]) (aR ?_) rfl ⟨rfl,rfl⟩
    simp [aJ.within,V.within,V.within.all]
   ·have a1:=at_ _ hb1
    refine aa.body Tryz.func192 rfl Tryz.ntmps192 (by simp) ?_
    (try refine Wk.aw fun _ ag=>?_);(repeat' (first|((refine AW.Ga ?_);refine AW.rounds 1 ?_)|((first|refine Wk.hd ?_|refine Wk.i ?_);simp -implicitDefEqProofs only [go_sem,seval,hs1,hs2,hl,hG,hG0,hS,hS0])|refine aW (a1 _) ?_|refine cA (c1' _) ?_|first|refine Wk.o ?_|refine Wk.q (by assumption) ?_|refine Wk.sk fun _ ag=>?_));all_goals (repeat subst ag)
    refine aM (s1:=⟨B.set b (bI T (T.length - r1.length)),K⟩) (by simp [St.cut]) (aR ?_) rfl ⟨rfl,rfl⟩
    simp [aJ.within,V.within,V.within.all]
 ·have hb':=Bool.eq_false_iff.2 hb'
  rw [Bool.or_eq_false_iff] at hb'
  have a1:=af_ _ hb'.1
  have a2:=af_ _ hb'.2
  have h':aL (pF f .atom (T.drop i)) (fun e r2=>pF f (.chain e) r2)=some r:=by
   by_cases hil:i<T.length
   ·rw [bM hil] at h
    simp only [dj hil hb'.1,dj hil hb'.2,Bool.or_self,Bool.false_eq_true,if_false] at h
    rw [←bM hil] at h
    exact h
   ·rw [bk hil] at h ⊢
    simp only at h
    cases f with
    |zero=>simp [pF] at h
    |succ f=>
     simp only [pF,Option.some.injEq] at h ⊢
     subst h;rfl
  have c1:=hf.chain i hi _ h'
  cases r with
  |ok e rest=>
   simp only [kf,fh,au] at c1
   have c1':∀ m,aa Tryz.prog G 210 [.ptr b 0] ⟨B++m,K⟩ (fun o s=>o= .ret (vE e)∧s=⟨B.set b (bI T (T.length - rest.length))++m,K⟩):=fun m=>by have:=c1 _ K b (hg1 m);simp only [hs1] at this;exact this
   simp only [fh,au]
   refine aa.body Tryz.func192 rfl Tryz.ntmps192 (by simp) ?_
   (try refine Wk.aw fun _ ag=>?_);(repeat' (first|((refine AW.Ga ?_);refine AW.rounds 3 ?_)|((first|refine Wk.hd ?_|refine Wk.i ?_);simp -implicitDefEqProofs only [go_sem,seval,hs1,hs2,hl,hG,hG0,hS,hS0])|refine ah ((by first|exact a1 _|exact a2 _)) ?_|refine aW (c1' _) ?_|first|refine Wk.o ?_|refine Wk.q (by assumption) ?_|refine Wk.sw fun _ ag=>?_|refine Wk.sk fun _ ag=>?_));all_goals (repeat subst ag)
   refine aV (v:=vE e) K.length (Nat.le_refl _) (s1:=⟨B.set b (bI T (T.length - rest.length)),K⟩) (by simp [St.cut]) (aR ?_) (by simp -implicitDefEqProofs only [go_sem,seval,bQ,bZ,Tryz.results192,hG,hG0];first|done|exact rfl) (by simp -implicitDefEqProofs only [go_sem,seval,eD];first|done|exact rfl) (by simp -implicitDefEqProofs only [go_sem,seval];first|done|exact rfl) ⟨rfl,rfl⟩
   simp [aJ.within,V.within,V.within.all]
  |err rest c=>
   simp only [kf,fh,au] at c1
   have c1':∀ m,aa Tryz.prog G 210 [.ptr b 0] ⟨B++m,K⟩ (fun o s=>o= .dw (j4 (T.length - rest.length) c)∧s=⟨B.set b (bI T (T.length - rest.length))++m,K⟩):=fun m=>by have:=c1 _ K b (hg1 m);simp only [hs1] at this;exact this
   simp only [fh,au]
   refine aa.body Tryz.func192 rfl Tryz.ntmps192 (by simp) ?_
   (try refine Wk.aw fun _ ag=>?_);(repeat' (first|((refine AW.Ga ?_);refine AW.rounds 3 ?_)|((first|refine Wk.hd ?_|refine Wk.i ?_);simp -implicitDefEqProofs only [go_sem,seval,hs1,hs2,hl,hG,hG0,hS,hS0])|refine ah ((by first|exact a1 _|exact a2 _)) ?_|refine cA (c1' _) ?_|first|refine Wk.o ?_|refine Wk.q (by assumption) ?_|refine Wk.sw fun _ ag=>?_|refine Wk.sk fun _ ag=>?_));all_goals (repeat subst ag)
   refine aM (s1:=⟨B.set b (bI T (T.length - rest.length)),K⟩) (by simp [St.cut]) (aR ?_) rfl ⟨rfl,rfl⟩
   simp [aJ.within,V.within,V.within.all]
theorem og {l:List aJ} {b:Nat} {x:aJ} (h:l[b]?=some x):l.set b x=l:=by
 apply List.ext_getElem?
 intro i
 rw [List.getElem?_set]
 by_cases hi:b=i
 ·subst hi;rw [if_pos rfl,if_pos (List.getElem?_eq_some_iff.1 h).1,h]
 ·rw [if_neg hi]
theorem s0 (s:az):b8 G 188 [vs s] (vb (decide (s=gX)||decide (s=fY)||decide (s=jc))):=by
 intro st
 refine aa.body Tryz.func188 rfl Tryz.ntmps188 (by simp) ?_
 (try refine Wk.aw fun _ ag=>?_);(repeat' (first|((first|refine Wk.hd ?_|refine Wk.i ?_);simp -implicitDefEqProofs only [go_sem,seval])|(refine ay (fun hc=>?_) (fun hc=>?_)<;>try omega)|refine Wk.ret fun _ _=>?_|(refine Wk.fin (by assumption) ?_;refine ⟨?_,rfl⟩)|first|refine Wk.o ?_|refine Wk.q (by assumption) ?_));all_goals (repeat subst ag)
 all_goals (refine aO ?_;simp only [Bool.or_eq_true,decide_eq_true_eq];simp_all [gX,fY,jc])
def L1 (T:List Tk):dF Ex→Out
 | .ok l _=> .ret (.d (.sl (l.args.map Ex.enc)))
 | .err rest c=> .dw (j4 (T.length - rest.length) c)
def Ny (G:World→Nat→Prop) (T:List Tk) (f:FuncId) (args:List V) (j:Nat) (r:dF Ex):Prop:=
 ∀ B K b,B[b]?=some (bI T j)→aa Tryz.prog G f (.ptr b 0::args) ⟨B,K⟩ (fun o s=>o=L1 T r∧s=⟨B.set b (bI T (T.length - (au r).length)),K⟩)
def Dr (f:Nat) (T:List Tk) (s:az) (j:Nat):Option (dF Ex):=
 if s=jc then some (.ok (lit ct) (T.drop j))
 else if s=gX∨s=fY then some (.ok (lit (.mk 1 (decide (s=gX)) 0 [] [] [])) (T.drop j))
 else if bU T j [40]=true then aL (pF f (.args [41]) (T.drop (j+1))) fun l r3=>some (.ok (.mk 5 s ct l.args []) r3)
 else some (.ok (.mk 2 s ct [] []) (T.drop j))
theorem Po (hg:GV G) {T:List Tk} {f:Nat} (hT:T.length≤1048576) (hx:∀ t∈T,t.text.length≤1048576)
  (hargs:∀ s,s≠[44]→∀ i,i≤T.length→∀ r,pF f (.args s) (T.drop i)=some r→Ny G T 237 [vs s] i r) (s:az) (i:Nat) (hi:i≤T.length) (r:dF Ex) (h:Dr f T s i=some r):
  kf G T 236 [vs s] i r:=by
 intro B K b hb
 have hbl:b<B.length:=(List.getElem?_eq_some_iff.1 hb).1
 have hs1:∀ m y,(B++m).set b y=B.set b y++m:=fun m y=>kg hb
 have hs2:∀ z m y,(B.set b z++m).set b y=B.set b y++m:=fun z m y=>jU hb
 have hg1:∀ m,(B++m)[b]?=some (bI T i):=fun m=>fU hb
 have hg2:∀ z m,(B.set b z++m)[b]?=some z:=fun z m=>fU (iA hb)
 have hl:∀ z,(B.set b z).length=B.length:=fun z=>List.length_set
 have hG:∀ (z:aJ) (m:List aJ) (k:Nat),(B.set b z++m)[B.length+k]?=m[k]?:=fun z m k=>by rw [List.getElem?_append_right (by simp)];simp
 have hG0:∀ (z:aJ) (m:List aJ),(B.set b z++m)[B.length]?=m[0]?:=fun z m=>by rw [List.getElem?_append_right (by simp)];simp
 have hS:∀ (z y:aJ) (m:List aJ) (k:Nat),(B.set b z++m).set (B.length+k) y=B.set b z++m.set k y:=fun z y m k=>by rw [List.set_append_right _ _ (by simp)];simp
 have hS0:∀ (z y:aJ) (m:List aJ),(B.set b z++m).set B.length y=B.set b z++m.set 0 y:=fun z y m=>by rw [List.set_append_right _ _ (by simp)];simp
 have len:∀ j,j≤T.length→T.length - (T.drop j).length=j:=fun j hj=>by simp only [List.length_drop];omega
 have hw:=s0 (G:=G) s
 rw [Dr] at h
 by_cases h1:s=jc
 ·rw [if_pos h1,Option.some.injEq] at h
  subst h1 h
  have hlit:=jb (G:=G) ct
  simp only [fh,au,len i hi,og hb]
  refine aa.body Tryz.func236 rfl Tryz.ntmps236 (by simp) ?_
  (try refine Wk.aw fun _ ag=>?_);(repeat' (first|((first|refine Wk.hd ?_|refine Wk.i ?_);simp -implicitDefEqProofs only [go_sem,seval,hs1,hs2,hl,hG,hG0,hS,hS0,jc])|refine ah (hlit _) ?_|refine Wk.ret fun _ _=>?_|(refine Wk.fin (by assumption) ?_;refine ⟨?_,rfl⟩)|first|refine Wk.o ?_|refine Wk.q (by assumption) ?_));all_goals (repeat subst ag)
  all_goals rfl
 rw [if_neg h1] at h
 have nn:s=[110,117,108,108]→False:=h1
 by_cases h2:s=gX∨s=fY
 ·rw [if_pos h2,Option.some.injEq] at h
  subst h
  have hw2:(decide (s=gX)||decide (s=fY)||decide (s=jc))=true:=by rcases h2 with h2|h2<;>simp [h2]
  rw [hw2] at hw
  have hlit:=jb (G:=G) (.mk 1 (decide (s=gX)) 0 [] [] [])
  simp only [fh,au,len i hi,og hb]
  refine aa.body Tryz.func236 rfl Tryz.ntmps236 (by simp) ?_
  (try refine Wk.aw fun _ ag=>?_);(repeat' (first|((first|refine Wk.hd ?_|refine Wk.i ?_);simp -implicitDefEqProofs only [go_sem,seval,hs1,hs2,hl,hG,hG0,hS,hS0])|(refine ay (fun hc=>?_) (fun hc=>?_)<;>try omega)|refine ah (hlit _) ?_|refine ah (hw _) ?_|refine Wk.ret fun _ _=>?_|(refine Wk.fin (by assumption) ?_;refine ⟨?_,rfl⟩)|first|refine Wk.o ?_|refine Wk.q (by assumption) ?_));all_goals (repeat subst ag)
  all_goals first|rfl|exact (nn (by assumption)).elim
 ·rw [if_neg h2] at h
  have hw2:(decide (s=gX)||decide (s=fY)||decide (s=jc))=false:=by
   simp only [Bool.or_eq_false_iff,decide_eq_false_iff_not]
   exact ⟨⟨fun h=>h2 (.inl h),fun h=>h2 (.inr h)⟩,h1⟩
  rw [hw2] at hw
  have hnn:decide (s=[110,117,108,108])=false:=decide_eq_false nn
  cases hq:bU T i [40]
  ·rw [hq] at h
   simp only [Bool.false_eq_true,if_false,Option.some.injEq] at h
   subst h
   have a1:∀ m,aa Tryz.prog G 184 [.ptr b 0,vs [40]] ⟨B++m,K⟩ (fun o s'=>o= .ret (vb false)∧s'=⟨B++m,K⟩):=fun m=>
    eK (G:=G) hg ⟨B++m,K⟩ b i T hT hx (by omega) (hg1 m) [40] (by rw [cW];exact hq)
   simp only [fh,au,len i hi,og hb]
   refine aa.body Tryz.func236 rfl Tryz.ntmps236 (by simp) ?_
   (try refine Wk.aw fun _ ag=>?_);(repeat' (first|((first|refine Wk.hd ?_|refine Wk.i ?_);simp -implicitDefEqProofs only [go_sem,seval,hs1,hs2,hl,hG,hG0,hS,hS0,hnn])|refine ah (hw _) ?_|refine ah (a1 _) ?_|refine Wk.ret fun _ _=>?_|(refine Wk.fin (by assumption) ?_;refine ⟨?_,rfl⟩)|first|refine Wk.o ?_|refine Wk.q (by assumption) ?_));all_goals (repeat subst ag)
   all_goals first|rfl|exact (nn (by assumption)).elim|skip
  ·rw [hq] at h
   simp only [if_true] at h
   have hil:=bW hq
   have a1:∀ m,aa Tryz.prog G 184 [.ptr b 0,vs [40]] ⟨B++m,K⟩ (fun o s'=>o= .ret (vb true)∧s'=⟨B.set b (bI T (i+1))++m,K⟩):=fun m=>by
    have:=eL (G:=G) hg ⟨B++m,K⟩ b i T hT hx (by omega) (hg1 m) [40] (by rw [cW];exact hq)
    simp only [hs1] at this;exact this
   rcases h3:pF f (.args [41]) (T.drop (i+1)) with _|(⟨l,r1⟩|⟨r1,ec⟩)
   ·rw [h3] at h;simp [aL] at h
   ·have c1:=hargs [41] (by decide) (i+1) (by omega) _ h3
    rw [h3] at h
    simp only [aL,Option.some.injEq] at h
    subst h
    simp only [Ny,L1,au] at c1
    have c1':∀ m,aa Tryz.prog G 237 [.ptr b 0,vs [41]] ⟨B.set b (bI T (i+1))++m,K⟩ (fun o s=>o= .ret (.d (.sl (l.args.map Ex.enc)))∧s=⟨B.set b (bI T (T.length - r1.length))++m,K⟩):=fun m=>by have:=c1 _ K b (hg2 _ m);simp only [hs2] at this;exact this
    simp only [fh,au]
    have hve:vE (Ex.mk 5 s ct l.args [])=V.agg [V.d (D.int .i64 5),V.d (D.str s),V.d (D.int .i64 0),V.d (D.bool false),V.d (D.int .i64 0),V.d (D.str []),V.d (D.sl []),V.d (D.sl []),V.d (D.sl (l.args.map Ex.enc)),V.d (D.sl [])]:=by rw [vE,Ex.aP];rfl
    refine aa.body Tryz.func236 rfl Tryz.ntmps236 (by simp) ?_
    (try refine Wk.aw fun _ ag=>?_);(repeat' (first|((first|refine Wk.hd ?_|refine Wk.i ?_);simp -implicitDefEqProofs only [go_sem,seval,hs1,hs2,hl,hG,hG0,hS,hS0,hnn])|refine ah (hw _) ?_|refine aW (a1 _) ?_|refine aW (c1' _) ?_|first|refine Wk.o ?_|refine Wk.q (by assumption) ?_));all_goals (repeat subst ag)
    all_goals first|exact (nn (by assumption)).elim|skip
    all_goals refine aV (v:=vE (Ex.mk 5 s ct l.args [])) K.length (Nat.le_refl _) (s1:=⟨B.set b (bI T (T.length - r1.length)),K⟩) (by simp [St.cut]) (aR ?_) (by simp -implicitDefEqProofs only [go_sem,seval,bQ,bZ,Tryz.results236,hG,hG0];first|done|exact rfl) (by rw [hve];simp -implicitDefEqProofs only [go_sem,seval,eD];first|done|exact rfl) (by simp -implicitDefEqProofs only [go_sem,seval];first|done|exact rfl) ⟨rfl,rfl⟩
    all_goals simp [aJ.within,V.within,V.within.all]
   ·have c1:=hargs [41] (by decide) (i+1) (by omega) _ h3
    rw [h3] at h
    simp only [aL,Option.some.injEq] at h
    subst h
    simp only [Ny,L1,au] at c1
    have c1':∀ m,aa Tryz.prog G 237 [.ptr b 0,vs [41]] ⟨B.set b (bI T (i+1))++m,K⟩ (fun o s=>o= .dw (j4 (T.length - r1.length) ec)∧s=⟨B.set b (bI T (T.length - r1.length))++m,K⟩):=fun m=>by have:=c1 _ K b (hg2 _ m);simp only [hs2] at this;exact this
    simp only [fh,au]
    refine aa.body Tryz.func236 rfl Tryz.ntmps236 (by simp) ?_
    (try refine Wk.aw fun _ ag=>?_);(repeat' (first|((first|refine Wk.hd ?_|refine Wk.i ?_);simp -implicitDefEqProofs only [go_sem,seval,hs1,hs2,hl,hG,hG0,hS,hS0,hnn])|refine ah (hw _) ?_|refine aW (a1 _) ?_|refine cA (c1' _) ?_|first|refine Wk.o ?_|refine Wk.q (by assumption) ?_));all_goals (repeat subst ag)
    all_goals first|exact (nn (by assumption)).elim|skip
    all_goals refine aM (s1:=⟨B.set b (bI T (T.length - r1.length)),K⟩) (by simp [St.cut]) (aR ?_) rfl ⟨rfl,rfl⟩
    all_goals simp [aJ.within,V.within,V.within.all]
theorem nj (s:az) (a:Ex):(Ex.mk 3 s ct [a] []).enc=[Abs.D.int .i64 3,.str s,Abs.D.int .i64 0,.bool false,Abs.D.int .i64 0,.str [],.sl [],.sl [],.sl [a.enc],.sl []]:=rfl
theorem p9 (a b:Ex):(Ex.mk 4 [] ct [a,b] []).enc=[Abs.D.int .i64 4,.str [],Abs.D.int .i64 0,.bool false,Abs.D.int .i64 0,.str [],.sl [],.sl [],.sl [a.enc,b.enc],.sl []]:=rfl
theorem Pp (e:Ex):(e.enc.map V.d).drop 10=[]:=by rw [Ex.aP,aX.aP];rfl
attribute [go_sem] Pp
abbrev Qh:List V:=[.d (.int .i64 0),.d (.str []),.d (.int .i64 0),.d (.bool false),.d (.int .i64 0),.d (.str []),.d (.sl []),.d (.sl []),.d (.sl []),.d (.sl [])]
theorem Fu {T:List Tk} {f:Nat} (hT:T.length≤1048576) (hX:∀ t∈T,t.text.length≤1048576) (hf:∀ g<f,mC G T g) (hat:∀ i≤T.length,∀ r,pF f .atom (T.drop i)=some r→lE G T 186 [jA T,ai i] r) (i:Nat) (hi:i≤T.length) (r:dF Ex) (h:aL (pF f .atom (T.drop i)) (fun e r2=>pF f (.chain e) r2)=some r):
  lE G T 172 [jA T,ai i] r:=by
 intro st
 have len:∀ j,j≤T.length→T.length - (T.drop j).length=j:=fun j hj=>by simp only [List.length_drop];omega
 rcases h1:pF f .atom (T.drop i) with _|(⟨c,r1⟩|⟨r1,ec⟩)
 ·rw [h1] at h;simp [aL] at h
 ·have c1:=(hat i hi _ h1).ok
  obtain ⟨j,hij,hj,d1,e1⟩:=fS h1 hi
  simp only [au] at d1 e1
  subst d1
  rw [e1] at c1
  rw [h1] at h
  simp only [aL] at h
  refine aa.body Tryz.func172 rfl Tryz.ntmps172 (by simp) ?_
  (try refine Wk.aw fun _ ag=>?_);(repeat' (first|((first|refine Wk.hd ?_|refine Wk.i ?_);simp -implicitDefEqProofs (disch:=omega) only [go_sem,seval])|refine ah (c1 _) ?_|refine Wk.o ?_));all_goals (repeat subst ag)
  refine AW.Nf (fun x:Ex×Nat×Nat=>[(0,jA T),(1,ai ↑x.2.1),(4,.ptr st.aj.length 0),(7,.ptr (st.aj.length+1) 0),(8,ai 0)]) (fun x=>[.cells Qh,.cells (x.1.enc.map .d)]) (fun _=>[])
   (fun x=>x.2.1≤T.length∧x.2.2≤f∧pF x.2.2 (.chain x.1) (T.drop x.2.1)=some r) (fun x=>x.2.2) (c,j,f) (by simp -implicitDefEqProofs (disch:=omega) only [go_sem,seval];first|done|exact rfl) (by simp -implicitDefEqProofs (disch:=omega) only [go_sem,seval]<;>first|rfl|exact ⟨rfl,rfl⟩|skip) (by simp -implicitDefEqProofs (disch:=omega) only [go_sem,seval]<;>first|rfl|exact ⟨rfl,rfl⟩|skip) ⟨hj,Nat.le_refl _,h⟩ ?_
  rintro ⟨e,k,g⟩ ⟨p1,p2,p3⟩
  simp only at p1 p2 p3
  obtain ⟨g,rfl⟩:∃ g',g=g'+1:=by
   cases g with
   |zero=>simp [pF] at p3
   |succ g=>exact ⟨g,rfl⟩
  simp only [pF] at p3
  have hop1:=nB (G:=G) T k [46] hT (by omega)
  have hop2:=nB (G:=G) T k [91] hT (by omega)
  by_cases hk:k<T.length
  ·rw [bM hk] at p3
   simp only at p3
   cases hb1:bU T k [46]
   ·rw [hb1] at hop1
    rw [dj hk hb1,if_neg Bool.false_ne_true] at p3
    cases hb2:bU T k [91]
    ·rw [hb2] at hop2
     rw [dj hk hb2,if_neg Bool.false_ne_true,←bM hk] at p3
     simp only [Option.some.injEq] at p3
     subst p3
     (try refine Wk.aw fun _ ag=>?_);(repeat' (first|((first|refine Wk.hd ?_|refine Wk.i ?_);simp -implicitDefEqProofs (disch:=omega) only [go_sem,seval])|refine ah ((by first|exact hop1 _|exact hop2 _)) ?_|refine Wk.ret fun _ _=>?_|refine Wk.fin (by assumption) ?_|first|refine Wk.o ?_|refine Wk.q (by assumption) ?_|refine Wk.sw fun _ ag=>?_));all_goals (repeat subst ag)
     all_goals first|exact ⟨by rw [len k p1],rfl⟩
    ·rw [hb2] at hop2
     rw [eH hb2,if_pos rfl] at p3
     rcases h2:pF g .cond (T.drop (k+1)) with _|(⟨x,r2⟩|⟨r2,e2⟩)
     ·rw [h2] at p3;simp [aL] at p3
     ·have c2:=((hf g (by omega)).cond (k+1) (by omega) _ h2).ok
      obtain ⟨m,hkm,hm,d2,e2⟩:=fS h2 (by omega)
      simp only [au] at d2 e2
      subst d2
      rw [e2] at c2
      rw [h2] at p3
      simp only [aL] at p3
      rw [gp] at p3
      have hop3:=nB (G:=G) T m [93] hT (by omega)
      cases hb3:bU T m [93]
      ·rw [hb3] at hop3 p3
       have hm':=fI (G:=G) T m hT (by omega)
       rw [if_neg Bool.false_ne_true] at p3
       simp only [Option.some.injEq] at p3
       subst p3
       (try refine Wk.aw fun _ ag=>?_);(repeat' (first|((first|refine Wk.hd ?_|refine Wk.i ?_);simp -implicitDefEqProofs (disch:=omega) only [go_sem,seval])|refine ah ((by first|exact hop1 _|exact hop2 _|exact hop3 _)) ?_|refine ah (c2 _) ?_|refine ah (hm' _) ?_|refine Wk.ret fun _ _=>?_|refine Wk.fin (by assumption) ?_|first|refine Wk.o ?_|refine Wk.q (by assumption) ?_));all_goals (repeat subst ag)
       all_goals first|exact ⟨xQ,by rw [len m hm];rfl,rfl⟩
      ·have hml:=bW hb3
       rw [hb3] at hop3 p3
       rw [if_pos rfl] at p3
       (try refine Wk.aw fun _ ag=>?_);(repeat' (first|((first|refine Wk.hd ?_|refine Wk.i ?_);simp -implicitDefEqProofs (disch:=omega) only [go_sem,seval])|refine ah ((by first|exact hop1 _|exact hop2 _|exact hop3 _)) ?_|refine ah (c2 _) ?_|first|refine Wk.o ?_|refine Wk.q (by assumption) ?_));all_goals (repeat subst ag)
       ·(refine ⟨(Ex.mk 4 [] ct [e,x] [],m+1,g),wL.mk' _ ?_ ?_ ?_ (by simp -implicitDefEqProofs (disch:=omega) only [go_sem,seval,p9];first|done|exact rfl) (by first|rfl|(simp -implicitDefEqProofs (disch:=omega) only [go_sem,seval,p9];first|done|rfl)) (by first|rfl|(simp -implicitDefEqProofs (disch:=omega) only [go_sem,seval,p9];first|done|rfl)) (by first|rfl|(simp -implicitDefEqProofs (disch:=omega) only [go_sem,seval,p9];all_goals omega)) (by first|rfl|(simp -implicitDefEqProofs (disch:=omega) only [go_sem,seval,p9];all_goals omega))⟩;focus (try (simp -implicitDefEqProofs (disch:=omega) only [go_sem,seval,p9]);try ((repeat' apply And.intro)<;>first|rfl|trivial|refine aD ?_|refine aE ?_|refine ax ?_|skip)))
        ·exact ⟨by simp only;omega,by simp only;omega,p3⟩
        ·simp only;omega
     ·have c2:=((hf g (by omega)).cond (k+1) (by omega) _ h2).err
      have he:=fJ h2
      rw [h2] at p3
      simp only [aL,Option.some.injEq] at p3
      subst p3
      (try refine Wk.aw fun _ ag=>?_);(repeat' (first|((first|refine Wk.hd ?_|refine Wk.i ?_);simp -implicitDefEqProofs (disch:=omega) only [go_sem,seval])|(refine ay (fun hc=>?_) (fun hc=>?_)<;>try omega)|refine ah ((by first|exact hop1 _|exact hop2 _)) ?_|refine iI (c2 _) fun x_=>?_|refine Wk.ret fun _ _=>?_|refine Wk.fin (by assumption) ?_|first|refine Wk.o ?_|refine Wk.q (by assumption) ?_));all_goals (repeat subst ag)
      all_goals first|exact ⟨xQ,rfl,rfl⟩
   ·rw [hb1] at hop1
    rw [eH hb1,if_pos rfl] at p3
    by_cases hk2:k+1<T.length
    ·rw [bM hk2] at p3
     simp only at p3
     have hxk:=hX _ (mG hk2)
     have hpl:=ZY (G:=G) (T.getD (k+1) default).text hxk
     have hm':=fI (G:=G) T (k+1) hT (by omega)
     rw [bD,if_neg (by omega)] at hm'
     by_cases hq:(T.getD (k+1) default).kind=1
     ·cases hpb:cc (T.getD (k+1) default).text
      ·rw [if_neg (by rw [hpb];simp),←bM hk2] at p3
       rw [hpb] at hpl
       simp only [Option.some.injEq] at p3
       subst p3
       (try refine Wk.aw fun _ ag=>?_);(repeat' (first|((first|refine Wk.hd ?_|refine Wk.i ?_);simp -implicitDefEqProofs (disch:=omega) only [go_sem,seval,hq])|(refine ay (fun hc=>?_) (fun hc=>?_)<;>try omega)|refine ah ((by first|exact hop1 _|exact hop2 _)) ?_|refine ah (hpl _) ?_|refine ah (hm' _) ?_|refine Wk.ret fun _ _=>?_|refine Wk.fin (by assumption) ?_|first|refine Wk.o ?_|refine Wk.q (by assumption) ?_));all_goals (repeat subst ag)
       all_goals first|exact ⟨xQ,by rw [len _ (by omega)];rfl,rfl⟩
      ·rw [if_pos ⟨hq,hpb⟩] at p3
       rw [hpb] at hpl
       (try refine Wk.aw fun _ ag=>?_);(repeat' (first|((first|refine Wk.hd ?_|refine Wk.i ?_);simp -implicitDefEqProofs (disch:=omega) only [go_sem,seval,hq])|(refine ay (fun hc=>?_) (fun hc=>?_)<;>try omega)|refine ah ((by first|exact hop1 _|exact hop2 _)) ?_|refine ah (hpl _) ?_|refine Wk.drawn mx (by kernel_rfl) ?_|first|refine Wk.o ?_|refine Wk.q (by assumption) ?_));all_goals (repeat subst ag)
       ·(refine ⟨(Ex.mk 3 (T.getD (k+1) default).text ct [e] [],k+1+1,g),wL.mk' _ ?_ ?_ ?_ (by simp -implicitDefEqProofs (disch:=omega) only [go_sem,seval,nj];first|done|exact rfl) (by first|rfl|(simp -implicitDefEqProofs (disch:=omega) only [go_sem,seval,nj];first|done|rfl)) (by first|rfl|(simp -implicitDefEqProofs (disch:=omega) only [go_sem,seval,nj];first|done|rfl)) (by first|rfl|(simp -implicitDefEqProofs (disch:=omega) only [go_sem,seval,nj];all_goals omega)) (by first|rfl|(simp -implicitDefEqProofs (disch:=omega) only [go_sem,seval,nj];all_goals omega))⟩;focus (try (simp -implicitDefEqProofs (disch:=omega) only [go_sem,seval,nj]);try ((repeat' apply And.intro)<;>first|rfl|trivial|refine aD ?_|refine aE ?_|refine ax ?_|skip)))
        ·exact ⟨by simp only;omega,by simp only;omega,p3⟩
        ·simp only;omega
     ·rw [if_neg (fun h=>hq h.1),←bM hk2] at p3
      simp only [Option.some.injEq] at p3
      subst p3
      (try refine Wk.aw fun _ ag=>?_);(repeat' (first|((first|refine Wk.hd ?_|refine Wk.i ?_);simp -implicitDefEqProofs (disch:=omega) only [go_sem,seval])|(refine ay (fun hc=>?_) (fun hc=>?_)<;>try omega)|refine ah ((by first|exact hop1 _|exact hop2 _)) ?_|refine ah (hm' _) ?_|refine Wk.ret fun _ _=>?_|refine Wk.fin (by assumption) ?_|first|refine Wk.o ?_|refine Wk.q (by assumption) ?_));all_goals (repeat subst ag)
      all_goals first|exact ⟨xQ,by rw [len _ (by omega)];rfl,rfl⟩
    ·rw [bk hk2] at p3
     simp only [Option.some.injEq] at p3
     subst p3
     have hm':=fI (G:=G) T (k+1) hT (by omega)
     rw [bD,if_pos (by omega)] at hm'
     (try refine Wk.aw fun _ ag=>?_);(repeat' (first|((first|refine Wk.hd ?_|refine Wk.i ?_);simp -implicitDefEqProofs (disch:=omega) only [go_sem,seval])|(refine ay (fun hc=>?_) (fun hc=>?_)<;>try omega)|refine ah ((by first|exact hop1 _|exact hop2 _)) ?_|refine ah (hm' _) ?_|refine Wk.ret fun _ _=>?_|refine Wk.fin (by assumption) ?_|first|refine Wk.o ?_|refine Wk.q (by assumption) ?_));all_goals (repeat subst ag)
     all_goals first|exact ⟨xQ,by simp only [List.length_nil];rw [show T.length - 0=k+1 by omega];rfl,rfl⟩
  ·rw [bk hk] at p3
   simp only [Option.some.injEq] at p3
   rw [←bk hk] at p3
   subst p3
   have n1:bU T k [46]=false:=by simp [bU,hk]
   have n2:bU T k [91]=false:=by simp [bU,hk]
   rw [n1] at hop1
   rw [n2] at hop2
   (try refine Wk.aw fun _ ag=>?_);(repeat' (first|((first|refine Wk.hd ?_|refine Wk.i ?_);simp -implicitDefEqProofs (disch:=omega) only [go_sem,seval])|refine ah ((by first|exact hop1 _|exact hop2 _)) ?_|refine Wk.ret fun _ _=>?_|refine Wk.fin (by assumption) ?_|first|refine Wk.o ?_|refine Wk.q (by assumption) ?_|refine Wk.sw fun _ ag=>?_));all_goals (repeat subst ag)
   all_goals first|exact ⟨by rw [len k p1],rfl⟩
 ·have c1:=(hat i hi _ h1).err
  have he:=fJ h1
  rw [h1] at h
  simp only [aL,Option.some.injEq] at h
  subst h
  refine aa.body Tryz.func172 rfl Tryz.ntmps172 (by simp) ?_
  (try refine Wk.aw fun _ ag=>?_);(repeat' (first|(refine AW.Ga ?_;refine AW.rounds 1 ?_)|((first|refine Wk.hd ?_|refine Wk.i ?_);simp -implicitDefEqProofs (disch:=omega) only [go_sem,seval])|(refine ay (fun hc=>?_) (fun hc=>?_)<;>try omega)|refine iI (c1 _) fun x_=>?_|refine Wk.ret fun _ _=>?_|refine Wk.fin (by assumption) ?_|first|refine Wk.o ?_|refine Wk.q (by assumption) ?_|refine Wk.sw fun _ ag=>?_|refine Wk.sk fun _ ag=>?_));all_goals (repeat subst ag)
  all_goals first|exact ⟨_,rfl,rfl⟩
end Go.Proofs.YthnoiikjfcnlhaaGreatDoor
