/- A step of the proofs of the seat's theorems. -/
import Derived.Test.YthnoiikjfcnlhaaGreatDoorZ1
import Derived.Test.YthnoiikjfcnlhaaGreatDoorZ13
import Derived.Test.YthnoiikjfcnlhaaGreatDoorZ16
import Derived.Test.YthnoiikjfcnlhaaGreatDoorZ20
import Derived.Test.YthnoiikjfcnlhaaGreatDoorZ21
set_option linter.unusedSimpArgs false
set_option linter.unusedVariables false
section
set_option maxHeartbeats 8000000
set_option maxRecDepth 20000
namespace Go.Proofs.YthnoiikjfcnlhaaGreatDoor
open Go.Abs
attribute [local irreducible] AW OX cG GQ bK bO bz aY aa
variable {G:World→Nat→Prop}
abbrev zE:List V:=[.d (.int .i64 0),.d (.str []),.d (.int .i64 0),.d (.bool false),.d (.int .i64 0),.d (.str []),.d (.sl []),.d (.sl []),.d (.sl []),.d (.sl [])]
theorem cV (s:az) (a b:Ex):(Ex.mk 7 s ct [a,b] []).enc=[Abs.D.int .i64 7,.str s,Abs.D.int .i64 0,.bool false,Abs.D.int .i64 0,.str [],.sl [],.sl [],.sl [a.enc,b.enc],.sl []]:=rfl
theorem Te (e:Ex):(e.enc.map V.d).drop 10=[]:=by rw [Ex.aP,aX.aP];rfl
attribute [go_sem] Te
theorem zl (s:az):bB s≤6:=by
 unfold bB
 repeat' split
 all_goals omega
theorem eJ (s:az):b8 G 129 [vs s] (ai ↑(bB s)):=BC s
theorem O9 {T:List Tk} {f:Nat} (hT:T.length≤1048576) (hf:∀ g≤f,mC G T g) (n:Nat) (hn2:2≤n) (hn7:n≤7) (i:Nat) (hi:i≤T.length) (r:dF Ex) (h:pF (f+1) (.op n) (T.drop i)=some r):
  lE G T 134 [jA T,ai i,ai ↑n] r:=by
 intro st
 simp only [pF] at h
 have len:∀ j,j≤T.length→T.length - (T.drop j).length=j:=fun j hj=>by simp only [List.length_drop];omega
 by_cases hn:n=7
 ·subst hn
  rw [if_pos rfl] at h
  have c1:=(hf f (Nat.le_refl _)).un i hi _ h
  cases r with
  |ok e rest=>
   have c1:=c1.ok
   refine aa.body Tryz.func134 rfl Tryz.ntmps134 (by simp) ?_
   (try refine Wk.aw fun _ ag=>?_);(repeat' (first|((first|refine Wk.hd ?_|refine Wk.i ?_);simp -implicitDefEqProofs (disch:=omega) only [go_sem,seval])|refine ah (c1 _) ?_|refine Wk.ret fun _ _=>?_|refine Wk.fin (by assumption) ?_|first|refine Wk.o ?_|refine Wk.q (by assumption) ?_));all_goals (repeat subst ag)
   all_goals exact ⟨rfl,rfl⟩
  |err rest c=>
   have c1:=c1.err
   refine aa.body Tryz.func134 rfl Tryz.ntmps134 (by simp) ?_
   (try refine Wk.aw fun _ ag=>?_);(repeat' (first|((first|refine Wk.hd ?_|refine Wk.i ?_);simp -implicitDefEqProofs (disch:=omega) only [go_sem,seval])|refine iI (c1 _) fun x_=>?_|refine Wk.ret fun _ _=>?_|refine Wk.fin (by assumption) ?_|first|refine Wk.o ?_|refine Wk.q (by assumption) ?_));all_goals (repeat subst ag)
   all_goals exact ⟨_,rfl,rfl⟩
 ·rw [if_neg hn] at h
  have hn7':n+1≤7:=by omega
  rcases h1:pF f (.op (n+1)) (T.drop i) with _|(⟨c,r1⟩|⟨r1,ec⟩)
  ·rw [h1] at h;simp [aL] at h
  ·have c1:=((hf f (Nat.le_refl _)).op (n+1) (by omega) hn7' i hi _ h1).ok
   obtain ⟨j,hij,hj,d1,e1⟩:=fS h1 hi
   simp only [au] at d1 e1
   subst d1
   rw [e1] at c1
   rw [h1] at h
   simp only [aL] at h
   refine aa.body Tryz.func134 rfl Tryz.ntmps134 (by simp) ?_
   (try refine Wk.aw fun _ ag=>?_);(repeat' (first|((first|refine Wk.hd ?_|refine Wk.i ?_);simp -implicitDefEqProofs (disch:=omega) only [go_sem,seval])|(refine ay (fun hc=>?_) (fun hc=>?_)<;>try omega)|refine ah (c1 _) ?_|refine Wk.o ?_));all_goals (repeat subst ag)
   refine AW.Nf (fun x:Ex×Nat×Int×Nat×Nat=>[(0,jA T),(1,ai ↑x.2.1),(2,ai ↑n),(6,.ptr st.aj.length 0),(9,.ptr (st.aj.length+1) 0),(10,ai x.2.2.1),(11,ai ↑x.2.2.2.1)]) (fun x=>[.cells zE,.cells (x.1.enc.map .d)]) (fun _=>[])
    (fun x=>x.2.1≤T.length∧x.2.2.2.1≤x.2.1∧((x.2.2.1=0∧(x.2.2.2.1=0∨n≠4)∧x.2.2.2.2≤f∧pF x.2.2.2.2 (.ops n x.1) (T.drop x.2.1)=some r)∨(x.2.2.1=0∧x.2.2.2.1≠0∧n=4∧r= .ok x.1 (T.drop x.2.1))∨(x.2.2.1≠0∧r= .err (T.drop x.2.1) x.2.2.1)))
    (fun x=>if x.2.2.1≠0 then 0 else if x.2.2.2.1≠0∧n=4 then 1 else x.2.2.2.2+2) (c,j,0,0,f) (by simp -implicitDefEqProofs (disch:=omega) only [go_sem,seval];first|done|exact rfl) (by simp -implicitDefEqProofs (disch:=omega) only [go_sem,seval]<;>first|rfl|exact ⟨rfl,rfl⟩|skip) (by simp -implicitDefEqProofs (disch:=omega) only [go_sem,seval]<;>first|rfl|exact ⟨rfl,rfl⟩|skip) ⟨hj,by simp,.inl ⟨rfl,.inl rfl,Nat.le_refl _,h⟩⟩ ?_
   rintro ⟨e,k,er,cnt,g⟩ ⟨p1,p2,p3⟩
   simp only at p1 p2 p3
   rcases p3 with ⟨rfl,q1,q2,q3⟩|⟨rfl,q1,q2,q3⟩|⟨q1,q2⟩
   ·obtain ⟨g,rfl⟩:∃ g',g=g'+1:=by
     cases g with
     |zero=>simp [pF] at q3
     |succ g=>exact ⟨g,rfl⟩
    simp only [pF] at q3
    by_cases hk:k<T.length
    ·rw [bM hk] at q3
     simp only at q3
     by_cases hs:(T.getD k default).kind=4∧bB (T.getD k default).text=n
     ·obtain ⟨hs1,hs2⟩:=hs
      rw [if_pos ⟨hs1,hs2⟩] at q3
      have hs3:(bB (T.getD k default).text:Int)=n:=by omega
      have hq1:¬ (cnt:Int)=0→(n:Int)≠4:=fun h=>by omega
      rcases h2:pF g (.op (n+1)) (T.drop (k+1)) with _|(⟨x,r2⟩|⟨r2,e2⟩)
      ·rw [h2] at q3;simp [aL] at q3
      ·have c2:=((hf g (by omega)).op (n+1) (by omega) hn7' (k+1) (by omega) _ h2).ok
       obtain ⟨m,hkm,hm,d2,e2⟩:=fS h2 (by omega)
       simp only [au] at d2 e2
       subst d2
       rw [e2] at c2
       rw [h2] at q3
       simp only [aL] at q3
       by_cases hcnt:cnt=0
       ·subst hcnt
        (try refine Wk.aw fun _ ag=>?_);(repeat' (first|((first|refine Wk.hd ?_|refine Wk.i ?_);simp -implicitDefEqProofs (disch:=omega) only [go_sem,seval])|(refine ay (fun hc=>?_) (fun hc=>?_)<;>try omega)|refine ah (eJ _ _) ?_|refine ah (c2 _) ?_|refine Wk.drawn mx (by kernel_rfl) ?_|first|refine Wk.o ?_|refine Wk.q (by assumption) ?_));all_goals (repeat subst ag)
        ·(refine ⟨(Ex.mk 7 (T.getD k default).text ct [e,x] [],m,0,0+1,g),wL.mk' _ ?_ ?_ ?_ (by simp -implicitDefEqProofs (disch:=omega) only [go_sem,seval,cV];first|done|exact rfl) (by first|rfl|(simp -implicitDefEqProofs (disch:=omega) only [go_sem,seval,cV];first|done|rfl)) (by first|rfl|(simp -implicitDefEqProofs (disch:=omega) only [go_sem,seval,cV];first|done|rfl)) (by first|rfl|(simp -implicitDefEqProofs (disch:=omega) only [go_sem,seval,cV];all_goals omega)) (by first|rfl|(simp -implicitDefEqProofs (disch:=omega) only [go_sem,seval,cV];all_goals omega))⟩;focus (try (simp -implicitDefEqProofs (disch:=omega) only [go_sem,seval,cV]);try ((repeat' apply And.intro)<;>first|rfl|trivial|refine aD ?_|refine aE ?_|refine ax ?_|skip)))
         ·refine ⟨hm,by simp only;omega,?_⟩
          by_cases hn4:n=4
          ·rw [if_pos hn4] at q3
           simp only [Option.some.injEq] at q3
           exact .inr (.inl ⟨rfl,by simp,hn4,q3.symm⟩)
          ·rw [if_neg hn4] at q3
           exact .inl ⟨rfl,.inr hn4,by simp only;omega,q3⟩
         ·dsimp only
          repeat' split
          all_goals omega
       ·have hq1:(n:Int)≠4:=by omega
        have hq2:¬ (cnt:Int)=0:=by omega
        (try refine Wk.aw fun _ ag=>?_);(repeat' (first|((first|refine Wk.hd ?_|refine Wk.i ?_);simp -implicitDefEqProofs (disch:=omega) only [go_sem,seval])|(refine ay (fun hc=>?_) (fun hc=>?_)<;>try omega)|refine ah (eJ _ _) ?_|refine ah (c2 _) ?_|refine Wk.drawn mx (by kernel_rfl) ?_|first|refine Wk.o ?_|refine Wk.q (by assumption) ?_));all_goals (repeat subst ag)
        ·(refine ⟨(Ex.mk 7 (T.getD k default).text ct [e,x] [],m,0,cnt+1,g),wL.mk' _ ?_ ?_ ?_ (by simp -implicitDefEqProofs (disch:=omega) only [go_sem,seval,cV];first|done|exact rfl) (by first|rfl|(simp -implicitDefEqProofs (disch:=omega) only [go_sem,seval,cV];first|done|rfl)) (by first|rfl|(simp -implicitDefEqProofs (disch:=omega) only [go_sem,seval,cV];first|done|rfl)) (by first|rfl|(simp -implicitDefEqProofs (disch:=omega) only [go_sem,seval,cV];all_goals omega)) (by first|rfl|(simp -implicitDefEqProofs (disch:=omega) only [go_sem,seval,cV];all_goals omega))⟩;focus (try (simp -implicitDefEqProofs (disch:=omega) only [go_sem,seval,cV]);try ((repeat' apply And.intro)<;>first|rfl|trivial|refine aD ?_|refine aE ?_|refine ax ?_|skip)))
         ·refine ⟨hm,by simp only;omega,?_⟩
          by_cases hn4:n=4
          ·rw [if_pos hn4] at q3
           simp only [Option.some.injEq] at q3
           exact .inr (.inl ⟨rfl,by simp,hn4,q3.symm⟩)
          ·rw [if_neg hn4] at q3
           exact .inl ⟨rfl,.inr hn4,by simp only;omega,q3⟩
         ·dsimp only
          repeat' split
          all_goals omega
      ·have c2:=((hf g (by omega)).op (n+1) (by omega) hn7' (k+1) (by omega) _ h2).err
       have he:=fJ h2
       obtain ⟨m,hkm,hm,d2,e3⟩:=fS h2 (by omega)
       simp only [au] at d2 e3
       subst d2
       rw [e3] at c2
       rw [h2] at q3
       simp only [aL,Option.some.injEq] at q3
       by_cases hcnt:cnt=0
       ·subst hcnt
        (try refine Wk.aw fun _ ag=>?_);(repeat' (first|((first|refine Wk.hd ?_|refine Wk.i ?_);simp -implicitDefEqProofs (disch:=omega) only [go_sem,seval])|(refine ay (fun hc=>?_) (fun hc=>?_)<;>try omega)|refine ah (eJ _ _) ?_|refine iI (c2 _) fun x_=>?_|refine Wk.drawn mx (by kernel_rfl) ?_|first|refine Wk.o ?_|refine Wk.q (by assumption) ?_));all_goals (repeat subst ag)
        ·(refine ⟨(Ex.mk 7 (T.getD k default).text ct [e,x_] [],m,e2,0+1,g),wL.mk' _ ?_ ?_ ?_ (by simp -implicitDefEqProofs (disch:=omega) only [go_sem,seval,cV];first|done|exact rfl) (by first|rfl|(simp -implicitDefEqProofs (disch:=omega) only [go_sem,seval,cV];first|done|rfl)) (by first|rfl|(simp -implicitDefEqProofs (disch:=omega) only [go_sem,seval,cV];first|done|rfl)) (by first|rfl|(simp -implicitDefEqProofs (disch:=omega) only [go_sem,seval,cV];all_goals omega)) (by first|rfl|(simp -implicitDefEqProofs (disch:=omega) only [go_sem,seval,cV];all_goals omega))⟩;focus (try (simp -implicitDefEqProofs (disch:=omega) only [go_sem,seval,cV]);try ((repeat' apply And.intro)<;>first|rfl|trivial|refine aD ?_|refine aE ?_|refine ax ?_|skip)))
         ·exact ⟨hm,by simp only;omega,.inr (.inr ⟨by simp only;omega,q3.symm⟩)⟩
         ·dsimp only
          repeat' split
          all_goals omega
       ·have hq1:(n:Int)≠4:=by omega
        have hq2:¬ (cnt:Int)=0:=by omega
        (try refine Wk.aw fun _ ag=>?_);(repeat' (first|((first|refine Wk.hd ?_|refine Wk.i ?_);simp -implicitDefEqProofs (disch:=omega) only [go_sem,seval])|(refine ay (fun hc=>?_) (fun hc=>?_)<;>try omega)|refine ah (eJ _ _) ?_|refine iI (c2 _) fun x_=>?_|refine Wk.drawn mx (by kernel_rfl) ?_|first|refine Wk.o ?_|refine Wk.q (by assumption) ?_));all_goals (repeat subst ag)
        ·(refine ⟨(Ex.mk 7 (T.getD k default).text ct [e,x_] [],m,e2,cnt+1,g),wL.mk' _ ?_ ?_ ?_ (by simp -implicitDefEqProofs (disch:=omega) only [go_sem,seval,cV];first|done|exact rfl) (by first|rfl|(simp -implicitDefEqProofs (disch:=omega) only [go_sem,seval,cV];first|done|rfl)) (by first|rfl|(simp -implicitDefEqProofs (disch:=omega) only [go_sem,seval,cV];first|done|rfl)) (by first|rfl|(simp -implicitDefEqProofs (disch:=omega) only [go_sem,seval,cV];all_goals omega)) (by first|rfl|(simp -implicitDefEqProofs (disch:=omega) only [go_sem,seval,cV];all_goals omega))⟩;focus (try (simp -implicitDefEqProofs (disch:=omega) only [go_sem,seval,cV]);try ((repeat' apply And.intro)<;>first|rfl|trivial|refine aD ?_|refine aE ?_|refine ax ?_|skip)))
         ·exact ⟨hm,by simp only;omega,.inr (.inr ⟨by simp only;omega,q3.symm⟩)⟩
         ·dsimp only
          repeat' split
          all_goals omega
     ·rw [if_neg hs,←bM hk] at q3
      simp only [Option.some.injEq] at q3
      subst q3
      by_cases hs1:(T.getD k default).kind=4
      ·have hs2:¬ (bB (T.getD k default).text:Int)=n:=fun h=>hs ⟨hs1,by omega⟩
       (try refine Wk.aw fun _ ag=>?_);(repeat' (first|((first|refine Wk.hd ?_|refine Wk.i ?_);simp -implicitDefEqProofs (disch:=omega) only [go_sem,seval])|(refine ay (fun hc=>?_) (fun hc=>?_)<;>try omega)|refine ah (eJ _ _) ?_|refine Wk.ret fun _ _=>?_|refine Wk.fin (by assumption) ?_|first|refine Wk.o ?_|refine Wk.q (by assumption) ?_|refine Wk.sw fun _ ag=>?_));all_goals (repeat subst ag)
       all_goals exact ⟨by rw [len k p1],rfl⟩
      ·(try refine Wk.aw fun _ ag=>?_);(repeat' (first|((first|refine Wk.hd ?_|refine Wk.i ?_);simp -implicitDefEqProofs (disch:=omega) only [go_sem,seval])|(refine ay (fun hc=>?_) (fun hc=>?_)<;>try omega)|refine Wk.ret fun _ _=>?_|refine Wk.fin (by assumption) ?_|first|refine Wk.o ?_|refine Wk.q (by assumption) ?_|refine Wk.sw fun _ ag=>?_));all_goals (repeat subst ag)
       all_goals exact ⟨by rw [len k p1],rfl⟩
    ·rw [bk hk] at q3
     simp only [Option.some.injEq] at q3
     rw [←bk hk] at q3
     subst q3
     (try refine Wk.aw fun _ ag=>?_);(repeat' (first|((first|refine Wk.hd ?_|refine Wk.i ?_);simp -implicitDefEqProofs (disch:=omega) only [go_sem,seval])|(refine ay (fun hc=>?_) (fun hc=>?_)<;>try omega)|refine Wk.ret fun _ _=>?_|refine Wk.fin (by assumption) ?_|first|refine Wk.o ?_|refine Wk.q (by assumption) ?_|refine Wk.sw fun _ ag=>?_));all_goals (repeat subst ag)
     all_goals exact ⟨by rw [len k p1],rfl⟩
   ·subst q3 q2
    have hcnt:¬ (cnt:Int)=0:=by omega
    (try refine Wk.aw fun _ ag=>?_);(repeat' (first|((first|refine Wk.hd ?_|refine Wk.i ?_);simp -implicitDefEqProofs (disch:=omega) only [go_sem,seval])|(refine ay (fun hc=>?_) (fun hc=>?_)<;>try omega)|refine ah (eJ _ _) ?_|refine Wk.ret fun _ _=>?_|refine Wk.fin (by assumption) ?_|first|refine Wk.o ?_|refine Wk.q (by assumption) ?_|refine Wk.sw fun _ ag=>?_));all_goals (repeat subst ag)
    all_goals exact ⟨by rw [len k p1],rfl⟩
   ·subst q2
    (try refine Wk.aw fun _ ag=>?_);(repeat' (first|((first|refine Wk.hd ?_|refine Wk.i ?_);simp -implicitDefEqProofs (disch:=omega) only [go_sem,seval])|(refine ay (fun hc=>?_) (fun hc=>?_)<;>try omega)|refine Wk.ret fun _ _=>?_|refine Wk.fin (by assumption) ?_|first|refine Wk.o ?_|refine Wk.q (by assumption) ?_|refine Wk.sw fun _ ag=>?_));all_goals (repeat subst ag)
    all_goals exact ⟨_,by rw [len k p1],rfl⟩
  ·have c1:=((hf f (Nat.le_refl _)).op (n+1) (by omega) hn7' i hi _ h1).err
   have he:=fJ h1
   have h7:=fun rest=>fJ (f:=f) (tag:= .op (n+1)) (ts:=T.drop i) (rest:=rest) (c:=ec)
   rw [h1] at h
   simp only [aL,Option.some.injEq] at h
   subst h
   refine aa.body Tryz.func134 rfl Tryz.ntmps134 (by simp) ?_
   (try refine Wk.aw fun _ ag=>?_);(repeat' (first|(refine AW.Ga ?_;refine AW.rounds 1 ?_)|((first|refine Wk.hd ?_|refine Wk.i ?_);simp -implicitDefEqProofs (disch:=omega) only [go_sem,seval])|(refine ay (fun hc=>?_) (fun hc=>?_)<;>try omega)|refine iI (c1 _) fun x_=>?_|refine Wk.ret fun _ _=>?_|refine Wk.fin (by assumption) ?_|first|refine Wk.o ?_|refine Wk.q (by assumption) ?_|refine Wk.sw fun _ ag=>?_|refine Wk.sk fun _ ag=>?_));all_goals (repeat subst ag)
   all_goals exact ⟨_,rfl,rfl⟩
def pZ (e:Ex):Bool:=if e.kind=1∨e.kind=2 then decide (e.args.length=0) else if e.kind=3∨e.kind=6 then decide (e.args.length=1)
 else if e.kind=4∨e.kind=7 then decide (e.args.length=2) else if e.kind=8 then decide (e.args.length=3) else decide (e.kind=5∨e.kind=9∨e.kind=10)
theorem LQ (e:Ex) (he:e.args.length≤1048576):b8 G 138 [vE e] (vb (pZ e)):=by
 intro st
 rw [vE,Ex.aP,aX.aP]
 refine aa.body Tryz.func138 rfl Tryz.ntmps138 (by simp) ?_
 (try refine Wk.aw fun _ ag=>?_);(repeat' (first|((first|refine Wk.hd ?_|refine Wk.i ?_);simp -implicitDefEqProofs only [go_sem,seval])|(refine ay (fun hc=>?_) (fun hc=>?_)<;>try omega)|refine Wk.ret fun _ _=>?_|(refine Wk.fin (by assumption) ?_;refine ⟨?_,rfl⟩)|first|refine Wk.o ?_|refine Wk.q (by assumption) ?_));all_goals (repeat subst ag)
 all_goals refine congrArg (fun b=>Out.ret (.d (.bool b))) ?_
 all_goals simp only [pZ]
 all_goals grind
theorem LR (e:Ex) (he:e.name.length≤1048576):b8 G 139 [vE e] (vb (dJ e)):=by
 intro st
 rw [vE,Ex.aP,aX.aP]
 have hpl:=ZY (G:=G) e.name he
 have hst:=eJ (G:=G) e.name
 by_cases k1:e.kind=2∨e.kind=3∨e.kind=5
 ·have:dJ e=cc e.name:=if_pos k1
  rw [this]
  rcases k1 with k1|k1|k1
  ·refine aa.body Tryz.func139 rfl Tryz.ntmps139 (by simp) ?_
   (try refine Wk.aw fun _ ag=>?_);(repeat' (first|((first|refine Wk.hd ?_|refine Wk.i ?_);simp -implicitDefEqProofs only [go_sem,seval,k1])|refine ah (hpl _) ?_|refine Wk.ret fun _ _=>?_|(refine Wk.fin (by assumption) ?_;refine ⟨?_,rfl⟩)|first|refine Wk.o ?_|refine Wk.q (by assumption) ?_));all_goals (repeat subst ag)
   all_goals rfl
  ·refine aa.body Tryz.func139 rfl Tryz.ntmps139 (by simp) ?_
   (try refine Wk.aw fun _ ag=>?_);(repeat' (first|((first|refine Wk.hd ?_|refine Wk.i ?_);simp -implicitDefEqProofs only [go_sem,seval,k1])|refine ah (hpl _) ?_|refine Wk.ret fun _ _=>?_|(refine Wk.fin (by assumption) ?_;refine ⟨?_,rfl⟩)|first|refine Wk.o ?_|refine Wk.q (by assumption) ?_));all_goals (repeat subst ag)
   all_goals rfl
  ·refine aa.body Tryz.func139 rfl Tryz.ntmps139 (by simp) ?_
   (try refine Wk.aw fun _ ag=>?_);(repeat' (first|((first|refine Wk.hd ?_|refine Wk.i ?_);simp -implicitDefEqProofs only [go_sem,seval,k1])|refine ah (hpl _) ?_|refine Wk.ret fun _ _=>?_|(refine Wk.fin (by assumption) ?_;refine ⟨?_,rfl⟩)|first|refine Wk.o ?_|refine Wk.q (by assumption) ?_));all_goals (repeat subst ag)
   all_goals rfl
 ·have n1:¬ e.kind=2:=fun h=>k1 (.inl h)
  have n2:¬ e.kind=3:=fun h=>k1 (.inr (.inl h))
  have n3:¬ e.kind=5:=fun h=>k1 (.inr (.inr h))
  by_cases k6:e.kind=6
  ·have:dJ e=decide (e.name=[33]∨e.name=[45]):=by rw [dJ,if_neg k1,if_pos k6]
   rw [this]
   refine aa.body Tryz.func139 rfl Tryz.ntmps139 (by simp) ?_
   (try refine Wk.aw fun _ ag=>?_);(repeat' (first|((first|refine Wk.hd ?_|refine Wk.i ?_);simp -implicitDefEqProofs only [go_sem,seval,k6])|(refine ay (fun hc=>?_) (fun hc=>?_)<;>try omega)|refine Wk.ret fun _ _=>?_|(refine Wk.fin (by assumption) ?_;refine ⟨?_,rfl⟩)|first|refine Wk.o ?_|refine Wk.q (by assumption) ?_));all_goals (repeat subst ag)
   all_goals refine congrArg (fun b=>Out.ret (.d (.bool b))) ?_
   all_goals grind
  ·by_cases k7:e.kind=7
   ·have:dJ e=decide (0<bB e.name):=by rw [dJ,if_neg k1,if_neg k6,if_pos k7]
    rw [this]
    refine aa.body Tryz.func139 rfl Tryz.ntmps139 (by simp) ?_
    (try refine Wk.aw fun _ ag=>?_);(repeat' (first|((first|refine Wk.hd ?_|refine Wk.i ?_);simp -implicitDefEqProofs only [go_sem,seval,k7])|refine ah (hst _) ?_|refine Wk.ret fun _ _=>?_|(refine Wk.fin (by assumption) ?_;refine ⟨?_,rfl⟩)|first|refine Wk.o ?_|refine Wk.q (by assumption) ?_));all_goals (repeat subst ag)
    all_goals refine congrArg (fun b=>Out.ret (.d (.bool b))) ?_
    all_goals grind
   ·have:dJ e=decide (e.name=[]):=by rw [dJ,if_neg k1,if_neg k6,if_neg k7]
    rw [this]
    refine aa.body Tryz.func139 rfl Tryz.ntmps139 (by simp) ?_
    (try refine Wk.aw fun _ ag=>?_);(repeat' (first|((refine Wk.i ?_);simp -implicitDefEqProofs only [go_sem,seval])|(refine ay (fun hc=>?_) (fun hc=>?_)<;>try omega)|refine Wk.ret fun _ _=>?_|(refine Wk.fin (by assumption) ?_;refine ⟨?_,rfl⟩)|first|refine Wk.o ?_|refine Wk.q (by assumption) ?_));all_goals (repeat subst ag)
    all_goals refine congrArg (fun b=>Out.ret (.d (.bool b))) ?_
    all_goals grind
end Go.Proofs.YthnoiikjfcnlhaaGreatDoor
end
section
namespace Go.Proofs.YthnoiikjfcnlhaaGreatDoor
open Go.Abs
attribute [local irreducible] AW OX cG GQ bK bO bz aY aa
variable {G:World→Nat→Prop}
theorem oX (l:List Ex) (i:Nat) (h:i<l.length):bS.cY (l.take (i+1))=bS.cY (l.take i)+bS (l.getD i default):=by
 induction l generalizing i with
 |nil=>simp at h
 |cons e r ih=>
  cases i with
  |zero=>simp [bS.cY]
  |succ i=>
   have:=ih i (by simpa using h)
   simp only [List.take_succ_cons,bS.cY,List.getD_cons_succ]
   omega
theorem jD (l:List Ex) (i:Nat):bS.cY (l.take i)≤bS.cY l:=by
 induction l generalizing i with
 |nil=>simp
 |cons e r ih=>
  cases i with
  |zero=>simp [bS.cY]
  |succ i=>have:=ih i;simp only [List.take_succ_cons,bS.cY];omega
theorem BZ (e:Ex) (st:St) (hb:bS e≤4611686018427387904) (hl:e.args.length≤4611686018427387904) (ih:∀ a∈e.args,∀ st,aa Tryz.prog G 29 [vE a] st (fun o s=>o= .ret (ai (bS a))∧s=st)):
  aa Tryz.prog G 29 [vE e] st (fun o s=>o= .ret (ai (bS e))∧s=st):=by
 have hcnt:bS e=1+bS.cY e.args:=by cases e;rfl
 refine aa.body Tryz.func29 rfl Tryz.ntmps29 (by simp) ?_
 (try first|refine Wk.aw fun _ ag=>?_|refine Wk.ow fun _ ag=>?_);(repeat' (first
  |((first|refine Wk.hd ?_|refine Wk.i ?_);simp -implicitDefEqProofs (disch:=omega) only [go_sem,seval])
  |(refine ay (fun hc=>?_) (fun hc=>?_)<;>try (exfalso;first|omega|contradiction|exact fQ hc ‹_› |exact fQ ‹_› hc))
  |refine Wk.drawn mx (by kernel_rfl) ?_
  |refine Wk.ret fun _ _=>?_
  |(refine Wk.fin (by assumption) ?_;refine ⟨?_,rfl⟩)
  |first|refine Wk.o ?_|refine Wk.q (by assumption) ?_|refine Wk.sw fun _ ag=>?_|refine Wk.sk fun _ ag=>?_));all_goals (repeat subst ag)
 refine AW.cD (fun i:Nat=>[(4,ai i),(3,ai ↑(1+bS.cY (e.args.take i))),(1,.ptr st.aj.length 0)]) (fun _=>[.cells (e.enc.map .d)]) (fun _=>[]) (fun i=>i≤e.args.length) (fun i=>e.args.length - i) 0 (by simp -implicitDefEqProofs (disch:=omega) only [go_sem,seval]) (by simp -implicitDefEqProofs (disch:=omega) only [go_sem,seval];first|rfl|exact ⟨rfl,rfl⟩) (Nat.zero_le _) ?_
 intro i hi
 have hs:=oX e.args i
 have ht:=jD e.args i
 have ht1:=jD e.args (i+1)
 (try first|refine Wk.aw fun _ ag=>?_|refine Wk.ow fun _ ag=>?_);(repeat' (first
  |((first|refine Wk.hd ?_|refine Wk.i ?_);simp -implicitDefEqProofs (disch:=omega) only [go_sem,seval])
  |(refine ay (fun hc=>?_) (fun hc=>?_)<;>try (exfalso;first|omega|contradiction|exact fQ hc ‹_› |exact fQ ‹_› hc))
  |refine ah (ih _ (aB (by omega)) _) ?_
  |refine Wk.drawn mx (by kernel_rfl) ?_
  |refine Wk.ret fun _ _=>?_
  |(refine Wk.fin (by assumption) ?_;refine ⟨?_,rfl⟩)
  |first|refine Wk.o ?_|refine Wk.q (by assumption) ?_|refine Wk.sw fun _ ag=>?_|refine Wk.sk fun _ ag=>?_));all_goals (repeat subst ag)
 ·(refine ⟨i+1,gk.mk ?_ ?_ ?_ (by simp -implicitDefEqProofs (disch:=omega) only [go_sem,seval]) (by simp -implicitDefEqProofs (disch:=omega) only [go_sem,seval]) (by first|rfl|(simp -implicitDefEqProofs (disch:=omega) only [go_sem,seval];all_goals omega)) (by first|rfl|(simp -implicitDefEqProofs (disch:=omega) only [go_sem,seval];all_goals omega))⟩;focus (try (simp -implicitDefEqProofs (disch:=omega) only [go_sem,seval]);try ((repeat' apply And.intro)<;>first|rfl|trivial|refine aD ?_|refine aE ?_|refine ax ?_|skip)))
  all_goals omega
 ·rw [hcnt,List.take_of_length_le (by omega)]
end Go.Proofs.YthnoiikjfcnlhaaGreatDoor
end
section
set_option maxHeartbeats 8000000
set_option maxRecDepth 20000
namespace Go.Proofs.YthnoiikjfcnlhaaGreatDoor
open Go.Abs
attribute [local irreducible] AW OX cG GQ bK bO bz aY aa
variable {G:World→Nat→Prop}
theorem qF (l:List Ex) (h:∀ a∈l,1≤bS a):l.length≤bS.cY l:=by
 induction l with
 |nil=>simp
 |cons e r ih=>
  have h1:=h e (by simp)
  have h2:=ih fun a ha=>h a (by simp [ha])
  simp only [List.length_cons,bS.cY];omega
theorem lF:∀ e:Ex,1≤bS e
 | .mk _ _ _ ar _=>by simp only [bS];omega
theorem p6 (e:Ex):bS e=1+bS.cY e.args:=by cases e;rfl
theorem ke {l:List Ex} {a:Ex} (h:a∈l):bS a≤bS.cY l:=by
 induction l with
 |nil=>simp at h
 |cons e r ih=>
  simp only [bS.cY]
  rcases List.mem_cons.1 h with rfl|h
  ·omega
  ·have:=ih h;omega
theorem zm (n:Nat):∀ e:Ex,bS e≤n→bS e≤4611686018427387904→b8 G 29 [vE e] (ai (bS e)):=by
 induction n with
 |zero=>intro e h;have:=lF e;omega
 |succ n ih=>
  intro e h hb st
  have h1:=p6 e
  have h2:=qF e.args fun a _=>lF a
  exact BZ e st hb (by omega) fun a ha st=>ih a (by have:=ke ha;omega) (by have:=ke ha;omega) st
theorem qG (e:Ex):b8 G 145 [vE e] (ai (force e)):=by
 intro st
 rw [vE,Ex.aP,aX.aP]
 have hst:=lf (G:=G) e.name
 refine aa.body Tryz.func145 rfl Tryz.ntmps145 (by simp) ?_
 (try refine Wk.aw fun _ ag=>?_);(repeat' (first|((first|refine Wk.hd ?_|refine Wk.i ?_);simp -implicitDefEqProofs only [go_sem,seval])|(refine ay (fun hc=>?_) (fun hc=>?_)<;>try omega)|refine ah (hst _) ?_|refine Wk.ret fun _ _=>?_|(refine Wk.fin (by assumption) ?_;refine ⟨?_,rfl⟩)|first|refine Wk.o ?_|refine Wk.q (by assumption) ?_));all_goals (repeat subst ag)
 all_goals (refine bA ?_;simp only [force];grind)
def sP (l:List az):Bool:=decide (∃ i,i<l.length∧∃ k,k<i∧l.getD i default=l.getD k default)
theorem LS (l:List az) (hl:l.length≤1048576):b8 G 115 [qC l] (vb (sP l)):=by
 intro st
 refine aa.body Tryz.func115 rfl Tryz.ntmps115 (by simp) ?_
 (try refine Wk.aw fun _ ag=>?_);(repeat' (first|((refine Wk.i ?_);simp -implicitDefEqProofs (disch:=omega) only [go_sem,seval])|refine Wk.o ?_));all_goals (repeat subst ag)
 refine AW.cD (fun x:Nat=>[(0,qC l),(3,ai ↑x)]) (fun _=>[]) (fun _=>[]) (fun x=>x≤l.length∧∀ i,i<x→∀ k,k<i→l.getD i default≠l.getD k default) (fun x=>l.length - x) 0 (by simp -implicitDefEqProofs (disch:=omega) only [go_sem,seval]<;>first|rfl|exact ⟨rfl,rfl⟩|skip) (by simp -implicitDefEqProofs (disch:=omega) only [go_sem,seval]<;>first|rfl|exact ⟨rfl,rfl⟩|skip) ⟨by omega,fun i hi=>by omega⟩ ?_
 rintro x ⟨h1,h2⟩
 by_cases hx:x<l.length
 ·(try refine Wk.aw fun _ ag=>?_);(repeat' (first|((refine Wk.i ?_);simp -implicitDefEqProofs (disch:=omega) only [go_sem,seval])|(refine ay (fun hc=>?_) (fun hc=>?_)<;>try omega)|refine Wk.o ?_));all_goals (repeat subst ag)
  refine AW.cD (fun y:Nat=>[(0,qC l),(3,ai ↑x),(4,ai ↑y)]) (fun _=>[]) (fun _=>[]) (fun y=>y≤x∧∀ k,k<y→l.getD x default≠l.getD k default) (fun y=>x - y) 0 (by simp -implicitDefEqProofs (disch:=omega) only [go_sem,seval]<;>first|rfl|exact ⟨rfl,rfl⟩|skip) (by simp -implicitDefEqProofs (disch:=omega) only [go_sem,seval]<;>first|rfl|exact ⟨rfl,rfl⟩|skip) ⟨by omega,fun k hk=>by omega⟩ ?_
  rintro y ⟨g1,g2⟩
  by_cases hy:y<x
  ·(try refine Wk.aw fun _ ag=>?_);(repeat' (first|((refine Wk.i ?_);simp -implicitDefEqProofs (disch:=omega) only [go_sem,seval])|(refine ay (fun hc=>?_) (fun hc=>?_)<;>try omega)|refine Wk.drawn mx (by kernel_rfl) ?_|refine Wk.ret fun _ _=>?_|(refine Wk.fin (by assumption) ?_;refine ⟨?_,rfl⟩)|first|refine Wk.o ?_|refine Wk.q (by assumption) ?_));all_goals (repeat subst ag)
   ·exact aO (by simp only [sP,decide_eq_true_eq,true_iff];exact ⟨x,hx,y,hy,hc⟩)
   ·(refine ⟨y+1,gk.mk ?_ ?_ ?_ (by simp -implicitDefEqProofs (disch:=omega) only [go_sem,seval]) (by simp -implicitDefEqProofs (disch:=omega) only [go_sem,seval]) (by first|rfl|(simp -implicitDefEqProofs (disch:=omega) only [go_sem,seval];all_goals omega)) (by first|rfl|(simp -implicitDefEqProofs (disch:=omega) only [go_sem,seval];all_goals omega))⟩;focus (try (simp -implicitDefEqProofs (disch:=omega) only [go_sem,seval]);try ((repeat' apply And.intro)<;>first|rfl|trivial|refine aD ?_|refine aE ?_|refine ax ?_|skip)))
    ·refine ⟨by omega,fun k hk=>?_⟩
     by_cases hky:k=y
     ·subst hky;exact hc
     ·exact g2 k (by omega)
    ·omega
  ·(try refine Wk.aw fun _ ag=>?_);(repeat' (first|((refine Wk.i ?_);simp -implicitDefEqProofs (disch:=omega) only [go_sem,seval])|(refine ay (fun hc=>?_) (fun hc=>?_)<;>try omega)|first|refine Wk.o ?_|refine Wk.q (by assumption) ?_|refine Wk.sw fun _ ag=>?_));all_goals (repeat subst ag)
   ·(refine ⟨x+1,gk.mk ?_ ?_ ?_ (by simp -implicitDefEqProofs (disch:=omega) only [go_sem,seval]) (by simp -implicitDefEqProofs (disch:=omega) only [go_sem,seval]) (by first|rfl|(simp -implicitDefEqProofs (disch:=omega) only [go_sem,seval];all_goals omega)) (by first|rfl|(simp -implicitDefEqProofs (disch:=omega) only [go_sem,seval];all_goals omega))⟩;focus (try (simp -implicitDefEqProofs (disch:=omega) only [go_sem,seval]);try ((repeat' apply And.intro)<;>first|rfl|trivial|refine aD ?_|refine aE ?_|refine ax ?_|skip)))
    ·refine ⟨by omega,fun i hi k hk=>?_⟩
     by_cases hix:i=x
     ·subst hix;exact g2 k (by omega)
     ·exact h2 i (by omega) k hk
    ·omega
 ·(try refine Wk.aw fun _ ag=>?_);(repeat' (first|((refine Wk.i ?_);simp -implicitDefEqProofs (disch:=omega) only [go_sem,seval])|(refine ay (fun hc=>?_) (fun hc=>?_)<;>try omega)|refine Wk.ret fun _ _=>?_|(refine Wk.fin (by assumption) ?_;refine ⟨?_,rfl⟩)|first|refine Wk.o ?_|refine Wk.q (by assumption) ?_|refine Wk.sw fun _ ag=>?_));all_goals (repeat subst ag)
  all_goals exact aO (by simp only [sP,decide_eq_true_eq,Bool.false_eq_true,false_iff];rintro ⟨i,hi,k,hk,h⟩;exact h2 i (by omega) k hk h)
end Go.Proofs.YthnoiikjfcnlhaaGreatDoor
end
section
namespace Go.Proofs.YthnoiikjfcnlhaaGreatDoor
theorem zn (l:List az):kA l=true↔¬ l.Nodup:=by
 induction l with
 |nil=>simp [kA]
 |cons k r ih=>
  simp only [kA,Bool.or_eq_true,ih,List.nodup_cons,List.contains_iff_mem]
  grind
theorem B1 (l:List az):sP l=kA l:=by
 rw [Bool.eq_iff_iff,zn,sP,decide_eq_true_eq,List.Nodup,List.pairwise_iff_getElem]
 constructor
 ·rintro ⟨i,hi,k,hk,h⟩ hp
  refine hp k i (by omega) hi hk ?_
  simpa [List.getD_eq_getElem?_getD,hi,show k<l.length by omega] using h.symm
 ·intro h
  refine Classical.byContradiction fun hn=>h fun i j hi hj hij he=>hn ⟨j,hj,i,hij,?_⟩
  simpa [List.getD_eq_getElem?_getD,hi,hj] using he.symm
end Go.Proofs.YthnoiikjfcnlhaaGreatDoor
end
section
set_option maxHeartbeats 8000000
set_option maxRecDepth 20000
namespace Go.Proofs.YthnoiikjfcnlhaaGreatDoor
open Go.Abs
attribute [local irreducible] AW OX cG GQ bK bO bz aY aa
variable {G:World→Nat→Prop}
def j0:Ex→Prop
 | .mk _ n v ar ks=>n.length≤1048576∧gU v∧ar.length≤1048576∧ks.length≤1048576∧(∀ k∈ks,k.length≤1048576)∧zo ar
where zo:List Ex→Prop
 |[]=>True
 |e::r=>j0 e∧zo r
theorem vi:∀ l:List Ex,j0.zo l↔∀ e∈l,j0 e
 |[]=>by simp [j0.zo]
 |e::r=>by simp [j0.zo,vi r]
theorem gq (e:Ex):j0 e↔e.name.length≤1048576∧gU e.value∧e.args.length≤1048576∧e.keys.length≤1048576∧(∀ k∈e.keys,k.length≤1048576)∧∀ x∈e.args,j0 x:=by
 cases e;simp only [j0,vi,Ex.name,Ex.value,Ex.args,Ex.keys]
def iC (e:Ex):Bool:=pZ e&&dJ e&& (decide (e.kind=1)||jg e.value)&&gR e
theorem I0 {e:Ex} (h:e.kind≠10):gR e=decide ((e.keys.length:Int)=0):=by
 rw [gR,if_pos h];cases e.keys<;>simp;omega
theorem I1 {e:Ex} (h:e.kind=10):gR e=(decide (e.keys.length=e.args.length)&&e.keys.all fP):=by
 rw [gR,if_neg (by simp [h])]
theorem I2 (e:Ex) (fe:j0 e):b8 G 113 [vE e] (vb (iC e)):=by
 intro st
 obtain ⟨a1,a2,a3,a4,a5,a6⟩:=(gq e).1 fe
 have har:=LQ (G:=G) e a3
 have hna:=LR (G:=G) e a1
 have hsa:=LP (G:=G) e.value a2
 rw [iC]
 cases h1:pZ e
 ·rw [h1] at har
  refine aa.body Tryz.func113 rfl Tryz.ntmps113 (by simp) ?_
  (try refine Wk.aw fun _ ag=>?_);(repeat' (first|((first|refine Wk.hd ?_|refine Wk.i ?_);simp -implicitDefEqProofs (disch:=omega) only [go_sem,seval])|refine ah (har _) ?_|refine Wk.ret fun _ _=>?_|(refine Wk.fin (by assumption) ?_;refine ⟨?_,rfl⟩)|first|refine Wk.o ?_|refine Wk.q (by assumption) ?_));all_goals (repeat subst ag)
  all_goals rfl
 ·rw [h1] at har
  cases h2:dJ e
  ·rw [h2] at hna
   refine aa.body Tryz.func113 rfl Tryz.ntmps113 (by simp) ?_
   (try refine Wk.aw fun _ ag=>?_);(repeat' (first|((first|refine Wk.hd ?_|refine Wk.i ?_);simp -implicitDefEqProofs (disch:=omega) only [go_sem,seval])|refine ah (har _) ?_|refine ah (hna _) ?_|refine Wk.ret fun _ _=>?_|(refine Wk.fin (by assumption) ?_;refine ⟨?_,rfl⟩)|first|refine Wk.o ?_|refine Wk.q (by assumption) ?_));all_goals (repeat subst ag)
   all_goals rfl
  ·rw [h2] at hna
   by_cases h3:e.kind=1∨jg e.value=true
   ·have h3':(decide (e.kind=1)||jg e.value)=true:=by simpa using h3
    rw [h3']
    by_cases h4:e.kind=10
    ·rw [I1 h4]
     have h5:jg e.value=true:=h3.resolve_left (by omega)
     rw [h5] at hsa
     refine aa.body Tryz.func113 rfl Tryz.ntmps113 (by simp) ?_
     (try refine Wk.aw fun _ ag=>?_);(repeat' (first|((first|refine Wk.hd ?_|refine Wk.i ?_);simp -implicitDefEqProofs (disch:=omega) only [go_sem,seval,h4])|refine ah (har _) ?_|refine ah (hna _) ?_|refine ah (hsa _) ?_|refine Wk.o ?_));all_goals (repeat subst ag)
     refine AW.cD (fun i:Nat=>[(1,.ptr st.aj.length 0),(3,ai ↑i)]) (fun _=>[.cells (e.enc.map .d)]) (fun _=>[]) (fun i=>i≤e.keys.length∧∀ k,k<i→fP (e.keys.getD k default)=true) (fun i=>e.keys.length - i) 0 (by simp -implicitDefEqProofs (disch:=omega) only [go_sem,seval]<;>first|rfl|exact ⟨rfl,rfl⟩|skip) (by simp -implicitDefEqProofs (disch:=omega) only [go_sem,seval]<;>first|rfl|exact ⟨rfl,rfl⟩|skip) ⟨by omega,by omega⟩ ?_
     intro i ⟨g1,g2⟩
     by_cases hi:i<e.keys.length
     ·have hk:=a5 _ (aB hi)
      by_cases hok:1≤(e.keys.getD i default).length∧(e.keys.getD i default).length≤64
      ·(try refine Wk.aw fun _ ag=>?_);(repeat' (first|((first|refine Wk.hd ?_|refine Wk.i ?_);simp -implicitDefEqProofs (disch:=omega) only [go_sem,seval])|(refine ay (fun hc=>?_) (fun hc=>?_)<;>try omega)|first|refine Wk.o ?_|refine Wk.q (by assumption) ?_));all_goals (repeat subst ag)
       ·(refine ⟨i+1,gk.mk ?_ ?_ ?_ (by simp -implicitDefEqProofs (disch:=omega) only [go_sem,seval]) (by simp -implicitDefEqProofs (disch:=omega) only [go_sem,seval]) (by first|rfl|(simp -implicitDefEqProofs (disch:=omega) only [go_sem,seval];all_goals omega)) (by first|rfl|(simp -implicitDefEqProofs (disch:=omega) only [go_sem,seval];all_goals omega))⟩;focus (try (simp -implicitDefEqProofs (disch:=omega) only [go_sem,seval]);try ((repeat' apply And.intro)<;>first|rfl|trivial|refine aD ?_|refine aE ?_|refine ax ?_|skip)))
        ·refine ⟨by omega,fun k hk'=>?_⟩
         by_cases hki:k=i
         ·subst hki;simpa [fP] using hok
         ·exact g2 k (by omega)
        ·omega
      ·have hf:e.keys.all fP=false:=by
        rw [Bool.eq_false_iff];intro h;have:=List.all_eq_true.1 h _ (aB hi);exact hok (by simpa [fP] using this)
       rw [hf]
       (try refine Wk.aw fun _ ag=>?_);(repeat' (first|((first|refine Wk.hd ?_|refine Wk.i ?_);simp -implicitDefEqProofs (disch:=omega) only [go_sem,seval])|(refine ay (fun hc=>?_) (fun hc=>?_)<;>try omega)|refine Wk.ret fun _ _=>?_|(refine Wk.fin (by assumption) ?_;refine ⟨?_,rfl⟩)|first|refine Wk.o ?_|refine Wk.q (by assumption) ?_));all_goals (repeat subst ag)
       all_goals first|(exfalso;omega)|(refine aO ?_;simp)
     ·have ht:e.keys.all fP=true:=by
       rw [List.all_eq_true]
       intro x hx
       obtain ⟨k,hk1,rfl⟩:=List.mem_iff_getElem.1 hx
       have:=g2 k (by omega)
       simpa [List.getD_eq_getElem?_getD,hk1] using this
      rw [ht]
      (try refine Wk.aw fun _ ag=>?_);(repeat' (first|((refine Wk.i ?_);simp -implicitDefEqProofs (disch:=omega) only [go_sem,seval])|(refine ay (fun hc=>?_) (fun hc=>?_)<;>try omega)|refine Wk.ret fun _ _=>?_|(refine Wk.fin (by assumption) ?_;refine ⟨?_,rfl⟩)|first|refine Wk.o ?_|refine Wk.q (by assumption) ?_|refine Wk.sw fun _ ag=>?_));all_goals (repeat subst ag)
      all_goals (refine aO ?_;simp)
    ·rw [I0 h4]
     by_cases h1':e.kind=1
     ·refine aa.body Tryz.func113 rfl Tryz.ntmps113 (by simp) ?_
      (try refine Wk.aw fun _ ag=>?_);(repeat' (first|((first|refine Wk.hd ?_|refine Wk.i ?_);simp -implicitDefEqProofs (disch:=omega) only [go_sem,seval,h1'])|refine ah (har _) ?_|refine ah (hna _) ?_|refine Wk.ret fun _ _=>?_|(refine Wk.fin (by assumption) ?_;refine ⟨?_,rfl⟩)|first|refine Wk.o ?_|refine Wk.q (by assumption) ?_));all_goals (repeat subst ag)
      all_goals (refine aO ?_;simp)
     ·have h5:jg e.value=true:=h3.resolve_left h1'
      rw [h5] at hsa
      refine aa.body Tryz.func113 rfl Tryz.ntmps113 (by simp) ?_
      (try refine Wk.aw fun _ ag=>?_);(repeat' (first|((first|refine Wk.hd ?_|refine Wk.i ?_);simp -implicitDefEqProofs (disch:=omega) only [go_sem,seval])|(refine ay (fun hc=>?_) (fun hc=>?_)<;>try omega)|refine ah (har _) ?_|refine ah (hna _) ?_|refine ah (hsa _) ?_|refine Wk.ret fun _ _=>?_|(refine Wk.fin (by assumption) ?_;refine ⟨?_,rfl⟩)|first|refine Wk.o ?_|refine Wk.q (by assumption) ?_));all_goals (repeat subst ag)
      all_goals (refine aO ?_;simp)
   ·have h3':(decide (e.kind=1)||jg e.value)=false:=by simpa using h3
    rw [h3']
    have h5:jg e.value=false:=by simpa using fun h=>h3 (.inr h)
    have h6:¬ e.kind=1:=fun h=>h3 (.inl h)
    rw [h5] at hsa
    refine aa.body Tryz.func113 rfl Tryz.ntmps113 (by simp) ?_
    (try refine Wk.aw fun _ ag=>?_);(repeat' (first|((first|refine Wk.hd ?_|refine Wk.i ?_);simp -implicitDefEqProofs (disch:=omega) only [go_sem,seval])|(refine ay (fun hc=>?_) (fun hc=>?_)<;>try omega)|refine ah (har _) ?_|refine ah (hna _) ?_|refine ah (hsa _) ?_|refine Wk.ret fun _ _=>?_|(refine Wk.fin (by assumption) ?_;refine ⟨?_,rfl⟩)|first|refine Wk.o ?_|refine Wk.q (by assumption) ?_));all_goals (repeat subst ag)
    all_goals (refine aO ?_;simp)
theorem vk (e:Ex):pZ e=(decide (1≤e.kind∧e.kind≤10)&&jJ e):=by
 rw [Bool.eq_iff_iff]
 simp only [pZ,jJ]
 grind
theorem sQ (e:Ex) (level:Nat):jv e level=if 16<level then 13 else if iC e=false then 1
 else if e.kind=1∧fk e.value≠0 then fk e.value else if 1024<e.args.length then 3 else if kA e.keys=true then 7 else 0:=by
 have:(e.kind<1∨10<e.kind∨(e.kind≠1∧jg e.value=false)∨dJ e=false∨jJ e=false∨gR e=false)↔iC e=false:=by
  rw [iC,vk]
  cases h1:jJ e<;>cases h2:dJ e<;>cases h3:jg e.value<;>cases h4:gR e<;>simp<;>omega
 rw [jv]
 simp only [this]
theorem p7 (level:Nat) (e:Ex):dc level e=if jv e level≠0 then jv e level else dc.gy (level+1) e.args:=by
 cases e;rw [dc];rfl
theorem sR (level:Nat) (l:List Ex) (i:Nat):dc.gy level (l.drop i)=if i<l.length then (if dc level (l.getD i default)≠0 then dc level (l.getD i default) else dc.gy level (l.drop (i+1))) else 0:=by
 by_cases h:i<l.length
 ·rw [List.drop_eq_getElem_cons h,if_pos h,getD_eq h,dc.gy]
 ·rw [List.drop_of_length_le (by omega),if_neg h,dc.gy]
theorem um (v:aX) (fv:gU v):b8 G 114 [vV v] (ai (fk v)):=by
 intro st
 have h:=Fi (G:=G) v fv 1 (by omega)
 refine aa.body Tryz.func114 rfl Tryz.ntmps114 (by simp) ?_
 (try refine Wk.aw fun _ ag=>?_);(repeat' (first|((first|refine Wk.hd ?_|refine Wk.i ?_);simp -implicitDefEqProofs only [go_sem,seval])|refine ah (h _) ?_|refine Wk.ret fun _ _=>?_|(refine Wk.fin (by assumption) ?_;refine ⟨?_,rfl⟩)|first|refine Wk.o ?_|refine Wk.q (by assumption) ?_));all_goals (repeat subst ag)
 all_goals rfl
theorem Fm:∀ e:Ex,j0 e→∀ level:Nat,level≤1000→b8 G 83 [vE e,ai level] (ai (dc level e)):=by
 intro e
 induction e using Ex.ind with
 |h e ih=>
  intro fe level hlv st
  obtain ⟨a1,a2,a3,a4,a5,a6⟩:=(gq e).1 fe
  have hfo:=I2 (G:=G) e fe
  have hva:=um (G:=G) e.value a2
  have htw:=LS (G:=G) e.keys a4
  rw [B1] at htw
  rw [p7]
  by_cases hn:jv e level=0
  ·rw [if_neg (by simp [hn])]
   have hn':=hn
   rw [sQ] at hn'
   have hd:¬ 16<level:=fun h=>by rw [if_pos h] at hn';omega
   rw [if_neg hd] at hn'
   have hff:iC e=true:=by
    cases h:iC e
    ·rw [if_pos h] at hn';omega
    ·rfl
   rw [if_neg (by simp [hff])] at hn'
   have hk:¬ (e.kind=1∧fk e.value≠0):=fun h=>by rw [if_pos h] at hn';exact h.2 hn'
   rw [if_neg hk] at hn'
   have hl:¬ 1024<e.args.length:=fun h=>by rw [if_pos h] at hn';omega
   rw [if_neg hl] at hn'
   have hr:kA e.keys=false:=by
    cases h:kA e.keys
    ·rfl
    ·rw [if_pos h] at hn';omega
   rw [hff] at hfo
   rw [hr] at htw
   have hk1:e.kind=1→fk e.value=0:=fun h=>Decidable.not_not.1 fun h'=>hk ⟨h,h'⟩
   refine aa.body Tryz.func83 rfl Tryz.ntmps83 (by simp) ?_
   (try refine Wk.aw fun _ ag=>?_);(repeat' (first|((first|refine Wk.hd ?_|refine Wk.i ?_);simp -implicitDefEqProofs (disch:=omega) only [go_sem,seval])|(refine ay (fun hc=>?_) (fun hc=>?_)<;>try omega)|refine ah (hfo _) ?_|refine ah (hva _) ?_|refine ah (htw _) ?_|refine Wk.o ?_));all_goals (repeat subst ag)
   all_goals first
    |(exfalso;simp_all;done)
    |skip
   all_goals refine AW.cD (fun i:Nat=>[(1,ai ↑level),(2,.ptr st.aj.length 0),(6,ai ↑i)]) (fun _=>[.cells (e.enc.map .d)]) (fun _=>[]) (fun i=>i≤e.args.length∧dc.gy (level+1) (e.args.drop i)=dc.gy (level+1) e.args) (fun i=>e.args.length - i) 0 (by simp -implicitDefEqProofs (disch:=omega) only [go_sem,seval]<;>first|rfl|exact ⟨rfl,rfl⟩|skip) (by simp -implicitDefEqProofs (disch:=omega) only [go_sem,seval]<;>first|rfl|exact ⟨rfl,rfl⟩|skip) ⟨by omega,by rw [List.drop_zero]⟩ ?_
   all_goals (intro i ⟨g1,g2⟩;have g3:=sR (level+1) e.args i;rw [←g2])
   all_goals (try refine Wk.aw fun _ ag=>?_);(repeat' (first|((first|refine Wk.hd ?_|refine Wk.i ?_);simp -implicitDefEqProofs (disch:=omega) only [go_sem,seval])|(refine ay (fun hc=>?_) (fun hc=>?_)<;>try omega)|refine ah (ih _ (aB (by omega)) (a6 _ (aB (by omega))) (level+1) (by omega) _) ?_|refine Wk.ret fun _ _=>?_|(refine Wk.fin (by assumption) ?_;refine ⟨?_,rfl⟩)|first|refine Wk.o ?_|refine Wk.q (by assumption) ?_|refine Wk.sw fun _ ag=>?_));all_goals (repeat subst ag)
   all_goals first
    |(rw [if_pos (by first|assumption|omega),if_pos (by assumption)] at g3;rw [g3];done)
    |(rw [if_neg (by first|assumption|omega)] at g3;rw [g3];done)
    |skip
   all_goals (rw [if_pos (by first|assumption|omega),if_neg (by assumption)] at g3)
   all_goals ((refine ⟨i+1,gk.mk ?_ ?_ ?_ (by simp -implicitDefEqProofs (disch:=omega) only [go_sem,seval]) (by simp -implicitDefEqProofs (disch:=omega) only [go_sem,seval]) (by first|rfl|(simp -implicitDefEqProofs (disch:=omega) only [go_sem,seval];all_goals omega)) (by first|rfl|(simp -implicitDefEqProofs (disch:=omega) only [go_sem,seval];all_goals omega))⟩;focus (try (simp -implicitDefEqProofs (disch:=omega) only [go_sem,seval]);try ((repeat' apply And.intro)<;>first|rfl|trivial|refine aD ?_|refine aE ?_|refine ax ?_|skip))))
   all_goals first|omega|exact ⟨by omega,by rw [←g2,g3]⟩
  ·rw [if_pos hn]
   rw [sQ] at hn ⊢
   by_cases hd:16<level
   ·rw [if_pos hd]
    refine aa.body Tryz.func83 rfl Tryz.ntmps83 (by simp) ?_
    (try refine Wk.aw fun _ ag=>?_);(repeat' (first|((refine Wk.i ?_);simp -implicitDefEqProofs (disch:=omega) only [go_sem,seval])|(refine ay (fun hc=>?_) (fun hc=>?_)<;>try omega)|refine Wk.ret fun _ _=>?_|(refine Wk.fin (by assumption) ?_;refine ⟨?_,rfl⟩)|first|refine Wk.o ?_|refine Wk.q (by assumption) ?_));all_goals (repeat subst ag)
    all_goals rfl
   ·rw [if_neg hd] at hn ⊢
    cases hff:iC e
    ·rw [hff] at hfo
     rw [if_pos rfl]
     refine aa.body Tryz.func83 rfl Tryz.ntmps83 (by simp) ?_
     (try refine Wk.aw fun _ ag=>?_);(repeat' (first|((first|refine Wk.hd ?_|refine Wk.i ?_);simp -implicitDefEqProofs (disch:=omega) only [go_sem,seval])|(refine ay (fun hc=>?_) (fun hc=>?_)<;>try omega)|refine ah (hfo _) ?_|refine Wk.ret fun _ _=>?_|(refine Wk.fin (by assumption) ?_;refine ⟨?_,rfl⟩)|first|refine Wk.o ?_|refine Wk.q (by assumption) ?_));all_goals (repeat subst ag)
     all_goals rfl
    ·rw [hff] at hfo hn
     rw [if_neg (by simp)] at hn ⊢
     by_cases hk:e.kind=1∧fk e.value≠0
     ·rw [if_pos hk]
      obtain ⟨k1,k2⟩:=hk
      refine aa.body Tryz.func83 rfl Tryz.ntmps83 (by simp) ?_
      (try refine Wk.aw fun _ ag=>?_);(repeat' (first|((first|refine Wk.hd ?_|refine Wk.i ?_);simp -implicitDefEqProofs (disch:=omega) only [go_sem,seval,k1])|(refine ay (fun hc=>?_) (fun hc=>?_)<;>try omega)|refine ah (hfo _) ?_|refine ah (hva _) ?_|refine Wk.ret fun _ _=>?_|(refine Wk.fin (by assumption) ?_;refine ⟨?_,rfl⟩)|first|refine Wk.o ?_|refine Wk.q (by assumption) ?_));all_goals (repeat subst ag)
      all_goals rfl
     ·rw [if_neg hk] at hn ⊢
      by_cases hl:1024<e.args.length
      ·rw [if_pos hl]
       refine aa.body Tryz.func83 rfl Tryz.ntmps83 (by simp) ?_
       (try refine Wk.aw fun _ ag=>?_);(repeat' (first|((first|refine Wk.hd ?_|refine Wk.i ?_);simp -implicitDefEqProofs (disch:=omega) only [go_sem,seval])|(refine ay (fun hc=>?_) (fun hc=>?_)<;>try omega)|refine ah (hfo _) ?_|refine ah (hva _) ?_|refine Wk.ret fun _ _=>?_|(refine Wk.fin (by assumption) ?_;refine ⟨?_,rfl⟩)|first|refine Wk.o ?_|refine Wk.q (by assumption) ?_));all_goals (repeat subst ag)
       all_goals first|rfl|(exfalso;exact hk ⟨‹_›,‹_›⟩)
      ·rw [if_neg hl] at hn ⊢
       cases hr:kA e.keys
       ·rw [hr] at hn;simp at hn
       ·rw [hr] at htw
        rw [if_pos rfl]
        refine aa.body Tryz.func83 rfl Tryz.ntmps83 (by simp) ?_
        (try refine Wk.aw fun _ ag=>?_);(repeat' (first|((first|refine Wk.hd ?_|refine Wk.i ?_);simp -implicitDefEqProofs (disch:=omega) only [go_sem,seval])|(refine ay (fun hc=>?_) (fun hc=>?_)<;>try omega)|refine ah (hfo _) ?_|refine ah (hva _) ?_|refine ah (htw _) ?_|refine Wk.ret fun _ _=>?_|(refine Wk.fin (by assumption) ?_;refine ⟨?_,rfl⟩)|first|refine Wk.o ?_|refine Wk.q (by assumption) ?_));all_goals (repeat subst ag)
        all_goals first|rfl|(exfalso;exact hk ⟨‹_›,‹_›⟩)
theorem zq (e:Ex) (fe:j0 e) (hc:bS e≤4611686018427387904):b8 G 54 [vE e] (ai (dW e)):=by
 intro st
 have h1:=zm (G:=G) (bS e) e (Nat.le_refl _) hc
 have h2:=Fm (G:=G) e fe 1 (by omega)
 rw [dW]
 refine aa.body Tryz.func54 rfl Tryz.ntmps54 (by simp) ?_
 (try refine Wk.aw fun _ ag=>?_);(repeat' (first|((first|refine Wk.hd ?_|refine Wk.i ?_);simp -implicitDefEqProofs only [go_sem,seval])|(refine ay (fun hc=>?_) (fun hc=>?_)<;>try omega)|refine ah (h1 _) ?_|refine ah (h2 _) ?_|refine Wk.ret fun _ _=>?_|(refine Wk.fin (by assumption) ?_;refine ⟨?_,rfl⟩)|first|refine Wk.o ?_|refine Wk.q (by assumption) ?_));all_goals (repeat subst ag)
 ·rw [if_pos (by omega)]
 ·rw [if_neg (by omega)]
theorem xd {level:Nat} {e:Ex} (h:dc level e=0):jv e level=0∧∀ x∈e.args,dc (level+1) x=0:=by
 rw [p7] at h
 by_cases hn:jv e level=0
 ·rw [if_neg (by simp [hn])] at h
  refine ⟨hn,?_⟩
  generalize e.args=l at h
  induction l with
  |nil=>intro x hx;simp at hx
  |cons a r ih=>
   rw [dc.gy] at h
   by_cases ha:dc (level+1) a=0
   ·rw [if_neg (by simp [ha])] at h
    intro x hx
    rcases List.mem_cons.1 hx with rfl|hx
    ·exact ha
    ·exact ih h x hx
   ·rw [if_pos ha] at h;exact absurd h ha
 ·rw [if_pos hn] at h;exact absurd h hn
structure xe (e:Ex) (level:Nat):Prop where
 Zu:level≤16
 k1:1≤e.kind
 k2:e.kind≤10
 named:dJ e=true
 arity:jJ e=true
 keyed:gR e=true
 zero:e.kind≠1→jg e.value=true
 val:e.kind=1→fk e.value=0
 len:e.args.length≤1024
 rep:kA e.keys=false
theorem B3 {level:Nat} {e:Ex} (h:jv e level=0):xe e level:=by
 rw [sQ] at h
 have hd:¬ 16<level:=fun h'=>by rw [if_pos h'] at h;omega
 rw [if_neg hd] at h
 have hff:iC e=true:=by
  cases h':iC e
  ·rw [if_pos h'] at h;omega
  ·rfl
 rw [if_neg (by simp [hff])] at h
 have hk:¬ (e.kind=1∧fk e.value≠0):=fun h'=>by rw [if_pos h'] at h;exact h'.2 h
 rw [if_neg hk] at h
 have hl:¬ 1024<e.args.length:=fun h'=>by rw [if_pos h'] at h;omega
 rw [if_neg hl] at h
 have hr:kA e.keys=false:=by
  cases h':kA e.keys
  ·rfl
  ·rw [if_pos h'] at h;omega
 simp only [iC,vk,Bool.and_eq_true,Bool.or_eq_true,decide_eq_true_eq] at hff
 obtain ⟨⟨⟨⟨⟨q1,q2⟩,q3⟩,q4⟩,q5⟩,q6⟩:=hff
 exact ⟨by omega,q1,q2,q4,q3,q6,fun h=>q5.resolve_left h,fun h=>Decidable.not_not.1 fun h'=>hk ⟨h,h'⟩,by omega,hr⟩
theorem xe.Pa {e:Ex} {level:Nat} (h:xe e level):((e.kind=1∨e.kind=2)→e.args.length=0)∧((e.kind=3∨e.kind=6)→e.args.length=1)∧((e.kind=4∨e.kind=7)→e.args.length=2)∧(e.kind=8→e.args.length=3)∧(e.kind=10→e.keys.length=e.args.length)∧(e.kind=7→0<bB e.name):=by
 have h1:=h.arity
 have h2:=h.keyed
 have h3:=h.named
 simp only [jJ,gR,dJ] at h1 h2 h3
 refine ⟨?_,?_,?_,?_,?_,?_⟩<;>grind
theorem Fo {e:Ex} {level:Nat} (h:xe e level):1≤force e:=by
 have:=h.Pa.2.2.2.2.2
 unfold force
 repeat' split
 all_goals first|omega|skip
def dB (e:Ex):List az:=if e.kind=10 then src.nT e.args e.keys else e.args.map src
theorem B4 (e:Ex):(dB e).length=e.args.length:=by
 unfold dB;split
 ·exact Gl _ _
 ·simp
theorem qH {e:Ex} (hv:ot e):lens (dB e)+32≤bq e:=by
 have h3:=((l8 e).1 hv).2
 have hl:=yd (l:=e.args) fun x hx=>ou x (h3 x hx)
 have hm:=uM (l:=e.args) (ks:=e.keys) fun x hx=>ou x (h3 x hx)
 rw [iq]
 unfold dB
 split<;>omega
end Go.Proofs.YthnoiikjfcnlhaaGreatDoor
end
