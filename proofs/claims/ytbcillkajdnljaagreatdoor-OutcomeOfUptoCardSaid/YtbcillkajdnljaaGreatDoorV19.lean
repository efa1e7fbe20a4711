import Derived.Test.YtbcillkajdnljaaGreatDoorV18
set_option linter.all false
section
set_option maxHeartbeats 8000000
set_option maxRecDepth 20000
namespace Go.Proofs.YtbcillkajdnljaaGreatDoor
open Tryz
open Go.Abs
attribute [local irreducible] AW OX GQ bK bO bz aY aA
variable {G:World→Nat→Prop}
variable {T:List Tk}
def arF (T:List Tk) (rc:Nat→Rr Ex) (s:aF):Nat→List Ex→Nat→Rr (List Ex)
 |0,_,_=> .er 0 0 0
 |f+1,acc,j=>match rc j with
  | .er c q m=> .er c q m
  | .ok x m=>if bU T m [44]=true then arF T rc s f (acc++[x]) (m+1) else if bU T m s=true then .ok (acc++[x]) (m+1) else .er (bD T m) m m
structure AcA (T:List Tk) (i:Nat) (l:List Ex) (j:Nat):Prop where
 lt:i≤j
 le:j≤T.length
 g:∀ x∈l,gE x
 len:l.length≤j
 w:bq.ic l+wA T i≤wA T j
def ac_s {i j m:Nat} {acc:List Ex} {x:Ex} (a:AcA T i acc j) (b:GdE T j x m) (hm:m<T.length):GdA T i (acc++[x]) (m+1):=by
 have w1:=wA_s hm;obtain ⟨a1,a2,a3,a4,a5⟩:=a;obtain ⟨b1,b2,b3,b4⟩:=b;refine ⟨by omega,hm,fun y hy=>?_,by simp;omega,?_⟩
 ·rcases abo.1 hy with hy|hy
  ·exact a3 y hy
  ·simp at hy;subst hy;exact b3
 ·simp only [nk,bq.ic];omega
def GdA.ac {i j:Nat} {l:List Ex} (h:GdA T i l j):AcA T i l j:=⟨Nat.le_of_lt h.lt,h.le,h.g,h.len,h.w⟩
theorem arF_ok {i:Nat} {s:aF} {rc:Nat→Rr Ex} (hrc:∀ j,i≤j→j≤T.length→okR T (GdE T j) (rc j)):∀ (f:Nat) (acc:List Ex) (j:Nat),AcA T i acc j→okR T (GdA T i) (arF T rc s f acc j)
 |0,_,_,_=>aaK _
 |f+1,acc,j,h=>by
  have h2:=hrc j h.lt h.le;rw [arF];split
  ·rename_i e2;rw [e2] at h2;exact h2
  ·rename_i x m e2;rw [e2] at h2;split
   ·rename_i o2;exact arF_ok hrc f _ _ (ac_s h h2 (bW o2)).ac
   ·split
    ·rename_i o2;exact ac_s h h2 (bW o2)
    ·exact h2.le
def l_args (h:LG G T) (s:aF) (i:Nat) (hi:i≤T.length) (ih:LtIH G T (20*(T.length - i)+13)):RdL G T 572 [vs s] i vLx (GdA T i):=by
 have h6:=h.ok.1;have hc:∀ j,∃ r:Rr Ex,i≤j→j≤T.length→okR T (GdE T j) r∧∀ B L K,aA prog G 442 [.ptr B.length 0] (rL B L K T j) (fun o s=>(o,s)=rdR vE B L K T r):=fun j=>by
  by_cases hj:i≤j∧j≤T.length
  ·obtain ⟨r,g,h1⟩:=ih.cond j hj.2 (by omega);exact ⟨r,fun _ _=>⟨g,h1⟩⟩
  ·exact ⟨.er 0 0 0,fun a b=>absurd ⟨a,b⟩ hj⟩
 obtain ⟨rc,hrc⟩:=Classical.axiomOfChoice hc;by_cases o1:bU T i s=true
 ·have hj:=bW o1;have w1:=wA_s hj;exact ⟨.ok [] (i+1),⟨by omega,hj,by simp,by simp,by simp only [bq.ic];omega⟩,fun B L K=>by
   refine aA.iG func572 rfl ntmps572 (by simp) fun _ ag=>?_;simp (disch:=omega) only [go_sem,seval,cX ag,wr,o1];(repeat' first|apply cq.l|apply aZ.i|refine dU.i ?_)<;>try subst ag
   all_goals first|exact ⟨h,by omega⟩|rfl⟩
 have g0:AcA T i [] i:=⟨aat _,hi,by simp,by simp,by simp [bq.ic]⟩;refine ⟨arF T rc s (T.length+1) [] i,arF_ok (fun j a b=>(hrc j a b).1) _ _ _ g0,fun B L K=>?_⟩;generalize hr:arF T rc s (T.length+1) [] i=r;refine aA.iG func572 rfl ntmps572 (by simp) fun _ ag=>?_;simp (disch:=omega) only [go_sem,seval,cX ag,wr,o1];(repeat' first|apply cq.l|apply aZ.i)<;>try subst ag
 ·exact ⟨h,by omega⟩
 refine AW.T5 (B:=B) (L:=L) (K:=K) (z0:=bI T i) rfl (fun x:Nat×List Ex×Nat=>[(0,.ptr B.length 0),(1,vs s),(5,lz K.length (x.2.1.map Ex.enc))]) (fun x=>bI T x.2.2) (fun _=>[]) (fun x=>K++k9 64 10 (x.2.1.map Ex.enc))
  (fun x=>arF T rc s x.1 x.2.1 x.2.2=r∧AcA T i x.2.1 x.2.2∧T.length<x.1+x.2.2) (fun x=>x.1) (T.length+1,[],i) ?_ ⟨hr,g0,by simp only;omega⟩ ?_
 ·exact ⟨by simp [k9],by simp (disch:=first|omega|(simp only [go_sem,aan,aar];try omega)) only [go_sem,seval]⟩
 clear hr g0;rintro ⟨f,acc,j⟩ ⟨p1,p2,p3⟩;simp only at p1 p2 p3;have p4:=p2.le;have p5:=p2.len;cases f with
 |zero=>omega
 |succ f=>
 rw [arF] at p1;obtain ⟨g2,h2⟩:=hrc j p2.lt p2.le;cases e2:rc j with
 |er c q m=>
  rw [e2] at p1 h2
  subst p1
  refine Wk.go fun _ ag=>?_;simp (disch:=omega) only [go_sem,seval,cX ag,wr,PZ (h2 _ _ _)];(repeat' first|apply cq.l|refine dU.i ?_)<;>try subst ag
  all_goals first|exact ⟨h,by omega⟩|rfl
 |ok x m=>
  rw [e2] at p1 h2 g2
  simp only at p1
  have g3:=g2.le
  by_cases o2:bU T m [44]=true
  ·rw [if_pos o2] at p1
   have hm:=bW o2
   refine Wk.go fun _ ag=>?_;simp (disch:=first|omega|exact ⟨by kernel_rfl⟩|(simp only [go_sem,aan];try omega)) only [go_sem,seval,cX ag,wd,wr,o2,PZ (h2 _ _ _)];(repeat' first|apply cq.l|apply aZ.i)<;>try subst ag
   all_goals first|exact ⟨h,by omega⟩|skip
   refine cB.i ⟨(f,acc++[x],m+1),⟨by simp (disch:=first|omega|(simp only [go_sem,aan,aar];try omega)) only [go_sem,seval,aaQ,aas,aau]<;>omega,⟨p1,(ac_s p2 g2 hm).ac,by have:=g2.lt;simp only;omega⟩,by simp only;omega⟩⟩
  rw [if_neg o2] at p1
  by_cases o3:bU T m s=true
  ·rw [if_pos o3] at p1
   subst p1
   refine Wk.go fun _ ag=>?_;simp (disch:=first|omega|exact ⟨by kernel_rfl⟩|(simp only [go_sem,aan];try omega)) only [go_sem,seval,cX ag,wd,wr,o2,o3,PZ (h2 _ _ _)];(repeat' first|apply cq.l|apply aZ.i|refine dU.i ?_)<;>try subst ag
   all_goals first|exact ⟨h,by omega⟩|skip
   simp [rdR_ok,vLx]
  ·rw [if_neg o3] at p1
   subst p1
   refine Wk.go fun _ ag=>?_;simp (disch:=first|omega|exact ⟨by kernel_rfl⟩|(simp only [go_sem,aan];try omega)) only [go_sem,seval,cX ag,wd,wr,o2,o3,PZ (h2 _ _ _)];(repeat' first|apply cq.l|apply aZ.i|refine dU.i ?_)<;>try subst ag
   all_goals first|exact ⟨h,by omega⟩|rfl
def keyT (T:List Tk) (j:Nat):Bool:=decide ((ez T j).kind=1)||decide ((ez T j).kind=3)
def enF (T:List Tk) (rc:Nat→Rr Ex):Nat→List Ex→List aF→Nat→Rr Ex
 |0,_,_,_=> .er 0 0 0
 |f+1,acc,ks,j=>if keyT T j=true then (if bU T (j+1) [58]=true then (match rc (j+1+1) with
   | .er c q m=> .er c q m
   | .ok x m=>if bU T m [44]=true then enF T rc f (acc++[x]) (ks++[(ez T j).text]) (m+1)
    else if bU T m [125]=true then .ok (.mk 10 [] ct (acc++[x]) (ks++[(ez T j).text])) (m+1) else .er (bD T m) m m)
   else .er (bD T (j+1)) (j+1) (j+1))
  else if j<T.length then .er 5 j j else .er 4 j j
structure AcK (T:List Tk) (i:Nat) (l:List Ex) (ks:List aF) (j:Nat):Prop where
 lt:i≤j
 le:j≤T.length
 g:∀ x∈l,gE x
 k:∀ k∈ks,k.length≤1048576
 len:l.length≤j
 eq:ks.length=l.length
 w:bq.ic l+cj.dm ks+wA T i≤wA T j
def vE_map (acc:List Ex) (x:Ex) (ks:List aF) (k:aF):vE (Ex.mk 10 [] ct (acc++[x]) (ks++[k]))=V.agg [.d (.int .i64 10),.d (.str []),.d (.int .i64 0),.d (.bool false),.d (.int .i64 0),.d (.str []),.d (.sl []),.d (.sl []),.d (.sl (acc.map Ex.enc++[x.enc])),.d (.sl (bt ks++[[.str k]]))]:=by
 rw [vE,Ex.aP];simp [Ex.args,Ex.keys,Ex.kind,Ex.name,Ex.value,ct,aX.aP,aX.kind,aX.bool,aX.int,aX.str,aX.list,aX.keys,bt]
def keyT_lt {j:Nat} (h:keyT T j=true):j<T.length∧ez T j=T.getD j default:=by
 simp only [keyT,aaU,aau] at h;exact peek_lt (by omega)
def ak_s (ok:dh T) {i j m:Nat} {acc:List Ex} {ks:List aF} {x:Ex} (a:AcK T i acc ks j) (hj:j<T.length∧ez T j=T.getD j default) (o:j+1<T.length) (b:GdE T (j+1+1) x m) (hm:m<T.length):
  AcK T i (acc++[x]) (ks++[(ez T j).text]) (m+1)∧bq.ic (acc++[x])+cj.dm (ks++[(ez T j).text])+wA T i+200≤wA T (m+1):=by
 have w1:=wA_s hj.1
 have w2:=wA_s o
 have w3:=wA_s hm
 have ht:=ok.2 _ (aB hj.1)
 rw [hj.2]
 obtain ⟨a1,a2,a3,a4,a5,a6,a7⟩:=a
 obtain ⟨b1,b2,b3,b4⟩:=b
 have hb:bq.ic (acc++[x])+cj.dm (ks++[(T.getD j default).text])+wA T i+200≤wA T (m+1):=by
  simp only [nk,vn,bq.ic,cj.dm];omega
 refine ⟨⟨by omega,hm,fun y hy=>?_,fun y hy=>?_,by simp;omega,by simp [a6],by omega⟩,hb⟩
 ·rcases abo.1 hy with hy|hy
  ·exact a3 y hy
  ·simp at hy;subst hy;exact b3
 ·rcases abo.1 hy with hy|hy
  ·exact a4 y hy
  ·simp at hy;subst hy;exact ht
def ak_f {i j:Nat} {acc:List Ex} {ks:List aF} (hT:T.length≤1048576) (a:AcK T i acc ks j) (lt:i<j) (w:bq.ic acc+cj.dm ks+wA T i+200≤wA T j):GdE T i (.mk 10 [] ct acc ks) j:=by
 obtain ⟨a1,a2,a3,a4,a5,a6,a7⟩:=a;refine ⟨lt,a2,jV (by simp) qY qZ (by omega) (by omega) a4 a3,?_⟩;simp only [dM,iT,aaA];omega
theorem enF_ok (ok:dh T) {i:Nat} {rc:Nat→Rr Ex} (hrc:∀ j,i<j→j≤T.length→okR T (GdE T j) (rc j)):∀ (f:Nat) (acc:List Ex) (ks:List aF) (j:Nat),AcK T i acc ks j→okR T (GdE T i) (enF T rc f acc ks j)
 |0,_,_,_,_=>aaK _
 |f+1,acc,ks,j,h=>by
  have h0:=h.le;have h1:=h.lt;rw [enF];split
  ·rename_i hk;have hj:=keyT_lt hk;split
   ·rename_i o;have o':=bW o;have h2:=hrc (j+1+1) (by omega) (by omega);split
    ·rename_i e2;rw [e2] at h2;exact h2
    ·rename_i x m e2;rw [e2] at h2;have h3:=h2.lt;split
     ·rename_i o2;exact enF_ok ok hrc f _ _ _ (ak_s ok h hj o' h2 (bW o2)).1
     ·split
      ·rename_i o2;have:=ak_s ok h hj o' h2 (bW o2);exact ak_f ok.1 this.1 (by omega) this.2
      ·exact h2.le
   ·exact hj.1
  ·split
   ·exact h0
   ·exact h0
def l_ents (h:LG G T) (i:Nat) (hi:i≤T.length) (ih:LtIH G T (20*(T.length - i)+13)):RdL G T 573 [] i vE (GdE T i):=by
 have h6:=h.ok.1;have hc:∀ j,∃ r:Rr Ex,i<j→j≤T.length→okR T (GdE T j) r∧∀ B L K,aA prog G 442 [.ptr B.length 0] (rL B L K T j) (fun o s=>(o,s)=rdR vE B L K T r):=fun j=>by
  by_cases hj:i<j∧j≤T.length
  ·obtain ⟨r,g,h1⟩:=ih.cond j hj.2 (by omega);exact ⟨r,fun _ _=>⟨g,h1⟩⟩
  ·exact ⟨.er 0 0 0,fun a b=>absurd ⟨a,b⟩ hj⟩
 obtain ⟨rc,hrc⟩:=Classical.axiomOfChoice hc;have g0:AcK T i [] [] i:=⟨aat _,hi,by simp,by simp,by simp,rfl,by simp [bq.ic,cj.dm]⟩;by_cases o1:bU T i [125]=true
 ·have hj:=bW o1;have w1:=wA_s hj;exact ⟨.ok (.mk 10 [] ct [] []) (i+1),ak_f h6 ⟨by omega,hj,by simp,by simp,by simp,rfl,by simp only [bq.ic,cj.dm];omega⟩ (by omega) (by simp only [bq.ic,cj.dm];omega),fun B L K=>by
   refine aA.iG func573 rfl ntmps573 (by simp) fun _ ag=>?_;simp (disch:=omega) only [go_sem,seval,cX ag,wr,o1];(repeat' first|apply cq.l|apply aZ.i|refine dU.i ?_)<;>try subst ag
   all_goals first|exact ⟨h,by omega⟩|rfl⟩
 refine ⟨enF T rc (T.length+1) [] [] i,enF_ok h.ok (fun j a b=>(hrc j a b).1) _ _ _ _ g0,fun B L K=>?_⟩;generalize hr:enF T rc (T.length+1) [] [] i=r;refine aA.iG func573 rfl ntmps573 (by simp) fun _ ag=>?_;simp (disch:=omega) only [go_sem,seval,cX ag,wr,o1];(repeat' first|apply cq.l|apply aZ.i)<;>try subst ag
 ·exact ⟨h,by omega⟩
 refine AW.T5 (B:=B) (L:=L) (K:=K) (z0:=bI T i) rfl (fun x:Nat×List Ex×List aF×Nat=>[(0,.ptr B.length 0),(2,.ptr (B.length+(L.length+1)) 0),(3,.ptr (B.length+(L.length+1+1)) 0)]) (fun x=>bI T x.2.2.2)
  (fun x=>[.cells Qi,.cells (Xt K.length (x.2.1.map Ex.enc) (bt x.2.2.1))]) (fun x=>K++zu 9 1 64 10 (bt x.2.2.1) (x.2.1.map Ex.enc))
  (fun x=>enF T rc x.1 x.2.1 x.2.2.1 x.2.2.2=r∧AcK T i x.2.1 x.2.2.1 x.2.2.2∧T.length<x.1+x.2.2.2) (fun x=>x.1) (T.length+1,[],[],i) ⟨by simp [Dp,bt,lz],by simp (disch:=first|omega|(simp only [go_sem,aan,aar];try omega)) only [go_sem,seval]⟩ ⟨hr,g0,by simp only;omega⟩ ?_
 clear hr g0;rintro ⟨f,acc,ks,j⟩ ⟨p1,p2,p3⟩;simp only at p1 p2 p3;have p4:=p2.le;have p5:=p2.len;have p6:=p2.eq;have p7:=p2.lt;cases f with
 |zero=>omega
 |succ f=>
 rw [enF] at p1;by_cases hk:keyT T j=true
 rotate_left
 ·rw [if_neg hk] at p1;simp only [keyT,aaU,aau,not_or] at hk;refine Wk.go fun _ ag=>?_;simp (disch:=omega) only [go_sem,seval,cX ag,wr,hk.1,hk.2];(repeat' first|apply cq.l|apply bg.i|refine cE.i fun hc=>?_|apply aZ.i|refine dU.i ?_)<;>try subst ag
  all_goals first|exact ⟨h,by omega⟩|(rw [←p1];simp [*,rdR_er];done)
 rw [if_pos hk] at p1;have hj:=keyT_lt hk;have hj1:=hj.1;simp only [keyT,aaU,aau] at hk;by_cases o2:bU T (j+1) [58]=true
 rotate_left
 ·rw [if_neg o2] at p1;subst p1;rcases hk with hk|hk
  all_goals (refine Wk.go fun _ ag=>?_;simp (disch:=omega) only [go_sem,seval,cX ag,wr,hk,hj1,o2];(repeat' first|apply cq.l|apply aZ.i|refine dU.i ?_)<;>try subst ag)
  all_goals first|exact ⟨h,by omega⟩|rfl
 rw [if_pos o2] at p1;have o2':=bW o2;obtain ⟨g2,h2⟩:=hrc (j+1+1) (by omega) (by omega);have hl:=p2;cases e2:rc (j+1+1) with
 |er c q m=>
  rw [e2] at p1 h2
  subst p1
  rcases hk with hk|hk
  all_goals (refine Wk.go fun _ ag=>?_;simp (disch:=first|omega|exact ⟨by kernel_rfl⟩|(simp only [go_sem,aan];try omega)) only [go_sem,seval,cX ag,wr,hk,hj1,o2];(repeat' first|apply cq.l|apply aZ.i)<;>try subst ag)
  all_goals first|exact ⟨h,by omega⟩|skip
  all_goals
   refine AW.H7 (P:=prog) mx 3 [(1,4)] (by kernel_rfl) (by kernel_rfl) (by simp (disch:=first|omega|(simp only [go_sem,aan,aar];try omega)) only [go_sem,seval];try exact rfl) (by kernel_rfl) call442 rfl (by simp (disch:=first|omega|(simp only [go_sem,aan,aar];try omega)) only [go_sem,seval];try exact rfl) ((h2 _ _ _).mono fun o s e=>by cases e;exact ⟨rfl,rfl⟩) (fun fr_=>?_)
   simp only [bz,aY]
   refine qd ?_
   simp (disch:=first|omega|(simp only [go_sem,aan,aar];try omega)) only [go_sem,seval]
   refine dU.i ?_
   rfl
 |ok x m=>
  rw [e2] at p1 h2 g2
  simp only at p1
  have g3:=g2.le
  have g4:=g2.lt
  rcases hk with hk|hk
  all_goals (refine Wk.go fun _ ag=>?_;simp (disch:=first|omega|exact ⟨by kernel_rfl⟩|(simp only [go_sem,aan];try omega)) only [go_sem,seval,cX ag,wr,hk,hj1,o2];(repeat' first|apply cq.l|apply aZ.i)<;>try subst ag)
  all_goals first|exact ⟨h,by omega⟩|skip
  all_goals
   refine AW.uh (P:=prog) mx 3 [(1,4)] (by kernel_rfl) (by kernel_rfl) (by simp (disch:=first|omega|(simp only [go_sem,aan,aar];try omega)) only [go_sem,seval];try exact rfl) (by kernel_rfl) call442 rfl rfl (by simp (disch:=first|omega|(simp only [go_sem,aan,aar];try omega)) only [go_sem,seval];try exact rfl) ((h2 _ _ _).mono fun o s e=>by cases e;exact ⟨rfl,rfl⟩) (by simp (disch:=first|omega|(simp only [go_sem,aan,aar];try omega)) only [go_sem,seval];try exact rfl)
    (fF (by decide) (by decide) rfl rfl (by simp (disch:=first|omega|(simp only [go_sem,aan,aar];try omega)) only [go_sem,seval]) iz) ?_
   refine kQ fun _ ag=>?_
   by_cases o3:bU T m [44]=true
   ·rw [if_pos o3] at p1
    have hm:=bW o3
    have hs:=ak_s h.ok p2 hj o2' g2 hm
    simp (disch:=first|omega|exact ⟨by kernel_rfl⟩|(simp only [go_sem,aan];try omega)) only [go_sem,seval,cX ag,wd,wr,o3];(repeat' first|apply cq.l|apply aZ.i)<;>try subst ag
    all_goals first|exact ⟨h,by omega⟩|skip
    have ek:bt (ks++[(ez T j).text])=bt ks++[[D.str (ez T j).text]]:=by simp [bt]
    have el:(bt ks).length=acc.length:=by rw [oY,p6]
    refine cB.i ⟨(f,acc++[x],ks++[(ez T j).text],m+1),⟨by simp (disch:=first|omega|(simp only [go_sem,aan,aar];try omega)) only [go_sem,seval,ek,aaQ,aas,aau]<;>omega,⟨p1,hs.1,by simp only;omega⟩,by simp only;omega⟩⟩
   rw [if_neg o3] at p1
   by_cases o4:bU T m [125]=true
   ·rw [if_pos o4] at p1
    subst p1
    simp (disch:=first|omega|exact ⟨by kernel_rfl⟩|(simp only [go_sem,aan];try omega)) only [go_sem,seval,cX ag,wd,wr,o3,o4];(repeat' first|apply cq.l|apply aZ.i|refine dU.i ?_)<;>try subst ag
    all_goals first|exact ⟨h,by omega⟩|skip
    rw [rdR_ok,vE_map]
   ·rw [if_neg o4] at p1
    subst p1
    simp (disch:=first|omega|exact ⟨by kernel_rfl⟩|(simp only [go_sem,aan];try omega)) only [go_sem,seval,cX ag,wd,wr,o3,o4];(repeat' first|apply cq.l|apply aZ.i|refine dU.i ?_)<;>try subst ag
    all_goals first|exact ⟨h,by omega⟩|rfl
def l_lit (k:Int) (b:Bool) (n:Int) (s:aF):b8 G 570 [.agg [.d (.int .i64 k),.d (.bool b),.d (.int .i64 n),.d (.str s),.d (.sl []),.d (.sl [])]] (vE (lit (.mk k b n s [] []))):=by
 have:=c_par_literal (G:=G) (.mk k b n s [] []);rw [vV,aX.aP] at this;exact this
def gd_lit {i:Nat} (hi:i<T.length) (k:Int) (b:Bool) (n:Int) (s:aF) (hs:s.length≤(T.getD i default).text.length) (ok:dh T) (h1: -9223372036854775808≤n) (h2:n≤9223372036854775807):GdE T i (lit (.mk k b n s [] [])) (i+1):=by
 have w1:=wA_s hi;have:=ok.2 _ (aB hi);refine ⟨by omega,hi,jV (by simp) (Jm _ _ _ _ (by omega)) (Jn _ _ _ _ h1 h2) (by simp) (by simp) (by simp) (by simp),?_⟩;simp only [lit,dM,Cg,cj.dm,bq.ic,aaA];omega
def peek_real {j:Nat} (h:(ez T j).kind≠0):fT (ez T j)=true:=by
 rw [ez] at h ⊢;split at h
 ·split at h
  ·rename_i h1 h2;rw [if_pos h1,if_pos h2];exact h2
  ·simp [MZ] at h
 ·simp [MZ] at h
def l_name (h:LG G T) (i:Nat) (hi:i<T.length) (s:aF) (hs:(T.getD i default).text=s) (ih:LtIH G T (20*(T.length - i)+1)):RdL G T 571 [vs s] (i+1) vE (GdE T i):=by
 have h6:=h.ok.1;have hw:=fun s st=>c_par_word (G:=G) s st;have hl:=fun k b n s st=>l_lit (G:=G) k b n s st;have w1:=wA_s hi;have ht:=h.ok.2 _ (aB hi);rw [hs] at w1 ht;by_cases h1:s=[110,117,108,108]
 ·exact ⟨.ok (lit (.mk 0 false 0 [] [] [])) (i+1),gd_lit hi 0 false 0 [] (by simp) h.ok (by omega) (by omega),fun B L K=>by
  refine aA.iG func571 rfl ntmps571 (by simp) fun _ ag=>?_;simp (disch:=omega) only [go_sem,seval,cX ag,wr,h1,bC (hl _ _ _ _ _)];(repeat' first|apply cq.l|refine dU.i ?_)<;>try subst ag
  all_goals first|exact ⟨h,by omega⟩|rfl⟩
 by_cases h2:(decide (s=gX)||decide (s=fY)||decide (s=jc))=true
 ·exact ⟨.ok (lit (.mk 1 (decide (s=[116,114,117,101])) 0 [] [] [])) (i+1),gd_lit hi 1 _ 0 [] (by simp) h.ok (by omega) (by omega),fun B L K=>by
  refine aA.iG func571 rfl ntmps571 (by simp) fun _ ag=>?_;simp (disch:=omega) only [go_sem,seval,cX ag,wr,h1,h2,bC (hw _ _),bC (hl _ _ _ _ _)];(repeat' first|apply cq.l|refine dU.i ?_)<;>try subst ag
  all_goals first|exact ⟨h,by omega⟩|rfl⟩
 have h2:=Bool.eq_false_iff.2 h2;by_cases o1:bU T (i+1) [40]=true
 rotate_left
 ·refine ⟨.ok (.mk 2 s ct [] []) (i+1),⟨by omega,hi,jV ht qY qZ (by simp) (by simp) (by simp) (by simp),?_⟩,fun B L K=>by
   refine aA.iG func571 rfl ntmps571 (by simp) fun _ ag=>?_;simp (disch:=omega) only [go_sem,seval,cX ag,wr,h1,h2,o1,bC (hw _ _)];(repeat' first|apply cq.l|apply aZ.i|refine dU.i ?_)<;>try subst ag
   all_goals first|exact ⟨h,by omega⟩|rfl⟩
  simp only [dM,iT,cj.dm,bq.ic];omega
 have hj:=bW o1;have w2:=wA_s hj;obtain ⟨r,g,h3⟩:=ih.args [41] (i+1+1) (by omega) (by omega);cases r with
 |er c k j=>exact ⟨.er c k j,g,fun B L K=>by
  refine aA.iG func571 rfl ntmps571 (by simp) fun _ ag=>?_;simp (disch:=omega) only [go_sem,seval,cX ag,wr,h1,h2,o1,bC (hw _ _),PZ (h3 _ _ _)];(repeat' first|apply cq.l|apply aZ.i|refine dU.i ?_)<;>try subst ag
  all_goals first|exact ⟨h,by omega⟩|rfl⟩
 |ok l j=>
 obtain ⟨a1,a2,a3,a4,a5⟩:=g;refine ⟨.ok (.mk 5 s ct l []) j,⟨by omega,a2,jV ht qY qZ (by omega) (by simp) (by simp) a3,?_⟩,fun B L K=>by
  refine aA.iG func571 rfl ntmps571 (by simp) fun _ ag=>?_;simp (disch:=omega) only [go_sem,seval,cX ag,wr,h1,h2,o1,bC (hw _ _),PZ (h3 _ _ _),vLx];(repeat' first|apply cq.l|apply aZ.i|refine dU.i ?_)<;>try subst ag
  all_goals first|exact ⟨h,by omega⟩|(rw [rdR_ok,vE,mk_enc])⟩
 simp only [dM,iT,cj.dm];omega
def l_atom (h:LG G T) (i:Nat) (hi:i≤T.length) (ih:LtIH G T (20*(T.length - i)+1)):RdL G T 561 [] i vE (GdE T i):=by
 have h6:=h.ok.1;have hl:=fun k b n s st=>l_lit (G:=G) k b n s st;by_cases n0:i<T.length
 rotate_left
 ·exact ⟨.er 4 i i,hi,fun B L K=>by
  refine aA.iG func561 rfl ntmps561 (by simp) fun _ ag=>?_;simp (disch:=omega) only [go_sem,seval,cX ag,wr,n0];(repeat' first|apply cq.l|apply aZ.i|refine dU.i ?_)<;>try subst ag
  all_goals first|exact ⟨h,by omega⟩|rfl⟩
 by_cases k0:(ez T i).kind=0
 ·exact ⟨.er 5 i i,hi,fun B L K=>by
  refine aA.iG func561 rfl ntmps561 (by simp) fun _ ag=>?_;simp (disch:=omega) only [go_sem,seval,cX ag,wr,n0,k0];(repeat' first|apply cq.l|apply aZ.i|refine dU.i ?_)<;>try subst ag
  all_goals first|exact ⟨h,by omega⟩|rfl⟩
 have hr:=peek_real k0;have hp:=(peek_lt k0).2;have ht:=h.ok.2 _ (aB n0);have w1:=wA_s n0;rw [fT] at hr;by_cases k2:(ez T i).kind=2
 ·rw [if_neg (by omega),if_pos k2] at hr;have hd:=hr;simp only [fZ,aas,aau,aaE] at hd;have hat:=vm (G:=G) (ez T i).text (by rw [hp];exact ht) (cZ (ez T i).text) (by rw [Dq (ez T i).text hd.1.1.1 hd.1.2,if_pos (by omega)]);exact ⟨.ok (lit (.mk 2 false (cZ (ez T i).text) [] [] [])) (i+1),gd_lit n0 2 false _ [] (by simp) h.ok (by omega) (by omega),fun B L K=>by
   refine aA.iG func561 rfl ntmps561 (by simp) fun _ ag=>?_;simp (disch:=omega) only [go_sem,seval,cX ag,wr,n0,k0,k2,bC (hat _),bC (hl _ _ _ _ _)];(repeat' first|apply cq.l|apply aZ.i|refine dU.i ?_)<;>try subst ag
   all_goals first|exact ⟨h,by omega⟩|rfl⟩
 by_cases k3:(ez T i).kind=3
 ·exact ⟨.ok (lit (.mk 3 false 0 (ez T i).text [] [])) (i+1),gd_lit n0 3 false 0 _ (by rw [hp];exact aat _) h.ok (by omega) (by omega),fun B L K=>by
   refine aA.iG func561 rfl ntmps561 (by simp) fun _ ag=>?_;simp (disch:=omega) only [go_sem,seval,cX ag,wr,n0,k0,k2,k3,bC (hl _ _ _ _ _)];(repeat' first|apply cq.l|apply aZ.i|refine dU.i ?_)<;>try subst ag
   all_goals first|exact ⟨h,by omega⟩|rfl⟩
 by_cases k1:(ez T i).kind=1
 ·obtain ⟨r,g,h3⟩:=l_name h i n0 (ez T i).text (by rw [hp]) ih;cases r with
  |er c k j=>exact ⟨.er c k j,g,fun B L K=>by
   refine aA.iG func561 rfl ntmps561 (by simp) fun _ ag=>?_;simp (disch:=omega) only [go_sem,seval,cX ag,wr,n0,k0,k1,k2,k3,PZ (h3 _ _ _)];(repeat' first|apply cq.l|apply aZ.i|refine dU.i ?_)<;>try subst ag
   all_goals first|exact ⟨h,by omega⟩|rfl⟩
  |ok e j=>exact ⟨.ok e j,g,fun B L K=>by
   refine aA.iG func561 rfl ntmps561 (by simp) fun _ ag=>?_;simp (disch:=omega) only [go_sem,seval,cX ag,wr,n0,k0,k1,k2,k3,PZ (h3 _ _ _)];(repeat' first|apply cq.l|apply aZ.i|refine dU.i ?_)<;>try subst ag
   all_goals first|exact ⟨h,by omega⟩|rfl⟩
 by_cases o1:bU T i [40]=true
 ·obtain ⟨r,g,h3⟩:=ih.cond (i+1) (by omega) (by omega);cases r with
  |er c k j=>exact ⟨.er c k j,g,fun B L K=>by
   refine aA.iG func561 rfl ntmps561 (by simp) fun _ ag=>?_;simp (disch:=omega) only [go_sem,seval,cX ag,wr,n0,k0,k1,k2,k3,o1,PZ (h3 _ _ _)];(repeat' first|apply cq.l|apply aZ.i|refine dU.i ?_)<;>try subst ag
   all_goals first|exact ⟨h,by omega⟩|rfl⟩
  |ok e j=>
  obtain ⟨a1,a2,a3,a4⟩:=g;by_cases o4:bU T j [41]=true
  ·have hj:=bW o4;have w2:=wA_s hj;exact ⟨.ok e (j+1),⟨by omega,hj,a3,by omega⟩,fun B L K=>by
    refine aA.iG func561 rfl ntmps561 (by simp) fun _ ag=>?_;simp (disch:=omega) only [go_sem,seval,cX ag,wr,n0,k0,k1,k2,k3,o1,o4,PZ (h3 _ _ _)];(repeat' first|apply cq.l|apply aZ.i|refine dU.i ?_)<;>try subst ag
    all_goals first|exact ⟨h,by omega⟩|rfl⟩
  ·exact ⟨.er (bD T j) j j,a2,fun B L K=>by
    refine aA.iG func561 rfl ntmps561 (by simp) fun _ ag=>?_;simp (disch:=omega) only [go_sem,seval,cX ag,wr,n0,k0,k1,k2,k3,o1,o4,PZ (h3 _ _ _)];(repeat' first|apply cq.l|apply aZ.i|refine dU.i ?_)<;>try subst ag
    all_goals first|exact ⟨h,by omega⟩|rfl⟩
 by_cases o2:bU T i [91]=true
 ·obtain ⟨r,g,h3⟩:=ih.args [93] (i+1) (by omega) (by omega);cases r with
  |er c k j=>exact ⟨.er c k j,g,fun B L K=>by
   refine aA.iG func561 rfl ntmps561 (by simp) fun _ ag=>?_;simp (disch:=omega) only [go_sem,seval,cX ag,wr,n0,k0,k1,k2,k3,o1,o2,PZ (h3 _ _ _)];(repeat' first|apply cq.l|apply aZ.i|refine dU.i ?_)<;>try subst ag
   all_goals first|exact ⟨h,by omega⟩|rfl⟩
  |ok l j=>
  obtain ⟨a1,a2,a3,a4,a5⟩:=g;refine ⟨.ok (.mk 9 [] ct l []) j,⟨by omega,a2,jV (by simp) qY qZ (by omega) (by simp) (by simp) a3,?_⟩,fun B L K=>by
   refine aA.iG func561 rfl ntmps561 (by simp) fun _ ag=>?_;simp (disch:=omega) only [go_sem,seval,cX ag,wr,n0,k0,k1,k2,k3,o1,o2,PZ (h3 _ _ _),vLx];(repeat' first|apply cq.l|apply aZ.i|refine dU.i ?_)<;>try subst ag
   all_goals first|exact ⟨h,by omega⟩|(rw [rdR_ok,vE,mk_enc])⟩
  simp only [dM,iT,cj.dm,aaA];omega
 by_cases o3:bU T i [123]=true
 ·obtain ⟨r,g,h3⟩:=ih.kW (i+1) (by omega) (by omega);cases r with
  |er c k j=>exact ⟨.er c k j,g,fun B L K=>by
   refine aA.iG func561 rfl ntmps561 (by simp) fun _ ag=>?_;simp (disch:=omega) only [go_sem,seval,cX ag,wr,n0,k0,k1,k2,k3,o1,o2,o3,PZ (h3 _ _ _)];(repeat' first|apply cq.l|apply aZ.i|refine dU.i ?_)<;>try subst ag
   all_goals first|exact ⟨h,by omega⟩|rfl⟩
  |ok e j=>
  obtain ⟨a1,a2,a3,a4⟩:=g;exact ⟨.ok e j,⟨by omega,a2,a3,by omega⟩,fun B L K=>by
   refine aA.iG func561 rfl ntmps561 (by simp) fun _ ag=>?_;simp (disch:=omega) only [go_sem,seval,cX ag,wr,n0,k0,k1,k2,k3,o1,o2,o3,PZ (h3 _ _ _)];(repeat' first|apply cq.l|apply aZ.i|refine dU.i ?_)<;>try subst ag
   all_goals first|exact ⟨h,by omega⟩|rfl⟩
 exact ⟨.er 5 i i,hi,fun B L K=>by
  refine aA.iG func561 rfl ntmps561 (by simp) fun _ ag=>?_;simp (disch:=omega) only [go_sem,seval,cX ag,wr,n0,k0,k1,k2,k3,o1,o2,o3];(repeat' first|apply cq.l|apply aZ.i|refine dU.i ?_)<;>try subst ag
  all_goals first|exact ⟨h,by omega⟩|rfl⟩
end Go.Proofs.YtbcillkajdnljaaGreatDoor
end
section
set_option maxHeartbeats 8000000
set_option maxRecDepth 20000
namespace Go.Proofs.YtbcillkajdnljaaGreatDoor
open Tryz
open Go.Abs
attribute [local irreducible] AW OX GQ bK bO bz aY aA
variable {G:World→Nat→Prop}
def CQ_y {P:Program} {st:St} {g:FuncId} {xs:List V} {K Kp:V→St→Prop} {τ:Type} {p:τ→Prop} {f:Subtype p→V} (h:Ly P G g xs st f):dQ P G false g xs st K Kp=@cq (fB fun x:Subtype p=>cE (p x.1) (K (f x) st)) ⟨dQ P G false g xs st K Kp⟩:=cq.of fun k=>by
 unfold dQ;exact ⟨_,h,(fun v s ⟨⟨x,e⟩,hs⟩=>by cases e;subst hs;have:=k x;unfold cE at this;exact this x.2),(fun v s ⟨⟨_,e⟩,_⟩=>by cases e)⟩
abbrev LxA:Type:= { x:Tk×Int×Int // x.1.text.length≤65536 }
def lxV (x:LxA):V:= .cF [vT x.1.1,ai x.1.2.1,ai x.1.2.2]
def lx_mk (k:Int) (t:aF) (i:Nat) (n e:Int) (h:t.length≤65536):∃ x,Out.ret (.cF [.agg [ai k,vs t,ai ↑i],ai n,ai e])= .ret (lxV x):=⟨⟨(⟨k,t,i⟩,n,e),h⟩,rfl⟩
def lx_0 (e:Int):∃ x,Out.ret (.cF [.agg [ai 0,vs [],ai 0],ai 0,ai e])= .ret (lxV x):=lx_mk 0 [] 0 0 e (by simp)
def lx_letter (c:UInt8) (st:St):Ly prog G 144 [vc c] st vb:=by
 unfold Ly;refine aA.start func144 rfl ntmps144 (by simp) fun _ ag=>?_;simp (disch:=omega) only [go_sem,seval,cX ag];(repeat' first|apply cq.l|apply bg.i|refine cE.i fun hc=>?_|refine aQ.i ⟨?_,rfl⟩)<;>try subst ag
 all_goals exact ⟨_,rfl⟩
def lx_digit (c:UInt8):b8 G 146 [vc c] (vb (isDigit c)):=by
 intro st;refine aA.start func146 rfl ntmps146 (by simp) fun _ ag=>?_;simp (disch:=omega) only [go_sem,seval,cX ag];(repeat' first|apply cq.l|apply bg.i|refine cE.i fun hc=>?_|refine aQ.i ⟨?_,rfl⟩)<;>try subst ag
 all_goals (refine aO ?_;simp only [isDigit,aau,reduceCtorEq,iff_false,false_iff,iff_true,true_iff];omega)
def lx_name1 (c:UInt8) (st:St):Ly prog G 212 [vc c] st vb:=by
 unfold Ly;refine aA.start func212 rfl ntmps212 (by simp) fun _ ag=>?_;simp (disch:=omega) only [go_sem,seval,cX ag,wr,yT (lx_letter _ _),bC (lx_digit _ _)];(repeat' first|apply cq.l|apply bg.i|refine cE.i fun hc=>?_|refine aQ.i ⟨?_,rfl⟩|refine fB.i fun j=>?_)<;>try subst ag
 all_goals exact ⟨_,rfl⟩
def lx_nl (c:UInt8) (st:St):Ly prog G 100 [vc c] st vb:=by
 unfold Ly;refine aA.start func100 rfl ntmps100 (by simp) fun _ ag=>?_;simp (disch:=omega) only [go_sem,seval,cX ag];(repeat' first|apply cq.l|refine aQ.i ⟨?_,rfl⟩)<;>try subst ag
 all_goals exact ⟨_,rfl⟩
def lx_blank (r:Int) (st:St):Ly prog G 98 [.d (.int .i32 r)] st vb:=by
 unfold Ly;refine aA.start func98 rfl ntmps98 (by simp) fun _ ag=>?_;simp (disch:=omega) only [go_sem,seval,cX ag];(repeat' first|apply cq.l|apply bg.i|refine cE.i fun hc=>?_|refine aQ.i ⟨?_,rfl⟩)<;>try subst ag
 all_goals exact ⟨_,rfl⟩
def lx_while {g:FuncId} (hg:wQ prog g=true) (hc:∀ b st,Ly prog G g [vc b] st vb) (s:aF) (i:Nat) (hs:s.length≤65536) (hi:i≤s.length) (st:St):Ly prog G 99 [vs s,ai ↑i,.jE g []] st (fun x:{ k:Nat // i≤k∧k≤s.length }=>ai ↑x.1):=by
 have he:=fun q:Prop=>ak (P:=prog) hg q;unfold Ly;refine aA.start func99 rfl ntmps99 (by simp) fun _ ag=>?_;simp (disch:=omega) only [go_sem,seval,cX ag];all_goals (try subst ag)
 refine AW.lp (fun k:Nat=>[(0,vs s),(1,ai ↑k),(2,.jE g [])]) (fun k=>i≤k∧k≤s.length) (fun i=>s.length - i) i (by simp (disch:=omega) only [go_sem,seval]<;>omega) ⟨aat _,hi⟩ ?_;intro k hi;refine Wk.go fun _ ag=>?_;simp (disch:=omega) only [go_sem,seval,cX ag,wr,yT (hc _ _),he];(repeat' first|apply cq.l|apply bg.i|refine cE.i fun hc=>?_|refine aQ.i ⟨?_,rfl⟩|refine fB.i fun j=>?_)<;>try subst ag
 all_goals first|exact ⟨⟨k,hi⟩,rfl⟩|skip
 refine cB.i ⟨k+1,⟨by simp (disch:=omega) only [go_sem,seval]<;>omega,?_,?_⟩⟩
 all_goals omega
def ZU (s:aF) (i:Nat) (hs:s.length≤65536) (hi:i≤s.length) (st:St):Ly prog G 145 [vs s,ai ↑i] st lxV:=by
 have hw:=fun st=>lx_while (G:=G) (g:=212) rfl lx_name1 s i hs hi st;unfold Ly;refine aA.start func145 rfl ntmps145 (by simp) fun _ ag=>?_;simp (disch:=omega) only [go_sem,seval,cX ag,wr,CQ_y (hw _)];(repeat' first|apply cq.l|apply bg.i|refine cE.i fun hc=>?_|refine aQ.i ⟨?_,rfl⟩|refine fB.i fun j=>?_)<;>try subst ag
 all_goals first|exact lx_0 _|skip
 all_goals (refine lx_mk _ _ i _ _ ?_;rw [aar,aan];omega)
def lx_large (t:aF) (hs:t.length≤65536) (st:St):Ly prog G 213 [vs t] st vb:=by
 unfold Ly;refine aA.start func213 rfl ntmps213 (by simp) fun _ ag=>?_;simp (disch:=omega) only [go_sem,seval,cX ag];all_goals (try subst ag)
 refine AW.lp (fun x:Nat×Int=>[(0,vs t),(3,ai x.2),(4,ai ↑x.1)]) (fun x=>x.1≤t.length∧0≤x.2∧x.2≤90071992547409930000) (fun x=>t.length - x.1) (0,0) (by simp (disch:=omega) only [go_sem,seval]<;>omega) (by simp) ?_;rintro ⟨i,n⟩ ⟨h1,h2,h3⟩;simp only at h1 h2 h3;refine Wk.go fun _ ag=>?_;simp (disch:=omega) only [go_sem,seval,cX ag];(repeat' first|apply cq.l|apply bg.i|refine cE.i fun hc=>?_|refine aQ.i ⟨?_,rfl⟩)<;>try subst ag
 all_goals first|exact ⟨_,rfl⟩|skip
 have hb:0≤IntKind.u8.wrap (↑(t.getD i 0).toNat - 48)∧IntKind.u8.wrap (↑(t.getD i 0).toNat - 48)≤255:=by simp [IntKind.wrap,IntKind.bits,IntKind.signed];omega
 refine cB.i ⟨(i+1,10*n+IntKind.u8.wrap (↑(t.getD i 0).toNat - 48)),⟨by simp (disch:=omega) only [go_sem,seval]<;>omega,?_,?_⟩⟩
 all_goals omega
def lx_number (s:aF) (i:Nat) (hs:s.length≤65536) (hi:i≤s.length) (st:St):Ly prog G 147 [vs s,ai ↑i] st lxV:=by
 have hw:=fun st=>lx_while (G:=G) (g:=146) rfl (fun b st=>(lx_digit b st).mono fun o s h=>⟨⟨_,h.1⟩,h.2⟩) s i hs hi st;have hl:=fun k:Nat=>lx_large (G:=G) ((s.take k).drop i) (by rw [aar,aan];omega);unfold Ly;refine aA.start func147 rfl ntmps147 (by simp) fun _ ag=>?_;simp (disch:=omega) only [go_sem,seval,cX ag,wr,CQ_y (hw _),yT (hl _ _),yT (lx_letter _ _)];(repeat' first|apply cq.l|apply bg.i|refine cE.i fun hc=>?_|refine aQ.i ⟨?_,rfl⟩|refine fB.i fun j=>?_)<;>try subst ag
 all_goals first|exact lx_0 _|skip
 all_goals (refine lx_mk _ _ i _ _ ?_;rw [aar,aan];omega)
def lx_hex (c:UInt8):b8 G 299 [vc c] (ai (qT c)):=by
 have hd:=fun st=>sn (G:=G) c st;intro st;refine aA.start func299 rfl ntmps299 (by simp) fun _ ag=>?_;simp (disch:=omega) only [go_sem,seval,cX ag,bC (hd _)];(repeat' first|apply cq.l|apply bg.i|refine cE.i fun hc=>?_|refine aQ.i ⟨?_,rfl⟩)<;>try subst ag
 all_goals (refine bA ?_;unfold qT;first|rw [uY (by assumption)]|rw [pP (by assumption)])
 all_goals (repeat' split)
 all_goals first|omega|simp_all
abbrev EcA:Type:= { x:UInt8×Nat // x.2≤4 }
def ecV (x:EcA):V:= .cF [vc x.1.1,ai ↑x.1.2]
def ec_mk (b:Int) (n:Nat) (h0:0≤b) (h1:b≤255) (h:n≤4):∃ x,Out.ret (.cF [.d (.int .u8 b),ai ↑n])= .ret (ecV x):=⟨⟨(.ofNat b.toNat,n),h⟩,by simp only [ecV];rw [vc,yX h0 h1]⟩
def lx_escaped (s:aF) (i:Nat) (hs:s.length≤65536) (hi:i<s.length) (st:St):Ly prog G 216 [vs s,ai ↑i] st ecV:=by
 have h2:=oO (s.getD (i+2) 0);have h3:=oO (s.getD (i+3) 0);have h1:=(s.getD (i+1) 0).toNat_lt;unfold Ly;refine aA.start func216 rfl ntmps216 (by simp) fun _ ag=>?_;simp (config := { maxSteps := 1000000 }) -implicitDefEqProofs (disch:=first|omega|exact ⟨by kernel_rfl⟩|(simp only [go_sem,aan];try omega)) only [go_sem,seval,cX ag,wd,bC (lx_hex _ _)];(repeat' first|apply cq.l|apply bg.i|refine cE.i fun hc=>?_|refine aQ.i ⟨?_,rfl⟩)<;>try subst ag
 all_goals first|exact ec_mk _ 0 (by omega) (by omega) (by omega)|exact ec_mk _ 2 (by omega) (by omega) (by omega)|exact ec_mk _ 4 (by omega) (by omega) (by omega)
def lx_short (s:aF) (i:Nat) (hs:s.length≤65536) (hi:i<s.length) (st:St):Ly prog G 217 [vs s,ai ↑i] st vb:=by
 have ht:s.take s.length=s:=aaD;have hd:=sdrop_len s (i+1);generalize hr:s.drop (i+1)=r at hd;unfold Ly;refine aA.start func217 rfl ntmps217 (by simp) fun _ ag=>?_;simp (disch:=omega) only [go_sem,seval,cX ag,ht,hr,bC (lx_hex _ _)];(repeat' first|apply cq.l|apply bg.i|refine cE.i fun hc=>?_|refine aQ.i ⟨?_,rfl⟩)<;>try subst ag
 all_goals exact ⟨_,rfl⟩
def bxB (b id:Nat) (s:aF):ec:= .tc bT (if s=[] then [.d .eX,.bh] else [.ptr b 0,.own id (aH s)])
def bxT (s:aF) (n:Nat):List (Nat×Nat×Nat):=if s=[] then [] else [(bE,1,n)]
def bx_w (b k:Nat) (s:aF) (n N:Nat) (h:b<N):(bxB b k s).within N (k+(bxT s n).length)=true:=by
 by_cases hs:s=[]<;>simp [bxB,bxT,hs,ec.within,V.within,V.within.all,h]
def bx_WB (B:List ec) (X:ec) (K:List (Nat×Nat×Nat)) (s:aF) (h:s.length≤1048576) (ch:UInt8):aA prog G 208 [.ptr (B.length+1) 0,vc ch] ⟨B++[X,bxB (B.length+1) K.length s],K++bxT s s.length⟩
  (fun o s'=>o= .ret (.d .fD)∧s'=⟨B++[X,bxB (B.length+1) K.length (s++[ch])],K++bxT (s++[ch]) (s.length+1)⟩):=by
 by_cases hs:s=[]
 ·subst hs
  refine (IQ (G:=G) ⟨B++[X,bxB (B.length+1) K.length []],K++bxT [] 0⟩ (B.length+1) ch (by simp [bxB])).mono ?_
  rintro o s' ⟨rfl,rfl⟩
  exact ⟨rfl,by simp [bxB,bxT]⟩
 ·refine (IP (G:=G) ⟨B++[X,bxB (B.length+1) K.length s],K++bxT s s.length⟩ (B.length+1) K.length s ch (by simp [bxB,hs]) (by simp [bxT,hs]) (by omega)).mono ?_
  rintro o s' ⟨rfl,rfl⟩
  exact ⟨rfl,by simp [bxB,bxT,hs]⟩
def bx_Len (B:List ec) (X:ec) (K:List (Nat×Nat×Nat)) (s:aF):aA prog G 214 [.ptr (B.length+1) 0] ⟨B++[X,bxB (B.length+1) K.length s],K++bxT s s.length⟩
  (fun o s'=>o= .ret (ai ↑s.length)∧s'=⟨B++[X,bxB (B.length+1) K.length s],K++bxT s s.length⟩):=by
 by_cases hs:s=[]
 ·subst hs;exact LK _ (B.length+1) (.d .eX) (by simp [bxB])
 ·exact LJ _ (B.length+1) K.length s (by simp [bxB,hs])
def bx_Str (B:List ec) (X:ec) (K:List (Nat×Nat×Nat)) (s:aF):aA prog G 215 [.ptr (B.length+1) 0] ⟨B++[X,bxB (B.length+1) K.length s],K++bxT s s.length⟩
  (fun o s'=>o= .ret (vs s)∧s'=⟨B++[X,bxB (B.length+1) K.length s],K++bxT s (maxLen+1)⟩):=by
 by_cases hs:s=[]
 ·subst hs;exact nL _ (B.length+1) (.d .eX) (by simp [bxB])
 ·refine (ku (G:=G) ⟨B++[X,bxB (B.length+1) K.length s],K++bxT s s.length⟩ (B.length+1) K.length (.ptr (B.length+1) 0) s (by simp [bxB,hs]) (by simp [bxT,hs]) hs).mono ?_
  rintro o s' ⟨rfl,rfl⟩
  exact ⟨rfl,by simp [bxT,hs]⟩
def lx_text (s:aF) (i:Nat) (hs:s.length≤65536) (hi:i<s.length) (st:St):Ly prog G 148 [vs s,ai ↑i] st lxV:=by
 unfold Ly;refine aA.start func148 rfl ntmps148 (by simp) fun _ ag=>?_;simp (disch:=omega) only [go_sem,seval,cX ag];all_goals (try subst ag)
 refine AW.zU (fun x:aF×Nat=>[(0,vs s),(1,ai ↑i),(4,.ptr st.aj.length 0),(7,.ptr (st.aj.length+1) 0),(8,ai ↑x.2)]) (fun x=>[.cells [ai 0,vs [],ai 0],bxB (st.aj.length+1) st.toks.length x.1]) (fun x=>bxT x.1 x.1.length)
  (fun x=>x.2≤s.length+4∧x.1.length≤x.2) (fun x=>s.length - x.2) ([],i+1) ⟨by simp [bxB,bxT],by simp (disch:=first|omega|(simp only [go_sem,aan,aar];try omega)) only [go_sem,seval]⟩ ⟨by simp only;omega,by simp⟩ ?_
 rintro ⟨a,q⟩ ⟨h1,h2⟩;simp only at h1 h2;have hW:=fun X c=>bx_WB (G:=G) st.aj X st.toks a (by omega) c;have hL:=fun X=>bx_Len (G:=G) st.aj X st.toks a;have hS:=fun X=>bx_Str (G:=G) st.aj X st.toks a;by_cases hj:q<s.length
 ·have he:=lx_escaped (G:=G) s q hs hj;have hh:=lx_short (G:=G) s q hs hj;refine Wk.go fun _ ag=>?_;simp (config := { maxSteps := 1000000 }) -implicitDefEqProofs (disch:=first|omega|exact ⟨by kernel_rfl⟩|(simp only [go_sem,aan];try omega)) only [go_sem,seval,cX ag,wd,wr,Ck (hW _ _),bC (hL _),Ck (hS _),CQ_y (he _),yT (hh _),ecV];(repeat' first|apply cq.l|apply bg.i|refine cE.i fun hc=>?_|refine aQ.i ⟨?_,rfl⟩|refine fB.i fun j=>?_)<;>try subst ag
  all_goals first|exact lx_0 _|exact lx_mk _ _ i _ _ (by omega)|skip
  ·refine cB.i ⟨(a++[j.1.1],q+j.1.2),⟨by simp (disch:=omega) only [go_sem,seval,bx_w,aax,aav,aaA,abF,aaD]<;>omega,?_,?_⟩⟩
   ·exact ⟨by simp only;omega,by simp only [aax,aav,aaA];omega⟩
   ·simp only;omega
  ·refine cB.i ⟨(a++[s.getD q 0],q+1),⟨by simp (disch:=omega) only [go_sem,seval,bx_w,aax,aav,aaA,abF,aaD]<;>omega,?_,?_⟩⟩
   ·exact ⟨by simp only;omega,by simp only [aax,aav,aaA];omega⟩
   ·simp only;omega
 ·refine Wk.go fun _ ag=>?_;simp (disch:=omega) only [go_sem,seval,cX ag];(repeat' first|apply cq.l|refine cE.i fun hc=>?_|refine aQ.i ⟨?_,rfl⟩)<;>try subst ag
  exact lx_0 _
def lx_operator (s:aF) (i:Nat) (hs:s.length≤65536) (hi:i<s.length) (st:St):Ly prog G 149 [vs s,ai ↑i] st lxV:=by
 unfold Ly;refine aA.start func149 rfl ntmps149 (by simp) fun _ ag=>?_;simp (disch:=omega) only [go_sem,seval,cX ag];(repeat' first|refine cq.l ?_|refine bg.i ?_ ?_|refine cE.i fun hc=>?_|refine aQ.i ⟨?_,rfl⟩|refine aZ.i ?_ ?_|refine cB.o ?_);all_goals (try subst ag)
 obtain ⟨L,hL⟩:∃ L:List Int,L=[2,1]:=⟨_,rfl⟩;refine AW.zU (fun k:Nat=>[(0,vs s),(1,ai ↑i),(4,.ptr st.aj.length 0),(10,.d (.sl (n7 L))),(11,ai 2),(12,ai ↑k)]) (fun _=>[.cells [ai 0,vs [],ai 0]]) (fun _=>[]) (fun k=>k≤2) (fun k=>2 - k) 0 (by subst hL;simp only [n7];simp (disch:=omega) only [go_sem,seval]<;>omega) (by simp) ?_;intro k hk;have hl:L.length=2:=by subst hL;rfl
 by_cases h2:k<2
 ·obtain ⟨m,hm,hg⟩:∃ m:Nat,(1≤m∧m≤2)∧L.getD k default=↑m:=by
   subst hL;obtain rfl|rfl:k=0∨k=1:=by omega
   ·exact ⟨2,by omega,rfl⟩
   ·exact ⟨1,by omega,rfl⟩
  refine AW.cutN 2 rfl fun K hK _ ag=>?_;simp (disch:=omega) only [go_sem,seval,cX ag];(repeat' first|refine cq.l ?_|refine bg.i ?_ ?_|refine cE.i fun hc=>?_|refine aQ.i ⟨?_,rfl⟩|refine aZ.i ?_ ?_|refine cB.o ?_);all_goals (try subst ag)
  refine cB.i (hK _ _ ?_);refine AW.oA fun K hK=>?_;refine AW.block ?_;refine AW.cutN 4 rfl fun K2 hK2 _ ag=>?_;simp (disch:=omega) only [go_sem,seval,cX ag,hg];(repeat' first|refine cq.l ?_|refine bg.i ?_ ?_|refine cE.i fun hc=>?_|refine aQ.i ⟨?_,rfl⟩|refine aZ.i ?_ ?_|refine cB.o ?_);all_goals (try subst ag)
  ·refine cB.i (hK _ _ ?_);refine Wk.go fun _ ag=>?_;simp (disch:=omega) only [go_sem,seval,cX ag];(repeat' first|refine cq.l ?_|refine bg.i ?_ ?_|refine cE.i fun hc=>?_|refine aQ.i ⟨?_,rfl⟩|refine aZ.i ?_ ?_|refine cB.o ?_);all_goals (try subst ag)
   refine cB.i ⟨k+1,⟨by simp (disch:=omega) only [go_sem,seval]<;>omega,?_,?_⟩⟩
   all_goals omega
  refine cB.i (hK2 _ _ ?_);refine AW.block ?_;refine AW.oA fun K3 hK3=>?_;have hl0:∃ l,l=[(0,vs s),(1,ai ↑i),(4,.ptr st.aj.length 0),(8,ai ↑m),(9,vs ((s.take (i+m)).drop i)),(10,.d (.sl (n7 L))),(11,ai 2),(12,ai ↑k),(28,vs ((s.take (i+m)).drop i))]:=⟨_,rfl⟩;obtain ⟨l,e⟩:=hl0;have hk:∀ b fr,okF fr ((29,vb b)::l)→K3 fr ⟨st.aj++[.cells [ai 0,vs [],ai 0]],st.toks⟩:=fun b fr h=>hK3 _ _ (AW.toF _ (by
   subst e;cases b
   ·refine Wk.go fun _ ag=>?_;simp (disch:=omega) only [go_sem,seval,cX ag];(repeat' first|refine cq.l ?_|refine bg.i ?_ ?_|refine cE.i fun hc=>?_|refine aQ.i ⟨?_,rfl⟩|refine aZ.i ?_ ?_|refine cB.o ?_);all_goals (try subst ag)
    refine cB.i (hK _ _ ?_);refine Wk.go fun _ ag=>?_;simp (disch:=omega) only [go_sem,seval,cX ag];(repeat' first|refine cq.l ?_|refine bg.i ?_ ?_|refine cE.i fun hc=>?_|refine aQ.i ⟨?_,rfl⟩|refine aZ.i ?_ ?_|refine cB.o ?_);all_goals (try subst ag)
    refine cB.i ⟨k+1,⟨by simp (disch:=omega) only [go_sem,seval]<;>omega,?_,?_⟩⟩
    all_goals omega
   ·refine Wk.go fun _ ag=>?_;simp (disch:=omega) only [go_sem,seval,cX ag];(repeat' first|refine cq.l ?_|refine bg.i ?_ ?_|refine cE.i fun hc=>?_|refine aQ.i ⟨?_,rfl⟩|refine aZ.i ?_ ?_|refine cB.o ?_);all_goals (try subst ag)
    refine lx_mk _ _ i _ _ ?_;rw [aar,aan];omega) h)
  refine AW.toF l ?_ (by subst e;simp (disch:=first|omega|(simp only [go_sem,aan,aar];try omega)) only [go_sem,seval]);subst e
  iterate 24 (refine AW.cutE 1 (fun _:Bool=>True) (fun b=>(29,vb b)::[(0,vs s),(1,ai ↑i),(4,.ptr st.aj.length 0),(8,ai ↑m),(9,vs ((s.take (i+m)).drop i)),(10,.d (.sl (n7 L))),(11,ai 2),(12,ai ↑k),(28,vs ((s.take (i+m)).drop i))]) (fun _=>⟨st.aj++[.cells [ai 0,vs [],ai 0]],st.toks⟩) rfl (fun K hK _ ag=>by (simp (disch:=omega) only [go_sem,seval,cX ag];(repeat' first|refine cq.l ?_|refine bg.i ?_ ?_|refine cE.i fun hc=>?_|refine aQ.i ⟨?_,rfl⟩|refine aZ.i ?_ ?_|refine cB.o ?_);all_goals (try subst ag);exact cB.i (hK _ _ trivial ⟨rfl,by simp (disch:=first|omega|(simp only [go_sem,aan,aar];try omega)) only [go_sem,seval]⟩))) fun b _=>?_;cases b;refine AW.condF rfl ?_;rotate_left;exact AW.condT rfl (AW.skip (KT (hk true _ (by simp (disch:=first|omega|(simp only [go_sem,aan,aar];try omega)) only [go_sem,seval])))))
  refine Wk.go fun _ ag=>?_;simp (disch:=omega) only [go_sem,seval,cX ag];(repeat' first|refine cq.l ?_|refine bg.i ?_ ?_|refine cE.i fun hc=>?_|refine aQ.i ⟨?_,rfl⟩|refine aZ.i ?_ ?_|refine cB.o ?_);all_goals (try subst ag)
  exact cB.i (hk _ _ ⟨rfl,by simp (disch:=first|omega|(simp only [go_sem,aan,aar];try omega)) only [go_sem,seval]⟩)
 ·refine Wk.go fun _ ag=>?_;simp (disch:=omega) only [go_sem,seval,cX ag];(repeat' first|refine cq.l ?_|refine bg.i ?_ ?_|refine cE.i fun hc=>?_|refine aQ.i ⟨?_,rfl⟩|refine aZ.i ?_ ?_|refine cB.o ?_);all_goals (try subst ag)
  exact lx_0 _
def br_mk (n:Nat) (v:Int) (h0:0≤v) (h1:v≤n+1):∃ x:{ m:Nat // m≤n+1 },Out.ret (ai v)= .ret (ai ↑x.1):=⟨⟨v.toNat,by omega⟩,by rw [Int.toNat_of_nonneg h0]⟩
def lx_brackets (t:aF) (n:Nat) (h:n≤65536) (st:St):Ly prog G 102 [vs t,ai ↑n] st (fun x:{ m:Nat // m≤n+1 }=>ai ↑x.1):=by
 unfold Ly;refine aA.start func102 rfl ntmps102 (by simp) fun _ ag=>?_;simp (disch:=omega) only [go_sem,seval,cX ag];(repeat' first|apply cq.l|apply bg.i|refine cE.i fun hc=>?_|refine aQ.i ⟨?_,rfl⟩)<;>try subst ag
 all_goals exact br_mk n _ (by omega) (by omega)
def lx_token (s:aF) (i:Nat) (hs:s.length≤65536) (hi:i<s.length) (st:St):Ly prog G 101 [vs s,ai ↑i] st lxV:=by
 have h1:=ZU (G:=G) s i hs (by omega);have h2:=lx_number (G:=G) s i hs (by omega);have h3:=lx_text (G:=G) s i hs hi;have h4:=lx_operator (G:=G) s i hs hi;unfold Ly;refine aA.start func101 rfl ntmps101 (by simp) fun _ ag=>?_;simp (disch:=omega) only [go_sem,seval,cX ag,wr,yT (lx_letter _ _),bC (lx_digit _ _),yT (h1 _),yT (h2 _),yT (h3 _),yT (h4 _),lxV];(repeat' first|apply cq.l|apply bg.i|refine cE.i fun hc=>?_|refine aQ.i ⟨?_,rfl⟩|refine fB.i fun j=>?_)<;>try subst ag
 all_goals exact ⟨_,rfl⟩
def lx_wide {s:aF} {p:Nat} (h:p<s.length):1≤(Utf8.decode { data:=s.toArray } p).2:=by
 have hs:p< (ByteArray.mk s.toArray).size:=by simpa [ByteArray.size] using h
 by_cases ha:((ByteArray.mk s.toArray)[p]).toNat<128
 ·rw [decode_ascii _ _ hs ha];exact aat _
 ·exact (decode_high _ _ hs (by omega)).2
theorem lx_Wt:∀ l:List Tk,(∀ t∈l,t.text.length≤65536)→Wt l≤524488*l.length
 |[],_=>aat _
 |t::r,h=>by
  have h1:=lx_Wt r fun x hx=>h x (by simp [hx]);have h2:=h t (by simp);simp only [Wt,aav];omega
abbrev TsA:Type:= { x:List Tk×Int×Int // dh x.1∧Wt x.1≤1099511627776 }
def tsV (x:TsA):V:= .cF [jA x.1.1,ai x.1.2.1,ai x.1.2.2]
def ts_mk (l:List Tk) (a c:Int) (h:l.length≤65536) (ht:∀ t∈l,t.text.length≤65536):∃ x,Out.ret (.cF [.d (.sl (l.map Tk.enc)),ai a,ai c])= .ret (tsV x):=
 ⟨⟨(l,a,c),⟨by simp only;omega,fun t h=>by have:=ht t h;omega⟩,by have:=lx_Wt l ht;simp only;omega⟩,rfl⟩
def ts_0 (a c:Int):∃ x,Out.ret (.cF [.d (.sl []),ai a,ai c])= .ret (tsV x):=ts_mk [] a c (by simp) (by simp)
def ts_app (k:Int) (t:aF) (a:Nat) (l:List Tk) (B:List ec) (K:List (Nat×Nat×Nat)) (h:l.length≤65536):
  jt (some 3) true true 147 3 32 [[.int .i64 k,.str t,.int .i64 ↑a]] (lz K.length (l.map Tk.enc)) ⟨B,K++k9 147 3 (l.map Tk.enc)⟩=some (lz K.length ((l++[(⟨k,t,a⟩:Tk)]).map Tk.enc),⟨B,K++k9 147 3 ((l++[(⟨k,t,a⟩:Tk)]).map Tk.enc)⟩):=by
 rw [CZ _ _ _ _ _ _ _ (by omega) (by simp) (by simp;omega) (by simp;omega),aaQ];rfl
def ts_p {s:aF} {p op op' w:Nat} {out out':List Tk} (ha:p<s.length) (hw:1≤w) (h:op≤p∧op≤s.length∧out.length≤p∧out.length≤s.length∧∀ t∈out,t.text.length≤65536) (ho:op'≤op+1) (hl:out'=out∨∃ t,t.text.length≤65536∧out'=out++[t]):
  op'≤p+w∧op'≤s.length∧out'.length≤p+w∧out'.length≤s.length∧∀ t∈out',t.text.length≤65536:=by
 obtain ⟨h1,h2,h3,h4,h5⟩:=h
 rcases hl with rfl|⟨t,ht,rfl⟩
 ·exact ⟨by omega,by omega,by omega,h4,h5⟩
 ·simp only [aax,aav,aaA]
  refine ⟨by omega,by omega,by omega,by omega,fun x hx=>?_⟩
  rcases abo.1 hx with hx|hx
  ·exact h5 x hx
  ·rw [abg.1 hx];exact ht
def lx_Tokens (s:aF) (st:St) (hs:s.length≤1048576):Ly prog G 66 [vs s] st tsV:=by
 unfold Ly;refine aA.start func66 rfl ntmps66 (by simp) fun _ ag=>?_;simp (disch:=omega) only [go_sem,seval,cX ag];(repeat' first|apply cq.l|apply bg.i|refine cE.i fun hc=>?_|refine aQ.i ⟨?_,rfl⟩)<;>try subst ag
 ·exact ts_0 _ _
 refine AW.zU (fun x:(Nat×Int)×Nat×List Tk=>[(0,vs s),(5,lz st.toks.length (x.2.2.map Tk.enc)),(6,.jE 98 []),(7,ai x.1.2),(8,ai ↑x.2.1),(18,.ptr st.aj.length 0)]) (fun x=>[.iter s x.1.1]) (fun x=>k9 147 3 (x.2.2.map Tk.enc))
  (fun x=>x.2.1≤x.1.1∧x.2.1≤s.length∧x.2.2.length≤x.1.1∧x.2.2.length≤s.length∧∀ t∈x.2.2,t.text.length≤65536) (fun x=>s.length - x.1.1) ((0,0),(0,[])) (by simp (disch:=omega) only [go_sem,seval,aaI,HV,lzT_nil]<;>omega) (by simp) ?_
 rintro ⟨⟨p,nx⟩,op,out⟩ hp;simp only at hp;have ⟨h1,h2,h3,h4,h5⟩:=hp;by_cases ha:p<s.length
 ·have hw:=lx_wide ha;have hap:=fun k t a B=>ts_app k t a out B st.toks (by omega);have c1:=fun st=>lx_while (G:=G) (g:=100) rfl lx_nl s p (by omega) (by omega) st;have c2:=lx_token (G:=G) s p (by omega) ha;have c3:=fun t=>lx_brackets (G:=G) t op (by omega);refine Wk.go fun _ ag=>?_;simp (config := { maxSteps := 1000000 }) -implicitDefEqProofs (disch:=first|omega|exact ⟨by kernel_rfl⟩|(simp only [go_sem,aan];try omega)) only [go_sem,seval,cX ag,wd,wr,yT (lx_blank _ _),CQ_y (c1 _),CQ_y (c2 _),CQ_y (c3 _ _),lxV,aG,hap,ha];(repeat' first|apply cq.l|apply bg.i|refine cE.i fun hc=>?_|refine aQ.i ⟨?_,rfl⟩|refine fB.i fun j=>?_)<;>try subst ag
  ·refine cB.i ⟨((p+(Utf8.decode { data:=s.toArray } p).2,nx),op,out),⟨by simp (disch:=omega) only [go_sem,seval,aaQ,aaB,aaI,aG,pK]<;>omega,?_,?_⟩⟩
   all_goals (dsimp only;first|omega|exact ts_p ha hw hp (by omega) (.inl rfl))
  ·refine cB.i ⟨((p+(Utf8.decode { data:=s.toArray } p).2,nx),op,out),⟨by simp (disch:=omega) only [go_sem,seval,aaQ,aaB,aaI,aG,pK]<;>omega,?_,?_⟩⟩
   all_goals (dsimp only;first|omega|exact ts_p ha hw hp (by omega) (.inl rfl))
  ·refine cB.i ⟨((p+(Utf8.decode { data:=s.toArray } p).2,↑j.1),op,out),⟨by simp (disch:=omega) only [go_sem,seval,aaQ,aaB,aaI,aG,pK]<;>omega,?_,?_⟩⟩
   all_goals (dsimp only;first|omega|exact ts_p ha hw hp (by omega) (.inl rfl))
  ·refine cB.i ⟨((p+(Utf8.decode { data:=s.toArray } p).2,nx),op,out++[⟨5,[],↑p⟩]),⟨by simp (disch:=omega) only [go_sem,seval,aaQ,aaB,aaI,aG,pK]<;>omega,?_,?_⟩⟩
   all_goals (dsimp only;first|omega|exact ts_p ha hw hp (by omega) (.inr ⟨⟨5,[],↑p⟩,by simp,rfl⟩))
  ·refine cB.i ⟨((p+(Utf8.decode { data:=s.toArray } p).2,nx),op,out++[⟨5,[],↑p⟩]),⟨by simp (disch:=omega) only [go_sem,seval,aaQ,aaB,aaI,aG,pK]<;>omega,?_,?_⟩⟩
   all_goals (dsimp only;first|omega|exact ts_p ha hw hp (by omega) (.inr ⟨⟨5,[],↑p⟩,by simp,rfl⟩))
  ·refine cB.i ⟨((p+(Utf8.decode { data:=s.toArray } p).2,nx),op,out),⟨by simp (disch:=omega) only [go_sem,seval,aaQ,aaB,aaI,aG,pK]<;>omega,?_,?_⟩⟩
   all_goals (dsimp only;first|omega|exact ts_p ha hw hp (by omega) (.inl rfl))
  ·refine cB.i ⟨((p+(Utf8.decode { data:=s.toArray } p).2,nx),op,out),⟨by simp (disch:=omega) only [go_sem,seval,aaQ,aaB,aaI,aG,pK]<;>omega,?_,?_⟩⟩
   all_goals (dsimp only;first|omega|exact ts_p ha hw hp (by omega) (.inl rfl))
  ·exact ts_0 _ _
  ·rename_i t q1 q2 q3;refine cB.i ⟨((p+(Utf8.decode { data:=s.toArray } p).2,t.1.2.1),j.1,out++[t.1.1]),⟨by simp (disch:=omega) only [go_sem,seval,aaQ,aaB,aaI,aG,pK]<;>omega,?_,?_⟩⟩
   all_goals (dsimp only;first|omega|exact ts_p ha hw hp (by omega) (.inr ⟨t.1.1,t.2,rfl⟩))
  ·refine cB.i ⟨((p+(Utf8.decode { data:=s.toArray } p).2,j.1.2.1),op,out++[j.1.1]),⟨by simp (disch:=omega) only [go_sem,seval,aaQ,aaB,aaI,aG,pK]<;>omega,?_,?_⟩⟩
   all_goals (dsimp only;first|omega|exact ts_p ha hw hp (by omega) (.inr ⟨j.1.1,j.2,rfl⟩))
 ·refine Wk.go fun _ ag=>?_;simp (disch:=omega) only [go_sem,seval,cX ag,ha];(repeat' first|apply cq.l|refine aQ.i ⟨?_,rfl⟩)<;>try subst ag
  exact ts_mk out _ _ (by omega) h5
end Go.Proofs.YtbcillkajdnljaaGreatDoor
end
section
set_option maxHeartbeats 8000000
set_option maxRecDepth 20000
namespace Go.Proofs.YtbcillkajdnljaaGreatDoor
open Tryz
open Go.Abs
attribute [local irreducible] AW OX GQ bK bO bz aY aA
variable {G:World→Nat→Prop}
variable {T:List Tk}
def l_ih (h:LG G T) (n:Nat):LtIH G T n:=by
 induction n using Nat.strongRecOn with
 |_ n ih=>
  exact ⟨fun i hi hm=>l_cond h i hi (ih _ hm),fun k i a b hi hm=>l_op h k i a b hi (ih _ (by omega)),fun i hi hm=>l_un h i hi (ih _ hm),fun i hi hm=>l_chain h i hi (ih _ hm),fun i hi hm=>l_atom h i hi (ih _ hm),
   fun s i hi hm=>l_args h s i hi (ih _ hm),fun i hi hm=>l_ents h i hi (ih _ hm)⟩
def reV:Rr Ex→V
 | .ok e j=> .cF [vE e,ai ↑j,ai 0]
 | .er c k _=> .cF [.agg zE1,ai ↑k,ai c]
def l_read (h:LG G T):∃ r:Rr Ex,okR T (GdE T 0) r∧b8 G 379 [jA T] (reV r):=by
 obtain ⟨r,g,h1⟩:=(l_ih h (20*T.length+13)).cond 0 (by omega) (by omega);have hT:=h.ok.1;refine ⟨r,g,?_⟩;rintro ⟨B,K⟩;refine aA.bodyD func379 rfl ntmps379 (by simp) rfl rfl rfl (by decide) rfl rfl rfl call441 ?_;(try with_reducible first|refine Wk.aw fun _ ag=>?_|refine Wk.ow fun _ ag=>?_);(repeat' (first
  |((with_reducible first|refine Wk.hd ?_|refine Wk.i ?_);simp (disch:=first|omega|(simp only [go_sem,aan,aar];try omega)) only [go_sem,seval])
  |(refine ay (fun hc=>?_) (fun hc=>?_)<;>try (exfalso;first|omega|contradiction|exact fQ hc ‹_› |exact fQ ‹_› hc))
  |refine Wk.drawn mx (by kernel_rfl) ?_
  |with_reducible refine Wk.ret fun _ _=>?_
  |(refine Wk.fin ‹_› ?_;refine ⟨?_,rfl⟩)
  |with_reducible first|refine Wk.o ?_|refine Wk.q ‹_› ?_|refine Wk.sw fun _ ag=>?_|refine Wk.rnd fun _ ag=>?_));all_goals (repeat subst ag)
 refine ⟨rfl,?_⟩;(try with_reducible first|refine Wk.aw fun _ ag=>?_|refine Wk.ow fun _ ag=>?_);(repeat' (first
  |((with_reducible first|refine Wk.hd ?_|refine Wk.i ?_);simp (disch:=first|omega|(simp only [go_sem,aan,aar];try omega)) only [go_sem,seval])
  |(refine ay (fun hc=>?_) (fun hc=>?_)<;>try (exfalso;first|omega|contradiction|exact fQ hc ‹_› |exact fQ ‹_› hc))
  |refine Wk.drawn mx (by kernel_rfl) ?_
  |with_reducible refine Wk.ret fun _ _=>?_
  |(refine Wk.fin ‹_› ?_;refine ⟨?_,rfl⟩)
  |with_reducible first|refine Wk.o ?_|refine Wk.q ‹_› ?_|refine Wk.sw fun _ ag=>?_|refine Wk.rnd fun _ ag=>?_));all_goals (repeat subst ag)
 refine ⟨rfl,[.ptr B.length 0,.ptr (B.length+1) 0,.ptr (B.length+2) 0],rfl,fun ds=>?_⟩;have hG:∀ (m:List ec) (k:Nat),(B++m)[B.length+k]?=m[k]?:=fun m k=>by rw [aay (by simp)];simp
 have hG0:∀ (m:List ec),(B++m)[B.length]?=m[0]?:=fun m=>by rw [aay (by simp)];simp
 have hS:∀ (y:ec) (m:List ec) (k:Nat),(B++m).set (B.length+k) y=B++m.set k y:=fun y m k=>by rw [List.set_append_right _ _ (by simp)];simp
 have hS0:∀ (y:ec) (m:List ec),(B++m).set B.length y=B++m.set 0 y:=fun y m=>by rw [List.set_append_right _ _ (by simp)];simp
 have c1:=h1 (B++[.cells Qi,.cells [ai 0],.cells [ai 0]]) [] K;cases r with
 |ok e j=>
  simp only [rL,rdR_ok,aax,aav,aaA,aaG,aaP,aaN,aaL,Nat.reduceAdd] at c1
  have c1:aA prog G 442 [.ptr (B.length+3) 0] ⟨B++[.cells Qi,.cells [ai 0],.cells [ai 0],bI T 0],K⟩ (fun o s=>o= .ret (vE e)∧s=⟨B++[.cells Qi,.cells [ai 0],.cells [ai 0],bI T j],K⟩):=c1.mono fun o s e=>by cases e;exact ⟨rfl,rfl⟩
  refine Wk.go fun _ ag=>?_
  simp (disch:=first|omega|exact ⟨by kernel_rfl⟩|(simp only [go_sem,aan];try omega)) only [go_sem,seval,cX ag,hG,hG0,hS,hS0];(repeat' first|refine cq.l ?_|refine bg.i ?_ ?_|refine cE.i fun hc=>?_|refine aQ.i ⟨?_,rfl⟩|refine aZ.i ?_ ?_|refine cB.o ?_)
  refine (Ck c1).mpr (cq.l ?_)
  simp (disch:=first|omega|exact ⟨by kernel_rfl⟩|(simp only [go_sem,aan];try omega)) only [go_sem,seval,cX ag,hG,hG0,hS,hS0];(repeat' first|refine cq.l ?_|refine bg.i ?_ ?_|refine cE.i fun hc=>?_|refine aQ.i ⟨?_,rfl⟩|refine aZ.i ?_ ?_|refine cB.o ?_);all_goals (try subst ag)
  refine AW.Pv (P:=prog) mx [(4,7)] (by kernel_rfl) (by simp (disch:=first|omega|(simp only [go_sem,aan,aar];try omega)) only [go_sem,seval,hG,hG0,hS,hS0];try exact rfl) ?_
  refine OX.nil ?_
  refine ⟨by simp [Jf,T0,Ti,iO,eu,upd,List.zipIdx_cons,List.findIdx?_cons,dr]<;>omega,?_⟩
  refine kQ fun _ ag=>?_
  simp (disch:=first|omega|exact ⟨by kernel_rfl⟩|(simp only [go_sem,aan];try omega)) only [go_sem,seval,cX ag,hG,hG0,hS,hS0];(repeat' first|refine cq.l ?_|refine bg.i ?_ ?_|refine cE.i fun hc=>?_|refine aQ.i ⟨?_,rfl⟩|refine aZ.i ?_ ?_|refine cB.o ?_);all_goals (try subst ag)
  refine qc.i ?_
  refine Ib ((c_read1_n B K (e.enc.map V.d) (ai ↑j) (ai 0) (bI T j)).mono ?_)
  rintro o s ⟨rfl,rfl⟩
  refine ⟨⟨_,rfl⟩,?_⟩
  (try with_reducible first|refine Wk.aw fun _ ag=>?_|refine Wk.ow fun _ ag=>?_);(repeat' (first
  |((with_reducible first|refine Wk.hd ?_|refine Wk.i ?_);simp (disch:=first|omega|(simp only [go_sem,aan,aar];try omega)) only [go_sem,seval,hG,hG0,hS,hS0])
  |(refine ay (fun hc=>?_) (fun hc=>?_)<;>try (exfalso;first|omega|contradiction|exact fQ hc ‹_› |exact fQ ‹_› hc))
  |refine Wk.drawn mx (by kernel_rfl) ?_
  |with_reducible refine Wk.ret fun _ _=>?_
  |(refine Wk.fin ‹_› ?_;refine ⟨?_,rfl⟩)
  |with_reducible first|refine Wk.o ?_|refine Wk.q ‹_› ?_|refine Wk.sw fun _ ag=>?_|refine Wk.rnd fun _ ag=>?_));all_goals (repeat subst ag)
  all_goals rfl
 |er c k j=>
  simp only [rL,rdR_er,aax,aav,aaA,aaG,aaP,aaN,aaL,Nat.reduceAdd] at c1
  have c1:aA prog G 442 [.ptr (B.length+3) 0] ⟨B++[.cells Qi,.cells [ai 0],.cells [ai 0],bI T 0],K⟩ (fun o s=>o= .dw (panV k c)∧s=⟨B++[.cells Qi,.cells [ai 0],.cells [ai 0],bI T j],K⟩):=c1.mono fun o s e=>by cases e;exact ⟨rfl,rfl⟩
  refine Wk.go fun _ ag=>?_
  simp (disch:=first|omega|exact ⟨by kernel_rfl⟩|(simp only [go_sem,aan];try omega)) only [go_sem,seval,cX ag,hG,hG0,hS,hS0];(repeat' first|refine cq.l ?_|refine bg.i ?_ ?_|refine cE.i fun hc=>?_|refine aQ.i ⟨?_,rfl⟩|refine aZ.i ?_ ?_|refine cB.o ?_)
  refine (CQ_p c1).mpr (cq.l ?_)
  simp (disch:=first|omega|exact ⟨by kernel_rfl⟩|(simp only [go_sem,aan];try omega)) only [go_sem,seval,cX ag,wr,hG,hG0,hS,hS0];(repeat' first|refine cq.l ?_|refine bg.i ?_ ?_|refine cE.i fun hc=>?_|refine aQ.i ⟨?_,rfl⟩|refine aZ.i ?_ ?_|refine cB.o ?_|refine dU.i ?_|refine aQ.i ?_|refine fB.i fun j=>?_);all_goals (try subst ag)
  refine qc.i ?_
  refine Ic ((Fx B K Qi rfl (ai 0) (ai 0) (bI T j) k c).mono ?_)
  rintro o s ⟨rfl,rfl⟩
  refine ⟨⟨_,rfl⟩,?_⟩
  (try with_reducible first|refine Wk.aw fun _ ag=>?_|refine Wk.ow fun _ ag=>?_);(repeat' (first
  |((with_reducible first|refine Wk.hd ?_|refine Wk.i ?_);simp (disch:=first|omega|(simp only [go_sem,aan,aar];try omega)) only [go_sem,seval,hG,hG0,hS,hS0])
  |(refine ay (fun hc=>?_) (fun hc=>?_)<;>try (exfalso;first|omega|contradiction|exact fQ hc ‹_› |exact fQ ‹_› hc))
  |refine Wk.drawn mx (by kernel_rfl) ?_
  |with_reducible refine Wk.ret fun _ _=>?_
  |(refine Wk.fin ‹_› ?_;refine ⟨?_,rfl⟩)
  |with_reducible first|refine Wk.o ?_|refine Wk.q ‹_› ?_|refine Wk.sw fun _ ag=>?_|refine Wk.rnd fun _ ag=>?_));all_goals (repeat subst ag)
  all_goals rfl
def l_Take (ga:GA G) (hT:dh T) (hw:Wt T≤1099511627776):∃ (e:Ex) (n:Nat) (c:Int),b8 G 296 [jA T] (.cF [vE e,ai ↑n,ai c]):=by
 obtain ⟨r,g,h1⟩:=l_read (G:=G) (T:=T) ⟨ga.v,hT⟩;have z:vE (.mk 0 [] ct [] [])= .agg zE1:=by rw [vE,mk_enc];rfl
 cases r with
 |er c k j=>
  simp only [reV] at h1
  by_cases hc:c=0
  ·subst hc
   have hv:=mL (G:=G) (.mk 0 [] ct [] []) (jV (by simp) qY qZ (by simp) (by simp) (by simp) (by simp)) (by simp [dM,iT,cj.dm,bq.ic])
   rw [z] at hv
   by_cases h0:dW (.mk 0 [] ct [] [])=0
   ·rw [h0] at hv
    refine ⟨.mk 0 [] ct [] [],k,0,fun st=>?_⟩
    refine aA.start func296 rfl ntmps296 (by simp) fun _ ag=>?_
    simp (disch:=first|omega|exact ⟨by kernel_rfl⟩|(simp only [go_sem,aan];try omega)) only [go_sem,seval,cX ag,wd,wr,bC (h1 _),bC (hv _)];(repeat' first|apply cq.l|refine aQ.i ⟨?_,rfl⟩)<;>try subst ag
    all_goals rfl
   ·refine ⟨.mk 0 [] ct [] [],0,dW (.mk 0 [] ct [] []),fun st=>?_⟩
    refine aA.start func296 rfl ntmps296 (by simp) fun _ ag=>?_
    simp (disch:=first|omega|exact ⟨by kernel_rfl⟩|(simp only [go_sem,aan];try omega)) only [go_sem,seval,cX ag,wd,wr,h0,bC (h1 _),bC (hv _)];(repeat' first|apply cq.l|refine cE.i fun hc=>?_|refine aQ.i ⟨?_,rfl⟩)<;>try subst ag
    all_goals rfl
  ·refine ⟨.mk 0 [] ct [] [],k,c,fun st=>?_⟩
   refine aA.start func296 rfl ntmps296 (by simp) fun _ ag=>?_
   simp (disch:=first|omega|exact ⟨by kernel_rfl⟩|(simp only [go_sem,aan];try omega)) only [go_sem,seval,cX ag,wd,wr,hc,bC (h1 _)];(repeat' first|apply cq.l|refine cE.i fun hc=>?_|refine aQ.i ⟨?_,rfl⟩)<;>try subst ag
   all_goals rfl
 |ok e j=>
  have h2:=wA_m (T:=T) g.le (aat _)
  have h3:=g.w
  have h4:wA T T.length=Wt T:=by rw [wA,aaD]
  have hv:=mL (G:=G) e g.g (by omega)
  simp only [reV] at h1
  by_cases h0:dW e=0
  ·rw [h0] at hv
   refine ⟨e,j,0,fun st=>?_⟩
   refine aA.start func296 rfl ntmps296 (by simp) fun _ ag=>?_
   simp (disch:=first|omega|exact ⟨by kernel_rfl⟩|(simp only [go_sem,aan];try omega)) only [go_sem,seval,cX ag,wd,wr,bC (h1 _),bC (hv _)];(repeat' first|apply cq.l|refine aQ.i ⟨?_,rfl⟩)<;>try subst ag
   all_goals rfl
  ·refine ⟨.mk 0 [] ct [] [],0,dW e,fun st=>?_⟩
   refine aA.start func296 rfl ntmps296 (by simp) fun _ ag=>?_
   simp (disch:=first|omega|exact ⟨by kernel_rfl⟩|(simp only [go_sem,aan];try omega)) only [go_sem,seval,cX ag,wd,wr,h0,bC (h1 _),bC (hv _)];(repeat' first|apply cq.l|refine cE.i fun hc=>?_|refine aQ.i ⟨?_,rfl⟩)<;>try subst ag
   all_goals rfl
abbrev PrA:Type:=Ex×Int×Int
def prV (x:PrA):V:= .cF [vE x.1,ai x.2.1,ai x.2.2]
def l_TakeE (ga:GA G) (x:TsA) (st:St):Ly prog G 296 [jA x.1.1] st (fun x:Ex×Nat×Int=> .cF [vE x.1,ai ↑x.2.1,ai x.2.2]):=by
 obtain ⟨e,n,c,h⟩:=l_Take (G:=G) ga x.2.1 x.2.2;exact (h st).mono fun o s q=>⟨⟨(e,n,c),q.1⟩,q.2⟩
def l_place (x:TsA) (n:Nat) (s:aF) (hs:s.length≤1048576) (st:St):Ly prog G 297 [jA x.1.1,ai ↑n,vs s] st ai:=by
 by_cases h:n<x.1.1.length
 ·exact (c_place_lt x.1.1 n s x.2.1.1 h st).mono fun o s q=>⟨⟨_,q.1⟩,q.2⟩
 ·exact (c_place_ge x.1.1 n s x.2.1.1 hs h st).mono fun o s q=>⟨⟨_,q.1⟩,q.2⟩
def l_Parse (ga:GA G) (s:aF) (hs:s.length≤1048576) (st:St):Ly prog G 210 [vs s] st prV:=by
 have c0:=fun st=>lx_Tokens (G:=G) s st hs;have c1:=l_TakeE (G:=G) ga;have c2:=fun x n=>l_place (G:=G) x n s hs;unfold Ly;refine aA.start func210 rfl ntmps210 (by simp) fun _ ag=>?_;simp (disch:=first|omega|exact ⟨by kernel_rfl⟩|(simp only [go_sem,aan];try omega)) only [go_sem,seval,cX ag,wr,yT (c0 _),yT (c1 _ _),yT (c2 _ _ _),tsV];(repeat' first|apply cq.l|apply bg.i|refine cE.i fun hc=>?_|refine aQ.i ⟨?_,rfl⟩|refine fB.i fun j=>?_)<;>try subst ag
 all_goals first|exact ⟨(_,_,_),rfl⟩|exact ⟨(.mk 0 [] ct [] [],_,_),rfl⟩|skip
 refine AW.QC (P:=prog) mx [(5,8)] (by kernel_rfl) (by simp (disch:=first|omega|(simp only [go_sem,aan,aar];try omega)) only [go_sem,seval];try exact rfl) ?_;refine OX.nil ?_;refine Ng rfl ?_;refine kQ fun _ ag=>?_;simp (disch:=first|omega|exact ⟨by kernel_rfl⟩|(simp only [go_sem,aan];try omega)) only [go_sem,seval,cX ag,wd,wr];(repeat' first|apply cq.l|refine aQ.i ⟨?_,rfl⟩)<;>try subst ag
 exact ⟨(.mk 0 [] ct [] [],_,_),rfl⟩
end Go.Proofs.YtbcillkajdnljaaGreatDoor
end
section
set_option maxHeartbeats 8000000
set_option maxRecDepth 20000
namespace Go.Proofs.YtbcillkajdnljaaGreatDoor
open Tryz
open Go.Abs
attribute [local irreducible] AW OX GQ bK bO bz aY aA
variable {G:World→Nat→Prop}
def clF_b (s:aF):∀ (n i d:Nat),s.length - i≤n→clF s i d= -1∨∃ e:Nat,clF s i d=e∧i≤e∧e<s.length:=by
 intro n;induction n with
 |zero=>intro i d h;rw [clF,if_neg (by omega)];exact .inl rfl
 |succ n ih=>
  intro i d h
  rw [clF]
  split
  ·split
   ·split
    ·rename_i h3
     rcases ih (qtF s (i+1)) d (by omega) with h'|⟨e,h1,h2,h4⟩
     ·exact .inl h'
     ·exact .inr ⟨e,h1,by omega,h4⟩
    ·exact .inl rfl
   ·split
    ·rcases ih (i+1) (d+1) (by omega) with h'|⟨e,h1,h2,h4⟩
     ·exact .inl h'
     ·exact .inr ⟨e,h1,by omega,h4⟩
    ·split
     ·split
      ·exact .inr ⟨i,rfl,aat _,by assumption⟩
      ·rcases ih (i+1) (d - 1) (by omega) with h'|⟨e,h1,h2,h4⟩
       ·exact .inl h'
       ·exact .inr ⟨e,h1,by omega,h4⟩
     ·rcases ih (i+1) d (by omega) with h'|⟨e,h1,h2,h4⟩
      ·exact .inl h'
      ·exact .inr ⟨e,h1,by omega,h4⟩
  ·exact .inl rfl
def pre2 {a b:UInt8} {s:aF} {i:Nat} (h:[a,b]<+:s.drop i):i+2≤s.length:=by
 have:=h.length_le;rw [aar] at this;simp only [aav,aaA] at this;omega
abbrev ptA:Type:=(List (List D)×Int)×Int
def ptV (x:ptA):V:= .cF [.d (.sl x.1.1),ai x.1.2,ai x.2]
def dvB_w (b n:Nat) (l:List Pc) (t:aF) (N:Nat) (h:b<N):(dvB b n l t).within N (n+(dvT l t).length)=true:=by
 by_cases h0:t=[]<;>simp [dvB,dvT,h0,ec.within,V.within,V.within.all,h]
def dvB_nil (b n:Nat) (l:List Pc):dvB b n l []= .tc dT [.own n (l.map pcD),.d .eX,.bh]:=(rfl)
def dvT_nil (l:List Pc):dvT l []=[(pT,12,l.length)]:=(rfl)
def tdv_w (n:Nat) (r:List (List D)) (N:Nat):(ec.tc dT [.own n r,.d .eX,.bh]).within N (n+1)=true:=by simp [ec.within,V.within,V.within.all]
def ip_Parts (ga:GA G) (s:aF) (hs:s.length≤1048576) (st:St):Ly prog G 143 [vs s] st ptV:=by
 have hz:eU prog 335=some [.bh,.d .eX,.bh]:=by kernel_rfl
 unfold Ly;refine aA.body func143 rfl ntmps143 (by simp) ?_;refine AW.cutN 2 rfl fun K hK _ ag=>?_;simp (disch:=omega) only [go_sem,seval,cX ag];(repeat' first|apply cq.l|apply bg.i|refine cE.i fun hc=>?_|refine aQ.i ⟨?_,rfl⟩)<;>try subst ag
 ·exact ⟨(([],0),3),rfl⟩
 refine cB.i (hK _ _ ?_);refine AW.oA fun K1 hK1=>?_;refine AW.regL 0 (by rfl) (by rfl) fun K3 hK3=>OPW.allocT (e:=335) (by rfl) (by rfl) hz (hK3 _ _ (OW.endR (by rfl) (KT (hK1 _ _ ?_))));refine AW.tokenT st.aj.length 0 342 12 (T:=dT) (cs:=[.bh,.d .eX,.bh]) (by simp) rfl (by decide) (st':=⟨st.aj++[dvB st.aj.length st.toks.length [] []],st.toks++dvT [] []⟩) (by simp [dvB,dvT]) ?_;refine Wk.go fun _ ag=>?_;simp only [go_sem,seval,cX ag];all_goals (try subst ag)
 refine AW.zU (fun x:(List Pc×aF)×Nat=>[(0,vs s),(5,.ptr st.aj.length 0),(6,ai ↑x.2)]) (fun x=>[dvB st.aj.length st.toks.length x.1.1 x.1.2]) (fun x=>dvT x.1.1 x.1.2) (fun x=>x.2≤s.length∧x.1.1.length≤2*x.2∧x.1.2.length≤x.2) (fun x=>s.length - x.2) (([],[]),0) ⟨by simp,by simp only [go_sem,seval]⟩ (by simp) ?_;rintro ⟨⟨l,t⟩,i⟩ ⟨hi,hl,ht⟩;simp only at hi hl ht;have hf:=cd_flush (G:=G) st.aj [] st.toks l (by omega) t (by omega);by_cases hil:i<s.length
 ·have h1:=Ad (G:=G) (s.drop i) [36,36];have h2:=Ad (G:=G) (s.drop i) [36,123];have hw1:aA prog G 208 [.ptr st.aj.length 1,.d (.int .u8 36)] ⟨st.aj++dvB st.aj.length st.toks.length l t::[],st.toks++dvT l t⟩ (fun o s'=>o= .ret (.d .fD)∧s'=⟨st.aj++dvB st.aj.length st.toks.length l (t++[36])::[],st.toks++dvT l (t++[36])⟩):=cd_WB st.aj [] st.toks l t (by omega) 36;have hw2:aA prog G 208 [.ptr st.aj.length 1,.d (.int .u8 ↑(s.getD i 0).toNat)] ⟨st.aj++dvB st.aj.length st.toks.length l t::[],st.toks++dvT l t⟩ (fun o s'=>o= .ret (.d .fD)∧s'=⟨st.aj++dvB st.aj.length st.toks.length l (t++[s.getD i 0])::[],st.toks++dvT l (t++[s.getD i 0])⟩):=cd_WB st.aj [] st.toks l t (by omega) _;by_cases p1:[36,36]<+:s.drop i
  ·rw [decide_eq_true p1] at h1;have hp:=pre2 p1;refine Wk.go fun _ ag=>?_;simp (disch:=omega) only [go_sem,seval,cX ag,bC (h1 _),Ck hw1];(repeat' first|apply cq.l|refine cE.i fun hc=>?_)<;>try subst ag
   refine cB.i ⟨((l,t++[36]),i+2),⟨by simp (disch:=omega) only [go_sem,seval,dvB_w,abF,aaD]<;>omega,?_,?_⟩⟩
   ·exact ⟨by simp only;omega,by simp only;omega,by simp only [aax,aav,aaA];omega⟩
   ·simp only;omega
  ·rw [decide_eq_false p1] at h1;by_cases p2:[36,123]<+:s.drop i
   ·rw [decide_eq_true p2] at h2;have hp:=pre2 p2;have hc:=ip_closing (G:=G) s (by omega) (i+2) hp;rcases clF_b s _ (i+2) 0 (aat _) with he|⟨e,he,he1,he2⟩
    ·rw [he] at hc;refine Wk.go fun _ ag=>?_;simp (disch:=omega) only [go_sem,seval,cX ag,bC (h1 _),bC (h2 _),bC (hc _)];(repeat' first|apply cq.l|refine cE.i fun hc=>?_|refine aQ.i ⟨?_,rfl⟩)<;>try subst ag
     exact ⟨((_,_),_),rfl⟩
    ·rw [he] at hc;have hP:=l_Parse (G:=G) ga ((s.take e).drop (i+2)) (by rw [aar,aan];omega);have hf:=fun x:Ex=>cd_flush (G:=G) st.aj [.cells (x.enc.map .d)] st.toks l (by omega) t (by omega);have hfl:(flF l t).length≤2*i+1:=by
      unfold flF;split
      ·omega
      ·simp only [aax,aav,aaA];omega
     have ha:=fun (x:Ex) bl=>app_pc ⟨bl,st.toks++(pT,12,(flF l t).length)::flT t⟩ st.toks.length (flF l t) ([],true,x) (by simp) (by omega);have e2:(st.toks++(pT,12,(flF l t).length)::flT t).set st.toks.length (pT,12,(flF l t).length+1)=st.toks++(pT,12,(flF l t).length+1)::flT t:=by simp
     simp only [e2] at ha;have hz:dy prog 342=some 12:=by kernel_rfl
     refine Wk.go fun _ ag=>?_;simp (disch:=omega) only [go_sem,seval,cX ag,wr,bC (h1 _),bC (h2 _),bC (hc _),yT (hP _),Ck (hf _),prV,mV,hz,ha,rowsLen_pc,pc_one,pcD_len,pcD_fold];(repeat' first|apply cq.l|apply bg.i|refine cE.i fun hc=>?_|refine aQ.i ⟨?_,rfl⟩|refine fB.i fun j=>?_)<;>try subst ag
     ·exact ⟨((_,_),_),rfl⟩
     refine cB.i ⟨((flF l t++[([],true,j.1)],[]),e+1),⟨by simp (disch:=omega) only [go_sem,seval,dvB_nil,dvT_nil,aaQ,aaB,aaI,aax,aav,aaA,tdv_w,decide_true]<;>omega,?_,?_⟩⟩
     ·exact ⟨by simp only;omega,by simp only [aax,aav,aaA];omega,by simp⟩
     ·simp only;omega
   ·rw [decide_eq_false p2] at h2;refine Wk.go fun _ ag=>?_;simp (disch:=omega) only [go_sem,seval,cX ag,bC (h1 _),bC (h2 _),Ck hw2];(repeat' first|apply cq.l|refine cE.i fun hc=>?_)<;>try subst ag
    refine cB.i ⟨((l,t++[s.getD i 0]),i+1),⟨by simp (disch:=omega) only [go_sem,seval,dvB_w,abF,aaD]<;>omega,?_,?_⟩⟩
    ·exact ⟨by simp only;omega,by simp only;omega,by simp only [aax,aav,aaA];omega⟩
    ·simp only;omega
 ·refine Wk.go fun _ ag=>?_;simp (disch:=omega) only [go_sem,seval,cX ag,Ck hf];(repeat' first|apply cq.l|refine cE.i fun hc=>?_|refine aQ.i ⟨?_,rfl⟩)<;>try subst ag
  exact ⟨((_,_),_),rfl⟩
