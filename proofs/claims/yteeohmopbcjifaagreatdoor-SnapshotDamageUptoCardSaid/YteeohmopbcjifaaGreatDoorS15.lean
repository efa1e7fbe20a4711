import Derived.Test.YteeohmopbcjifaaGreatDoorS14
import Derived.Laws.RangeString
import Derived.Laws.RangeAny
import Derived.Lib.DecodeN
set_option linter.unusedSimpArgs false
set_option linter.unusedVariables false
section
set_option maxHeartbeats 8000000
set_option maxRecDepth 20000
namespace Go.Proofs.YteeohmopbcjifaaGreatDoor
open Tryz
open Go.Abs
attribute [local irreducible] AW OX cG GQ bK bO bz aY aa
variable {G:World→Nat→Prop}
abbrev Qi:List V:=[.d (.int .i64 0),.d (.str []),.d (.int .i64 0),.d (.bool false),.d (.int .i64 0),.d (.str []),.bh,.bh,.bh,.bh]
abbrev Xt (N:Nat) (ls ks:List (List D)):List V:=[.d (.int .i64 10),.d (.str []),.d (.int .i64 0),.d (.bool false),.d (.int .i64 0),.d (.str []),.bh,.bh,lz (N+1) ls,lz N ks]
abbrev Tg (B:List aJ) (K:List (Nat×Nat×Nat)) (b:Nat) (T:List Tk) (x:List Ex×List cx×Nat×Nat):St:=⟨B.set b (bI T x.2.2.1)++[.cells Qi,.cells (Xt K.length (x.1.map Ex.enc) (bt x.2.1))],K++zu 9 1 86 10 (bt x.2.1) (x.1.map Ex.enc)⟩
abbrev Xu (B:List aJ) (b:Nat) (_:List Ex×List cx×Nat×Nat):List (Nat×V):=[(0,.ptr b 0),(2,.ptr B.length 0),(3,.ptr (B.length+1) 0)]
theorem Fv (N M:Nat) (K:List (Nat×Nat×Nat)) (ls ks:List (List D)) (h:ls.length≤ks.length):(aJ.cells (Xt K.length ls ks)).within N (K.length+(zu 9 1 86 10 ks ls).length)=true:=by
 have h1:=sS N K.length 9 1 86 10 ks ls
 have h2:=sU N K.length 9 1 86 10 ks ls h
 simp [aJ.within,V.within.all,h1,h2,within_d,qx]
theorem Dt {B:List aJ} {K:List (Nat×Nat×Nat)} {b:Nat} {T:List Tk} {p:List Ex×List cx×Nat×Nat→Prop} {x x':List Ex×List cx×Nat×Nat} {fr:Fr} {L:List aJ} {ls kk:List (List D)} {i:Nat} (hb:B[b]?=some (bI T i)) (hls:x'.1.map Ex.enc=ls) (hkk:bt x'.2.1=kk)
  (slots:okF fr (Xu B b x')) (ok:p x') (less:x'.2.2.2<x.2.2.2) (hlen:(x'.1.map Ex.enc).length≤(bt x'.2.1).length):
  Qz ⟨B,K⟩ (Xu B b) (Tg B K b T) p (fun x=>x.2.2.2) x fr ⟨B.set b (bI T x'.2.2.1)++(.cells Qi:: .cells (Xt K.length ls kk)::L),K++zu 9 1 86 10 kk ls⟩ x':=by
 subst hls hkk
 have hbl:=(aaL.1 hb).1
 refine ⟨slots,ok,less,?_,by simp,by simp,by simp [okW,V.within,hbl];omega,?_⟩
 ·simp only [St.cut,Tg,aaQ,abA,aaM,aaV,abl]
  congr 1
  ·rw [List.take_append]
   simp
   exact aa0 (by simp)
  ·rw [←aaQ,aaY]
 ·intro b' B' h
  simp only [Tg,aaQ,abA,aaM,aaV,abl] at h ⊢
  by_cases hlt:b'<B.length
  ·rw [aaU (by simpa using hlt),ab9] at h
   by_cases hbb:b=b'
   ·subst hbb
    rw [if_pos rfl,if_pos hlt] at h
    cases h
    exact .inr (by simp [aJ.within,V.within,V.within.all])
   ·rw [if_neg hbb] at h
    exact .inl h
  ·rw [aaO (by simpa using hlt),abA] at h
   match hd:b' - B.length with
   |0=>rw [hd] at h;simp at h;subst h;exact .inr (by simp [aJ.within,V.within,V.within.all])
   |1=>rw [hd] at h;simp only [abR,abZ,aaJ] at h;subst h;exact .inr (Fv _ 0 K _ _ hlen)
   |d+2=>rw [hd] at h;simp at h
theorem oY (ks:List cx):(bt ks).length=ks.length:=by induction ks<;>simp_all [bt]
theorem Zv (hg:GV G) {T:List Tk} {f:Nat} (hT:T.length≤1048576) (hx:∀ t∈T,t.text.length≤1048576) (hf:∀ g≤f,ur G T g)
  (i:Nat) (hi:i≤T.length) (r:dF Ex) (h:pF (f+1) .kW (T.drop i)=some r):
  kf G T 280 [] i r:=by
 intro B K b hb
 have hbl:b<B.length:=(aaL.1 hb).1
 have hs1:∀ m y,(B++m).set b y=B.set b y++m:=fun m y=>kg hb
 have hs2:∀ z m y,(B.set b z++m).set b y=B.set b y++m:=fun z m y=>jU hb
 have hg1:∀ m,(B++m)[b]?=some (bI T i):=fun m=>fU hb
 have hg2:∀ z m,(B.set b z++m)[b]?=some z:=fun z m=>fU (iA hb)
 have hl:∀ z,(B.set b z).length=B.length:=fun z=>abA
 have hG:∀ (z:aJ) (m:List aJ) (k:Nat),(B.set b z++m)[B.length+k]?=m[k]?:=fun z m k=>by rw [aaO (by simp)];simp
 have hG0:∀ (z:aJ) (m:List aJ),(B.set b z++m)[B.length]?=m[0]?:=fun z m=>by rw [aaO (by simp)];simp
 have hS:∀ (z y:aJ) (m:List aJ) (k:Nat),(B.set b z++m).set (B.length+k) y=B.set b z++m.set k y:=fun z y m k=>by rw [abf _ _ (by simp)];simp
 have hS0:∀ (z y:aJ) (m:List aJ),(B.set b z++m).set B.length y=B.set b z++m.set 0 y:=fun z y m=>by rw [abf _ _ (by simp)];simp
 have len:∀ j,j≤T.length→T.length - (T.drop j).length=j:=fun j hj=>by simp only [aa6];omega
 simp only [pF] at h
 cases hb1:bU T i [125]
 ·have a1:=fun m=>eK (G:=G) hg ⟨B++m,K⟩ b i T hT hx (by omega) (hg1 m) [125] (by rw [cW];exact hb1)
  have h':pF f (.xR [] []) (T.drop i)=some r:=by
   by_cases hil:i<T.length
   ·rw [bM hil] at h ⊢
    simp only [dj hil hb1,abh,if_false] at h
    exact h
   ·rw [bk hil] at h ⊢;exact h
  refine aa.body func280 rfl ntmps280 (by simp) ?_
  (try with_reducible refine Wk.aw fun _ ag=>?_);(repeat' (first|((with_reducible first|refine Wk.hd ?_|refine Wk.i ?_);simp (disch:=first|omega|(simp only [go_sem];try omega)) only [go_sem,seval,hs1,hs2,hl,hG,hG0,hS,hS0])|refine ah (a1 _) ?_|with_reducible refine Wk.o ?_));all_goals (repeat subst ag)
  refine AW.Nc (Xu B b) (Tg B K b T)
   (fun x=>x.2.2.1≤T.length∧x.1.length≤x.2.2.1∧x.1.length=x.2.1.length∧x.2.2.2≤f∧pF x.2.2.2 (.xR x.1 x.2.1) (T.drop x.2.2.1)=some r) (fun x=>x.2.2.2) ([],[],i,f) (by simp only [Tg,og hb,bt,aba,Dp,aa7,HV];rfl) (by simp (disch:=first|omega|(simp only [go_sem];try omega)) only [go_sem,seval]<;>first|rfl|exact ⟨rfl,rfl⟩|skip) ⟨hi,by simp,by simp,aaP _,h'⟩ ?_
  rintro ⟨acc,ks,k,g⟩ ⟨p1,p2,p2',p3,p4⟩
  simp only at p1 p2 p2' p3 p4
  obtain ⟨g,rfl⟩:∃ g',g=g'+1:=by
   cases g with
   |zero=>simp [pF] at p4
   |succ g=>exact ⟨g,rfl⟩
  simp only [pF] at p4
  cases hne:gL T k with
  |error ee=>
   have hn:=fun m K'=>lH (G:=G) hg ⟨B.set b (bI T k)++m,K'⟩ b k T hT hx (by omega) (hg2 _ m) ee hne
   have hr:r= .err (T.drop k) ee:=by
    rw [nh hne,bD]
    by_cases hk:k<T.length
    ·have hrf:=zJ hne hk
     rw [if_neg (by omega)]
     rw [bM hk] at p4 ⊢
     have hkf:kq (T.getD k default)=false:=by
      generalize T.getD k default=t at*
      rw [←Bool.not_eq_true]
      intro hh
      simp only [kq,abo,aaW,aaS] at hh
      rcases hh with ⟨q1,q2⟩|⟨q1,q2⟩
      ·rw [fT,if_pos q1,q2] at hrf;cases hrf
      ·rw [fT,if_neg (by omega),if_neg (by omega),if_pos q1,decide_eq_true q2] at hrf;cases hrf
     simp only [hkf,abh,if_false,aaJ] at p4
     exact p4.symm
    ·rw [if_pos (by omega)]
     rw [bk hk] at p4 ⊢
     simp only [aaJ] at p4
     exact p4.symm
   subst hr
   simp only [fh,au,len k p1]
   (try with_reducible refine Wk.aw fun _ ag=>?_);(repeat' (first|((with_reducible first|refine Wk.hd ?_|refine Wk.i ?_);simp (disch:=first|omega|(simp only [go_sem];try omega)) only [go_sem,seval,hs1,hs2,hl,hG,hG0,hS,hS0])|refine cA (hn _ _) ?_|with_reducible first|refine Wk.o ?_|refine Wk.q ‹_› ?_));all_goals (repeat subst ag)
   refine aM (s1:=⟨B.set b (bI T k),K⟩) (by simp [St.cut]) (aR ?_) rfl ⟨rfl,rfl⟩
   simp [aJ.within,V.within,V.within.all]
  |ok u=>
   have hn:=fun m K'=>kN (G:=G) hg ⟨B.set b (bI T k)++m,K'⟩ b k T hT hx (by omega) (hg2 _ m) u hne
   obtain ⟨hk,hu,hru⟩:=zI hne
   rw [bM hk,←hu] at p4
   simp only at p4
   have hux:u.text.length≤1048576:=by rw [hu];exact hx _ (aB hk)
   by_cases hkk:u.kind=1∨u.kind=3
   ·have hkt:kq u=true:=by
     simp only [kq,abo,aaW,aaS]
     rw [fT] at hru
     rcases hkk with q|q
     ·rw [if_pos q] at hru;exact .inl ⟨q,hru⟩
     ·rw [if_neg (by omega),if_neg (by omega),if_pos q,aaS] at hru;exact .inr ⟨q,hru⟩
    rw [if_pos hkt,gp] at p4
    cases hb2:bU T (k+1) [58]
    ·rw [hb2,if_neg abE,aaJ] at p4
     subst p4
     have hx2:=fun m K'=>iR (G:=G) hg ⟨B.set b (bI T (k+1))++m,K'⟩ b (k+1) T hT hx (by omega) (by exact hg2 _ _) [58] (by rw [cW];exact hb2)
     simp only [fh,au,len (k+1) (by omega)]
     rcases hkk with hk1|hk3
     ·(try with_reducible refine Wk.aw fun _ ag=>?_);(repeat' (first|((with_reducible first|refine Wk.hd ?_|refine Wk.i ?_);simp (disch:=first|omega|(simp only [go_sem];try omega)) only [go_sem,seval,hs1,hs2,hl,hG,hG0,hS,hS0,hg2,hk1])|refine ah (hn _ _) ?_|refine cA (hx2 _ _) ?_|with_reducible first|refine Wk.o ?_|refine Wk.q ‹_› ?_));all_goals (repeat subst ag)
      refine aM (s1:=⟨B.set b (bI T (k+1)),K⟩) (by simp [St.cut]) (aR ?_) rfl ⟨rfl,rfl⟩
      simp [aJ.within,V.within,V.within.all]
     ·(try with_reducible refine Wk.aw fun _ ag=>?_);(repeat' (first|((with_reducible first|refine Wk.hd ?_|refine Wk.i ?_);simp (disch:=first|omega|(simp only [go_sem];try omega)) only [go_sem,seval,hs1,hs2,hl,hG,hG0,hS,hS0,hg2,hk3])|refine ah (hn _ _) ?_|refine cA (hx2 _ _) ?_|with_reducible first|refine Wk.o ?_|refine Wk.q ‹_› ?_));all_goals (repeat subst ag)
      refine aM (s1:=⟨B.set b (bI T (k+1)),K⟩) (by simp [St.cut]) (aR ?_) rfl ⟨rfl,rfl⟩
      simp [aJ.within,V.within,V.within.all]
    ·have hk2:=bW hb2
     rw [hb2,if_pos rfl] at p4
     have hx2:∀ m K',aa prog G 261 [.ptr b 0,vs [58]] ⟨B.set b (bI T (k+1))++m,K'⟩ (fun o s'=>o= .ret (.cF [])∧s'=⟨B.set b (bI T (k+1+1))++m,K'⟩):=fun m K'=>by
      have:=iQ (G:=G) hg ⟨B.set b (bI T (k+1))++m,K'⟩ b (k+1) T hT hx (by omega) (by exact hg2 _ _) [58] (by rw [cW];exact hb2)
      simp only [hs2] at this;exact this
     rcases h2:pF g .cond (T.drop (k+1+1)) with _|(⟨x,r2⟩|⟨r2,e2⟩)
     ·rw [h2] at p4;simp [aL] at p4
     ·have c2:=(hf g (by omega)).cond (k+1+1) (by omega) _ h2
      obtain ⟨m,hkm,hm,d2,e2⟩:=fS h2 (by omega)
      simp only [au] at d2 e2
      subst d2
      rw [h2] at p4
      simp only [aL] at p4
      simp only [kf,fh,au,e2] at c2
      have c2':∀ m' K',aa prog G 246 [.ptr b 0] ⟨B.set b (bI T (k+1+1))++m',K'⟩ (fun o s=>o= .ret (vE x)∧s=⟨B.set b (bI T m)++m',K'⟩):=fun m' K'=>by have:=c2 _ K' b (hg2 _ m');simp only [hs2] at this;exact this
      cases hb3:bU T m [44]
      ·have a3:=fun m' K'=>eK (G:=G) hg ⟨B.set b (bI T m)++m',K'⟩ b m T hT hx (by omega) (hg2 _ m') [44] (by rw [cW];exact hb3)
       cases hb4:bU T m [125]
       ·have hx4:=fun m' K'=>iR (G:=G) hg ⟨B.set b (bI T m)++m',K'⟩ b m T hT hx (by omega) (hg2 _ m') [125] (by rw [cW];exact hb4)
        have hr:r= .err (T.drop m) (bD T m):=by
         by_cases hml:m<T.length
         ·rw [bM hml] at p4
          simp only [dj hml hb4,dj hml hb3,abh,if_false,aaJ] at p4
          rw [←p4,bD,if_neg (by omega),bM hml]
         ·rw [bk hml] at p4
          simp only [aaJ] at p4
          rw [←p4,bD,if_pos (by omega),bk hml]
        subst hr
        simp only [fh,au,len m hm]
        rcases hkk with hk1|hk3
        ·(try with_reducible refine Wk.aw fun _ ag=>?_);(repeat' (first|((with_reducible refine Wk.Au 10 ?_);refine AW.uh (P:=prog) mx 3 [(1,4)] (by kernel_rfl) (by kernel_rfl) (by simp (disch:=first|omega|(simp only [go_sem];try omega)) only [go_sem,seval,hs1,hs2,hl,hG,hG0,hS,hS0,hg2,hk1];try exact rfl) (by kernel_rfl) call246 rfl rfl (by simp (disch:=first|omega|(simp only [go_sem];try omega)) only [go_sem,seval,hs1,hs2,hl,hG,hG0,hS,hS0,hg2,hk1];try exact rfl) (c2' _ _) (by simp (disch:=first|omega|(simp only [go_sem];try omega)) only [go_sem,seval,hs1,hs2,hl,hG,hG0,hS,hS0,hg2,hk1];try exact rfl) (fF (by decide) (by decide) rfl rfl (by simp (disch:=first|omega|(simp only [go_sem];try omega)) only [go_sem,seval,hs1,hs2,hl,hG,hG0,hS,hS0,hg2,hk1]) (iz)) ?_)|(with_reducible first|refine Wk.ox ?_|refine Wk.th ?_|refine Wk.bl ?_)|((with_reducible first|refine Wk.hd ?_|refine Wk.i ?_);simp (disch:=first|omega|(simp only [go_sem];try omega)) only [go_sem,seval,hs1,hs2,hl,hG,hG0,hS,hS0,hg2,hk1])|refine ah (hn _ _) ?_|refine aW (hx2 _ _) ?_|refine ah (a3 _ _) ?_|refine cA (hx4 _ _) ?_|with_reducible first|refine Wk.o ?_|refine Wk.q ‹_› ?_));all_goals (repeat subst ag)
         refine aM (s1:=⟨B.set b (bI T m),K⟩) (by simp [St.cut]) (aR ?_) rfl ⟨rfl,rfl⟩
         simp [aJ.within,V.within,V.within.all]
        ·(try with_reducible refine Wk.aw fun _ ag=>?_);(repeat' (first|((with_reducible refine Wk.Au 10 ?_);refine AW.uh (P:=prog) mx 3 [(1,4)] (by kernel_rfl) (by kernel_rfl) (by simp (disch:=first|omega|(simp only [go_sem];try omega)) only [go_sem,seval,hs1,hs2,hl,hG,hG0,hS,hS0,hg2,hk3];try exact rfl) (by kernel_rfl) call246 rfl rfl (by simp (disch:=first|omega|(simp only [go_sem];try omega)) only [go_sem,seval,hs1,hs2,hl,hG,hG0,hS,hS0,hg2,hk3];try exact rfl) (c2' _ _) (by simp (disch:=first|omega|(simp only [go_sem];try omega)) only [go_sem,seval,hs1,hs2,hl,hG,hG0,hS,hS0,hg2,hk3];try exact rfl) (fF (by decide) (by decide) rfl rfl (by simp (disch:=first|omega|(simp only [go_sem];try omega)) only [go_sem,seval,hs1,hs2,hl,hG,hG0,hS,hS0,hg2,hk3]) (iz)) ?_)|(with_reducible first|refine Wk.ox ?_|refine Wk.th ?_|refine Wk.bl ?_)|((with_reducible first|refine Wk.hd ?_|refine Wk.i ?_);simp (disch:=first|omega|(simp only [go_sem];try omega)) only [go_sem,seval,hs1,hs2,hl,hG,hG0,hS,hS0,hg2,hk3])|refine ah (hn _ _) ?_|refine aW (hx2 _ _) ?_|refine ah (a3 _ _) ?_|refine cA (hx4 _ _) ?_|with_reducible first|refine Wk.o ?_|refine Wk.q ‹_› ?_));all_goals (repeat subst ag)
         refine aM (s1:=⟨B.set b (bI T m),K⟩) (by simp [St.cut]) (aR ?_) rfl ⟨rfl,rfl⟩
         simp [aJ.within,V.within,V.within.all]
       ·have hml:=bW hb4
        rw [bM hml] at p4
        simp only [eH hb4,if_true,aaJ] at p4
        subst p4
        have hx4:∀ m' K',aa prog G 261 [.ptr b 0,vs [125]] ⟨B.set b (bI T m)++m',K'⟩ (fun o s'=>o= .ret (.cF [])∧s'=⟨B.set b (bI T (m+1))++m',K'⟩):=fun m' K'=>by
         have:=iQ (G:=G) hg ⟨B.set b (bI T m)++m',K'⟩ b m T hT hx (by omega) (hg2 _ m') [125] (by rw [cW];exact hb4)
         simp only [hs2] at this;exact this
        have hve:vE (Ex.mk 10 [] ct (acc++[x]) (ks++[u.text]))=V.agg [V.d (D.int .i64 10),V.d (D.str []),V.d (D.int .i64 0),V.d (D.bool false),V.d (D.int .i64 0),V.d (D.str []),V.d (D.sl []),V.d (D.sl []),V.d (D.sl (acc.map Ex.enc++[x.enc])),V.d (D.sl (bt ks++[[D.str u.text]]))]:=by
         rw [vE,Ex.aP];simp [Ex.args,Ex.keys,Ex.kind,Ex.name,Ex.value,ct,aX.aP,aX.kind,aX.bool,aX.int,aX.str,aX.list,aX.keys,bt]
        simp only [fh,au,len (m+1) (by omega)]
        rcases hkk with hk1|hk3
        ·(try with_reducible refine Wk.aw fun _ ag=>?_);(repeat' (first|((with_reducible refine Wk.Au 10 ?_);refine AW.uh (P:=prog) mx 3 [(1,4)] (by kernel_rfl) (by kernel_rfl) (by simp (disch:=first|omega|(simp only [go_sem];try omega)) only [go_sem,seval,hs1,hs2,hl,hG,hG0,hS,hS0,hg2,hk1];try exact rfl) (by kernel_rfl) call246 rfl rfl (by simp (disch:=first|omega|(simp only [go_sem];try omega)) only [go_sem,seval,hs1,hs2,hl,hG,hG0,hS,hS0,hg2,hk1];try exact rfl) (c2' _ _) (by simp (disch:=first|omega|(simp only [go_sem];try omega)) only [go_sem,seval,hs1,hs2,hl,hG,hG0,hS,hS0,hg2,hk1];try exact rfl) (fF (by decide) (by decide) rfl rfl (by simp (disch:=first|omega|(simp only [go_sem];try omega)) only [go_sem,seval,hs1,hs2,hl,hG,hG0,hS,hS0,hg2,hk1]) (iz)) ?_)|(with_reducible first|refine Wk.ox ?_|refine Wk.th ?_|refine Wk.bl ?_)|((with_reducible first|refine Wk.hd ?_|refine Wk.i ?_);simp (disch:=first|omega|(simp only [go_sem];try omega)) only [go_sem,seval,hs1,hs2,hl,hG,hG0,hS,hS0,hg2,hk1])|refine ah (hn _ _) ?_|refine aW ((by first|exact hx2 _ _|exact hx4 _ _)) ?_|refine ah (a3 _ _) ?_|with_reducible first|refine Wk.o ?_|refine Wk.q ‹_› ?_));all_goals (repeat subst ag)
         refine aV (v:=vE (Ex.mk 10 [] ct (acc++[x]) (ks++[u.text]))) K.length (aaP _) (s1:=⟨B.set b (bI T (m+1)),K⟩) (by simp [St.cut]) (aR ?_) (by simp (disch:=first|omega|(simp only [go_sem];try omega)) only [go_sem,seval,bQ,bZ,results280,hG,hG0];try exact rfl) (by rw [hve];simp (disch:=first|omega|(simp only [go_sem];try omega)) only [go_sem,seval,eD];try exact rfl) (by simp (disch:=first|omega|(simp only [go_sem];try omega)) only [go_sem,seval];try exact rfl) ⟨rfl,rfl⟩
         simp [aJ.within,V.within,V.within.all]
        ·(try with_reducible refine Wk.aw fun _ ag=>?_);(repeat' (first|((with_reducible refine Wk.Au 10 ?_);refine AW.uh (P:=prog) mx 3 [(1,4)] (by kernel_rfl) (by kernel_rfl) (by simp (disch:=first|omega|(simp only [go_sem];try omega)) only [go_sem,seval,hs1,hs2,hl,hG,hG0,hS,hS0,hg2,hk3];try exact rfl) (by kernel_rfl) call246 rfl rfl (by simp (disch:=first|omega|(simp only [go_sem];try omega)) only [go_sem,seval,hs1,hs2,hl,hG,hG0,hS,hS0,hg2,hk3];try exact rfl) (c2' _ _) (by simp (disch:=first|omega|(simp only [go_sem];try omega)) only [go_sem,seval,hs1,hs2,hl,hG,hG0,hS,hS0,hg2,hk3];try exact rfl) (fF (by decide) (by decide) rfl rfl (by simp (disch:=first|omega|(simp only [go_sem];try omega)) only [go_sem,seval,hs1,hs2,hl,hG,hG0,hS,hS0,hg2,hk3]) (iz)) ?_)|(with_reducible first|refine Wk.ox ?_|refine Wk.th ?_|refine Wk.bl ?_)|((with_reducible first|refine Wk.hd ?_|refine Wk.i ?_);simp (disch:=first|omega|(simp only [go_sem];try omega)) only [go_sem,seval,hs1,hs2,hl,hG,hG0,hS,hS0,hg2,hk3])|refine ah (hn _ _) ?_|refine aW ((by first|exact hx2 _ _|exact hx4 _ _)) ?_|refine ah (a3 _ _) ?_|with_reducible first|refine Wk.o ?_|refine Wk.q ‹_› ?_));all_goals (repeat subst ag)
         refine aV (v:=vE (Ex.mk 10 [] ct (acc++[x]) (ks++[u.text]))) K.length (aaP _) (s1:=⟨B.set b (bI T (m+1)),K⟩) (by simp [St.cut]) (aR ?_) (by simp (disch:=first|omega|(simp only [go_sem];try omega)) only [go_sem,seval,bQ,bZ,results280,hG,hG0];try exact rfl) (by rw [hve];simp (disch:=first|omega|(simp only [go_sem];try omega)) only [go_sem,seval,eD];try exact rfl) (by simp (disch:=first|omega|(simp only [go_sem];try omega)) only [go_sem,seval];try exact rfl) ⟨rfl,rfl⟩
         simp [aJ.within,V.within,V.within.all]
      ·have hml:=bW hb3
       have hb4:cg [125] (T.getD m default)=false:=by
        rw [abO];intro hh
        simp only [cg,aaS] at hh
        have:=ni hb3
        rw [hh.2] at this
        exact absurd this (by decide)
       have a3:∀ m' K',aa prog G 260 [.ptr b 0,vs [44]] ⟨B.set b (bI T m)++m',K'⟩ (fun o s'=>o= .ret (vb true)∧s'=⟨B.set b (bI T (m+1))++m',K'⟩):=fun m' K'=>by
        have:=eL (G:=G) hg ⟨B.set b (bI T m)++m',K'⟩ b m T hT hx (by omega) (hg2 _ m') [44] (by rw [cW];exact hb3)
        simp only [hs2] at this;exact this
       rw [bM hml] at p4
       simp only [hb4,eH hb3,abh,if_false,if_true] at p4
       rcases hkk with hk1|hk3
       ·(try with_reducible refine Wk.aw fun _ ag=>?_);(repeat' (first|((with_reducible refine Wk.Au 10 ?_);refine AW.uh (P:=prog) mx 3 [(1,4)] (by kernel_rfl) (by kernel_rfl) (by simp (disch:=first|omega|(simp only [go_sem];try omega)) only [go_sem,seval,hs1,hs2,hl,hG,hG0,hS,hS0,hg2,hk1];try exact rfl) (by kernel_rfl) call246 rfl rfl (by simp (disch:=first|omega|(simp only [go_sem];try omega)) only [go_sem,seval,hs1,hs2,hl,hG,hG0,hS,hS0,hg2,hk1];try exact rfl) (c2' _ _) (by simp (disch:=first|omega|(simp only [go_sem];try omega)) only [go_sem,seval,hs1,hs2,hl,hG,hG0,hS,hS0,hg2,hk1];try exact rfl) (fF (by decide) (by decide) rfl rfl (by simp (disch:=first|omega|(simp only [go_sem];try omega)) only [go_sem,seval,hs1,hs2,hl,hG,hG0,hS,hS0,hg2,hk1]) (iz)) ?_)|(with_reducible first|refine Wk.ox ?_|refine Wk.th ?_|refine Wk.bl ?_)|((with_reducible first|refine Wk.hd ?_|refine Wk.i ?_);simp (disch:=first|omega|(simp only [go_sem];try omega)) only [go_sem,seval,hs1,hs2,hl,hG,hG0,hS,hS0,hg2,hk1])|refine ah (hn _ _) ?_|refine aW (hx2 _ _) ?_|refine aW (a3 _ _) ?_|with_reducible first|refine Wk.o ?_|refine Wk.q ‹_› ?_));all_goals (repeat subst ag)
        refine ⟨(acc++[x],ks++[u.text],m+1,g),?_⟩
        refine Dt (x':=(acc++[x],ks++[u.text],m+1,g)) hb (by simp) (by simp [bt]) ?_ ?_ ?_ ?_
        ·simp (disch:=first|omega|(simp only [go_sem];try omega)) only [go_sem,seval]<;>first|rfl|exact ⟨rfl,rfl⟩|skip
        ·exact ⟨by simp only;omega,by simp only [aaQ,abg];omega,by simp only [aaQ,abg];omega,by simp only;omega,p4⟩
        ·simp only;omega
        ·simp [oY];omega
       ·(try with_reducible refine Wk.aw fun _ ag=>?_);(repeat' (first|((with_reducible refine Wk.Au 10 ?_);refine AW.uh (P:=prog) mx 3 [(1,4)] (by kernel_rfl) (by kernel_rfl) (by simp (disch:=first|omega|(simp only [go_sem];try omega)) only [go_sem,seval,hs1,hs2,hl,hG,hG0,hS,hS0,hg2,hk3];try exact rfl) (by kernel_rfl) call246 rfl rfl (by simp (disch:=first|omega|(simp only [go_sem];try omega)) only [go_sem,seval,hs1,hs2,hl,hG,hG0,hS,hS0,hg2,hk3];try exact rfl) (c2' _ _) (by simp (disch:=first|omega|(simp only [go_sem];try omega)) only [go_sem,seval,hs1,hs2,hl,hG,hG0,hS,hS0,hg2,hk3];try exact rfl) (fF (by decide) (by decide) rfl rfl (by simp (disch:=first|omega|(simp only [go_sem];try omega)) only [go_sem,seval,hs1,hs2,hl,hG,hG0,hS,hS0,hg2,hk3]) (iz)) ?_)|(with_reducible first|refine Wk.ox ?_|refine Wk.th ?_|refine Wk.bl ?_)|((with_reducible first|refine Wk.hd ?_|refine Wk.i ?_);simp (disch:=first|omega|(simp only [go_sem];try omega)) only [go_sem,seval,hs1,hs2,hl,hG,hG0,hS,hS0,hg2,hk3])|refine ah (hn _ _) ?_|refine aW (hx2 _ _) ?_|refine aW (a3 _ _) ?_|with_reducible first|refine Wk.o ?_|refine Wk.q ‹_› ?_));all_goals (repeat subst ag)
        refine ⟨(acc++[x],ks++[u.text],m+1,g),?_⟩
        refine Dt (x':=(acc++[x],ks++[u.text],m+1,g)) hb (by simp) (by simp [bt]) ?_ ?_ ?_ ?_
        ·simp (disch:=first|omega|(simp only [go_sem];try omega)) only [go_sem,seval]<;>first|rfl|exact ⟨rfl,rfl⟩|skip
        ·exact ⟨by simp only;omega,by simp only [aaQ,abg];omega,by simp only [aaQ,abg];omega,by simp only;omega,p4⟩
        ·simp only;omega
        ·simp [oY];omega
     ·have c2:=(hf g (by omega)).cond (k+1+1) (by omega) _ h2
      rw [h2] at p4
      simp only [aL,aaJ] at p4
      subst p4
      simp only [kf,fh,au] at c2
      have c2':∀ m' K',aa prog G 246 [.ptr b 0] ⟨B.set b (bI T (k+1+1))++m',K'⟩ (fun o s=>o= .dw (panV (T.length - r2.length) e2)∧s=⟨B.set b (bI T (T.length - r2.length))++m',K'⟩):=fun m' K'=>by have:=c2 _ K' b (hg2 _ m');simp only [hs2] at this;exact this
      simp only [fh,au]
      rcases hkk with hk1|hk3
      ·(try with_reducible refine Wk.aw fun _ ag=>?_);(repeat' (first|((with_reducible refine Wk.Au 10 ?_);refine AW.H7 (P:=prog) mx 3 [(1,4)] (by kernel_rfl) (by kernel_rfl) (by simp (disch:=first|omega|(simp only [go_sem];try omega)) only [go_sem,seval,hs1,hs2,hl,hG,hG0,hS,hS0,hg2,hk1];try exact rfl) (by kernel_rfl) call246 rfl (by simp (disch:=first|omega|(simp only [go_sem];try omega)) only [go_sem,seval,hs1,hs2,hl,hG,hG0,hS,hS0,hg2,hk1];try exact rfl) (c2' _ _) (fun fr_=>?_))|(with_reducible first|refine Wk.ox ?_|refine Wk.th ?_|refine Wk.bl ?_)|((with_reducible first|refine Wk.hd ?_|refine Wk.i ?_);simp (disch:=first|omega|(simp only [go_sem];try omega)) only [go_sem,seval,hs1,hs2,hl,hG,hG0,hS,hS0,hg2,hk1])|refine ah (hn _ _) ?_|refine aW (hx2 _ _) ?_|with_reducible first|refine Wk.o ?_|refine Wk.q ‹_› ?_));all_goals (repeat subst ag)
       refine aM (s1:=⟨B.set b (bI T (T.length - r2.length)),K⟩) (by simp [St.cut]) (aR ?_) rfl ⟨rfl,rfl⟩
       simp [aJ.within,V.within,V.within.all]
      ·(try with_reducible refine Wk.aw fun _ ag=>?_);(repeat' (first|((with_reducible refine Wk.Au 10 ?_);refine AW.H7 (P:=prog) mx 3 [(1,4)] (by kernel_rfl) (by kernel_rfl) (by simp (disch:=first|omega|(simp only [go_sem];try omega)) only [go_sem,seval,hs1,hs2,hl,hG,hG0,hS,hS0,hg2,hk3];try exact rfl) (by kernel_rfl) call246 rfl (by simp (disch:=first|omega|(simp only [go_sem];try omega)) only [go_sem,seval,hs1,hs2,hl,hG,hG0,hS,hS0,hg2,hk3];try exact rfl) (c2' _ _) (fun fr_=>?_))|(with_reducible first|refine Wk.ox ?_|refine Wk.th ?_|refine Wk.bl ?_)|((with_reducible first|refine Wk.hd ?_|refine Wk.i ?_);simp (disch:=first|omega|(simp only [go_sem];try omega)) only [go_sem,seval,hs1,hs2,hl,hG,hG0,hS,hS0,hg2,hk3])|refine ah (hn _ _) ?_|refine aW (hx2 _ _) ?_|with_reducible first|refine Wk.o ?_|refine Wk.q ‹_› ?_));all_goals (repeat subst ag)
       refine aM (s1:=⟨B.set b (bI T (T.length - r2.length)),K⟩) (by simp [St.cut]) (aR ?_) rfl ⟨rfl,rfl⟩
       simp [aJ.within,V.within,V.within.all]
   ·have hkf:kq u=false:=by
     rw [←Bool.not_eq_true]
     intro hh
     simp only [kq,abo,aaW,aaS] at hh
     rcases hh with ⟨q1,_⟩|⟨q1,_⟩
     ·exact hkk (.inl q1)
     ·exact hkk (.inr q1)
    rw [if_neg (by rw [hkf];decide),hu,←bM hk,aaJ] at p4
    subst p4
    have hk1:¬ u.kind=1:=fun h=>hkk (.inl h)
    have hk3:¬ u.kind=3:=fun h=>hkk (.inr h)
    have hfl:=fun m K'=>p8 (G:=G) ⟨B.set b (bI T k)++m,K'⟩ b k T 5 (hg2 _ m)
    simp only [fh,au,len k p1]
    (try with_reducible refine Wk.aw fun _ ag=>?_);(repeat' (first|((with_reducible first|refine Wk.hd ?_|refine Wk.i ?_);simp (disch:=first|omega|(simp only [go_sem];try omega)) only [go_sem,seval,hs1,hs2,hl,hG,hG0,hS,hS0,hg2])|(refine ay (fun hc=>?_) (fun hc=>?_)<;>try (exfalso;first|omega|contradiction))|refine ah (hn _ _) ?_|refine cA (hfl _ _) ?_|with_reducible first|refine Wk.o ?_|refine Wk.q ‹_› ?_));all_goals (repeat subst ag)
    refine aM (s1:=⟨B.set b (bI T k),K⟩) (by simp [St.cut]) (aR ?_) rfl ⟨rfl,rfl⟩
    simp [aJ.within,V.within,V.within.all]
 ·have hil:=bW hb1
  have a1:∀ m,aa prog G 260 [.ptr b 0,vs [125]] ⟨B++m,K⟩ (fun o s'=>o= .ret (vb true)∧s'=⟨B.set b (bI T (i+1))++m,K⟩):=fun m=>by
   have:=eL (G:=G) hg ⟨B++m,K⟩ b i T hT hx (by omega) (hg1 m) [125] (by rw [cW];exact hb1)
   simp only [hs1] at this;exact this
  rw [bM hil] at h
  simp only [eH hb1,if_true,aaJ] at h
  subst h
  simp only [fh,au,len (i+1) (by omega)]
  refine aa.body func280 rfl ntmps280 (by simp) ?_
  (try with_reducible refine Wk.aw fun _ ag=>?_);(repeat' (first|((with_reducible first|refine Wk.hd ?_|refine Wk.i ?_);simp (disch:=first|omega|(simp only [go_sem];try omega)) only [go_sem,seval,hs1,hs2,hl,hG,hG0,hS,hS0])|refine aW (a1 _) ?_|with_reducible first|refine Wk.o ?_|refine Wk.q ‹_› ?_));all_goals (repeat subst ag)
  refine aV (v:=vE (Ex.mk 10 [] ct [] [])) K.length (aaP _) (s1:=⟨B.set b (bI T (i+1)),K⟩) (by simp [St.cut]) (aR ?_) (by simp (disch:=first|omega|(simp only [go_sem];try omega)) only [go_sem,seval,bQ,bZ,results280,hG,hG0];try exact rfl) (by simp (disch:=first|omega|(simp only [go_sem];try omega)) only [go_sem,seval,eD];try exact rfl) (by simp (disch:=first|omega|(simp only [go_sem];try omega)) only [go_sem,seval];try exact rfl) ⟨rfl,rfl⟩
  simp [aJ.within,V.within,V.within.all]
theorem L5 (hg:GV G) {T:List Tk} (hT:T.length≤1048576) (hx:∀ t∈T,t.text.length≤1048576) (f:Nat) (hf:∀ g<f,ur G T g) (s:cx) (hs:s≠[44]) (i:Nat) (hi:i≤T.length) (r:dF Ex) (h:pF f (.args s) (T.drop i)=some r):
  Ny G T 279 [vs s] i r:=by
 cases f with
 |zero=>simp [pF] at h
 |succ f=>exact Pq hg hT hx (fun g hg=>hf g (by omega)) s hs i hi r h
theorem L6 (hg:GV G) {T:List Tk} (hT:T.length≤1048576) (hx:∀ t∈T,t.text.length≤1048576) (f:Nat) (hf:∀ g<f,ur G T g) (i:Nat) (hi:i≤T.length) (r:dF Ex) (h:pF f .kW (T.drop i)=some r):
  kf G T 280 [] i r:=by
 cases f with
 |zero=>simp [pF] at h
 |succ f=>exact Zv hg hT hx (fun g hg=>hf g (by omega)) i hi r h
theorem Th (hg:GV G) {T:List Tk} (hT:T.length≤1048576) (hx:∀ t∈T,t.text.length≤1048576):∀ f,ur G T f:=by
 intro f
 induction f using Nat.strongRecOn with
 |_ f hf=>
  refine ⟨?_,?_,?_,?_⟩
  ·intro i hi r h
   cases f with
   |zero=>simp [pF] at h
   |succ f=>exact Pk hg hT hx (hf f (by omega)) i hi r h
  ·intro n h1 h7 i hi r h
   cases f with
   |zero=>simp [pF] at h
   |succ f=>exact Xs hg hT hx (fun g hg=>hf g (by omega)) n h1 h7 i hi r h
  ·intro i hi r h
   cases f with
   |zero=>simp [pF] at h
   |succ f=>exact Xq hg hT hx (hf f (by omega)) i hi r h
  ·intro i hi r h
   refine L3 hg hT hx hf (fun i hi r h=>?_) i hi r h
   cases f with
   |zero=>simp [pF] at h
   |succ f=>
    exact Pt hg hT hx (fun g hg=>hf g (by omega)) (fun s hs i hi r h=>L5 hg hT hx f (fun g hg=>hf g (by omega)) s hs i hi r h)
     (fun i hi r h=>L6 hg hT hx f (fun g hg=>hf g (by omega)) i hi r h) i hi r h
end Go.Proofs.YteeohmopbcjifaaGreatDoor
end
section
namespace Go.Abs
open Go.RowKit
def Ti (l:List Oper) (fr:Fr) (b i:Nat):Op→Bool
 | .store _ (.tmp u) _=>(match iO l u with|some j=>decide (j<i)|none=>true)&& (match fr u with| .ptr b' _=>b' !=b|_=>false)
 | .load _ _=>true
 |o=>eu o
def T0 (l:List Oper) (fr:Fr) (b:Nat):Bool:=l.zipIdx.all fun p=>Ti l fr b p.2 p.1.op
def Jf (l:List Oper) (fr:Fr) (i:Nat):Bool:=
 match l[i]? with
 |some ⟨_,.load _ (.tmp t),_,_,_,none⟩=>(match iO l t with|some j=>decide (j<i)|none=>true)&& (match fr t with| .ep _ _=>true| .ptr b _=>T0 l fr b|_=>false)
 |_=>false
section
variable {P:Program} {G:World→Nat→Prop} {n:NDs} {aC:St} {Q:AX→Fr→St→Prop}
theorem zK {t:TypeId} {b' o':Nat} {x:V} {st st':St} (h:iJ P t (.ptr b' o') x st=some st') {b:Nat} (hb:b'≠b) (ty:TypeId) (off:Nat):bn P ty (.ptr b off) st'=bn P ty (.ptr b off) st:=by
 have key:st'.aj[b]?=st.aj[b]?:=by
  unfold iJ at h
  split at h
  ·rename_i k off' sz l hk _ _
   cases hk
   split at h
   ·split at h
    ·unfold putBlk at h
     split at h
     ·split at h
      ·simp only [aaJ] at h
       subst h
       simp only [dY]
       rw [abx hb]
      ·cases h
     ·cases h
    ·cases h
   ·cases h
  ·cases h
 unfold bn
 simp only [key]
theorem AW.Pv (hm:P.follows .mixedOrders=true) {id:Nat} {l rest:List Oper} (ex:List (Nat×Nat)) (hok:fM l [] ex l.length=true) {fr fr':Fr} {st st':St} (h:cJ P n l.toArray [] l fr st=some (rest,fr',st'))
  (k:OX P G n aC true [] l.toArray (fun x fr st=>(ex.all fun p=>decide (p.2≤l.length)&&Jf l fr p.1)=true∧Q x fr st) rest fr' st'):AW P G n aC (.region id l.toArray true) Q fr st:=by
 obtain ⟨vs,ss,fr'',st'',htr,hb,hQ⟩:=OT.run h k
 have hM:=htr.toM 0
 refine AW.wN hm hok hM (fun i hi hmem=>?_) hQ
 have hE:=aa3.1 hb (i,hi) hmem
 simp only [aaW,aaS] at hE
 obtain ⟨hhi,hE⟩:=hE
 obtain ⟨h1,h2,h3⟩:=hM.spec [] fr (fun i=>vs.getD i .aU) (fun i=>(st::ss).getD i default) rfl (fun j o d ho hd=>(aaE hok ho).dst d hd) (by simp) (by simp) (by
  funext t;unfold valOf;cases iO ([]++l) t<;>simp)
 simp only [aa8,aaV,abt,true_implies] at h1 h2
 unfold Jf at hE
 split at hE
 ·rename_i a ty t b c d he
  simp only [aaW] at hE
  obtain ⟨hE1,hE2⟩:=hE
  refine ⟨_,t,ty,he,rfl,rfl,fun j hj=>by rw [hj] at hE1;simpa using hE1,fun k hk v s hv hs=>?_⟩
  split at hE2
  ·rename_i cs off he2
   rw [he2] at hv ⊢
   unfold bn at hv ⊢
   exact hv
  ·rename_i b off he2
   have step:∀ i,i<l.length→bn P ty (.ptr b off) ((st::ss).getD (i+1) default)=bn P ty (.ptr b off) ((st::ss).getD i default):=by
    intro i hil
    obtain ⟨s1,s2⟩:=h1 i l[i] (by simp [hil])
    have hq:=aa3.1 hE2 (l[i],i) (by rw [abH];simp [hil])
    simp only at hq
    generalize ho:l[i]=o at*
    obtain ⟨dst,op,type,pos,after,guard⟩:=o
    simp only at hq
    have quiet:eu op=true→bn P ty (.ptr b off) ((st::ss).getD (i+1) default)=bn P ty (.ptr b off) ((st::ss).getD i default):=by
     intro hq
     have:=(s1.quiet hq).1
     rw [this]
    cases op with
    |store t2 x y=>
     cases x with
     |tmp u=>
      simp only [Ti,aaW] at hq
      obtain ⟨q1,q2⟩:=hq
      have hfu:fr'' u=valOf l fr (fun i=>vs.getD i .aU) (fun k=>decide (k<i)) u:=by
       rw [h2];unfold valOf
       cases hw:iO l u with
       |none=>rfl
       |some j=>
        rw [hw] at q1
        have q1:j<i:=by simpa using q1
        have:j<l.length:=by omega
        simp only [decide_eq_true q1,decide_eq_true this,if_true]
      split at q2
      ·rename_i b' o' hpu
       rw [hfu] at hpu
       generalize hS:(st::ss).getD i default=S1 at s1
       generalize (st::ss).getD (i+1) default=S2 at s1
       generalize vs.getD i .aU=vv at s1
       cases s1 with
       |op _ _ g1 g2 g3=>
        simp only [evalOp,ev] at g2
        rw [hpu] at g2
        rw [abv] at g2
        obtain ⟨s',g4,g5⟩:=g2
        cases g5
        exact zK g4 (by simpa using q2) ty off
       |skip g1 g2=>rfl
       |call _ _ g cap x args ats _ hop=>cases hop
      ·cases q2
     |const c=>exact quiet hq
     |func f=>exact quiet hq
     |global g=>exact quiet hq
    |load t2 x=>rw [s2 rfl]
    |_=>exact quiet hq
   have all:∀ k,k≤l.length→bn P ty (.ptr b off) ((st::ss).getD k default)=bn P ty (.ptr b off) st:=by
    intro k
    induction k with
    |zero=>intro _;rfl
    |succ k ih=>intro hk;rw [step k (by omega),ih (by omega)]
   have hil:i<l.length:=(aaL.1 he).1
   rw [he2] at hv ⊢
   subst hs
   rw [all i (by omega)] at hv
   rw [all k (by omega)];exact hv
  ·cases hE2
 ·cases hE
end
end Go.Abs
end
section
set_option maxHeartbeats 8000000
set_option maxRecDepth 20000
namespace Go.Proofs.YteeohmopbcjifaaGreatDoor
open Tryz
open Go.Abs
attribute [local irreducible] AW OX cG GQ bK bO bz aY aa
variable {G:World→Nat→Prop}
theorem Xv:(zeroOf prog 364).map ofConst=some (.agg [.d (.int .i64 0),.d (.int .i64 0)]):=by kernel_rfl
theorem B9 (cs:List Abs.D):(V.d (.agg cs)).cells=some (cs.map V.d):=(rfl)
attribute [go_sem] Xv B9
theorem zL (B:List aJ) (a b c d e:aJ) (K:List (Nat×Nat×Nat)) {N:Nat} (h:N=B.length+4):St.cut ⟨B++[a,b,c,d,e],K⟩ N K.length=⟨B++[a,b,c,d],K⟩:=by
 subst h
 simp only [St.cut,aaY]
 rw [List.take_append,aa0 (by omega),Nat.add_sub_cancel_left]
 rfl
theorem c_read1_n (B:List aJ) (K:List (Nat×Nat×Nat)) (es:List V) (v1 v2:V) (X:aJ):
  fN prog G 245 [.ptr B.length 0,.ptr (B.length+1) 0,.ptr (B.length+2) 0] none ⟨B++[.cells es,.cells [v1],.cells [v2],X],K⟩ (fun o s=>o= .ret (.cF [])∧s=⟨B++[.cells es,.cells [v1],.cells [v2],X],K⟩):=by
 refine fN.body func245 rfl ntmps245 (by simp) rfl rfl rfl (by decide) ?_
 (try refine Wk.ow fun _ ag=>?_);(repeat' (first|((refine Wk.i ?_);simp only [go_sem,seval,Option.getD_none])|first|refine Wk.o ?_|refine Wk.q ‹_› ?_));all_goals (repeat subst ag)
 (try refine Wk.aw fun _ ag=>?_);(repeat' (first|((refine Wk.i ?_);simp only [go_sem,seval])|first|refine Wk.o ?_|refine Wk.q ‹_› ?_));all_goals (repeat subst ag)
 refine kH (aV K.length (aaP _) (s1:=⟨B++[.cells es,.cells [v1],.cells [v2],X],K⟩) (zL _ _ _ _ _ _ _ (by simp)) (fun _ _ h=> .inl h) rfl rfl rfl ⟨rfl,rfl⟩)
theorem Fx (B:List aJ) (K:List (Nat×Nat×Nat)) (es:List V) (hes:es.length=10) (v1 v2:V) (X:aJ) (j:Nat) (c:Int):
  fN prog G 245 [.ptr B.length 0,.ptr (B.length+1) 0,.ptr (B.length+2) 0] (some (panV j c)) ⟨B++[.cells es,.cells [v1],.cells [v2],X],K⟩ (fun o s=>o= .ret (.cF [])∧s=⟨B++[.cells Qi,.cells [ai j],.cells [ai c],X],K⟩):=by
 have hG:∀ (m:List aJ) (k:Nat),(B++m)[B.length+k]?=m[k]?:=fun m k=>by rw [aaO (by simp)];simp
 have hG0:∀ (m:List aJ),(B++m)[B.length]?=m[0]?:=fun m=>by rw [aaO (by simp)];simp
 have hS:∀ (y:aJ) (m:List aJ) (k:Nat),(B++m).set (B.length+k) y=B++m.set k y:=fun y m k=>by rw [abf _ _ (by simp)];simp
 have hS0:∀ (y:aJ) (m:List aJ),(B++m).set B.length y=B++m.set 0 y:=fun y m=>by rw [abf _ _ (by simp)];simp
 refine fN.body func245 rfl ntmps245 (by simp) rfl rfl rfl (by decide) ?_
 (try refine Wk.ow fun _ ag=>?_);(repeat' (first|((refine Wk.i ?_);simp only [go_sem,seval,hG,hG0,hS,hS0,hes])|first|refine Wk.o ?_|refine Wk.q ‹_› ?_));all_goals (repeat subst ag)
 (try refine Wk.aw fun _ ag=>?_);(repeat' (first|((refine Wk.Au 2 ?_);refine AW.Pv (P:=prog) mx [(2,7),(4,8)] (by kernel_rfl) (by simp only [go_sem,seval,hG,hG0,hS,hS0,hes];try exact rfl) ?_;refine OX.nil ?_;refine ⟨by simp [Jf,T0,Ti,iO,eu,upd,List.zipIdx_cons,List.findIdx?_cons,dr]<;>omega,?_⟩)|((refine Wk.i ?_);simp only [go_sem,seval,hG,hG0,hS,hS0,hes])|refine Wk.q ‹_› ?_));all_goals (repeat subst ag)
 rw [show List.drop 10 es=[] from abi (by omega)]
 refine kH (aV K.length (aaP _) (s1:=⟨B++[.cells Qi,.cells [ai j],.cells [ai c],X],K⟩) (zL _ _ _ _ _ _ _ (by simp)) ?_ rfl rfl rfl ⟨rfl,rfl⟩)
 intro i A h
 by_cases hlt:i<B.length
 ·rw [aaU hlt] at h ⊢;exact .inl h
 ·rw [aaO (by omega)] at h ⊢
  match hd:i - B.length with
  |0=>rw [hd] at h;simp at h;subst h;exact .inr (by simp [aJ.within,V.within,V.within.all])
  |1=>rw [hd] at h;simp at h;subst h;exact .inr (by simp [aJ.within,V.within,V.within.all])
  |2=>rw [hd] at h;simp at h;subst h;exact .inr (by simp [aJ.within,V.within,V.within.all])
  |3=>rw [hd] at h;simp at h;subst h;exact .inl (by simp)
  |d+4=>rw [hd] at h;simp at h
abbrev kO (T:List Tk):dF Ex→V
 | .ok e rest=> .cF [vE e,ai ↑(T.length - rest.length),ai 0]
 | .err rest c=> .cF [vE xQ,ai ↑(T.length - rest.length),ai c]
theorem Px (hg:GV G) {T:List Tk} (hT:T.length≤1048576) (hx:∀ t∈T,t.text.length≤1048576) (r:dF Ex) (h:pF (nG T) .cond T=some r):
  b8 G 229 [jA T] (kO T r):=by
 rintro ⟨B,K⟩
 have c0:=(Th (G:=G) hg hT hx (nG T)).cond 0 (by omega) r (by rw [abr];exact h)
 refine aa.bodyD func229 rfl ntmps229 (by simp) rfl rfl rfl (by decide) rfl rfl rfl call245 ?_
 (try refine Wk.aw fun _ ag=>?_);(repeat' (first|((refine Wk.i ?_);simp only [go_sem,seval])|first|refine Wk.o ?_|refine Wk.q ‹_› ?_));all_goals (repeat subst ag)
 refine ⟨rfl,?_⟩
 (try refine Wk.aw fun _ ag=>?_);(repeat' (first|((refine Wk.i ?_);simp only [go_sem,seval])|first|refine Wk.o ?_|refine Wk.q ‹_› ?_));all_goals (repeat subst ag)
 refine ⟨rfl,[.ptr B.length 0,.ptr (B.length+1) 0,.ptr (B.length+2) 0],rfl,fun ds=>?_⟩
 have hG:∀ (m:List aJ) (k:Nat),(B++m)[B.length+k]?=m[k]?:=fun m k=>by rw [aaO (by simp)];simp
 have hG0:∀ (m:List aJ),(B++m)[B.length]?=m[0]?:=fun m=>by rw [aaO (by simp)];simp
 have hS:∀ (y:aJ) (m:List aJ) (k:Nat),(B++m).set (B.length+k) y=B++m.set k y:=fun y m k=>by rw [abf _ _ (by simp)];simp
 have hS0:∀ (y:aJ) (m:List aJ),(B++m).set B.length y=B++m.set 0 y:=fun y m=>by rw [abf _ _ (by simp)];simp
 have c1:=c0 (B++[.cells Qi,.cells [ai 0],.cells [ai 0],bI T 0]) K (B.length+3) (by rw [hG];rfl)
 rw [hS] at c1
 cases r with
 |ok e rest=>
  simp only [fh,au] at c1
  (try refine Wk.aw fun _ ag=>?_);(repeat' (first|((refine Wk.Au 4 ?_);refine AW.Pv (P:=prog) mx [(4,7)] (by kernel_rfl) (by simp only [go_sem,seval,hG,hG0,hS,hS0];try exact rfl) ?_;refine OX.nil ?_;refine ⟨by simp [Jf,T0,Ti,iO,eu,upd,List.zipIdx_cons,List.findIdx?_cons,dr]<;>omega,?_⟩)|(first|refine Wk.th ?_|refine Wk.bl ?_)|((first|refine Wk.hd ?_|refine Wk.i ?_);simp only [go_sem,seval,hG,hG0,hS,hS0])|refine aW (c1) ?_|first|refine Wk.o ?_|refine Wk.q ‹_› ?_));all_goals (repeat subst ag)
  refine Ib ((c_read1_n B K (e.enc.map V.d) (ai ↑(T.length - rest.length)) (ai 0) (bI T (T.length - rest.length))).mono ?_)
  rintro o s ⟨rfl,rfl⟩
  refine ⟨⟨_,rfl⟩,?_⟩
  skip;(repeat' (first|((refine Wk.i ?_);simp only [go_sem,seval,hG,hG0,hS,hS0])|refine Wk.ret fun _ _=>?_|(refine Wk.fin ‹_› ?_;refine ⟨?_,rfl⟩)));all_goals (repeat subst ag)
  all_goals rfl
 |err rest c=>
  simp only [fh,au] at c1
  (try refine Wk.aw fun _ ag=>?_);(repeat' (first|((first|refine Wk.hd ?_|refine Wk.i ?_);simp only [go_sem,seval,hG,hG0,hS,hS0])|refine cA (c1) ?_|first|refine Wk.o ?_|refine Wk.q ‹_› ?_));all_goals (repeat subst ag)
  refine Ic ((Fx B K Qi rfl (ai 0) (ai 0) (bI T (T.length - rest.length)) (T.length - rest.length) c).mono ?_)
  rintro o s ⟨rfl,rfl⟩
  refine ⟨⟨_,rfl⟩,?_⟩
  skip;(repeat' (first|((refine Wk.i ?_);simp only [go_sem,seval,hG,hG0,hS,hS0])|refine Wk.ret fun _ _=>?_|(refine Wk.fin ‹_› ?_;refine ⟨?_,rfl⟩)));all_goals (repeat subst ag)
  all_goals rfl
abbrev parV:Yx→V
 | .ok e=> .cF [vE e,ai 0,ai 0]
 | .err a c=> .cF [vE xQ,ai a,ai c]
theorem Fy (s:cx) (i:Nat) (hs:s.length≤1048576) (hi:i<s.length):b8 G 257 [vs s,ai i] (EX (nQ (s.drop (i+1)))):=by
 intro st
 have h3:=fH s (i+1)
 have hd:=sdrop_len s (i+1)
 have hx2:=oO (s.getD (i+2) 0)
 have hx3:=oO (s.getD (i+3) 0)
 refine aa.body func257 rfl ntmps257 (by simp) ?_
 (try refine Wk.aw fun _ ag=>?_);(repeat' (first|((first|refine Wk.hd ?_|refine Wk.i ?_);simp (disch:=omega) only [go_sem,seval])|(refine ay (fun hc=>?_) (fun hc=>?_)<;>try omega)|refine ah (qz _ _) ?_|refine Wk.drawn mx (by kernel_rfl) ?_|refine Wk.ret fun _ _=>?_|(refine Wk.fin ‹_› ?_;refine ⟨?_,rfl⟩)|first|refine Wk.o ?_|refine Wk.q ‹_› ?_));all_goals (repeat subst ag)
 all_goals (try simp (disch:=first|assumption|omega) only [nQ,hd,h3,show i+1+0=i+1 from rfl,show i+1+1=i+2 from rfl,show i+1+2=i+3 from rfl,if_pos,if_neg]);all_goals first|rfl|((repeat' split)<;>first|rfl|(exfalso;omega)|grind|skip)
 all_goals (simp only [EX];rw [vc,yX (by omega) (by omega)];rfl)
def Tj (s:cx):Bool:=decide (s=[124,124]∨s=[38,38]∨s=[61,61]∨s=[33,61]∨s=[60,61]∨s=[62,61]∨s=[60]∨s=[62]∨s=[43]∨s=[45]∨s=[42]∨s=[47]∨s=[37]∨s=[33]∨s=[63]∨s=[58]∨s=[46]∨s=[44]∨s=[61]∨s=[40]∨s=[41]∨s=[91]∨s=[93]∨s=[123]∨s=[125])
theorem L7 {s L:cx} {i:Nat} (hc:(s.take (i+2)).drop i=L) (h:isOp2 L=true):AA (s.drop i)= .ok 4 L 2:=by
 have hl:(s.drop i).take 2=L:=by rw [←hc,List.drop_take,show i+2 - i=2 by omega]
 rw [AA.eq_def,hl,if_pos h]
theorem take_one {s:cx} {i:Nat} (hi:i<s.length):(s.take (i+1)).drop i=[s.getD i 0]:=by
 rw [List.drop_take,show i+1 - i=1 by omega,drop_cons hi];rfl
theorem L8 {s:cx} {i:Nat} {x:UInt8} (hi:i<s.length) (hno:isOp2 ((s.drop i).take 2)=false) (hc:(s.take (i+1)).drop i=[x]) (h:rJ.contains x=true):AA (s.drop i)= .ok 4 [x] 1:=by
 rw [take_one hi] at hc
 have hx:s.getD i 0=x:=by simpa using hc
 rw [drop_cons hi] at hno ⊢
 rw [AA,hno,hx]
 simp only [abh,if_false,h,if_true]
theorem Jh {s:cx} {i:Nat} (hi:i<s.length) (hno:isOp2 ((s.drop i).take 2)=false) (h:rJ.contains (s.getD i 0)=false):AA (s.drop i)= .err 5:=by
 rw [drop_cons hi] at hno ⊢
 rw [AA,hno]
 simp only [abh,if_false,h]
theorem Zd {s:cx} {i:Nat} (h:¬ i+2≤s.length∨(¬ (s.take (i+2)).drop i=[124,124]∧¬ (s.take (i+2)).drop i=[38,38]∧¬ (s.take (i+2)).drop i=[61,61]∧¬ (s.take (i+2)).drop i=[33,61]∧¬ (s.take (i+2)).drop i=[60,61]∧¬ (s.take (i+2)).drop i=[62,61])):isOp2 ((s.drop i).take 2)=false:=by
 have hl:(s.drop i).take 2=(s.take (i+2)).drop i:=by rw [List.drop_take,show i+2 - i=2 by omega]
 rw [hl,isOp2,abG]
 rcases h with h|⟨h1,h2,h3,h4,h5,h6⟩
 ·intro h'
  have:((s.take (i+2)).drop i).length<2:=by simp only [aa6,aaN];omega
  rcases h' with h|h|h|h|h|h<;>rw [h] at this<;>exact absurd this (by decide)
 ·simp only [not_or];exact ⟨h1,h2,h3,h4,h5,h6⟩
theorem Cc (s : cx) (i : Nat) (hs : s.length ≤ 1048576) (hi : i < s.length) : b8 G 244 [vs s, ai i] (BE i (AA (s.drop i))) := by
  intro st
  refine aa.body func244 rfl ntmps244 (by simp) ?_
  repeat' (first
    | (with_reducible refine AW.Ga ?_; refine AW.rounds 3 ?_)
    | (with_reducible refine AW.Gp 2 ?_; refine AW.Uv 2 [(0, vs s), (1, ai i), (4, .ptr st.aj.length 0), (8, ai 2), (9, vs ((s.take (i + 2)).drop i)), (10, .d (.sl [[int 2], [int 1]])), (11, ai 2), (12, ai 0), (29, vb (Tj ((s.take (i + 2)).drop i)))] ⟨st.aj ++ [.cells [.d (.int .i64 0), .d (.str []), .d (.int .i64 0)]], st.toks⟩ ?_ ?_)
    | with_reducible refine AW.seq ?_
    | with_reducible refine wK ?_
    | with_reducible refine AW.block ?_
    | with_reducible refine AW.scope ?_
    | with_reducible refine AW.skip ?_
    | with_reducible refine AW.label ?_
    | with_reducible refine AW.exit ?_
    | with_reducible refine AW.ret ?_
    | with_reducible refine OX.nil ?_
    | with_reducible refine KT ?_
    | with_reducible refine KU ?_
    | with_reducible refine KV ?_
    | with_reducible refine KW ?_
    | with_reducible refine Hx ?_
    | with_reducible refine Hy ?_
    | with_reducible refine Hz ?_
    | with_reducible refine HA ?_
    | with_reducible refine condQ_t ?_
    | with_reducible refine condQ_f ?_
    | refine HB (by decide) ?_
    | ((first | refine N3 ?_ | refine Ut ?_ | refine Uu ?_); refine OX.run (by simp (disch := omega) only [go_sem, seval]; first | done | exact rfl) ?_)
    | (with_reducible refine yG ?_ ?_; (focus (first | assumption | omega)))
    | (with_reducible refine yH ?_ ?_; (focus (first | assumption | omega)))
    | (with_reducible refine HR ?_ ?_; (focus assumption))
    | (with_reducible refine HT ?_ ?_; (focus assumption))
    | with_reducible refine condQ_d (fun hc => ?_) (fun hc => ?_)
    | with_reducible refine HU (fun hc => ?_) (fun hc => ?_)
    | with_reducible refine condQ_b (fun hc => ?_) (fun hc => ?_)
    | (refine Qx ?_ ?_; (focus (first | assumption | omega)); refine OX.run (by simp (disch := omega) only [go_sem, seval]; first | done | exact rfl) ?_)
    | (refine Qy ?_ ?_; (focus (first | assumption | omega)); refine OX.run (by simp (disch := omega) only [go_sem, seval]; first | done | exact rfl) ?_)
    | (refine N4 (fun hc => ?_) (fun hc => ?_) <;> refine OX.run (by simp (disch := omega) only [go_sem, seval]; first | done | exact rfl) ?_)
    | (refine Qw (fun hc => ?_) (fun hc => ?_) <;> refine OX.run (by simp (disch := omega) only [go_sem, seval]; first | done | exact rfl) ?_)
    | refine AW.Qv (by simp (disch := omega) only [go_sem, seval]; first | done | exact rfl) ?_
    | refine AW.Uo (by simp (disch := omega) only [go_sem, seval]; first | done | exact rfl) ?_
    | refine AW.Up (P := prog) mx (by kernel_rfl) (by simp (disch := omega) only [go_sem, seval]; first | done | exact rfl) ?_
    | refine OX.gd rfl rfl (by simp (disch := omega) only [go_sem, seval]; first | done | exact rfl) ?_
    | refine uT (by simp (disch := omega) only [go_sem, seval]) (by simp (disch := omega) only [go_sem, seval]) (by simp (disch := omega) only [go_sem, seval]; first | done | exact rfl) (by simp (disch := omega) only [go_sem, seval]; first | done | exact rfl) (by simp (disch := omega) only [go_sem, seval]) ⟨?_, rfl⟩)
  all_goals first
    | (exfalso; have h := congrArg List.length hc; simp only [aa6, aaN, aaM, aaV] at h; omega)
    | (rw [L7 hc (by decide), hc]; rfl)
    | (have hno := Zd (s := s) (i := i) (by first | exact .inl (by omega) | exact .inr ⟨by assumption, by assumption, by assumption, by assumption, by assumption, by assumption⟩)
       first
         | (rw [L8 hi hno hc (by decide), hc]; rfl)
         | (rw [Jh hi hno (by
              rw [abO, Ne, List.contains_iff_mem]
              intro h
              have h1 := take_one hi
              simp only [rJ, aby, List.not_mem_nil, or_false] at h
              rcases h with h | h | h | h | h | h | h | h | h | h | h | h | h | h | h | h | h | h | h <;> (rw [h] at h1; contradiction))]; rfl))
abbrev zT:List V:=[.d (.int .i64 0),.d (.str []),.d (.int .i64 0)]
def mH (b id:Nat):cx→aJ
 |[]=> .tc bT [.d .eX,.bh]
 |c::r=> .tc bT [.ptr b 0,.own id (aH (c::r))]
def kP:cx→List (Nat×Nat×Nat)
 |[]=>[]
 |c::r=>[(bE,1,r.length+1)]
theorem Fz {s:cx} {j:Nat} (hj:j<s.length) (h1:¬ (s.getD j 0).toNat<32) (h2:(s.getD j 0).toNat≠92):tW (s.drop j)= .ok (s.getD j 0) 1:=by
 have:(s.drop j).getD 0 0=s.getD j 0:=by simp [aaK]
 rw [tW,this,if_neg h1,if_pos h2]
theorem Du {s:cx} {j:Nat} (hj:j<s.length) (h2:(s.getD j 0).toNat=92):tW (s.drop j)=nQ (s.drop (j+1)):=by
 have:(s.drop j).getD 0 0=s.getD j 0:=by simp [aaK]
 rw [tW,this,if_neg (by omega),if_neg (by omega),ab7]
theorem L9 {s:cx} {j:Nat} (hj:j<s.length) (h1:(s.getD j 0).toNat<32):tW (s.drop j)= .err 5:=by
 have:(s.drop j).getD 0 0=s.getD j 0:=by simp [aaK]
 rw [tW,this,if_pos h1]
theorem Dv {i j:Nat} {a:cx} (h:i≤j):BE i (.ok 3 a (j - i+1))= .cF [vT ⟨3,a,i⟩,ai ↑(j+1),ai 0]:=by
 simp only [BE,Lq,Lr,BD,show i+(j - i+1)=j+1 by omega]
theorem Py (s:cx) (i:Nat) (hs:s.length≤1048576) (hi:i<s.length):b8 G 243 [vs s,ai i] (BE i (lq (s.drop (i+1)) [] 1)):=by
 intro st
 refine aa.body func243 rfl ntmps243 (by simp) ?_
 (try refine Wk.aw fun _ ag=>?_);(repeat' (first|((refine Wk.i ?_);simp (disch:=omega) only [go_sem,seval])|refine Wk.o ?_));all_goals (repeat subst ag)
 refine AW.cD (fun x:cx×Nat=>[(0,vs s),(1,ai ↑i),(4,.ptr st.aj.length 0),(7,.ptr (st.aj.length+1) 0),(8,ai ↑x.2)]) (fun x=>[.cells zT,mH (st.aj.length+1) st.toks.length x.1]) (fun x=>kP x.1)
  (fun x=>i<x.2∧x.2≤s.length∧x.1.length≤x.2∧lq (s.drop x.2) x.1 (x.2 - i)=lq (s.drop (i+1)) [] 1) (fun x=>s.length - x.2) ([],i+1) (by simp (disch:=omega) only [go_sem,seval,mH,kP];try exact rfl) (by simp (disch:=omega) only [go_sem,seval]<;>first|rfl|exact ⟨rfl,rfl⟩|skip) ⟨by simp,by simp;omega,by simp,by simp⟩ ?_
 rintro ⟨acc,j⟩ ⟨h1,h2,h3,h4⟩
 simp only at h1 h2 h3 h4
 by_cases hj:j<s.length
 ·have hcons:=drop_cons hj
  have hr:=kL (s.getD j 0) (s.drop (j+1)) acc (j - i)
  rw [←hcons,h4] at hr
  have key:∀ (b:UInt8) (k:Nat) (fr':Fr),1≤k→j+k≤s.length→lq (s.drop (j+k)) (acc++[b]) (j+k - i)=lq (s.drop (i+1)) [] 1→
    okF fr' [(0,vs s),(1,ai ↑i),(4,.ptr st.aj.length 0),(7,.ptr (st.aj.length+1) 0),(8,ai ↑(j+k))]→∀ (B:aJ) (T:List (Nat×Nat×Nat)),B=mH (st.aj.length+1) st.toks.length (acc++[b])→T=kP (acc++[b])→
    ∃ x',gk st (fun x:cx×Nat=>[(0,vs s),(1,ai ↑i),(4,.ptr st.aj.length 0),(7,.ptr (st.aj.length+1) 0),(8,ai ↑x.2)]) (fun x=>[.cells zT,mH (st.aj.length+1) st.toks.length x.1]) (fun x=>kP x.1)
     (fun x=>i<x.2∧x.2≤s.length∧x.1.length≤x.2∧lq (s.drop x.2) x.1 (x.2 - i)=lq (s.drop (i+1)) [] 1) (fun x=>s.length - x.2) (acc,j) fr' ⟨st.aj++[.cells zT,B],st.toks++T⟩ x':=by
   rintro b k fr' q1 q2 q3 q4 B T rfl rfl
   refine ⟨(acc++[b],j+k),⟨q4,⟨by simp only;omega,q2,by simp only [aaQ,abg];omega,q3⟩,by simp only;omega,aa0 (by simp),aa0 (by simp),?_,?_⟩⟩
   ·simp [okW,V.within]
   ·cases acc<;>simp [mH,kP,aJ.within,V.within,V.within.all]
  by_cases hq:(s.getD j 0).toNat=34
  ·rw [if_pos hq] at hr
   rw [hr]
   have hq':((s.getD j 0).toNat:Int)=34:=by omega
   cases acc with
   |nil=>
    (try refine Wk.aw fun _ ag=>?_);(repeat' (first|((first|refine Wk.hd ?_|refine Wk.i ?_);simp (disch:=omega) only [go_sem,seval,mH,kP,hq'])|(refine ay (fun hc=>?_) (fun hc=>?_)<;>try omega)|refine ah (LK _ (st.aj.length+1) (.d .eX) (by simp)) ?_|refine ah (nL _ (st.aj.length+1) (.d .eX) (by simp)) ?_|refine Wk.ret fun _ _=>?_|(refine Wk.fin ‹_› ?_;refine ⟨?_,rfl⟩)|first|refine Wk.o ?_|refine Wk.q ‹_› ?_));all_goals (repeat subst ag)
    all_goals first|(exfalso;omega)|(rw [if_neg (by simp),Dv (by omega)];rfl)
   |cons a r=>
    (try refine Wk.aw fun _ ag=>?_);(repeat' (first|((first|refine Wk.hd ?_|refine Wk.i ?_);simp (disch:=omega) only [go_sem,seval,mH,kP,hq'])|(refine ay (fun hc=>?_) (fun hc=>?_)<;>try omega)|refine ah (LJ _ (st.aj.length+1) st.toks.length (a::r) (by simp)) ?_|refine aW (ku _ (st.aj.length+1) st.toks.length (.ptr (st.aj.length+1) 0) (a::r) (by simp) (by simp) (by simp)) ?_|refine Wk.ret fun _ _=>?_|(refine Wk.fin ‹_› ?_;refine ⟨?_,rfl⟩)|first|refine Wk.o ?_|refine Wk.q ‹_› ?_));all_goals (repeat subst ag)
    all_goals first|(rw [if_pos (by simp only [aaM];omega)];rfl)|(rw [if_neg (by simp only [aaM];omega),Dv (by omega)];rfl)
  ·rw [if_neg hq] at hr
   have hq':¬ ((s.getD j 0).toNat:Int)=34:=by omega
   by_cases hlow:(s.getD j 0).toNat<32
   ·rw [L9 hj hlow] at hr
    simp only at hr
    rw [hr]
    (try refine Wk.aw fun _ ag=>?_);(repeat' (first|((refine Wk.i ?_);simp (disch:=omega) only [go_sem,seval])|(refine ay (fun hc=>?_) (fun hc=>?_)<;>try omega)|refine Wk.ret fun _ _=>?_|(refine Wk.fin ‹_› ?_;refine ⟨?_,rfl⟩)|first|refine Wk.o ?_|refine Wk.q ‹_› ?_));all_goals (repeat subst ag)
    all_goals first|rfl|(exfalso;omega)
   ·by_cases hb:(s.getD j 0).toNat=92
    ·rw [Du hj hb] at hr
     have hes:=Fy (G:=G) s j hs hj
     have hsh:=Lu (G:=G) s j hs hj
     rcases he:nQ (s.drop (j+1)) with ⟨b,k⟩|e
     ·rw [he] at hr hes
      have hk:=ob ((Du hj hb).trans he) (by simp;omega)
      simp only [aa6] at hk
      simp only [ab7] at hr
      cases acc with
      |nil=>
       (try refine Wk.aw fun _ ag=>?_);(repeat' (first|((first|refine Wk.hd ?_|refine Wk.i ?_);simp (disch:=omega) only [go_sem,seval,mH,kP,EX])|(refine ay (fun hc=>?_) (fun hc=>?_)<;>try omega)|refine ah (hes _) ?_|refine aW (IQ _ (st.aj.length+1) _ (by simp)) ?_|first|refine Wk.o ?_|refine Wk.q ‹_› ?_));all_goals (repeat subst ag)
       all_goals first|(exfalso;omega)|skip
       all_goals refine key b k _ (by omega) (by omega) (by rw [hr,show j+k - i=j - i+k by omega]) (by simp (disch:=omega) only [go_sem,seval]) _ _ rfl rfl
      |cons a r=>
       (try refine Wk.aw fun _ ag=>?_);(repeat' (first|((first|refine Wk.hd ?_|refine Wk.i ?_);simp (disch:=omega) only [go_sem,seval,mH,kP,EX])|(refine ay (fun hc=>?_) (fun hc=>?_)<;>try omega)|refine ah (hes _) ?_|refine aW (IP _ (st.aj.length+1) st.toks.length (a::r) _ (by simp) (by simp) (by simp only [aaM] at*;omega)) ?_|first|refine Wk.o ?_|refine Wk.q ‹_› ?_));all_goals (repeat subst ag)
       all_goals first|(exfalso;omega)|skip
       all_goals refine key b k _ (by omega) (by omega) (by rw [hr,show j+k - i=j - i+k by omega]) (by simp (disch:=omega) only [go_sem,seval]) _ _ rfl (by simp [kP])
     ·rw [he] at hr hes
      simp only at hr
      rw [hr]
      rcases BF he with ⟨rfl,hsf⟩|⟨rfl,hsf⟩
      ·rw [hsf] at hsh
       (try refine Wk.aw fun _ ag=>?_);(repeat' (first|((first|refine Wk.hd ?_|refine Wk.i ?_);simp (disch:=omega) only [go_sem,seval,EX])|(refine ay (fun hc=>?_) (fun hc=>?_)<;>try omega)|refine ah (hes _) ?_|refine ah (hsh _) ?_|refine Wk.ret fun _ _=>?_|(refine Wk.fin ‹_› ?_;refine ⟨?_,rfl⟩)|first|refine Wk.o ?_|refine Wk.q ‹_› ?_));all_goals (repeat subst ag)
       all_goals first|rfl|(exfalso;omega)
      ·rw [hsf] at hsh
       (try refine Wk.aw fun _ ag=>?_);(repeat' (first|((first|refine Wk.hd ?_|refine Wk.i ?_);simp (disch:=omega) only [go_sem,seval,EX])|(refine ay (fun hc=>?_) (fun hc=>?_)<;>try omega)|refine ah (hes _) ?_|refine ah (hsh _) ?_|refine Wk.ret fun _ _=>?_|(refine Wk.fin ‹_› ?_;refine ⟨?_,rfl⟩)|first|refine Wk.o ?_|refine Wk.q ‹_› ?_));all_goals (repeat subst ag)
       all_goals first|rfl|(exfalso;omega)
    ·rw [Fz hj hlow hb] at hr
     simp only [ab7] at hr
     cases acc with
     |nil=>
      (try refine Wk.aw fun _ ag=>?_);(repeat' (first|((first|refine Wk.hd ?_|refine Wk.i ?_);simp (disch:=omega) only [go_sem,seval,mH,kP])|(refine ay (fun hc=>?_) (fun hc=>?_)<;>try omega)|refine aW (IQ _ (st.aj.length+1) _ (by simp)) ?_|first|refine Wk.o ?_|refine Wk.q ‹_› ?_));all_goals (repeat subst ag)
      all_goals first|(exfalso;omega)|skip
      all_goals refine key (s.getD j 0) 1 _ (by omega) (by omega) (by rw [hr,show j+1 - i=j - i+1 by omega]) (by simp (disch:=omega) only [go_sem,seval]) _ _ rfl rfl
     |cons a r=>
      (try refine Wk.aw fun _ ag=>?_);(repeat' (first|((first|refine Wk.hd ?_|refine Wk.i ?_);simp (disch:=omega) only [go_sem,seval,mH,kP])|(refine ay (fun hc=>?_) (fun hc=>?_)<;>try omega)|refine aW (IP _ (st.aj.length+1) st.toks.length (a::r) _ (by simp) (by simp) (by simp only [aaM] at*;omega)) ?_|first|refine Wk.o ?_|refine Wk.q ‹_› ?_));all_goals (repeat subst ag)
      all_goals first|(exfalso;omega)|skip
      all_goals refine key (s.getD j 0) 1 _ (by omega) (by omega) (by rw [hr,show j+1 - i=j - i+1 by omega]) (by simp (disch:=omega) only [go_sem,seval]) _ _ rfl (by simp [kP])
 ·have:s.drop j=[]:=abi (by omega)
  rw [this,jk] at h4
  rw [←h4]
  (try refine Wk.aw fun _ ag=>?_);(repeat' (first|((refine Wk.i ?_);simp (disch:=omega) only [go_sem,seval])|(refine ay (fun hc=>?_) (fun hc=>?_)<;>try omega)|refine Wk.ret fun _ _=>?_|(refine Wk.fin ‹_› ?_;refine ⟨?_,rfl⟩)|first|refine Wk.o ?_|refine Wk.q ‹_› ?_|refine Wk.sw fun _ ag=>?_));all_goals (repeat subst ag)
  all_goals rfl
theorem Mc (s:cx) (i:Nat) (hs:s.length≤1048576) (hi:i<s.length):b8 G 227 [vs s,ai i] (BE i (jy (s.drop i))):=by
 intro st
 have hn:=C9 hi
 rw [hn]
 by_cases hl:bN (s.getD i 0)=true
 ·rw [if_pos hl]
  refine aa.body func227 rfl ntmps227 (by simp) ?_
  (try with_reducible refine Wk.aw fun _ ag=>?_);(repeat' (first|((with_reducible first|refine Wk.hd ?_|refine Wk.i ?_);simp (disch:=first|omega|(simp only [go_sem,aaN,aa6];try omega)) only [go_sem,seval])|(refine ay (fun hc=>?_) (fun hc=>?_)<;>try (exfalso;first|omega|contradiction|exact fQ hc ‹_› |exact fQ ‹_› hc))|refine ah (eY _ _) ?_|refine ah (wW s i hs (by omega) _) ?_|with_reducible refine Wk.ret fun _ _=>?_|(refine Wk.fin ‹_› ?_;refine ⟨?_,rfl⟩)|with_reducible first|refine Wk.o ?_|refine Wk.q ‹_› ?_));all_goals (repeat subst ag)
  all_goals rfl
 ·rw [if_neg hl]
  have hl':=abO.2 hl
  by_cases hdg:isDigit (s.getD i 0)=true
  ·rw [if_pos hdg]
   refine aa.body func227 rfl ntmps227 (by simp) ?_
   (try with_reducible refine Wk.aw fun _ ag=>?_);(repeat' (first|((with_reducible first|refine Wk.hd ?_|refine Wk.i ?_);simp (disch:=first|omega|(simp only [go_sem,aaN,aa6];try omega)) only [go_sem,seval])|(refine ay (fun hc=>?_) (fun hc=>?_)<;>try (exfalso;first|omega|contradiction|exact fQ hc ‹_› |exact fQ ‹_› hc))|refine ah (eY _ _) ?_|refine ah (fG _ _) ?_|refine ah (sr s i hs (by omega) _) ?_|with_reducible refine Wk.ret fun _ _=>?_|(refine Wk.fin ‹_› ?_;refine ⟨?_,rfl⟩)|with_reducible first|refine Wk.o ?_|refine Wk.q ‹_› ?_));all_goals (repeat subst ag)
   all_goals rfl
  ·rw [if_neg hdg]
   have hdg':=abO.2 hdg
   by_cases h34:(s.getD i 0).toNat=34
   ·rw [if_pos h34]
    refine aa.body func227 rfl ntmps227 (by simp) ?_
    (try with_reducible refine Wk.aw fun _ ag=>?_);(repeat' (first|((with_reducible first|refine Wk.hd ?_|refine Wk.i ?_);simp (disch:=first|omega|(simp only [go_sem,aaN,aa6];try omega)) only [go_sem,seval])|(refine ay (fun hc=>?_) (fun hc=>?_)<;>try (exfalso;first|omega|contradiction|exact fQ hc ‹_› |exact fQ ‹_› hc))|refine ah (eY _ _) ?_|refine ah (fG _ _) ?_|refine ah (Py s i hs hi _) ?_|with_reducible refine Wk.ret fun _ _=>?_|(refine Wk.fin ‹_› ?_;refine ⟨?_,rfl⟩)|with_reducible first|refine Wk.o ?_|refine Wk.q ‹_› ?_));all_goals (repeat subst ag)
    all_goals rfl
   ·rw [if_neg h34]
    refine aa.body func227 rfl ntmps227 (by simp) ?_
    (try with_reducible refine Wk.aw fun _ ag=>?_);(repeat' (first|((with_reducible first|refine Wk.hd ?_|refine Wk.i ?_);simp (disch:=first|omega|(simp only [go_sem,aaN,aa6];try omega)) only [go_sem,seval])|(refine ay (fun hc=>?_) (fun hc=>?_)<;>try (exfalso;first|omega|contradiction|exact fQ hc ‹_› |exact fQ ‹_› hc))|refine ah (eY _ _) ?_|refine ah (fG _ _) ?_|refine ah (Cc s i hs hi _) ?_|with_reducible refine Wk.ret fun _ _=>?_|(refine Wk.fin ‹_› ?_;refine ⟨?_,rfl⟩)|with_reducible first|refine Wk.o ?_|refine Wk.q ‹_› ?_));all_goals (repeat subst ag)
    all_goals rfl
theorem Md {t:cx} {op:Nat} (h:t=[40]∨t=[91]):jI t op=op+1:=if_pos h
theorem Me {t:cx} {op:Nat} (h:t=[41]∨t=[93]):jI t op=op - 1:=by
 rcases h with rfl|rfl<;>rfl
theorem Mf {t:cx} {op:Nat} (h1:¬ t=[40]) (h2:¬ t=[91]) (h3:¬ t=[41]) (h4:¬ t=[93]):jI t op=op:=by
 rw [jI,if_neg (by rintro (h|h)<;>contradiction),if_neg (by rintro (h|h)<;>contradiction)]
theorem Ce (t:cx) (op:Nat) (ho:op≤1048576):b8 G 228 [vs t,ai op] (ai ↑(jI t op)):=by
 intro st
 refine aa.body func228 rfl ntmps228 (by simp) ?_
 (try with_reducible refine Wk.aw fun _ ag=>?_);(repeat' (first|((with_reducible refine Wk.i ?_);simp (disch:=first|omega|(simp only [go_sem];try omega)) only [go_sem,seval])|(refine ay (fun hc=>?_) (fun hc=>?_)<;>try (exfalso;first|omega|contradiction))|with_reducible refine Wk.ret fun _ _=>?_|(refine Wk.fin ‹_› ?_;refine ⟨?_,rfl⟩)|with_reducible first|refine Wk.o ?_|refine Wk.q ‹_› ?_));all_goals (repeat subst ag)
 all_goals refine bA ?_
 all_goals first
  |(rw [Md (by first|exact .inl ‹_› |exact .inr ‹_›)])
  |(rw [Me (by first|exact .inl ‹_› |exact .inr ‹_›)];split<;>omega)
  |(rw [Mf ‹¬ t=[40]› ‹¬ t=[91]› ‹¬ t=[41]› ‹¬ t=[93]›])
theorem zO:yR G 226 fO:=by
 refine ⟨call226,fun c st=>?_⟩
 refine aa.body func226 rfl ntmps226 (by simp) ?_
 (try refine Wk.aw fun _ ag=>?_);(repeat' (first|((refine Wk.i ?_);simp only [go_sem,seval])|refine Wk.ret fun _ _=>?_|(refine Wk.fin ‹_› ?_;refine ⟨?_,rfl⟩)|first|refine Wk.o ?_|refine Wk.q ‹_› ?_));all_goals (repeat subst ag)
 all_goals (refine aO ?_;simp only [fO,aaS];omega)
theorem c_blank (r:Nat) (h:r≤2147483647):b8 G 224 [.d (.int .i32 ↑r)] (vb (decide (r=32∨r=9))):=by
 intro st
 refine aa.body func224 rfl ntmps224 (by simp) ?_
 (try refine Wk.aw fun _ ag=>?_);(repeat' (first|((first|refine Wk.hd ?_|refine Wk.i ?_);simp only [go_sem,seval])|(refine ay (fun hc=>?_) (fun hc=>?_)<;>try omega)|refine Wk.ret fun _ _=>?_|(refine Wk.fin ‹_› ?_;refine ⟨?_,rfl⟩)|first|refine Wk.o ?_|refine Wk.q ‹_› ?_));all_goals (repeat subst ag)
 all_goals (refine aO ?_;simp only [aaS,reduceCtorEq,iff_false,false_iff,iff_true,true_iff];omega)
def BA (s:cx):ByteArray:=⟨s.toArray⟩
theorem rG (s:cx):(BA s).size=s.length:=by simp [BA,ByteArray.size]
theorem Cf (s:cx) (p:Nat) (h:p< (BA s).size):(BA s)[p]=s.getD p 0:=by
 rw [rG] at h
 simp [BA,aaK,h,ByteArray.getElem_eq_getElem_data]
theorem Mg (s:cx) (p:Nat):(BA s).get! p=s.getD p 0:=by
 simp only [BA,ByteArray.get!,aaK]
 by_cases h:p<s.length
 ·simp [getElem!_pos,h]
 ·rw [getElem!_neg _ _ (by simpa using h)];simp [h];rfl
theorem FD {s:cx} {p:Nat} (h:p<s.length) (ha:(s.getD p 0).toNat<128):Utf8.decode (BA s) p=((s.getD p 0).toNat,1):=by
 have hs:p< (BA s).size:=by rw [rG];exact h
 have:=decode_ascii (BA s) p hs (by rw [Cf];exact ha)
 rw [this,Cf]
theorem Jk {s:cx} {p:Nat} (h:p<s.length) (ha:128≤(s.getD p 0).toNat):128≤(Utf8.decode (BA s) p).1∧1≤(Utf8.decode (BA s) p).2:=by
 have hs:p< (BA s).size:=by rw [rG];exact h
 exact decode_high (BA s) p hs (by rw [Cf];exact ha)
theorem PA (s:cx) (p:Nat):(Utf8.decode (BA s) p).1≤2147483647:=decode_le (BA s) p
theorem zP {s:cx} {p j:Nat} (h0:0<j) (h1:j< (Utf8.decode (BA s) p).2):p+j<s.length∧128≤(s.getD (p+j) 0).toNat∧128≤(s.getD p 0).toNat:=by
 rw [Lib.decode_at] at h1
 simp only [Mg,rG] at h1
 unfold Lib.decodeN at h1
 repeat' split at h1
 all_goals (simp only at h1;first|omega|skip)
 all_goals (have hj:j=1∨j=2∨j=3:=by omega)
 all_goals (rcases hj with rfl|rfl|rfl)
 all_goals omega
theorem T3 {s:cx} {q:Nat} (hq:q≤s.length) (h:q=s.length∨(s.getD q 0).toNat<128∨(0<q∧(s.getD (q - 1) 0).toNat<128)):∀ p,p<q→p+(Utf8.decode (BA s) p).2≤q:=by
 intro p hp
 refine Nat.le_of_not_lt fun hlt=>?_
 have h1:=zP (s:=s) (p:=p) (j:=q - p) (by omega) (by omega)
 rw [show p+(q - p)=q by omega] at h1
 rcases h with h|h|⟨h0,h⟩
 ·omega
 ·omega
 ·by_cases hpq:p=q - 1
  ·rw [←hpq] at h;omega
  ·have h2:=zP (s:=s) (p:=p) (j:=q - p - 1) (by omega) (by omega)
   rw [show p+(q - p - 1)=q - 1 by omega] at h2;omega
