/- A step of the proofs of the seat's theorems. -/
import Derived.Test.YthnoiikjfcnlhaaGreatDoorYA
import Derived.Test.YthnoiikjfcnlhaaGreatDoorY23
import Derived.Test.YthnoiikjfcnlhaaGreatDoorY27
set_option linter.unusedSimpArgs false
set_option linter.unusedVariables false
set_option maxHeartbeats 8000000
set_option maxRecDepth 20000
namespace Go.Proofs.YthnoiikjfcnlhaaGreatDoor
open Go.Abs
attribute [local irreducible] AW OX cG GQ bK bO bz aY aa
variable {G:World→Nat→Prop}
theorem zI {T:List Tk} {i:Nat} {u:Tk} (h:gL T i= .ok u):i<T.length∧u=T.getD i default∧fT u=true:=by
 have hil:=sZ h
 rw [gL,if_neg (by omega),ez,if_pos hil] at h
 by_cases hr:fT (T.getD i default)=true
 ·rw [if_pos hr] at h
  split at h
  ·cases h
  ·cases h;exact ⟨hil,rfl,hr⟩
 ·rw [if_neg hr,if_pos (show MZ.kind=0 from rfl)] at h
  cases h
theorem zJ {T:List Tk} {i:Nat} {e:Int} (h:gL T i= .error e):(i<T.length→fT (T.getD i default)=false):=by
 intro hil
 rw [←Bool.not_eq_true]
 intro hr
 have hk:¬ (T.getD i default).kind=0:=by
  intro hk
  rw [fT,if_neg (by omega),if_neg (by omega),if_neg (by omega),aal] at hr
  omega
 rw [gL,if_neg (by omega),ez,if_pos hil,if_pos hr,if_neg hk] at h
 cases h
theorem Je {T:List Tk} {i f:Nat} {e:Int} {r:dF Ex} (h:gL T i= .error e) (hp:pF (f+1) .atom (T.drop i)=some r):r= .err (T.drop i) e:=by
 rw [nh h,bD]
 by_cases hil:i<T.length
 ·have hr:=zJ h hil
  rw [if_neg (by omega)]
  rw [bM hil] at hp ⊢
  generalize T.getD i default=t at*
  simp only [pF] at hp
  rw [fT] at hr
  by_cases k1:t.kind=1
  ·rw [if_pos k1] at hr
   have hs1:¬ t.text=jc:=by rintro h;rw [h] at hr;exact absurd hr (by decide)
   have hs2:¬ (t.text=gX∨t.text=fY):=by rintro (h|h)<;>(rw [h] at hr;exact absurd hr (by decide))
   rw [if_neg (by omega),if_neg (by omega),if_pos k1,if_neg hs1,if_neg hs2,if_neg (by rw [hr];decide)] at hp
   exact (Option.some.inj hp).symm
  ·rw [if_neg k1] at hr
   by_cases k2:t.kind=2
   ·rw [if_pos k2] at hr
    rw [if_pos k2,if_neg (by rw [hr];decide)] at hp
    exact (Option.some.inj hp).symm
   ·rw [if_neg k2] at hr
    by_cases k3:t.kind=3
    ·rw [if_pos k3,aaG] at hr
     rw [if_neg k2,if_pos k3,if_neg hr] at hp
     exact (Option.some.inj hp).symm
    ·rw [if_neg k3,aaG] at hr
     have o:∀ s,cg s t=false:=fun s=>decide_eq_false fun h=>hr h.1
     rw [if_neg k2,if_neg k3,if_neg k1] at hp
     simp only [o,aay,if_false,aaf] at hp
     exact hp.symm
 ·rw [if_pos (by omega)]
  rw [bk hil] at hp ⊢
  simp only [pF,aaf] at hp
  exact hp.symm
theorem Pt (hg:GV G) {T:List Tk} {f:Nat} (hT:T.length≤1048576) (hx:∀ t∈T,t.text.length≤1048576) (hf:∀ g≤f,ur G T g)
  (hargs:∀ s,s≠[44]→∀ i,i≤T.length→∀ r,pF f (.args s) (T.drop i)=some r→Ny G T 237 [vs s] i r)
  (hents:∀ i,i≤T.length→∀ r,pF f .kW (T.drop i)=some r→kf G T 238 [] i r)
  (i:Nat) (hi:i≤T.length) (r:dF Ex) (h:pF (f+1) .atom (T.drop i)=some r):
  kf G T 224 [] i r:=by
 intro B K b hb
 have hbl:b<B.length:=(aam.1 hb).1
 have hs1:∀ m y,(B++m).set b y=B.set b y++m:=fun m y=>kg hb
 have hs2:∀ z m y,(B.set b z++m).set b y=B.set b y++m:=fun z m y=>jU hb
 have hg1:∀ m,(B++m)[b]?=some (bI T i):=fun m=>fU hb
 have hg2:∀ z m,(B.set b z++m)[b]?=some z:=fun z m=>fU (iA hb)
 have hl:∀ z,(B.set b z).length=B.length:=fun z=>aa1
 have hG:∀ (z:aJ) (m:List aJ) (k:Nat),(B.set b z++m)[B.length+k]?=m[k]?:=fun z m k=>by rw [aaq (by simp)];simp
 have hG0:∀ (z:aJ) (m:List aJ),(B.set b z++m)[B.length]?=m[0]?:=fun z m=>by rw [aaq (by simp)];simp
 have hS:∀ (z y:aJ) (m:List aJ) (k:Nat),(B.set b z++m).set (B.length+k) y=B.set b z++m.set k y:=fun z y m k=>by rw [aaC _ _ (by simp)];simp
 have hS0:∀ (z y:aJ) (m:List aJ),(B.set b z++m).set B.length y=B.set b z++m.set 0 y:=fun z y m=>by rw [aaC _ _ (by simp)];simp
 have len:∀ j,j≤T.length→T.length - (T.drop j).length=j:=fun j hj=>by simp only [aai];omega
 cases hne:gL T i with
 |error e=>
  have hr:=Je hne h
  subst hr
  have hn:=fun m=>lH (G:=G) hg ⟨B++m,K⟩ b i T hT hx (by omega) (hg1 m) e hne
  simp only [fh,au,len i hi,og hb]
  refine aa.body Tryz.func224 rfl Tryz.ntmps224 (by simp) ?_
  (try refine Wk.aw fun _ ag=>?_);(repeat' (first|((first|refine Wk.hd ?_|refine Wk.i ?_);simp -implicitDefEqProofs (disch:=omega) only [go_sem,seval,hs1,hs2,hl,hG,hG0,hS,hS0])|refine cA (hn _) ?_|first|refine Wk.o ?_|refine Wk.q ‹_› ?_));all_goals (repeat subst ag)
  exact aM (s1:=⟨B,K⟩) (by simp [St.cut]) (fun _ _ h=> .inl h) rfl ⟨rfl,rfl⟩
 |ok u=>
  have hn:=fun m=>kN (G:=G) hg ⟨B++m,K⟩ b i T hT hx (by omega) (hg1 m) u hne
  obtain ⟨hil,hu,hru⟩:=zI hne
  rw [bM hil,←hu] at h
  simp only [pF] at h
  rw [fT] at hru
  have hux:u.text.length≤1048576:=by rw [hu];exact hx _ (aB hil)
  by_cases k2:u.kind=2
  ·rw [if_neg (by omega),if_pos k2] at hru
   rw [if_pos k2,if_pos hru,aaf] at h
   subst h
   have hd:=hru
   simp only [fZ,aap,aal,aaz] at hd
   have hat:=vm (G:=G) u.text hux (cZ u.text) (by rw [Dq u.text hd.1.1.1 hd.1.2,if_pos (by omega)])
   have hlit:=jb (G:=G) (.mk 2 false (cZ u.text) [] [] [])
   simp only [fh,au,len (i+1) (by omega)]
   refine aa.body Tryz.func224 rfl Tryz.ntmps224 (by simp) ?_
   (try refine Wk.aw fun _ ag=>?_);(repeat' (first|((first|refine Wk.hd ?_|refine Wk.i ?_);simp -implicitDefEqProofs (disch:=omega) only [go_sem,seval,hs1,hs2,hl,hG,hG0,hS,hS0,hg1,hg2,k2])|refine ah (hn _) ?_|refine ah (hat _) ?_|refine ah (hlit _) ?_|first|refine Wk.o ?_|refine Wk.q ‹_› ?_));all_goals (repeat subst ag)
   refine aV (v:=vE (lit (.mk 2 false (cZ u.text) [] [] []))) K.length (aan _) (s1:=⟨B.set b (bI T (i+1)),K⟩) (by simp [St.cut];rfl) (aR ?_) (by simp -implicitDefEqProofs (disch:=omega) only [go_sem,seval,bQ,bZ,Tryz.results224,hG,hG0];first|done|exact rfl) (by simp -implicitDefEqProofs (disch:=omega) only [go_sem,seval,eD];first|done|exact rfl) (by simp -implicitDefEqProofs (disch:=omega) only [go_sem,seval];first|done|exact rfl) ⟨rfl,rfl⟩
   simp [aJ.within,V.within,V.within.all]
  ·by_cases k3:u.kind=3
   ·rw [if_neg (by omega),if_neg k2,if_pos k3,aal] at hru
    rw [if_neg k2,if_pos k3,if_pos hru,aaf] at h
    subst h
    have hlit:=jb (G:=G) (.mk 3 false 0 u.text [] [])
    simp only [fh,au,len (i+1) (by omega)]
    refine aa.body Tryz.func224 rfl Tryz.ntmps224 (by simp) ?_
    (try refine Wk.aw fun _ ag=>?_);(repeat' (first|((first|refine Wk.hd ?_|refine Wk.i ?_);simp -implicitDefEqProofs (disch:=omega) only [go_sem,seval,hs1,hs2,hl,hG,hG0,hS,hS0,hg1,hg2,k3])|refine ah (hn _) ?_|refine ah (hlit _) ?_|first|refine Wk.o ?_|refine Wk.q ‹_› ?_));all_goals (repeat subst ag)
    refine aV (v:=vE (lit (.mk 3 false 0 u.text [] []))) K.length (aan _) (s1:=⟨B.set b (bI T (i+1)),K⟩) (by simp [St.cut];rfl) (aR ?_) (by simp -implicitDefEqProofs (disch:=omega) only [go_sem,seval,bQ,bZ,Tryz.results224,hG,hG0];first|done|exact rfl) (by simp -implicitDefEqProofs (disch:=omega) only [go_sem,seval,eD];first|done|exact rfl) (by simp -implicitDefEqProofs (disch:=omega) only [go_sem,seval];first|done|exact rfl) ⟨rfl,rfl⟩
    simp [aJ.within,V.within,V.within.all]
   ·by_cases k1:u.kind=1
    ·rw [if_pos k1] at hru
     rw [if_neg k2,if_neg k3,if_pos k1,if_pos hru] at h
     have hnr:Dr f T u.text (i+1)=some r:=by
      rw [Dr]
      by_cases q1:u.text=jc
      ·rw [if_pos q1] at h ⊢;exact h
      ·rw [if_neg q1] at h ⊢
       by_cases q2:u.text=gX∨u.text=fY
       ·rw [if_pos q2] at h ⊢;exact h
       ·rw [if_neg q2] at h ⊢
        by_cases hl1:i+1<T.length
        ·rw [bM hl1] at h ⊢
         simp only at h
         cases hb1:bU T (i+1) [40]
         ·rw [dj hl1 hb1,if_neg aaS] at h
          rw [if_neg aaS];exact h
         ·rw [eH hb1,if_pos rfl] at h
          rw [if_pos rfl];exact h
        ·have hb1:bU T (i+1) [40]=false:=by rw [aaM];intro hh;exact hl1 (bW hh)
         rw [bk hl1] at h ⊢
         rw [hb1,if_neg aaS];exact h
     have c1:=Po hg hT hx hargs u.text (i+1) (by omega) r hnr
     cases r with
     |ok e rest=>
      simp only [kf,fh,au] at c1
      have c1':∀ m,aa Tryz.prog G 236 [.ptr b 0,vs u.text] ⟨B.set b (bI T (i+1))++m,K⟩ (fun o s=>o= .ret (vE e)∧s=⟨B.set b (bI T (T.length - rest.length))++m,K⟩):=fun m=>by have:=c1 _ K b (hg2 _ m);simp only [hs2] at this;exact this
      simp only [fh,au]
      refine aa.body Tryz.func224 rfl Tryz.ntmps224 (by simp) ?_
      (try refine Wk.aw fun _ ag=>?_);(repeat' (first|((first|refine Wk.hd ?_|refine Wk.i ?_);simp -implicitDefEqProofs (disch:=omega) only [go_sem,seval,hs1,hs2,hl,hG,hG0,hS,hS0,hg1,hg2,k1])|refine ah (hn _) ?_|refine aW (c1' _) ?_|first|refine Wk.o ?_|refine Wk.q ‹_› ?_));all_goals (repeat subst ag)
      refine aV (v:=vE e) K.length (aan _) (s1:=⟨B.set b (bI T (T.length - rest.length)),K⟩) (by simp [St.cut]) (aR ?_) (by simp -implicitDefEqProofs (disch:=omega) only [go_sem,seval,bQ,bZ,Tryz.results224,hG,hG0];first|done|exact rfl) (by simp -implicitDefEqProofs (disch:=omega) only [go_sem,seval,eD];first|done|exact rfl) (by simp -implicitDefEqProofs (disch:=omega) only [go_sem,seval];first|done|exact rfl) ⟨rfl,rfl⟩
      simp [aJ.within,V.within,V.within.all]
     |err rest c=>
      simp only [kf,fh,au] at c1
      have c1':∀ m,aa Tryz.prog G 236 [.ptr b 0,vs u.text] ⟨B.set b (bI T (i+1))++m,K⟩ (fun o s=>o= .dw (j4 (T.length - rest.length) c)∧s=⟨B.set b (bI T (T.length - rest.length))++m,K⟩):=fun m=>by have:=c1 _ K b (hg2 _ m);simp only [hs2] at this;exact this
      simp only [fh,au]
      refine aa.body Tryz.func224 rfl Tryz.ntmps224 (by simp) ?_
      (try refine Wk.aw fun _ ag=>?_);(repeat' (first|((first|refine Wk.hd ?_|refine Wk.i ?_);simp -implicitDefEqProofs (disch:=omega) only [go_sem,seval,hs1,hs2,hl,hG,hG0,hS,hS0,hg1,hg2,k1])|refine ah (hn _) ?_|refine cA (c1' _) ?_|first|refine Wk.o ?_|refine Wk.q ‹_› ?_));all_goals (repeat subst ag)
      refine aM (s1:=⟨B.set b (bI T (T.length - rest.length)),K⟩) (by simp [St.cut]) (aR ?_) rfl ⟨rfl,rfl⟩
      simp [aJ.within,V.within,V.within.all]
    ·rw [if_neg k1,if_neg k2,if_neg k3,aal] at hru
     rw [if_neg k2,if_neg k3,if_neg k1] at h
     have hop:∀ s,cg s u=bU T i s:=fun s=>by rw [bU,decide_eq_true hil,abI,hu]
     simp only [hop] at h
     have at_:∀ s,bU T i s=true→∀ m,aa Tryz.prog G 184 [.ptr b 0,vs s] ⟨B++m,K⟩ (fun o s'=>o= .ret (vb true)∧s'=⟨B.set b (bI T (i+1))++m,K⟩):=fun s hs m=>by
      have:=eL (G:=G) hg ⟨B++m,K⟩ b i T hT hx (by omega) (hg1 _) s (by rw [cW];exact hs)
      simp only [hs1] at this;exact this
     have af_:∀ s,bU T i s=false→∀ m,aa Tryz.prog G 184 [.ptr b 0,vs s] ⟨B++m,K⟩ (fun o s'=>o= .ret (vb false)∧s'=⟨B++m,K⟩):=fun s hs m=>
      eK (G:=G) hg ⟨B++m,K⟩ b i T hT hx (by omega) (hg1 _) s (by rw [cW];exact hs)
     cases o1:bU T i [40]
     ·have a1:=af_ _ o1
      rw [o1,if_neg aaS] at h
      cases o2:bU T i [91]
      ·have a2:=af_ _ o2
       rw [o2,if_neg aaS] at h
       cases o3:bU T i [123]
       ·have a3:=af_ _ o3
        rw [o3,if_neg aaS,hu,←bM hil,aaf] at h
        subst h
        have hfl:=fun m=>p8 (G:=G) ⟨B++m,K⟩ b i T 5 (hg1 m)
        simp only [fh,au,len i hi,og hb]
        refine aa.body Tryz.func224 rfl Tryz.ntmps224 (by simp) ?_
        (try refine Wk.aw fun _ ag=>?_);(repeat' (first|((first|refine Wk.hd ?_|refine Wk.i ?_);simp -implicitDefEqProofs (disch:=omega) only [go_sem,seval,hs1,hs2,hl,hG,hG0,hS,hS0,hg1,hg2])|(refine ay (fun hc=>?_) (fun hc=>?_)<;>try omega)|refine ah (hn _) ?_|refine ah ((by first|exact a1 _|exact a2 _|exact a3 _)) ?_|refine cA (hfl _) ?_|first|refine Wk.o ?_|refine Wk.q ‹_› ?_));all_goals (repeat subst ag)
        exact aM (s1:=⟨B,K⟩) (by simp [St.cut]) (fun _ _ h=> .inl h) rfl ⟨rfl,rfl⟩
       ·have a3:=at_ _ o3
        rw [o3,if_pos rfl] at h
        have c1:=hents (i+1) (by omega) _ h
        cases r with
        |ok e rest=>
         simp only [kf,fh,au] at c1
         have c1':∀ m,aa Tryz.prog G 238 [.ptr b 0] ⟨B.set b (bI T (i+1))++m,K⟩ (fun o s=>o= .ret (vE e)∧s=⟨B.set b (bI T (T.length - rest.length))++m,K⟩):=fun m=>by have:=c1 _ K b (hg2 _ m);simp only [hs2] at this;exact this
         simp only [fh,au]
         refine aa.body Tryz.func224 rfl Tryz.ntmps224 (by simp) ?_
         (try refine Wk.aw fun _ ag=>?_);(repeat' (first|((first|refine Wk.hd ?_|refine Wk.i ?_);simp -implicitDefEqProofs (disch:=omega) only [go_sem,seval,hs1,hs2,hl,hG,hG0,hS,hS0,hg1,hg2])|(refine ay (fun hc=>?_) (fun hc=>?_)<;>try omega)|refine ah (hn _) ?_|refine ah ((by first|exact a1 _|exact a2 _)) ?_|refine aW (a3 _) ?_|refine aW (c1' _) ?_|first|refine Wk.o ?_|refine Wk.q ‹_› ?_));all_goals (repeat subst ag)
         refine aV (v:=vE e) K.length (aan _) (s1:=⟨B.set b (bI T (T.length - rest.length)),K⟩) (by simp [St.cut]) (aR ?_) (by simp -implicitDefEqProofs (disch:=omega) only [go_sem,seval,bQ,bZ,Tryz.results224,hG,hG0];first|done|exact rfl) (by simp -implicitDefEqProofs (disch:=omega) only [go_sem,seval,eD];first|done|exact rfl) (by simp -implicitDefEqProofs (disch:=omega) only [go_sem,seval];first|done|exact rfl) ⟨rfl,rfl⟩
         simp [aJ.within,V.within,V.within.all]
        |err rest c=>
         simp only [kf,fh,au] at c1
         have c1':∀ m,aa Tryz.prog G 238 [.ptr b 0] ⟨B.set b (bI T (i+1))++m,K⟩ (fun o s=>o= .dw (j4 (T.length - rest.length) c)∧s=⟨B.set b (bI T (T.length - rest.length))++m,K⟩):=fun m=>by have:=c1 _ K b (hg2 _ m);simp only [hs2] at this;exact this
         simp only [fh,au]
         refine aa.body Tryz.func224 rfl Tryz.ntmps224 (by simp) ?_
         (try refine Wk.aw fun _ ag=>?_);(repeat' (first|((first|refine Wk.hd ?_|refine Wk.i ?_);simp -implicitDefEqProofs (disch:=omega) only [go_sem,seval,hs1,hs2,hl,hG,hG0,hS,hS0,hg1,hg2])|(refine ay (fun hc=>?_) (fun hc=>?_)<;>try omega)|refine ah (hn _) ?_|refine ah ((by first|exact a1 _|exact a2 _)) ?_|refine aW (a3 _) ?_|refine cA (c1' _) ?_|first|refine Wk.o ?_|refine Wk.q ‹_› ?_));all_goals (repeat subst ag)
         refine aM (s1:=⟨B.set b (bI T (T.length - rest.length)),K⟩) (by simp [St.cut]) (aR ?_) rfl ⟨rfl,rfl⟩
         simp [aJ.within,V.within,V.within.all]
      ·have a2:=at_ _ o2
       rw [o2,if_pos rfl] at h
       rcases h3:pF f (.args [93]) (T.drop (i+1)) with _|(⟨l,r1⟩|⟨r1,ec⟩)
       ·rw [h3] at h;simp [aL] at h
       ·have c1:=hargs [93] (by decide) (i+1) (by omega) _ h3
        rw [h3] at h
        simp only [aL,aaf] at h
        subst h
        simp only [Ny,L1,au] at c1
        have c1':∀ m,aa Tryz.prog G 237 [.ptr b 0,vs [93]] ⟨B.set b (bI T (i+1))++m,K⟩ (fun o s=>o= .ret (.d (.sl (l.args.map Ex.enc)))∧s=⟨B.set b (bI T (T.length - r1.length))++m,K⟩):=fun m=>by have:=c1 _ K b (hg2 _ m);simp only [hs2] at this;exact this
        simp only [fh,au]
        have hve:vE (Ex.mk 9 [] ct l.args [])=V.agg [V.d (D.int .i64 9),V.d (D.str []),V.d (D.int .i64 0),V.d (D.bool false),V.d (D.int .i64 0),V.d (D.str []),V.d (D.sl []),V.d (D.sl []),V.d (D.sl (l.args.map Ex.enc)),V.d (D.sl [])]:=by rw [vE,Ex.aP];rfl
        refine aa.body Tryz.func224 rfl Tryz.ntmps224 (by simp) ?_
        (try refine Wk.aw fun _ ag=>?_);(repeat' (first|((first|refine Wk.hd ?_|refine Wk.i ?_);simp -implicitDefEqProofs (disch:=omega) only [go_sem,seval,hs1,hs2,hl,hG,hG0,hS,hS0,hg1,hg2])|(refine ay (fun hc=>?_) (fun hc=>?_)<;>try omega)|refine ah (hn _) ?_|refine ah (a1 _) ?_|refine aW (a2 _) ?_|refine aW (c1' _) ?_|first|refine Wk.o ?_|refine Wk.q ‹_› ?_));all_goals (repeat subst ag)
        refine aV (v:=vE (Ex.mk 9 [] ct l.args [])) K.length (aan _) (s1:=⟨B.set b (bI T (T.length - r1.length)),K⟩) (by simp [St.cut]) (aR ?_) (by simp -implicitDefEqProofs (disch:=omega) only [go_sem,seval,bQ,bZ,Tryz.results224,hG,hG0];first|done|exact rfl) (by rw [hve];simp -implicitDefEqProofs (disch:=omega) only [go_sem,seval,eD];first|done|exact rfl) (by simp -implicitDefEqProofs (disch:=omega) only [go_sem,seval];first|done|exact rfl) ⟨rfl,rfl⟩
        simp [aJ.within,V.within,V.within.all]
       ·have c1:=hargs [93] (by decide) (i+1) (by omega) _ h3
        rw [h3] at h
        simp only [aL,aaf] at h
        subst h
        simp only [Ny,L1,au] at c1
        have c1':∀ m,aa Tryz.prog G 237 [.ptr b 0,vs [93]] ⟨B.set b (bI T (i+1))++m,K⟩ (fun o s=>o= .dw (j4 (T.length - r1.length) ec)∧s=⟨B.set b (bI T (T.length - r1.length))++m,K⟩):=fun m=>by have:=c1 _ K b (hg2 _ m);simp only [hs2] at this;exact this
        simp only [fh,au]
        refine aa.body Tryz.func224 rfl Tryz.ntmps224 (by simp) ?_
        (try refine Wk.aw fun _ ag=>?_);(repeat' (first|((first|refine Wk.hd ?_|refine Wk.i ?_);simp -implicitDefEqProofs (disch:=omega) only [go_sem,seval,hs1,hs2,hl,hG,hG0,hS,hS0,hg1,hg2])|(refine ay (fun hc=>?_) (fun hc=>?_)<;>try omega)|refine ah (hn _) ?_|refine ah (a1 _) ?_|refine aW (a2 _) ?_|refine cA (c1' _) ?_|first|refine Wk.o ?_|refine Wk.q ‹_› ?_));all_goals (repeat subst ag)
        refine aM (s1:=⟨B.set b (bI T (T.length - r1.length)),K⟩) (by simp [St.cut]) (aR ?_) rfl ⟨rfl,rfl⟩
        simp [aJ.within,V.within,V.within.all]
     ·have a1:=at_ _ o1
      rw [o1,if_pos rfl] at h
      rcases h2:pF f .cond (T.drop (i+1)) with _|(⟨x,r2⟩|⟨r2,e2⟩)
      ·rw [h2] at h;simp [aL] at h
      ·have c2:=(hf f (aan _)).cond (i+1) (by omega) _ h2
       obtain ⟨m,hkm,hm,d2,e2⟩:=fS h2 (by omega)
       simp only [au] at d2 e2
       subst d2
       simp only [kf,fh,au,e2] at c2
       have c2':∀ m',aa Tryz.prog G 171 [.ptr b 0] ⟨B.set b (bI T (i+1))++m',K⟩ (fun o s=>o= .ret (vE x)∧s=⟨B.set b (bI T m)++m',K⟩):=fun m'=>by have:=c2 _ K b (hg2 _ m');simp only [hs2] at this;exact this
       rw [h2] at h
       simp only [aL] at h
       rw [gp] at h
       cases hb3:bU T m [41]
       ·rw [hb3,if_neg aaS,aaf] at h
        subst h
        have hx2:=fun m'=>iR (G:=G) hg ⟨B.set b (bI T m)++m',K⟩ b m T hT hx (by omega) (by exact hg2 _ _) [41] (by rw [cW];exact hb3)
        simp only [fh,au,len m hm]
        refine aa.body Tryz.func224 rfl Tryz.ntmps224 (by simp) ?_
        (try refine Wk.aw fun _ ag=>?_);(repeat' (first|((first|refine Wk.hd ?_|refine Wk.i ?_);simp -implicitDefEqProofs (disch:=omega) only [go_sem,seval,hs1,hs2,hl,hG,hG0,hS,hS0,hg1,hg2])|(refine ay (fun hc=>?_) (fun hc=>?_)<;>try omega)|refine ah (hn _) ?_|refine aW (a1 _) ?_|refine aW (c2' _) ?_|refine cA (hx2 _) ?_|first|refine Wk.o ?_|refine Wk.q ‹_› ?_));all_goals (repeat subst ag)
        refine aM (s1:=⟨B.set b (bI T m),K⟩) (by simp [St.cut]) (aR ?_) rfl ⟨rfl,rfl⟩
        simp [aJ.within,V.within,V.within.all]
       ·have hml:=bW hb3
        rw [hb3,if_pos rfl,aaf] at h
        subst h
        have hx2':∀ m',aa Tryz.prog G 185 [.ptr b 0,vs [41]] ⟨B.set b (bI T m)++m',K⟩ (fun o s'=>o= .ret (.cF [])∧s'=⟨B.set b (bI T (m+1))++m',K⟩):=fun m'=>by
         have:=iQ (G:=G) hg ⟨B.set b (bI T m)++m',K⟩ b m T hT hx (by omega) (by exact hg2 _ _) [41] (by rw [cW];exact hb3)
         simp only [hs2] at this;exact this
        simp only [fh,au,len (m+1) (by omega)]
        refine aa.body Tryz.func224 rfl Tryz.ntmps224 (by simp) ?_
        (try refine Wk.aw fun _ ag=>?_);(repeat' (first|((first|refine Wk.hd ?_|refine Wk.i ?_);simp -implicitDefEqProofs (disch:=omega) only [go_sem,seval,hs1,hs2,hl,hG,hG0,hS,hS0,hg1,hg2])|(refine ay (fun hc=>?_) (fun hc=>?_)<;>try omega)|refine ah (hn _) ?_|refine aW (a1 _) ?_|refine aW (c2' _) ?_|refine aW (hx2' _) ?_|first|refine Wk.o ?_|refine Wk.q ‹_› ?_));all_goals (repeat subst ag)
        refine aV (v:=vE x) K.length (aan _) (s1:=⟨B.set b (bI T (m+1)),K⟩) (by simp [St.cut]) (aR ?_) (by simp -implicitDefEqProofs (disch:=omega) only [go_sem,seval,bQ,bZ,Tryz.results224,hG,hG0];first|done|exact rfl) (by simp -implicitDefEqProofs (disch:=omega) only [go_sem,seval,eD];first|done|exact rfl) (by simp -implicitDefEqProofs (disch:=omega) only [go_sem,seval];first|done|exact rfl) ⟨rfl,rfl⟩
        simp [aJ.within,V.within,V.within.all]
      ·have c2:=(hf f (aan _)).cond (i+1) (by omega) _ h2
       rw [h2] at h
       simp only [aL,aaf] at h
       subst h
       simp only [kf,fh,au] at c2
       have c2':∀ m',aa Tryz.prog G 171 [.ptr b 0] ⟨B.set b (bI T (i+1))++m',K⟩ (fun o s=>o= .dw (j4 (T.length - r2.length) e2)∧s=⟨B.set b (bI T (T.length - r2.length))++m',K⟩):=fun m'=>by have:=c2 _ K b (hg2 _ m');simp only [hs2] at this;exact this
       simp only [fh,au]
       refine aa.body Tryz.func224 rfl Tryz.ntmps224 (by simp) ?_
       (try refine Wk.aw fun _ ag=>?_);(repeat' (first|((first|refine Wk.hd ?_|refine Wk.i ?_);simp -implicitDefEqProofs (disch:=omega) only [go_sem,seval,hs1,hs2,hl,hG,hG0,hS,hS0,hg1,hg2])|(refine ay (fun hc=>?_) (fun hc=>?_)<;>try omega)|refine ah (hn _) ?_|refine aW (a1 _) ?_|refine cA (c2' _) ?_|first|refine Wk.o ?_|refine Wk.q ‹_› ?_));all_goals (repeat subst ag)
       refine aM (s1:=⟨B.set b (bI T (T.length - r2.length)),K⟩) (by simp [St.cut]) (aR ?_) rfl ⟨rfl,rfl⟩
       simp [aJ.within,V.within,V.within.all]
abbrev Qi:List V:=[.d (.int .i64 0),.d (.str []),.d (.int .i64 0),.d (.bool false),.d (.int .i64 0),.d (.str []),.bh,.bh,.bh,.bh]
abbrev Xt (N:Nat) (ls ks:List (List D)):List V:=[.d (.int .i64 10),.d (.str []),.d (.int .i64 0),.d (.bool false),.d (.int .i64 0),.d (.str []),.bh,.bh,lz (N+1) ls,lz N ks]
abbrev Tg (B:List aJ) (K:List (Nat×Nat×Nat)) (b:Nat) (T:List Tk) (x:List Ex×List az×Nat×Nat):St:=⟨B.set b (bI T x.2.2.1)++[.cells Qi,.cells (Xt K.length (x.1.map Ex.enc) (bt x.2.1))],K++zu 9 1 47 10 (bt x.2.1) (x.1.map Ex.enc)⟩
abbrev Xu (B:List aJ) (b:Nat) (_:List Ex×List az×Nat×Nat):List (Nat×V):=[(0,.ptr b 0),(2,.ptr B.length 0),(3,.ptr (B.length+1) 0)]
theorem Fv (N M:Nat) (K:List (Nat×Nat×Nat)) (ls ks:List (List D)) (h:ls.length≤ks.length):(aJ.cells (Xt K.length ls ks)).within N (K.length+(zu 9 1 47 10 ks ls).length)=true:=by
 have h1:=sS N K.length 9 1 47 10 ks ls
 have h2:=sU N K.length 9 1 47 10 ks ls h
 simp [aJ.within,V.within.all,h1,h2,sj,qx]
theorem Dt {B:List aJ} {K:List (Nat×Nat×Nat)} {b:Nat} {T:List Tk} {p:List Ex×List az×Nat×Nat→Prop} {x x':List Ex×List az×Nat×Nat} {fr:Fr} {L:List aJ} {ls kk:List (List D)} {i:Nat} (hb:B[b]?=some (bI T i)) (hls:x'.1.map Ex.enc=ls) (hkk:bt x'.2.1=kk)
  (slots:okF fr (Xu B b x')) (ok:p x') (less:x'.2.2.2<x.2.2.2) (hlen:(x'.1.map Ex.enc).length≤(bt x'.2.1).length):
  Qz ⟨B,K⟩ (Xu B b) (Tg B K b T) p (fun x=>x.2.2.2) x fr ⟨B.set b (bI T x'.2.2.1)++(.cells Qi:: .cells (Xt K.length ls kk)::L),K++zu 9 1 47 10 kk ls⟩ x':=by
 subst hls hkk
 have hbl:=(aam.1 hb).1
 refine ⟨slots,ok,less,?_,by simp,by simp,by simp [okW,V.within,hbl];omega,?_⟩
 ·simp only [St.cut,Tg,aak,aa1,aah,aao,aaK]
  congr 1
  ·rw [List.take_append]
   simp
   exact aat (by simp)
  ·rw [←aak,aaP]
 ·intro b' B' h
  simp only [Tg,aak,aa1,aah,aao,aaK] at h ⊢
  by_cases hlt:b'<B.length
  ·rw [aaw (by simpa using hlt),List.getElem?_set] at h
   by_cases hbb:b=b'
   ·subst hbb
    rw [if_pos rfl,if_pos hlt] at h
    cases h
    exact .inr (by simp [aJ.within,V.within,V.within.all])
   ·rw [if_neg hbb] at h
    exact .inl h
  ·rw [aaq (by simpa using hlt),aa1] at h
   match hd:b' - B.length with
   |0=>rw [hd] at h;simp at h;subst h;exact .inr (by simp [aJ.within,V.within,V.within.all])
   |1=>rw [hd] at h;simp only [aa2,aa6,aaf] at h;subst h;exact .inr (Fv _ 0 K _ _ hlen)
   |d+2=>rw [hd] at h;simp at h
theorem oY (ks:List az):(bt ks).length=ks.length:=by induction ks<;>simp_all [bt]
theorem Zv (hg:GV G) {T:List Tk} {f:Nat} (hT:T.length≤1048576) (hx:∀ t∈T,t.text.length≤1048576) (hf:∀ g≤f,ur G T g)
  (i:Nat) (hi:i≤T.length) (r:dF Ex) (h:pF (f+1) .kW (T.drop i)=some r):
  kf G T 238 [] i r:=by
 intro B K b hb
 have hbl:b<B.length:=(aam.1 hb).1
 have hs1:∀ m y,(B++m).set b y=B.set b y++m:=fun m y=>kg hb
 have hs2:∀ z m y,(B.set b z++m).set b y=B.set b y++m:=fun z m y=>jU hb
 have hg1:∀ m,(B++m)[b]?=some (bI T i):=fun m=>fU hb
 have hg2:∀ z m,(B.set b z++m)[b]?=some z:=fun z m=>fU (iA hb)
 have hl:∀ z,(B.set b z).length=B.length:=fun z=>aa1
 have hG:∀ (z:aJ) (m:List aJ) (k:Nat),(B.set b z++m)[B.length+k]?=m[k]?:=fun z m k=>by rw [aaq (by simp)];simp
 have hG0:∀ (z:aJ) (m:List aJ),(B.set b z++m)[B.length]?=m[0]?:=fun z m=>by rw [aaq (by simp)];simp
 have hS:∀ (z y:aJ) (m:List aJ) (k:Nat),(B.set b z++m).set (B.length+k) y=B.set b z++m.set k y:=fun z y m k=>by rw [aaC _ _ (by simp)];simp
 have hS0:∀ (z y:aJ) (m:List aJ),(B.set b z++m).set B.length y=B.set b z++m.set 0 y:=fun z y m=>by rw [aaC _ _ (by simp)];simp
 have len:∀ j,j≤T.length→T.length - (T.drop j).length=j:=fun j hj=>by simp only [aai];omega
 simp only [pF] at h
 cases hb1:bU T i [125]
 ·have a1:=fun m=>eK (G:=G) hg ⟨B++m,K⟩ b i T hT hx (by omega) (hg1 m) [125] (by rw [cW];exact hb1)
  have h':pF f (.xR [] []) (T.drop i)=some r:=by
   by_cases hil:i<T.length
   ·rw [bM hil] at h ⊢
    simp only [dj hil hb1,aay,if_false] at h
    exact h
   ·rw [bk hil] at h ⊢;exact h
  refine aa.body Tryz.func238 rfl Tryz.ntmps238 (by simp) ?_
  (try with_reducible refine Wk.aw fun _ ag=>?_);(repeat' (first|((with_reducible first|refine Wk.hd ?_|refine Wk.i ?_);simp -implicitDefEqProofs (disch:=first|omega|(simp only [go_sem];try omega)) only [go_sem,seval,hs1,hs2,hl,hG,hG0,hS,hS0])|refine ah (a1 _) ?_|with_reducible refine Wk.o ?_));all_goals (repeat subst ag)
  refine AW.Nc (Xu B b) (Tg B K b T)
   (fun x=>x.2.2.1≤T.length∧x.1.length≤x.2.2.1∧x.1.length=x.2.1.length∧x.2.2.2≤f∧pF x.2.2.2 (.xR x.1 x.2.1) (T.drop x.2.2.1)=some r) (fun x=>x.2.2.2) ([],[],i,f) (by simp only [Tg,og hb,bt,abw,Dp,aaB,HV];rfl) (by simp -implicitDefEqProofs (disch:=first|omega|(simp only [go_sem];try omega)) only [go_sem,seval]<;>first|rfl|exact ⟨rfl,rfl⟩|skip) ⟨hi,by simp,by simp,aan _,h'⟩ ?_
  rintro ⟨acc,ks,k,g⟩ ⟨p1,p2,p2',p3,p4⟩
  simp only at p1 p2 p2' p3 p4
  obtain ⟨g,rfl⟩:∃ g',g=g'+1:=by
   cases g with
   |zero=>simp [pF] at p4
   |succ g=>exact ⟨g,rfl⟩
  simp only [pF] at p4
  cases hne:gL T k with
  |error ee=>
   have hn:=fun m K'=>lH (G:=G) hg ⟨B.set b (bI T k)++m,K'⟩ b k T hT hx (by omega) (hg2 _ m) ee hne
   have hr:r= .err (T.drop k) ee:=by
    rw [nh hne,bD]
    by_cases hk:k<T.length
    ·have hrf:=zJ hne hk
     rw [if_neg (by omega)]
     rw [bM hk] at p4 ⊢
     have hkf:kq (T.getD k default)=false:=by
      generalize T.getD k default=t at*
      rw [←Bool.not_eq_true]
      intro hh
      simp only [kq,aaX,aap,aal] at hh
      rcases hh with ⟨q1,q2⟩|⟨q1,q2⟩
      ·rw [fT,if_pos q1,q2] at hrf;cases hrf
      ·rw [fT,if_neg (by omega),if_neg (by omega),if_pos q1,decide_eq_true q2] at hrf;cases hrf
     simp only [hkf,aay,if_false,aaf] at p4
     exact p4.symm
    ·rw [if_pos (by omega)]
     rw [bk hk] at p4 ⊢
     simp only [aaf] at p4
     exact p4.symm
   subst hr
   simp only [fh,au,len k p1]
   (try with_reducible refine Wk.aw fun _ ag=>?_);(repeat' (first|((with_reducible first|refine Wk.hd ?_|refine Wk.i ?_);simp -implicitDefEqProofs (disch:=first|omega|(simp only [go_sem];try omega)) only [go_sem,seval,hs1,hs2,hl,hG,hG0,hS,hS0])|refine cA (hn _ _) ?_|with_reducible first|refine Wk.o ?_|refine Wk.q ‹_› ?_));all_goals (repeat subst ag)
   refine aM (s1:=⟨B.set b (bI T k),K⟩) (by simp [St.cut]) (aR ?_) rfl ⟨rfl,rfl⟩
   simp [aJ.within,V.within,V.within.all]
  |ok u=>
   have hn:=fun m K'=>kN (G:=G) hg ⟨B.set b (bI T k)++m,K'⟩ b k T hT hx (by omega) (hg2 _ m) u hne
   obtain ⟨hk,hu,hru⟩:=zI hne
   rw [bM hk,←hu] at p4
   simp only at p4
   have hux:u.text.length≤1048576:=by rw [hu];exact hx _ (aB hk)
   by_cases hkk:u.kind=1∨u.kind=3
   ·have hkt:kq u=true:=by
     simp only [kq,aaX,aap,aal]
     rw [fT] at hru
     rcases hkk with q|q
     ·rw [if_pos q] at hru;exact .inl ⟨q,hru⟩
     ·rw [if_neg (by omega),if_neg (by omega),if_pos q,aal] at hru;exact .inr ⟨q,hru⟩
    rw [if_pos hkt,gp] at p4
    cases hb2:bU T (k+1) [58]
    ·rw [hb2,if_neg aaS,aaf] at p4
     subst p4
     have hx2:=fun m K'=>iR (G:=G) hg ⟨B.set b (bI T (k+1))++m,K'⟩ b (k+1) T hT hx (by omega) (by exact hg2 _ _) [58] (by rw [cW];exact hb2)
     simp only [fh,au,len (k+1) (by omega)]
     rcases hkk with hk1|hk3
     ·(try with_reducible refine Wk.aw fun _ ag=>?_);(repeat' (first|((with_reducible first|refine Wk.hd ?_|refine Wk.i ?_);simp -implicitDefEqProofs (disch:=first|omega|(simp only [go_sem];try omega)) only [go_sem,seval,hs1,hs2,hl,hG,hG0,hS,hS0,hg2,hk1])|refine ah (hn _ _) ?_|refine cA (hx2 _ _) ?_|with_reducible first|refine Wk.o ?_|refine Wk.q ‹_› ?_));all_goals (repeat subst ag)
      refine aM (s1:=⟨B.set b (bI T (k+1)),K⟩) (by simp [St.cut]) (aR ?_) rfl ⟨rfl,rfl⟩
      simp [aJ.within,V.within,V.within.all]
     ·(try with_reducible refine Wk.aw fun _ ag=>?_);(repeat' (first|((with_reducible first|refine Wk.hd ?_|refine Wk.i ?_);simp -implicitDefEqProofs (disch:=first|omega|(simp only [go_sem];try omega)) only [go_sem,seval,hs1,hs2,hl,hG,hG0,hS,hS0,hg2,hk3])|refine ah (hn _ _) ?_|refine cA (hx2 _ _) ?_|with_reducible first|refine Wk.o ?_|refine Wk.q ‹_› ?_));all_goals (repeat subst ag)
      refine aM (s1:=⟨B.set b (bI T (k+1)),K⟩) (by simp [St.cut]) (aR ?_) rfl ⟨rfl,rfl⟩
      simp [aJ.within,V.within,V.within.all]
    ·have hk2:=bW hb2
     rw [hb2,if_pos rfl] at p4
     have hx2:∀ m K',aa Tryz.prog G 185 [.ptr b 0,vs [58]] ⟨B.set b (bI T (k+1))++m,K'⟩ (fun o s'=>o= .ret (.cF [])∧s'=⟨B.set b (bI T (k+1+1))++m,K'⟩):=fun m K'=>by
      have:=iQ (G:=G) hg ⟨B.set b (bI T (k+1))++m,K'⟩ b (k+1) T hT hx (by omega) (by exact hg2 _ _) [58] (by rw [cW];exact hb2)
      simp only [hs2] at this;exact this
     rcases h2:pF g .cond (T.drop (k+1+1)) with _|(⟨x,r2⟩|⟨r2,e2⟩)
     ·rw [h2] at p4;simp [aL] at p4
     ·have c2:=(hf g (by omega)).cond (k+1+1) (by omega) _ h2
      obtain ⟨m,hkm,hm,d2,e2⟩:=fS h2 (by omega)
      simp only [au] at d2 e2
      subst d2
      rw [h2] at p4
      simp only [aL] at p4
      simp only [kf,fh,au,e2] at c2
      have c2':∀ m' K',aa Tryz.prog G 171 [.ptr b 0] ⟨B.set b (bI T (k+1+1))++m',K'⟩ (fun o s=>o= .ret (vE x)∧s=⟨B.set b (bI T m)++m',K'⟩):=fun m' K'=>by have:=c2 _ K' b (hg2 _ m');simp only [hs2] at this;exact this
      cases hb3:bU T m [44]
      ·have a3:=fun m' K'=>eK (G:=G) hg ⟨B.set b (bI T m)++m',K'⟩ b m T hT hx (by omega) (hg2 _ m') [44] (by rw [cW];exact hb3)
       cases hb4:bU T m [125]
       ·have hx4:=fun m' K'=>iR (G:=G) hg ⟨B.set b (bI T m)++m',K'⟩ b m T hT hx (by omega) (hg2 _ m') [125] (by rw [cW];exact hb4)
        have hr:r= .err (T.drop m) (bD T m):=by
         by_cases hml:m<T.length
         ·rw [bM hml] at p4
          simp only [dj hml hb4,dj hml hb3,aay,if_false,aaf] at p4
          rw [←p4,bD,if_neg (by omega),bM hml]
         ·rw [bk hml] at p4
          simp only [aaf] at p4
          rw [←p4,bD,if_pos (by omega),bk hml]
        subst hr
        simp only [fh,au,len m hm]
        rcases hkk with hk1|hk3
        ·(try with_reducible refine Wk.aw fun _ ag=>?_);(repeat' (first|((with_reducible refine Wk.Au 10 ?_);refine AW.uh (P:=Tryz.prog) mx 3 [(1,4)] (by kernel_rfl) (by kernel_rfl) (by simp -implicitDefEqProofs (disch:=first|omega|(simp only [go_sem];try omega)) only [go_sem,seval,hs1,hs2,hl,hG,hG0,hS,hS0,hg2,hk1];first|done|exact rfl) (by kernel_rfl) Tryz.call171 rfl rfl (by simp -implicitDefEqProofs (disch:=first|omega|(simp only [go_sem];try omega)) only [go_sem,seval,hs1,hs2,hl,hG,hG0,hS,hS0,hg2,hk1];first|done|exact rfl) (c2' _ _) (by simp -implicitDefEqProofs (disch:=first|omega|(simp only [go_sem];try omega)) only [go_sem,seval,hs1,hs2,hl,hG,hG0,hS,hS0,hg2,hk1];first|done|exact rfl) (fF (by decide) (by decide) rfl rfl (by simp -implicitDefEqProofs (disch:=first|omega|(simp only [go_sem];try omega)) only [go_sem,seval,hs1,hs2,hl,hG,hG0,hS,hS0,hg2,hk1]) (iz)) ?_)|(with_reducible first|refine Wk.ox ?_|refine Wk.th ?_|refine Wk.bl ?_)|((with_reducible first|refine Wk.hd ?_|refine Wk.i ?_);simp -implicitDefEqProofs (disch:=first|omega|(simp only [go_sem];try omega)) only [go_sem,seval,hs1,hs2,hl,hG,hG0,hS,hS0,hg2,hk1])|refine ah (hn _ _) ?_|refine aW (hx2 _ _) ?_|refine ah (a3 _ _) ?_|refine cA (hx4 _ _) ?_|with_reducible first|refine Wk.o ?_|refine Wk.q ‹_› ?_));all_goals (repeat subst ag)
         refine aM (s1:=⟨B.set b (bI T m),K⟩) (by simp [St.cut]) (aR ?_) rfl ⟨rfl,rfl⟩
         simp [aJ.within,V.within,V.within.all]
        ·(try with_reducible refine Wk.aw fun _ ag=>?_);(repeat' (first|((with_reducible refine Wk.Au 10 ?_);refine AW.uh (P:=Tryz.prog) mx 3 [(1,4)] (by kernel_rfl) (by kernel_rfl) (by simp -implicitDefEqProofs (disch:=first|omega|(simp only [go_sem];try omega)) only [go_sem,seval,hs1,hs2,hl,hG,hG0,hS,hS0,hg2,hk3];first|done|exact rfl) (by kernel_rfl) Tryz.call171 rfl rfl (by simp -implicitDefEqProofs (disch:=first|omega|(simp only [go_sem];try omega)) only [go_sem,seval,hs1,hs2,hl,hG,hG0,hS,hS0,hg2,hk3];first|done|exact rfl) (c2' _ _) (by simp -implicitDefEqProofs (disch:=first|omega|(simp only [go_sem];try omega)) only [go_sem,seval,hs1,hs2,hl,hG,hG0,hS,hS0,hg2,hk3];first|done|exact rfl) (fF (by decide) (by decide) rfl rfl (by simp -implicitDefEqProofs (disch:=first|omega|(simp only [go_sem];try omega)) only [go_sem,seval,hs1,hs2,hl,hG,hG0,hS,hS0,hg2,hk3]) (iz)) ?_)|(with_reducible first|refine Wk.ox ?_|refine Wk.th ?_|refine Wk.bl ?_)|((with_reducible first|refine Wk.hd ?_|refine Wk.i ?_);simp -implicitDefEqProofs (disch:=first|omega|(simp only [go_sem];try omega)) only [go_sem,seval,hs1,hs2,hl,hG,hG0,hS,hS0,hg2,hk3])|refine ah (hn _ _) ?_|refine aW (hx2 _ _) ?_|refine ah (a3 _ _) ?_|refine cA (hx4 _ _) ?_|with_reducible first|refine Wk.o ?_|refine Wk.q ‹_› ?_));all_goals (repeat subst ag)
         refine aM (s1:=⟨B.set b (bI T m),K⟩) (by simp [St.cut]) (aR ?_) rfl ⟨rfl,rfl⟩
         simp [aJ.within,V.within,V.within.all]
       ·have hml:=bW hb4
        rw [bM hml] at p4
        simp only [eH hb4,if_true,aaf] at p4
        subst p4
        have hx4:∀ m' K',aa Tryz.prog G 185 [.ptr b 0,vs [125]] ⟨B.set b (bI T m)++m',K'⟩ (fun o s'=>o= .ret (.cF [])∧s'=⟨B.set b (bI T (m+1))++m',K'⟩):=fun m' K'=>by
         have:=iQ (G:=G) hg ⟨B.set b (bI T m)++m',K'⟩ b m T hT hx (by omega) (hg2 _ m') [125] (by rw [cW];exact hb4)
         simp only [hs2] at this;exact this
        have hve:vE (Ex.mk 10 [] ct (acc++[x]) (ks++[u.text]))=V.agg [V.d (D.int .i64 10),V.d (D.str []),V.d (D.int .i64 0),V.d (D.bool false),V.d (D.int .i64 0),V.d (D.str []),V.d (D.sl []),V.d (D.sl []),V.d (D.sl (acc.map Ex.enc++[x.enc])),V.d (D.sl (bt ks++[[D.str u.text]]))]:=by
         rw [vE,Ex.aP];simp [Ex.args,Ex.keys,Ex.kind,Ex.name,Ex.value,ct,aX.aP,aX.kind,aX.bool,aX.int,aX.str,aX.list,aX.keys,bt]
        simp only [fh,au,len (m+1) (by omega)]
        rcases hkk with hk1|hk3
        ·(try with_reducible refine Wk.aw fun _ ag=>?_);(repeat' (first|((with_reducible refine Wk.Au 10 ?_);refine AW.uh (P:=Tryz.prog) mx 3 [(1,4)] (by kernel_rfl) (by kernel_rfl) (by simp -implicitDefEqProofs (disch:=first|omega|(simp only [go_sem];try omega)) only [go_sem,seval,hs1,hs2,hl,hG,hG0,hS,hS0,hg2,hk1];first|done|exact rfl) (by kernel_rfl) Tryz.call171 rfl rfl (by simp -implicitDefEqProofs (disch:=first|omega|(simp only [go_sem];try omega)) only [go_sem,seval,hs1,hs2,hl,hG,hG0,hS,hS0,hg2,hk1];first|done|exact rfl) (c2' _ _) (by simp -implicitDefEqProofs (disch:=first|omega|(simp only [go_sem];try omega)) only [go_sem,seval,hs1,hs2,hl,hG,hG0,hS,hS0,hg2,hk1];first|done|exact rfl) (fF (by decide) (by decide) rfl rfl (by simp -implicitDefEqProofs (disch:=first|omega|(simp only [go_sem];try omega)) only [go_sem,seval,hs1,hs2,hl,hG,hG0,hS,hS0,hg2,hk1]) (iz)) ?_)|(with_reducible first|refine Wk.ox ?_|refine Wk.th ?_|refine Wk.bl ?_)|((with_reducible first|refine Wk.hd ?_|refine Wk.i ?_);simp -implicitDefEqProofs (disch:=first|omega|(simp only [go_sem];try omega)) only [go_sem,seval,hs1,hs2,hl,hG,hG0,hS,hS0,hg2,hk1])|refine ah (hn _ _) ?_|refine aW ((by first|exact hx2 _ _|exact hx4 _ _)) ?_|refine ah (a3 _ _) ?_|with_reducible first|refine Wk.o ?_|refine Wk.q ‹_› ?_));all_goals (repeat subst ag)
         refine aV (v:=vE (Ex.mk 10 [] ct (acc++[x]) (ks++[u.text]))) K.length (aan _) (s1:=⟨B.set b (bI T (m+1)),K⟩) (by simp [St.cut]) (aR ?_) (by simp -implicitDefEqProofs (disch:=first|omega|(simp only [go_sem];try omega)) only [go_sem,seval,bQ,bZ,Tryz.results238,hG,hG0];first|done|exact rfl) (by rw [hve];simp -implicitDefEqProofs (disch:=first|omega|(simp only [go_sem];try omega)) only [go_sem,seval,eD];first|done|exact rfl) (by simp -implicitDefEqProofs (disch:=first|omega|(simp only [go_sem];try omega)) only [go_sem,seval];first|done|exact rfl) ⟨rfl,rfl⟩
         simp [aJ.within,V.within,V.within.all]
        ·(try with_reducible refine Wk.aw fun _ ag=>?_);(repeat' (first|((with_reducible refine Wk.Au 10 ?_);refine AW.uh (P:=Tryz.prog) mx 3 [(1,4)] (by kernel_rfl) (by kernel_rfl) (by simp -implicitDefEqProofs (disch:=first|omega|(simp only [go_sem];try omega)) only [go_sem,seval,hs1,hs2,hl,hG,hG0,hS,hS0,hg2,hk3];first|done|exact rfl) (by kernel_rfl) Tryz.call171 rfl rfl (by simp -implicitDefEqProofs (disch:=first|omega|(simp only [go_sem];try omega)) only [go_sem,seval,hs1,hs2,hl,hG,hG0,hS,hS0,hg2,hk3];first|done|exact rfl) (c2' _ _) (by simp -implicitDefEqProofs (disch:=first|omega|(simp only [go_sem];try omega)) only [go_sem,seval,hs1,hs2,hl,hG,hG0,hS,hS0,hg2,hk3];first|done|exact rfl) (fF (by decide) (by decide) rfl rfl (by simp -implicitDefEqProofs (disch:=first|omega|(simp only [go_sem];try omega)) only [go_sem,seval,hs1,hs2,hl,hG,hG0,hS,hS0,hg2,hk3]) (iz)) ?_)|(with_reducible first|refine Wk.ox ?_|refine Wk.th ?_|refine Wk.bl ?_)|((with_reducible first|refine Wk.hd ?_|refine Wk.i ?_);simp -implicitDefEqProofs (disch:=first|omega|(simp only [go_sem];try omega)) only [go_sem,seval,hs1,hs2,hl,hG,hG0,hS,hS0,hg2,hk3])|refine ah (hn _ _) ?_|refine aW ((by first|exact hx2 _ _|exact hx4 _ _)) ?_|refine ah (a3 _ _) ?_|with_reducible first|refine Wk.o ?_|refine Wk.q ‹_› ?_));all_goals (repeat subst ag)
         refine aV (v:=vE (Ex.mk 10 [] ct (acc++[x]) (ks++[u.text]))) K.length (aan _) (s1:=⟨B.set b (bI T (m+1)),K⟩) (by simp [St.cut]) (aR ?_) (by simp -implicitDefEqProofs (disch:=first|omega|(simp only [go_sem];try omega)) only [go_sem,seval,bQ,bZ,Tryz.results238,hG,hG0];first|done|exact rfl) (by rw [hve];simp -implicitDefEqProofs (disch:=first|omega|(simp only [go_sem];try omega)) only [go_sem,seval,eD];first|done|exact rfl) (by simp -implicitDefEqProofs (disch:=first|omega|(simp only [go_sem];try omega)) only [go_sem,seval];first|done|exact rfl) ⟨rfl,rfl⟩
         simp [aJ.within,V.within,V.within.all]
      ·have hml:=bW hb3
       have hb4:cg [125] (T.getD m default)=false:=by
        rw [aaM];intro hh
        simp only [cg,aal] at hh
        have:=ni hb3
        rw [hh.2] at this
        exact absurd this (by decide)
       have a3:∀ m' K',aa Tryz.prog G 184 [.ptr b 0,vs [44]] ⟨B.set b (bI T m)++m',K'⟩ (fun o s'=>o= .ret (vb true)∧s'=⟨B.set b (bI T (m+1))++m',K'⟩):=fun m' K'=>by
        have:=eL (G:=G) hg ⟨B.set b (bI T m)++m',K'⟩ b m T hT hx (by omega) (hg2 _ m') [44] (by rw [cW];exact hb3)
        simp only [hs2] at this;exact this
       rw [bM hml] at p4
       simp only [hb4,eH hb3,aay,if_false,if_true] at p4
       rcases hkk with hk1|hk3
       ·(try with_reducible refine Wk.aw fun _ ag=>?_);(repeat' (first|((with_reducible refine Wk.Au 10 ?_);refine AW.uh (P:=Tryz.prog) mx 3 [(1,4)] (by kernel_rfl) (by kernel_rfl) (by simp -implicitDefEqProofs (disch:=first|omega|(simp only [go_sem];try omega)) only [go_sem,seval,hs1,hs2,hl,hG,hG0,hS,hS0,hg2,hk1];first|done|exact rfl) (by kernel_rfl) Tryz.call171 rfl rfl (by simp -implicitDefEqProofs (disch:=first|omega|(simp only [go_sem];try omega)) only [go_sem,seval,hs1,hs2,hl,hG,hG0,hS,hS0,hg2,hk1];first|done|exact rfl) (c2' _ _) (by simp -implicitDefEqProofs (disch:=first|omega|(simp only [go_sem];try omega)) only [go_sem,seval,hs1,hs2,hl,hG,hG0,hS,hS0,hg2,hk1];first|done|exact rfl) (fF (by decide) (by decide) rfl rfl (by simp -implicitDefEqProofs (disch:=first|omega|(simp only [go_sem];try omega)) only [go_sem,seval,hs1,hs2,hl,hG,hG0,hS,hS0,hg2,hk1]) (iz)) ?_)|(with_reducible first|refine Wk.ox ?_|refine Wk.th ?_|refine Wk.bl ?_)|((with_reducible first|refine Wk.hd ?_|refine Wk.i ?_);simp -implicitDefEqProofs (disch:=first|omega|(simp only [go_sem];try omega)) only [go_sem,seval,hs1,hs2,hl,hG,hG0,hS,hS0,hg2,hk1])|refine ah (hn _ _) ?_|refine aW (hx2 _ _) ?_|refine aW (a3 _ _) ?_|with_reducible first|refine Wk.o ?_|refine Wk.q ‹_› ?_));all_goals (repeat subst ag)
        refine ⟨(acc++[x],ks++[u.text],m+1,g),?_⟩
        refine Dt (x':=(acc++[x],ks++[u.text],m+1,g)) hb (by simp) (by simp [bt]) ?_ ?_ ?_ ?_
        ·simp -implicitDefEqProofs (disch:=first|omega|(simp only [go_sem];try omega)) only [go_sem,seval]<;>first|rfl|exact ⟨rfl,rfl⟩|skip
        ·exact ⟨by simp only;omega,by simp only [aak,aaH];omega,by simp only [aak,aaH];omega,by simp only;omega,p4⟩
        ·simp only;omega
        ·simp [oY];omega
       ·(try with_reducible refine Wk.aw fun _ ag=>?_);(repeat' (first|((with_reducible refine Wk.Au 10 ?_);refine AW.uh (P:=Tryz.prog) mx 3 [(1,4)] (by kernel_rfl) (by kernel_rfl) (by simp -implicitDefEqProofs (disch:=first|omega|(simp only [go_sem];try omega)) only [go_sem,seval,hs1,hs2,hl,hG,hG0,hS,hS0,hg2,hk3];first|done|exact rfl) (by kernel_rfl) Tryz.call171 rfl rfl (by simp -implicitDefEqProofs (disch:=first|omega|(simp only [go_sem];try omega)) only [go_sem,seval,hs1,hs2,hl,hG,hG0,hS,hS0,hg2,hk3];first|done|exact rfl) (c2' _ _) (by simp -implicitDefEqProofs (disch:=first|omega|(simp only [go_sem];try omega)) only [go_sem,seval,hs1,hs2,hl,hG,hG0,hS,hS0,hg2,hk3];first|done|exact rfl) (fF (by decide) (by decide) rfl rfl (by simp -implicitDefEqProofs (disch:=first|omega|(simp only [go_sem];try omega)) only [go_sem,seval,hs1,hs2,hl,hG,hG0,hS,hS0,hg2,hk3]) (iz)) ?_)|(with_reducible first|refine Wk.ox ?_|refine Wk.th ?_|refine Wk.bl ?_)|((with_reducible first|refine Wk.hd ?_|refine Wk.i ?_);simp -implicitDefEqProofs (disch:=first|omega|(simp only [go_sem];try omega)) only [go_sem,seval,hs1,hs2,hl,hG,hG0,hS,hS0,hg2,hk3])|refine ah (hn _ _) ?_|refine aW (hx2 _ _) ?_|refine aW (a3 _ _) ?_|with_reducible first|refine Wk.o ?_|refine Wk.q ‹_› ?_));all_goals (repeat subst ag)
        refine ⟨(acc++[x],ks++[u.text],m+1,g),?_⟩
        refine Dt (x':=(acc++[x],ks++[u.text],m+1,g)) hb (by simp) (by simp [bt]) ?_ ?_ ?_ ?_
        ·simp -implicitDefEqProofs (disch:=first|omega|(simp only [go_sem];try omega)) only [go_sem,seval]<;>first|rfl|exact ⟨rfl,rfl⟩|skip
        ·exact ⟨by simp only;omega,by simp only [aak,aaH];omega,by simp only [aak,aaH];omega,by simp only;omega,p4⟩
        ·simp only;omega
        ·simp [oY];omega
     ·have c2:=(hf g (by omega)).cond (k+1+1) (by omega) _ h2
      rw [h2] at p4
      simp only [aL,aaf] at p4
      subst p4
      simp only [kf,fh,au] at c2
      have c2':∀ m' K',aa Tryz.prog G 171 [.ptr b 0] ⟨B.set b (bI T (k+1+1))++m',K'⟩ (fun o s=>o= .dw (j4 (T.length - r2.length) e2)∧s=⟨B.set b (bI T (T.length - r2.length))++m',K'⟩):=fun m' K'=>by have:=c2 _ K' b (hg2 _ m');simp only [hs2] at this;exact this
      simp only [fh,au]
      rcases hkk with hk1|hk3
      ·(try with_reducible refine Wk.aw fun _ ag=>?_);(repeat' (first|((with_reducible refine Wk.Au 10 ?_);refine AW.H7 (P:=Tryz.prog) mx 3 [(1,4)] (by kernel_rfl) (by kernel_rfl) (by simp -implicitDefEqProofs (disch:=first|omega|(simp only [go_sem];try omega)) only [go_sem,seval,hs1,hs2,hl,hG,hG0,hS,hS0,hg2,hk1];first|done|exact rfl) (by kernel_rfl) Tryz.call171 rfl (by simp -implicitDefEqProofs (disch:=first|omega|(simp only [go_sem];try omega)) only [go_sem,seval,hs1,hs2,hl,hG,hG0,hS,hS0,hg2,hk1];first|done|exact rfl) (c2' _ _) (fun fr_=>?_))|(with_reducible first|refine Wk.ox ?_|refine Wk.th ?_|refine Wk.bl ?_)|((with_reducible first|refine Wk.hd ?_|refine Wk.i ?_);simp -implicitDefEqProofs (disch:=first|omega|(simp only [go_sem];try omega)) only [go_sem,seval,hs1,hs2,hl,hG,hG0,hS,hS0,hg2,hk1])|refine ah (hn _ _) ?_|refine aW (hx2 _ _) ?_|with_reducible first|refine Wk.o ?_|refine Wk.q ‹_› ?_));all_goals (repeat subst ag)
       refine aM (s1:=⟨B.set b (bI T (T.length - r2.length)),K⟩) (by simp [St.cut]) (aR ?_) rfl ⟨rfl,rfl⟩
       simp [aJ.within,V.within,V.within.all]
      ·(try with_reducible refine Wk.aw fun _ ag=>?_);(repeat' (first|((with_reducible refine Wk.Au 10 ?_);refine AW.H7 (P:=Tryz.prog) mx 3 [(1,4)] (by kernel_rfl) (by kernel_rfl) (by simp -implicitDefEqProofs (disch:=first|omega|(simp only [go_sem];try omega)) only [go_sem,seval,hs1,hs2,hl,hG,hG0,hS,hS0,hg2,hk3];first|done|exact rfl) (by kernel_rfl) Tryz.call171 rfl (by simp -implicitDefEqProofs (disch:=first|omega|(simp only [go_sem];try omega)) only [go_sem,seval,hs1,hs2,hl,hG,hG0,hS,hS0,hg2,hk3];first|done|exact rfl) (c2' _ _) (fun fr_=>?_))|(with_reducible first|refine Wk.ox ?_|refine Wk.th ?_|refine Wk.bl ?_)|((with_reducible first|refine Wk.hd ?_|refine Wk.i ?_);simp -implicitDefEqProofs (disch:=first|omega|(simp only [go_sem];try omega)) only [go_sem,seval,hs1,hs2,hl,hG,hG0,hS,hS0,hg2,hk3])|refine ah (hn _ _) ?_|refine aW (hx2 _ _) ?_|with_reducible first|refine Wk.o ?_|refine Wk.q ‹_› ?_));all_goals (repeat subst ag)
       refine aM (s1:=⟨B.set b (bI T (T.length - r2.length)),K⟩) (by simp [St.cut]) (aR ?_) rfl ⟨rfl,rfl⟩
       simp [aJ.within,V.within,V.within.all]
   ·have hkf:kq u=false:=by
     rw [←Bool.not_eq_true]
     intro hh
     simp only [kq,aaX,aap,aal] at hh
     rcases hh with ⟨q1,_⟩|⟨q1,_⟩
     ·exact hkk (.inl q1)
     ·exact hkk (.inr q1)
    rw [if_neg (by rw [hkf];decide),hu,←bM hk,aaf] at p4
    subst p4
    have hk1:¬ u.kind=1:=fun h=>hkk (.inl h)
    have hk3:¬ u.kind=3:=fun h=>hkk (.inr h)
    have hfl:=fun m K'=>p8 (G:=G) ⟨B.set b (bI T k)++m,K'⟩ b k T 5 (hg2 _ m)
    simp only [fh,au,len k p1]
    (try with_reducible refine Wk.aw fun _ ag=>?_);(repeat' (first|((with_reducible first|refine Wk.hd ?_|refine Wk.i ?_);simp -implicitDefEqProofs (disch:=first|omega|(simp only [go_sem];try omega)) only [go_sem,seval,hs1,hs2,hl,hG,hG0,hS,hS0,hg2])|(refine ay (fun hc=>?_) (fun hc=>?_)<;>try (exfalso;first|omega|contradiction))|refine ah (hn _ _) ?_|refine cA (hfl _ _) ?_|with_reducible first|refine Wk.o ?_|refine Wk.q ‹_› ?_));all_goals (repeat subst ag)
    refine aM (s1:=⟨B.set b (bI T k),K⟩) (by simp [St.cut]) (aR ?_) rfl ⟨rfl,rfl⟩
    simp [aJ.within,V.within,V.within.all]
 ·have hil:=bW hb1
  have a1:∀ m,aa Tryz.prog G 184 [.ptr b 0,vs [125]] ⟨B++m,K⟩ (fun o s'=>o= .ret (vb true)∧s'=⟨B.set b (bI T (i+1))++m,K⟩):=fun m=>by
   have:=eL (G:=G) hg ⟨B++m,K⟩ b i T hT hx (by omega) (hg1 m) [125] (by rw [cW];exact hb1)
   simp only [hs1] at this;exact this
  rw [bM hil] at h
  simp only [eH hb1,if_true,aaf] at h
  subst h
  simp only [fh,au,len (i+1) (by omega)]
  refine aa.body Tryz.func238 rfl Tryz.ntmps238 (by simp) ?_
  (try with_reducible refine Wk.aw fun _ ag=>?_);(repeat' (first|((with_reducible first|refine Wk.hd ?_|refine Wk.i ?_);simp -implicitDefEqProofs (disch:=first|omega|(simp only [go_sem];try omega)) only [go_sem,seval,hs1,hs2,hl,hG,hG0,hS,hS0])|refine aW (a1 _) ?_|with_reducible first|refine Wk.o ?_|refine Wk.q ‹_› ?_));all_goals (repeat subst ag)
  refine aV (v:=vE (Ex.mk 10 [] ct [] [])) K.length (aan _) (s1:=⟨B.set b (bI T (i+1)),K⟩) (by simp [St.cut]) (aR ?_) (by simp -implicitDefEqProofs (disch:=first|omega|(simp only [go_sem];try omega)) only [go_sem,seval,bQ,bZ,Tryz.results238,hG,hG0];first|done|exact rfl) (by simp -implicitDefEqProofs (disch:=first|omega|(simp only [go_sem];try omega)) only [go_sem,seval,eD];first|done|exact rfl) (by simp -implicitDefEqProofs (disch:=first|omega|(simp only [go_sem];try omega)) only [go_sem,seval];first|done|exact rfl) ⟨rfl,rfl⟩
  simp [aJ.within,V.within,V.within.all]
end Go.Proofs.YthnoiikjfcnlhaaGreatDoor
