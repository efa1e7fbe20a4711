import Derived.Test.YteeohmopbcjifaaGreatDoorS13
set_option linter.unusedSimpArgs false
set_option linter.unusedVariables false
set_option maxHeartbeats 8000000
set_option maxRecDepth 20000
namespace Go.Proofs.YteeohmopbcjifaaGreatDoor
open Tryz
open Go.Abs
attribute [local irreducible] AW OX cG GQ bK bO bz aY aa
variable {G:World→Nat→Prop}
theorem og {l:List aJ} {b:Nat} {x:aJ} (h:l[b]?=some x):l.set b x=l:=by
 apply List.ext_getElem?
 intro i
 rw [ab9]
 by_cases hi:b=i
 ·subst hi;rw [if_pos rfl,if_pos (aaL.1 h).1,h]
 ·rw [if_neg hi]
theorem c_par_word (s:cx):b8 G 237 [vs s] (vb (decide (s=gX)||decide (s=fY)||decide (s=jc))):=by
 intro st
 refine aa.body func237 rfl ntmps237 (by simp) ?_
 (try refine Wk.aw fun _ ag=>?_);(repeat' (first|((first|refine Wk.hd ?_|refine Wk.i ?_);simp only [go_sem,seval])|(refine ay (fun hc=>?_) (fun hc=>?_)<;>try omega)|refine Wk.ret fun _ _=>?_|(refine Wk.fin ‹_› ?_;refine ⟨?_,rfl⟩)|first|refine Wk.o ?_|refine Wk.q ‹_› ?_));all_goals (repeat subst ag)
 all_goals (refine aO ?_;simp only [abo,aaS];simp_all [gX,fY,jc])
def L1 (T:List Tk):dF Ex→Out
 | .ok l _=> .ret (.d (.sl (l.args.map Ex.enc)))
 | .err rest c=> .dw (panV (T.length - rest.length) c)
def Ny (G:World→Nat→Prop) (T:List Tk) (f:FuncId) (args:List V) (j:Nat) (r:dF Ex):Prop:=
 ∀ B K b,B[b]?=some (bI T j)→aa prog G f (.ptr b 0::args) ⟨B,K⟩ (fun o s=>o=L1 T r∧s=⟨B.set b (bI T (T.length - (au r).length)),K⟩)
def Dr (f:Nat) (T:List Tk) (s:cx) (j:Nat):Option (dF Ex):=
 if s=jc then some (.ok (lit ct) (T.drop j))
 else if s=gX∨s=fY then some (.ok (lit (.mk 1 (decide (s=gX)) 0 [] [] [])) (T.drop j))
 else if bU T j [40]=true then aL (pF f (.args [41]) (T.drop (j+1))) fun l r3=>some (.ok (.mk 5 s ct l.args []) r3)
 else some (.ok (.mk 2 s ct [] []) (T.drop j))
theorem Po (hg:GV G) {T:List Tk} {f:Nat} (hT:T.length≤1048576) (hx:∀ t∈T,t.text.length≤1048576)
  (hargs:∀ s,s≠[44]→∀ i,i≤T.length→∀ r,pF f (.args s) (T.drop i)=some r→Ny G T 279 [vs s] i r) (s:cx) (i:Nat) (hi:i≤T.length) (r:dF Ex) (h:Dr f T s i=some r):
  kf G T 278 [vs s] i r:=by
 intro B K b hb
 have hbl:b<B.length:=(aaL.1 hb).1
 have hs1:∀ m y,(B++m).set b y=B.set b y++m:=fun m y=>kg hb
 have hs2:∀ z m y,(B.set b z++m).set b y=B.set b y++m:=fun z m y=>jU hb
 have hg1:∀ m,(B++m)[b]?=some (bI T i):=fun m=>fU hb
 have hg2:∀ z m,(B.set b z++m)[b]?=some z:=fun z m=>fU (iA hb)
 have hl:∀ z,(B.set b z).length=B.length:=fun z=>abA
 have hG:∀ (z:aJ) (m:List aJ) (k:Nat),(B.set b z++m)[B.length+k]?=m[k]?:=fun z m k=>by rw [aaO (by simp)];simp
 have hG0:∀ (z:aJ) (m:List aJ),(B.set b z++m)[B.length]?=m[0]?:=fun z m=>by rw [aaO (by simp)];simp
 have hS:∀ (z y:aJ) (m:List aJ) (k:Nat),(B.set b z++m).set (B.length+k) y=B.set b z++m.set k y:=fun z y m k=>by rw [abf _ _ (by simp)];simp
 have hS0:∀ (z y:aJ) (m:List aJ),(B.set b z++m).set B.length y=B.set b z++m.set 0 y:=fun z y m=>by rw [abf _ _ (by simp)];simp
 have len:∀ j,j≤T.length→T.length - (T.drop j).length=j:=fun j hj=>by simp only [aa6];omega
 have hw:=c_par_word (G:=G) s
 rw [Dr] at h
 by_cases h1:s=jc
 ·rw [if_pos h1,aaJ] at h
  subst h1 h
  have hlit:=c_par_literal (G:=G) ct
  simp only [fh,au,len i hi,og hb]
  refine aa.body func278 rfl ntmps278 (by simp) ?_
  (try refine Wk.aw fun _ ag=>?_);(repeat' (first|((first|refine Wk.hd ?_|refine Wk.i ?_);simp only [go_sem,seval,hs1,hs2,hl,hG,hG0,hS,hS0,jc])|refine ah (hlit _) ?_|refine Wk.ret fun _ _=>?_|(refine Wk.fin ‹_› ?_;refine ⟨?_,rfl⟩)|first|refine Wk.o ?_|refine Wk.q ‹_› ?_));all_goals (repeat subst ag)
  all_goals rfl
 rw [if_neg h1] at h
 have nn:s=[110,117,108,108]→False:=h1
 by_cases h2:s=gX∨s=fY
 ·rw [if_pos h2,aaJ] at h
  subst h
  have hw2:(decide (s=gX)||decide (s=fY)||decide (s=jc))=true:=by rcases h2 with h2|h2<;>simp [h2]
  rw [hw2] at hw
  have hlit:=c_par_literal (G:=G) (.mk 1 (decide (s=gX)) 0 [] [] [])
  simp only [fh,au,len i hi,og hb]
  refine aa.body func278 rfl ntmps278 (by simp) ?_
  (try refine Wk.aw fun _ ag=>?_);(repeat' (first|((first|refine Wk.hd ?_|refine Wk.i ?_);simp only [go_sem,seval,hs1,hs2,hl,hG,hG0,hS,hS0])|(refine ay (fun hc=>?_) (fun hc=>?_)<;>try omega)|refine ah (hlit _) ?_|refine ah (hw _) ?_|refine Wk.ret fun _ _=>?_|(refine Wk.fin ‹_› ?_;refine ⟨?_,rfl⟩)|first|refine Wk.o ?_|refine Wk.q ‹_› ?_));all_goals (repeat subst ag)
  all_goals first|rfl|exact (nn (by assumption)).elim
 ·rw [if_neg h2] at h
  have hw2:(decide (s=gX)||decide (s=fY)||decide (s=jc))=false:=by
   simp only [Bool.or_eq_false_iff,abG]
   exact ⟨⟨fun h=>h2 (.inl h),fun h=>h2 (.inr h)⟩,h1⟩
  rw [hw2] at hw
  have hnn:decide (s=[110,117,108,108])=false:=decide_eq_false nn
  cases hq:bU T i [40]
  ·rw [hq] at h
   simp only [abh,if_false,aaJ] at h
   subst h
   have a1:∀ m,aa prog G 260 [.ptr b 0,vs [40]] ⟨B++m,K⟩ (fun o s'=>o= .ret (vb false)∧s'=⟨B++m,K⟩):=fun m=>
    eK (G:=G) hg ⟨B++m,K⟩ b i T hT hx (by omega) (hg1 m) [40] (by rw [cW];exact hq)
   simp only [fh,au,len i hi,og hb]
   refine aa.body func278 rfl ntmps278 (by simp) ?_
   (try refine Wk.aw fun _ ag=>?_);(repeat' (first|((first|refine Wk.hd ?_|refine Wk.i ?_);simp only [go_sem,seval,hs1,hs2,hl,hG,hG0,hS,hS0,hnn])|refine ah (hw _) ?_|refine ah (a1 _) ?_|refine Wk.ret fun _ _=>?_|(refine Wk.fin ‹_› ?_;refine ⟨?_,rfl⟩)|first|refine Wk.o ?_|refine Wk.q ‹_› ?_));all_goals (repeat subst ag)
   all_goals first|rfl|exact (nn (by assumption)).elim|skip
  ·rw [hq] at h
   simp only [if_true] at h
   have hil:=bW hq
   have a1:∀ m,aa prog G 260 [.ptr b 0,vs [40]] ⟨B++m,K⟩ (fun o s'=>o= .ret (vb true)∧s'=⟨B.set b (bI T (i+1))++m,K⟩):=fun m=>by
    have:=eL (G:=G) hg ⟨B++m,K⟩ b i T hT hx (by omega) (hg1 m) [40] (by rw [cW];exact hq)
    simp only [hs1] at this;exact this
   rcases h3:pF f (.args [41]) (T.drop (i+1)) with _|(⟨l,r1⟩|⟨r1,ec⟩)
   ·rw [h3] at h;simp [aL] at h
   ·have c1:=hargs [41] (by decide) (i+1) (by omega) _ h3
    rw [h3] at h
    simp only [aL,aaJ] at h
    subst h
    simp only [Ny,L1,au] at c1
    have c1':∀ m,aa prog G 279 [.ptr b 0,vs [41]] ⟨B.set b (bI T (i+1))++m,K⟩ (fun o s=>o= .ret (.d (.sl (l.args.map Ex.enc)))∧s=⟨B.set b (bI T (T.length - r1.length))++m,K⟩):=fun m=>by have:=c1 _ K b (hg2 _ m);simp only [hs2] at this;exact this
    simp only [fh,au]
    have hve:vE (Ex.mk 5 s ct l.args [])=V.agg [V.d (D.int .i64 5),V.d (D.str s),V.d (D.int .i64 0),V.d (D.bool false),V.d (D.int .i64 0),V.d (D.str []),V.d (D.sl []),V.d (D.sl []),V.d (D.sl (l.args.map Ex.enc)),V.d (D.sl [])]:=by rw [vE,Ex.aP];rfl
    refine aa.body func278 rfl ntmps278 (by simp) ?_
    (try refine Wk.aw fun _ ag=>?_);(repeat' (first|((first|refine Wk.hd ?_|refine Wk.i ?_);simp only [go_sem,seval,hs1,hs2,hl,hG,hG0,hS,hS0,hnn])|refine ah (hw _) ?_|refine aW (a1 _) ?_|refine aW (c1' _) ?_|first|refine Wk.o ?_|refine Wk.q ‹_› ?_));all_goals (repeat subst ag)
    all_goals first|exact (nn (by assumption)).elim|skip
    all_goals refine aV (v:=vE (Ex.mk 5 s ct l.args [])) K.length (aaP _) (s1:=⟨B.set b (bI T (T.length - r1.length)),K⟩) (by simp [St.cut]) (aR ?_) (by simp only [go_sem,seval,bQ,bZ,results278,hG,hG0];try exact rfl) (by rw [hve];simp only [go_sem,seval,eD];try exact rfl) (by simp only [go_sem,seval];try exact rfl) ⟨rfl,rfl⟩
    all_goals simp [aJ.within,V.within,V.within.all]
   ·have c1:=hargs [41] (by decide) (i+1) (by omega) _ h3
    rw [h3] at h
    simp only [aL,aaJ] at h
    subst h
    simp only [Ny,L1,au] at c1
    have c1':∀ m,aa prog G 279 [.ptr b 0,vs [41]] ⟨B.set b (bI T (i+1))++m,K⟩ (fun o s=>o= .dw (panV (T.length - r1.length) ec)∧s=⟨B.set b (bI T (T.length - r1.length))++m,K⟩):=fun m=>by have:=c1 _ K b (hg2 _ m);simp only [hs2] at this;exact this
    simp only [fh,au]
    refine aa.body func278 rfl ntmps278 (by simp) ?_
    (try refine Wk.aw fun _ ag=>?_);(repeat' (first|((first|refine Wk.hd ?_|refine Wk.i ?_);simp only [go_sem,seval,hs1,hs2,hl,hG,hG0,hS,hS0,hnn])|refine ah (hw _) ?_|refine aW (a1 _) ?_|refine cA (c1' _) ?_|first|refine Wk.o ?_|refine Wk.q ‹_› ?_));all_goals (repeat subst ag)
    all_goals first|exact (nn (by assumption)).elim|skip
    all_goals refine aM (s1:=⟨B.set b (bI T (T.length - r1.length)),K⟩) (by simp [St.cut]) (aR ?_) rfl ⟨rfl,rfl⟩
    all_goals simp [aJ.within,V.within,V.within.all]
abbrev Qh:List V:=[.d (.int .i64 0),.d (.str []),.d (.int .i64 0),.d (.bool false),.d (.int .i64 0),.d (.str []),.d (.sl []),.d (.sl []),.d (.sl []),.d (.sl [])]
abbrev TZ (B:List aJ) (K:List (Nat×Nat×Nat)) (b:Nat) (T:List Tk) (x:Ex×Nat×Nat):St:=⟨B.set b (bI T x.2.1)++[.cells Qh,.cells (x.1.enc.map .d)],K⟩
abbrev Xr (B:List aJ) (b:Nat) (_:Ex×Nat×Nat):List (Nat×V):=[(0,.ptr b 0),(2,.ptr B.length 0),(3,.ptr (B.length+1) 0)]
theorem s5 {B:List aJ} {K:List (Nat×Nat×Nat)} {b:Nat} {T:List Tk} {p:Ex×Nat×Nat→Prop} {x x':Ex×Nat×Nat} {fr:Fr} {cs:List V} {L:List aJ} {i:Nat} (hb:B[b]?=some (bI T i))
  (slots:okF fr (Xr B b x')) (ok:p x') (less:x'.2.2<x.2.2) (hsh:xU (.cells cs)= .cells (x'.1.enc.map .d)) (hw:(aJ.cells cs).within (B.length+2) K.length=true):
  H8 ⟨B,K⟩ (Xr B b) (TZ B K b T) p (fun x=>x.2.2) x fr ⟨B.set b (bI T x'.2.1)++(.cells Qh:: .cells cs::L),K⟩ x':=by
 have hbl:=(aaL.1 hb).1
 refine ⟨slots,ok,less,⟨B.set b (bI T x'.2.1)++[.cells Qh,.cells cs],?_,yK.app (yK.refl _) ?_,?_⟩,by simp,by simp,?_⟩
 ·simp [St.cut,List.take_append]
  exact aa0 (by simp)
 ·simp only [aa5,aba,hsh]
  rfl
 ·intro b' B' h
  simp only [aaQ,abA,aaM,aaV,abl]
  by_cases hlt:b'<B.length
  ·rw [aaU (by simpa using hlt),ab9] at h
   by_cases hbb:b=b'
   ·subst hbb
    rw [if_pos rfl,if_pos hlt] at h
    cases h
    exact .inr (by simp [aJ.within,V.within,V.within.all])
   ·rw [if_neg hbb] at h
    exact .inl h
  ·rw [aaO (by simpa using hlt),abA] at h
   match hd:b' - B.length with
   |0=>rw [hd] at h;simp at h;subst h;exact .inr (by simp [aJ.within,V.within,V.within.all])
   |1=>rw [hd] at h;simp at h;subst h;exact .inr hw
   |d+2=>rw [hd] at h;simp at h
 ·simp [okW,V.within,hbl]
  omega
theorem L3 (hg:GV G) {T:List Tk} {f:Nat} (hT:T.length≤1048576) (hx:∀ t∈T,t.text.length≤1048576) (hf:∀ g<f,ur G T g)
  (hat:∀ i,i≤T.length→∀ r,pF f .atom (T.drop i)=some r→kf G T 274 [] i r) (i:Nat) (hi:i≤T.length) (r:dF Ex) (h:aL (pF f .atom (T.drop i)) (fun e r2=>pF f (.chain e) r2)=some r):
  kf G T 272 [] i r:=by
 intro B K b hb
 have hbl:b<B.length:=(aaL.1 hb).1
 have hs1:∀ m y,(B++m).set b y=B.set b y++m:=fun m y=>kg hb
 have hs2:∀ z m y,(B.set b z++m).set b y=B.set b y++m:=fun z m y=>jU hb
 have hg1:∀ m,(B++m)[b]?=some (bI T i):=fun m=>fU hb
 have hg2:∀ z m,(B.set b z++m)[b]?=some z:=fun z m=>fU (iA hb)
 have hl:∀ z,(B.set b z).length=B.length:=fun z=>abA
 have hG:∀ (z:aJ) (m:List aJ) (k:Nat),(B.set b z++m)[B.length+k]?=m[k]?:=fun z m k=>by rw [aaO (by simp)];simp
 have hG0:∀ (z:aJ) (m:List aJ),(B.set b z++m)[B.length]?=m[0]?:=fun z m=>by rw [aaO (by simp)];simp
 have hS:∀ (z y:aJ) (m:List aJ) (k:Nat),(B.set b z++m).set (B.length+k) y=B.set b z++m.set k y:=fun z y m k=>by rw [abf _ _ (by simp)];simp
 have hS0:∀ (z y:aJ) (m:List aJ),(B.set b z++m).set B.length y=B.set b z++m.set 0 y:=fun z y m=>by rw [abf _ _ (by simp)];simp
 have len:∀ j,j≤T.length→T.length - (T.drop j).length=j:=fun j hj=>by simp only [aa6];omega
 rcases h1:pF f .atom (T.drop i) with _|(⟨c,r1⟩|⟨r1,ec⟩)
 ·rw [h1] at h;simp [aL] at h
 ·have c1:=hat i hi _ h1
  obtain ⟨j,hij,hj,d1,e1⟩:=fS h1 hi
  simp only [au] at d1 e1
  subst d1
  simp only [kf,fh,au,e1] at c1
  have c1':∀ m,aa prog G 274 [.ptr b 0] ⟨B++m,K⟩ (fun o s=>o= .ret (vE c)∧s=⟨B.set b (bI T j)++m,K⟩):=fun m=>by have:=c1 _ K b (hg1 m);simp only [hs1] at this;exact this
  rw [h1] at h
  simp only [aL] at h
  refine aa.body func272 rfl ntmps272 (by simp) ?_
  (try refine Wk.aw fun _ ag=>?_);(repeat' (first|((first|refine Wk.hd ?_|refine Wk.i ?_);simp (disch:=omega) only [go_sem,seval,hs1,hs2,hl,hG,hG0,hS,hS0])|refine aW (c1' _) ?_|refine Wk.o ?_));all_goals (repeat subst ag)
  refine AW.Bz (Xr B b) (TZ B K b T)
   (fun x=>x.2.1≤T.length∧x.2.2≤f∧pF x.2.2 (.chain x.1) (T.drop x.2.1)=some r) (fun x=>x.2.2) (c,j,f) rfl (yK.app (yK.refl _) (by simp (disch:=omega) only [go_sem,seval];try exact rfl)) (by simp (disch:=omega) only [go_sem,seval]<;>first|rfl|exact ⟨rfl,rfl⟩|skip) ⟨hj,aaP _,h⟩ ?_
  rintro ⟨e,k,g⟩ ⟨p1,p2,p3⟩
  simp only at p1 p2 p3
  obtain ⟨g,rfl⟩:∃ g',g=g'+1:=by
   cases g with
   |zero=>simp [pF] at p3
   |succ g=>exact ⟨g,rfl⟩
  simp only [pF] at p3
  have at_:∀ s,bU T k s=true→∀ m,aa prog G 260 [.ptr b 0,vs s] ⟨B.set b (bI T k)++m,K⟩ (fun o s'=>o= .ret (vb true)∧s'=⟨B.set b (bI T (k+1))++m,K⟩):=fun s hs m=>by
   have:=eL (G:=G) hg ⟨B.set b (bI T k)++m,K⟩ b k T hT hx (by omega) (hg2 _ m) s (by rw [cW];exact hs)
   simp only [hs2] at this;exact this
  have af_:∀ s,bU T k s=false→∀ m,aa prog G 260 [.ptr b 0,vs s] ⟨B.set b (bI T k)++m,K⟩ (fun o s'=>o= .ret (vb false)∧s'=⟨B.set b (bI T k)++m,K⟩):=fun s hs m=>
   eK (G:=G) hg ⟨B.set b (bI T k)++m,K⟩ b k T hT hx (by omega) (hg2 _ m) s (by rw [cW];exact hs)
  cases hb1:bU T k [46]
  ·have a1:=af_ _ hb1
   cases hb2:bU T k [91]
   ·have a2:=af_ _ hb2
    have hr:r= .ok e (T.drop k):=by
     by_cases hk:k<T.length
     ·rw [bM hk] at p3
      simp only at p3
      rw [dj hk hb1,if_neg abE,dj hk hb2,if_neg abE,←bM hk] at p3
      simp only [aaJ] at p3
      exact p3.symm
     ·rw [bk hk] at p3
      simp only [aaJ] at p3
      rw [←p3,bk hk]
    subst hr
    simp only [fh,au,len k p1]
    (try refine Wk.aw fun _ ag=>?_);(repeat' (first|((first|refine Wk.hd ?_|refine Wk.i ?_);simp (disch:=omega) only [go_sem,seval,hs1,hs2,hl,hG,hG0,hS,hS0])|refine ah ((by first|exact a1 _|exact a2 _)) ?_|first|refine Wk.o ?_|refine Wk.q ‹_› ?_));all_goals (repeat subst ag)
    refine aV (v:=vE e) K.length (aaP _) (s1:=⟨B.set b (bI T k),K⟩) (by simp [St.cut]) (aR ?_) (by simp (disch:=omega) only [go_sem,seval,bQ,bZ,results272,hG,hG0];try exact rfl) (by simp (disch:=omega) only [go_sem,seval,eD];try exact rfl) (by simp (disch:=omega) only [go_sem,seval];try exact rfl) ⟨rfl,rfl⟩
    simp [aJ.within,V.within,V.within.all]
   ·have a2:=at_ _ hb2
    have hk:=bW hb2
    rw [bM hk] at p3
    simp only at p3
    rw [dj hk hb1,if_neg abE,eH hb2,if_pos rfl] at p3
    rcases h2:pF g .cond (T.drop (k+1)) with _|(⟨x,r2⟩|⟨r2,e2⟩)
    ·rw [h2] at p3;simp [aL] at p3
    ·have c2:=(hf g (by omega)).cond (k+1) (by omega) _ h2
     obtain ⟨m,hkm,hm,d2,e2⟩:=fS h2 (by omega)
     simp only [au] at d2 e2
     subst d2
     simp only [kf,fh,au,e2] at c2
     have c2':∀ m',aa prog G 246 [.ptr b 0] ⟨B.set b (bI T (k+1))++m',K⟩ (fun o s=>o= .ret (vE x)∧s=⟨B.set b (bI T m)++m',K⟩):=fun m'=>by have:=c2 _ K b (hg2 _ m');simp only [hs2] at this;exact this
     rw [h2] at p3
     simp only [aL] at p3
     rw [gp] at p3
     cases hb3:bU T m [93]
     ·rw [hb3] at p3
      rw [if_neg abE] at p3
      simp only [aaJ] at p3
      subst p3
      have hx2:=fun m'=>iR (G:=G) hg ⟨B.set b (bI T m)++m',K⟩ b m T hT hx (by omega) (by exact hg2 _ _) [93] (by rw [cW];exact hb3)
      simp only [fh,au,len m hm]
      (try refine Wk.aw fun _ ag=>?_);(repeat' (first|((first|refine Wk.hd ?_|refine Wk.i ?_);simp (disch:=omega) only [go_sem,seval,hs1,hs2,hl,hG,hG0,hS,hS0])|refine ah (a1 _) ?_|refine aW (a2 _) ?_|refine aW (c2' _) ?_|refine cA (hx2 _) ?_|first|refine Wk.o ?_|refine Wk.q ‹_› ?_));all_goals (repeat subst ag)
      refine aM (s1:=⟨B.set b (bI T m),K⟩) (by simp [St.cut]) (aR ?_) rfl ⟨rfl,rfl⟩
      simp [aJ.within,V.within,V.within.all]
     ·have hml:=bW hb3
      rw [hb3] at p3
      rw [if_pos rfl] at p3
      have hx2':∀ m',aa prog G 261 [.ptr b 0,vs [93]] ⟨B.set b (bI T m)++m',K⟩ (fun o s'=>o= .ret (.cF [])∧s'=⟨B.set b (bI T (m+1))++m',K⟩):=fun m'=>by
       have:=iQ (G:=G) hg ⟨B.set b (bI T m)++m',K⟩ b m T hT hx (by omega) (by exact hg2 _ _) [93] (by rw [cW];exact hb3)
       simp only [hs2] at this;exact this
      (try refine Wk.aw fun _ ag=>?_);(repeat' (first|((first|refine Wk.hd ?_|refine Wk.i ?_);simp (disch:=omega) only [go_sem,seval,hs1,hs2,hl,hG,hG0,hS,hS0])|refine ah (a1 _) ?_|refine aW (a2 _) ?_|refine aW (c2' _) ?_|refine aW (hx2' _) ?_|first|refine Wk.o ?_|refine Wk.q ‹_› ?_));all_goals (repeat subst ag)
      refine ⟨(Ex.mk 4 [] ct [e,x] [],m+1,g),?_⟩
      refine s5 (x':=(Ex.mk 4 [] ct [e,x] [],m+1,g)) hb ?_ ?_ ?_ ?_ ?_
      ·simp (disch:=omega) only [go_sem,seval]<;>first|rfl|exact ⟨rfl,rfl⟩|skip
      ·exact ⟨by simp only;omega,by simp only;omega,p3⟩
      ·simp only;omega
      ·rfl
      ·simp [aJ.within,V.within,V.within.all]
    ·have c2:=(hf g (by omega)).cond (k+1) (by omega) _ h2
     have he:=fJ h2
     rw [h2] at p3
     simp only [aL,aaJ] at p3
     subst p3
     simp only [kf,fh,au] at c2
     have c2':∀ m',aa prog G 246 [.ptr b 0] ⟨B.set b (bI T (k+1))++m',K⟩ (fun o s=>o= .dw (panV (T.length - r2.length) e2)∧s=⟨B.set b (bI T (T.length - r2.length))++m',K⟩):=fun m'=>by have:=c2 _ K b (hg2 _ m');simp only [hs2] at this;exact this
     simp only [fh,au]
     (try refine Wk.aw fun _ ag=>?_);(repeat' (first|((first|refine Wk.hd ?_|refine Wk.i ?_);simp (disch:=omega) only [go_sem,seval,hs1,hs2,hl,hG,hG0,hS,hS0])|refine ah (a1 _) ?_|refine aW (a2 _) ?_|refine cA (c2' _) ?_|first|refine Wk.o ?_|refine Wk.q ‹_› ?_));all_goals (repeat subst ag)
     refine aM (s1:=⟨B.set b (bI T (T.length - r2.length)),K⟩) (by simp [St.cut]) (aR ?_) rfl ⟨rfl,rfl⟩
     simp [aJ.within,V.within,V.within.all]
  ·have a1:=at_ _ hb1
   have hk:=bW hb1
   rw [bM hk] at p3
   simp only at p3
   rw [eH hb1,if_pos rfl] at p3
   cases hne:gL T (k+1) with
   |error ee=>
    have hn:=fun m=>lH (G:=G) hg ⟨B.set b (bI T (k+1))++m,K⟩ b (k+1) T hT hx (by omega) (hg2 _ m) ee hne
    have hee:=nh hne
    have hr:r= .err (T.drop (k+1)) ee:=by
     rw [hee,bD]
     by_cases hk2:k+1<T.length
     ·rw [bM hk2] at p3
      simp only at p3
      have hnp:¬ ((T.getD (k+1) default).kind=1∧aaH (T.getD (k+1) default).text=true):=by
       rintro ⟨q1,q2⟩
       rw [aaH,aaW] at q2
       have hrl:fT (T.getD (k+1) default)=true:=by rw [fT,if_pos q1];exact q2.1
       rw [gL,if_neg (by omega),ez,if_pos hk2,if_pos hrl,if_neg (by omega)] at hne
       cases hne
      rw [if_neg hnp,←bM hk2,aaJ] at p3
      rw [if_neg (by omega)];exact p3.symm
     ·rw [bk hk2,aaJ] at p3
      rw [if_pos (by omega),bk hk2];exact p3.symm
    subst hr
    have hkl:k+1≤T.length:=by omega
    simp only [fh,au,len (k+1) hkl]
    (try refine Wk.aw fun _ ag=>?_);(repeat' (first|((first|refine Wk.hd ?_|refine Wk.i ?_);simp (disch:=omega) only [go_sem,seval,hs1,hs2,hl,hG,hG0,hS,hS0])|refine aW (a1 _) ?_|refine cA (hn _) ?_|first|refine Wk.o ?_|refine Wk.q ‹_› ?_));all_goals (repeat subst ag)
    refine aM (s1:=⟨B.set b (bI T (k+1)),K⟩) (by simp [St.cut]) (aR ?_) rfl ⟨rfl,rfl⟩
    simp [aJ.within,V.within,V.within.all]
   |ok u=>
    have hk2:=sZ hne
    have hn:=fun m=>kN (G:=G) hg ⟨B.set b (bI T (k+1))++m,K⟩ b (k+1) T hT hx (by omega) (hg2 _ m) u hne
    rw [bM hk2] at p3
    simp only at p3
    have hu:u=T.getD (k+1) default∧fT u=true:=by
     rw [gL,if_neg (by omega),ez,if_pos hk2] at hne
     by_cases hrl:fT (T.getD (k+1) default)=true
     ·rw [if_pos hrl] at hne
      split at hne
      ·cases hne
      ·cases hne;exact ⟨rfl,hrl⟩
     ·rw [if_neg hrl,if_pos (show MZ.kind=0 from rfl)] at hne
      cases hne
    obtain ⟨hu1,hu2⟩:=hu
    rw [←hu1] at p3
    have hww:=c_par_word (G:=G) u.text
    have hfl:=fun m=>p8 (G:=G) ⟨B.set b (bI T (k+1))++m,K⟩ b (k+1) T 5 (hg2 _ m)
    have hwe:(decide (u.text=gX)||decide (u.text=fY)||decide (u.text=jc))=isWord u.text:=by
     rw [abS];simp only [isWord,abo,aaS,or_assoc];exact Iff.rfl
    rw [hwe] at hww
    by_cases hq:u.kind=1∧isWord u.text=false
    ·obtain ⟨q1,q2⟩:=hq
     have hpl:aaH u.text=true:=by
      rw [fT,if_pos q1] at hu2
      rw [aaH,hu2,q2];rfl
     rw [if_pos ⟨q1,hpl⟩] at p3
     rw [q2] at hww
     (try refine Wk.aw fun _ ag=>?_);(repeat' (first|((first|refine Wk.hd ?_|refine Wk.i ?_);simp (disch:=omega) only [go_sem,seval,hs1,hs2,hl,hG,hG0,hS,hS0,hg2,q1])|refine aW (a1 _) ?_|refine ah (hn _) ?_|refine ah (hww _) ?_|first|refine Wk.o ?_|refine Wk.q ‹_› ?_));all_goals (repeat subst ag)
     all_goals first|(exfalso;omega)|skip
     refine ⟨(Ex.mk 3 u.text ct [e] [],k+1+1,g),?_⟩
     refine s5 (x':=(Ex.mk 3 u.text ct [e] [],k+1+1,g)) hb ?_ ?_ ?_ ?_ ?_
     ·simp (disch:=omega) only [go_sem,seval]<;>first|rfl|exact ⟨rfl,rfl⟩|skip
     ·exact ⟨by simp only;omega,by simp only;omega,p3⟩
     ·simp only;omega
     ·rfl
     ·simp [aJ.within,V.within,V.within.all]
    ·have hnp:¬ (u.kind=1∧aaH u.text=true):=by
      rintro ⟨q1,q2⟩
      rw [aaH,aaW] at q2
      exact hq ⟨q1,by simpa using q2.2⟩
     rw [if_neg hnp,hu1,←bM hk2,aaJ] at p3
     subst p3
     simp only [fh,au,len (k+1) (by omega)]
     by_cases q1:u.kind=1
     ·have q2:isWord u.text=true:=by
       rw [←Bool.not_eq_false];exact fun h=>hq ⟨q1,h⟩
      rw [q2] at hww
      (try refine Wk.aw fun _ ag=>?_);(repeat' (first|((first|refine Wk.hd ?_|refine Wk.i ?_);simp (disch:=omega) only [go_sem,seval,hs1,hs2,hl,hG,hG0,hS,hS0,hg2,q1])|refine aW (a1 _) ?_|refine ah (hn _) ?_|refine ah (hww _) ?_|refine cA (hfl _) ?_|first|refine Wk.o ?_|refine Wk.q ‹_› ?_));all_goals (repeat subst ag)
      refine aM (s1:=⟨B.set b (bI T (k+1)),K⟩) (by simp [St.cut]) (aR ?_) rfl ⟨rfl,rfl⟩
      simp [aJ.within,V.within,V.within.all]
     ·(try refine Wk.aw fun _ ag=>?_);(repeat' (first|((first|refine Wk.hd ?_|refine Wk.i ?_);simp (disch:=omega) only [go_sem,seval,hs1,hs2,hl,hG,hG0,hS,hS0,hg2])|(refine ay (fun hc=>?_) (fun hc=>?_)<;>try omega)|refine aW (a1 _) ?_|refine ah (hn _) ?_|refine cA (hfl _) ?_|first|refine Wk.o ?_|refine Wk.q ‹_› ?_));all_goals (repeat subst ag)
      refine aM (s1:=⟨B.set b (bI T (k+1)),K⟩) (by simp [St.cut]) (aR ?_) rfl ⟨rfl,rfl⟩
      simp [aJ.within,V.within,V.within.all]
 ·have c1:=hat i hi _ h1
  rw [h1] at h
  simp only [aL,aaJ] at h
  subst h
  simp only [kf,fh,au] at c1
  have c1':∀ m,aa prog G 274 [.ptr b 0] ⟨B++m,K⟩ (fun o s=>o= .dw (panV (T.length - r1.length) ec)∧s=⟨B.set b (bI T (T.length - r1.length))++m,K⟩):=fun m=>by have:=c1 _ K b (hg1 m);simp only [hs1] at this;exact this
  simp only [fh,au]
  refine aa.body func272 rfl ntmps272 (by simp) ?_
  (try refine Wk.aw fun _ ag=>?_);(repeat' (first|((first|refine Wk.hd ?_|refine Wk.i ?_);simp (disch:=omega) only [go_sem,seval,hs1,hs2,hl,hG,hG0,hS,hS0])|refine cA (c1' _) ?_|first|refine Wk.o ?_|refine Wk.q ‹_› ?_));all_goals (repeat subst ag)
  refine aM (s1:=⟨B.set b (bI T (T.length - r1.length)),K⟩) (by simp [St.cut]) (aR ?_) rfl ⟨rfl,rfl⟩
  simp [aJ.within,V.within,V.within.all]
theorem Pq (hg:GV G) {T:List Tk} {f:Nat} (hT:T.length≤1048576) (hx:∀ t∈T,t.text.length≤1048576) (hf:∀ g≤f,ur G T g) (s:cx) (hs:s≠[44]) (i:Nat) (hi:i≤T.length) (r:dF Ex) (h:pF (f+1) (.args s) (T.drop i)=some r):
  Ny G T 279 [vs s] i r:=by
 intro B K b hb
 have hbl:b<B.length:=(aaL.1 hb).1
 have hss:∀ z y,(B.set b z).set b y=B.set b y:=fun z y=>List.set_set ..
 have hg2:∀ z,(B.set b z)[b]?=some z:=fun z=>iA hb
 have len:∀ j,j≤T.length→T.length - (T.drop j).length=j:=fun j hj=>by simp only [aa6];omega
 simp only [pF] at h
 cases hb1:bU T i s
 ·have a1:=eK (G:=G) hg ⟨B,K⟩ b i T hT hx (by omega) hb s (by rw [cW];exact hb1)
  have h':pF f (.items s []) (T.drop i)=some r:=by
   by_cases hil:i<T.length
   ·rw [bM hil] at h ⊢
    simp only [dj hil hb1,abh,if_false] at h
    exact h
   ·rw [bk hil] at h ⊢;exact h
  refine aa.body func279 rfl ntmps279 (by simp) ?_
  (try with_reducible refine Wk.aw fun _ ag=>?_);(repeat' (first|((with_reducible first|refine Wk.hd ?_|refine Wk.i ?_);simp (disch:=first|omega|(simp only [go_sem];try omega)) only [go_sem,seval])|refine ah (a1) ?_|with_reducible refine Wk.o ?_));all_goals (repeat subst ag)
  refine AW.Bz (fun x:List Ex×Nat×Nat=>[(0,.ptr b 0),(1,vs s),(5,lz K.length (x.1.map Ex.enc))]) (fun x=>⟨B.set b (bI T x.2.1),K++k9 86 10 (x.1.map Ex.enc)⟩)
   (fun x=>x.2.1≤T.length∧x.1.length≤x.2.1∧x.2.2≤f∧pF x.2.2 (.items s x.1) (T.drop x.2.1)=some r) (fun x=>x.2.2) ([],i,f) (M0:=B) (by simp [k9]) (by rw [og hb];exact yK.refl _) (by simp (disch:=first|omega|(simp only [go_sem];try omega)) only [go_sem,seval]<;>first|rfl|exact ⟨rfl,rfl⟩|skip) ⟨hi,by simp,aaP _,h'⟩ ?_
  rintro ⟨acc,k,g⟩ ⟨p1,p2,p3,p4⟩
  simp only at p1 p2 p3 p4
  obtain ⟨g,rfl⟩:∃ g',g=g'+1:=by
   cases g with
   |zero=>simp [pF] at p4
   |succ g=>exact ⟨g,rfl⟩
  simp only [pF] at p4
  rcases h2:pF g .cond (T.drop k) with _|(⟨x,r2⟩|⟨r2,e2⟩)
  ·rw [h2] at p4;simp [aL] at p4
  ·have c2:=(hf g (by omega)).cond k p1 _ h2
   obtain ⟨m,hkm,hm,d2,e2⟩:=fS h2 p1
   simp only [au] at d2 e2
   subst d2
   rw [h2] at p4
   simp only [aL] at p4
   simp only [kf,fh,au,e2] at c2
   have c2':∀ K',aa prog G 246 [.ptr b 0] ⟨B.set b (bI T k),K'⟩ (fun o s=>o= .ret (vE x)∧s=⟨B.set b (bI T m),K'⟩):=fun K'=>by have:=c2 _ K' b (hg2 _);simp only [hss] at this;exact this
   cases hb2:bU T m [44]
   ·have a2:=fun K'=>eK (G:=G) hg ⟨B.set b (bI T m),K'⟩ b m T hT hx (by omega) (hg2 _) [44] (by rw [cW];exact hb2)
    cases hb3:bU T m s
    ·have hx2:=fun K'=>iR (G:=G) hg ⟨B.set b (bI T m),K'⟩ b m T hT hx (by omega) (hg2 _) s (by rw [cW];exact hb3)
     have hr:r= .err (T.drop m) (bD T m):=by
      by_cases hml:m<T.length
      ·rw [bM hml] at p4
       simp only [dj hml hb3,dj hml hb2,abh,if_false,aaJ] at p4
       rw [←p4,bD,if_neg (by omega),bM hml]
      ·rw [bk hml] at p4
       simp only [aaJ] at p4
       rw [←p4,bD,if_pos (by omega),bk hml]
     subst hr
     simp only [L1,au,len m hm]
     (try with_reducible refine Wk.aw fun _ ag=>?_);(repeat' (first|((with_reducible first|refine Wk.hd ?_|refine Wk.i ?_);simp (disch:=first|omega|(simp only [go_sem];try omega)) only [go_sem,seval,hss])|refine aW (c2' _) ?_|refine ah (a2 _) ?_|refine cA (hx2 _) ?_|with_reducible first|refine Wk.o ?_|refine Wk.q ‹_› ?_));all_goals (repeat subst ag)
     refine aM (s1:=⟨B.set b (bI T m),K⟩) (by simp [St.cut];exact aa0 (by simp)) (aR ?_) rfl ⟨rfl,rfl⟩
     simp [aJ.within,V.within,V.within.all]
    ·have hml:=bW hb3
     rw [bM hml] at p4
     simp only [eH hb3,if_true,aaJ] at p4
     subst p4
     have hx2:∀ K',aa prog G 261 [.ptr b 0,vs s] ⟨B.set b (bI T m),K'⟩ (fun o s'=>o= .ret (.cF [])∧s'=⟨B.set b (bI T (m+1)),K'⟩):=fun K'=>by
      have:=iQ (G:=G) hg ⟨B.set b (bI T m),K'⟩ b m T hT hx (by omega) (hg2 _) s (by rw [cW];exact hb3)
      simp only [hss] at this;exact this
     simp only [L1,au,len (m+1) (by omega)]
     (try with_reducible refine Wk.aw fun _ ag=>?_);(repeat' (first|((with_reducible first|refine Wk.hd ?_|refine Wk.i ?_);simp (disch:=first|omega|(simp only [go_sem];try omega)) only [go_sem,seval,hss])|refine aW (c2' _) ?_|refine ah (a2 _) ?_|refine aW (hx2 _) ?_|with_reducible first|refine Wk.o ?_|refine Wk.q ‹_› ?_));all_goals (repeat subst ag)
     refine aV (v:= .d (.sl (acc.map Ex.enc++[x.enc]))) K.length (aaP _) (s1:=⟨B.set b (bI T (m+1)),K⟩) (by simp [St.cut];exact aa0 (by simp)) (aR ?_) (by simp (disch:=first|omega|(simp only [go_sem];try omega)) only [go_sem,seval,bQ,bZ,results279];try exact rfl) (by simp (disch:=first|omega|(simp only [go_sem];try omega)) only [go_sem,seval,eD];try exact rfl) (by simp (disch:=first|omega|(simp only [go_sem];try omega)) only [go_sem,seval];try exact rfl) ⟨by simp [Ex.args],rfl⟩
     simp [aJ.within,V.within,V.within.all]
   ·have hml:=bW hb2
    have hb3:cg s (T.getD m default)=false:=by
     rw [abO];intro hh
     simp only [cg,aaW,aaS] at hh
     exact hs (by rw [←hh.2,ni hb2])
    have a2:∀ K',aa prog G 260 [.ptr b 0,vs [44]] ⟨B.set b (bI T m),K'⟩ (fun o s'=>o= .ret (vb true)∧s'=⟨B.set b (bI T (m+1)),K'⟩):=fun K'=>by
     have:=eL (G:=G) hg ⟨B.set b (bI T m),K'⟩ b m T hT hx (by omega) (hg2 _) [44] (by rw [cW];exact hb2)
     simp only [hss] at this;exact this
    rw [bM hml] at p4
    simp only [hb3,eH hb2,abh,if_false,if_true] at p4
    (try with_reducible refine Wk.aw fun _ ag=>?_);(repeat' (first|((with_reducible first|refine Wk.hd ?_|refine Wk.i ?_);simp (disch:=first|omega|(simp only [go_sem];try omega)) only [go_sem,seval,hss])|refine aW (c2' _) ?_|refine aW (a2 _) ?_|with_reducible first|refine Wk.o ?_|refine Wk.q ‹_› ?_));all_goals (repeat subst ag)
    refine ⟨(acc++[x],m+1,g),⟨?_,?_,?_,⟨B.set b (bI T (m+1)),?_,yK.refl _,aR ?_⟩,?_,?_,?_⟩⟩
    ·simp (disch:=first|omega|(simp only [go_sem];try omega)) only [go_sem,seval,abm]<;>first|rfl|exact ⟨rfl,rfl⟩|skip
    ·exact ⟨by simp only;omega,by simp only [aaQ,abg];omega,by simp only;omega,p4⟩
    ·simp only;omega
    ·simp [St.cut]
     exact ⟨aa0 (by simp),aa0 (by simp)⟩
    ·simp [aJ.within,V.within,V.within.all]
    ·simp
    ·simp
    ·simp [okW,pK]
     all_goals first|omega|simp [V.within,hbl]|skip
  ·have c2:=(hf g (by omega)).cond k p1 _ h2
   rw [h2] at p4
   simp only [aL,aaJ] at p4
   subst p4
   simp only [kf,fh,au] at c2
   have c2':∀ K',aa prog G 246 [.ptr b 0] ⟨B.set b (bI T k),K'⟩ (fun o s=>o= .dw (panV (T.length - r2.length) e2)∧s=⟨B.set b (bI T (T.length - r2.length)),K'⟩):=fun K'=>by have:=c2 _ K' b (hg2 _);simp only [hss] at this;exact this
   simp only [L1,au]
   (try with_reducible refine Wk.aw fun _ ag=>?_);(repeat' (first|((with_reducible first|refine Wk.hd ?_|refine Wk.i ?_);simp (disch:=first|omega|(simp only [go_sem];try omega)) only [go_sem,seval,hss])|refine cA (c2' _) ?_|with_reducible first|refine Wk.o ?_|refine Wk.q ‹_› ?_));all_goals (repeat subst ag)
   refine aM (s1:=⟨B.set b (bI T (T.length - r2.length)),K⟩) (by simp [St.cut];exact aa0 (by simp)) (aR ?_) rfl ⟨rfl,rfl⟩
   simp [aJ.within,V.within,V.within.all]
 ·have hil:=bW hb1
  have a1:=eL (G:=G) hg ⟨B,K⟩ b i T hT hx (by omega) hb s (by rw [cW];exact hb1)
  rw [bM hil] at h
  simp only [eH hb1,if_true,aaJ] at h
  subst h
  simp only [L1,au,len (i+1) (by omega)]
  refine aa.body func279 rfl ntmps279 (by simp) ?_
  (try with_reducible refine Wk.aw fun _ ag=>?_);(repeat' (first|((with_reducible first|refine Wk.hd ?_|refine Wk.i ?_);simp (disch:=first|omega|(simp only [go_sem];try omega)) only [go_sem,seval])|refine aW (a1) ?_|with_reducible first|refine Wk.o ?_|refine Wk.q ‹_› ?_));all_goals (repeat subst ag)
  refine aV (v:= .d (.sl [])) K.length (aaP _) (s1:=⟨B.set b (bI T (i+1)),K⟩) (by simp [St.cut];exact aa0 (by simp)) (aR ?_) (by simp (disch:=first|omega|(simp only [go_sem];try omega)) only [go_sem,seval,bQ,bZ,results279];try exact rfl) (by simp (disch:=first|omega|(simp only [go_sem];try omega)) only [go_sem,seval,eD];try exact rfl) (by simp (disch:=first|omega|(simp only [go_sem];try omega)) only [go_sem,seval];try exact rfl) ⟨rfl,rfl⟩
  simp [aJ.within,V.within,V.within.all]
abbrev Zc (B:List aJ) (b n:Nat) (_:Ex×Nat×Nat):List (Nat×V):=[(0,.ptr b 0),(1,ai ↑n),(4,.ptr B.length 0),(5,.ptr (B.length+1) 0)]
theorem L4 {σ:Ex×Nat×Nat→List (Nat×V)} {B:List aJ} {K:List (Nat×Nat×Nat)} {b:Nat} {T:List Tk} {p:Ex×Nat×Nat→Prop} {x x':Ex×Nat×Nat} {fr:Fr} {cs:List V} {L:List aJ} {i:Nat} (hb:B[b]?=some (bI T i))
  (slots:okF fr (σ x')) (ok:p x') (less:x'.2.2<x.2.2) (hsh:xU (.cells cs)= .cells (x'.1.enc.map .d)) (hw:(aJ.cells cs).within (B.length+2) K.length=true) (hσ:okW (B.length+2) K.length (σ x')=true):
  H8 ⟨B,K⟩ σ (TZ B K b T) p (fun x=>x.2.2) x fr ⟨B.set b (bI T x'.2.1)++(.cells Qh:: .cells cs::L),K⟩ x':=by
 have hbl:=(aaL.1 hb).1
 refine ⟨slots,ok,less,⟨B.set b (bI T x'.2.1)++[.cells Qh,.cells cs],?_,yK.app (yK.refl _) ?_,?_⟩,by simp,by simp,?_⟩
 ·simp [St.cut,List.take_append]
  exact aa0 (by simp)
 ·simp only [aa5,aba,hsh]
  rfl
 ·intro b' B' h
  simp only [aaQ,abA,aaM,aaV,abl]
  by_cases hlt:b'<B.length
  ·rw [aaU (by simpa using hlt),ab9] at h
   by_cases hbb:b=b'
   ·subst hbb
    rw [if_pos rfl,if_pos hlt] at h
    cases h
    exact .inr (by simp [aJ.within,V.within,V.within.all])
   ·rw [if_neg hbb] at h
    exact .inl h
  ·rw [aaO (by simpa using hlt),abA] at h
   match hd:b' - B.length with
   |0=>rw [hd] at h;simp at h;subst h;exact .inr (by simp [aJ.within,V.within,V.within.all])
   |1=>rw [hd] at h;simp at h;subst h;exact .inr hw
   |d+2=>rw [hd] at h;simp at h
 ·simpa using hσ
theorem Ds {T:List Tk} {k:Nat} (h:(ez T k).kind=4):k<T.length∧ez T k=T.getD k default:=by
 rw [ez] at h ⊢
 by_cases hk:k<T.length
 ·rw [if_pos hk] at h ⊢
  by_cases hr:fT (T.getD k default)=true
  ·rw [if_pos hr];exact ⟨hk,rfl⟩
  ·rw [if_neg hr] at h;exact absurd h (by decide)
 ·rw [if_neg hk] at h;exact absurd h (by decide)
theorem Jd {T:List Tk} {k:Nat} (hk:k<T.length) (h:¬ (ez T k).kind=4):¬ (T.getD k default).kind=4:=by
 intro h4
 have hr:fT (T.getD k default)=true:=by rw [fT,if_neg (by omega),if_neg (by omega),if_neg (by omega),decide_eq_true h4]
 rw [ez,if_pos hk,if_pos hr] at h
 exact h h4
theorem Xs (hg:GV G) {T:List Tk} {f:Nat} (hT:T.length≤1048576) (hx:∀ t∈T,t.text.length≤1048576) (hf:∀ g≤f,ur G T g) (n:Nat) (hn1:1≤n) (hn7:n≤7) (i:Nat) (hi:i≤T.length) (r:dF Ex) (h:pF (f+1) (.op n) (T.drop i)=some r):
  kf G T 259 [ai ↑n] i r:=by
 intro B K b hb
 have hbl:b<B.length:=(aaL.1 hb).1
 have hs1:∀ m y,(B++m).set b y=B.set b y++m:=fun m y=>kg hb
 have hs2:∀ z m y,(B.set b z++m).set b y=B.set b y++m:=fun z m y=>jU hb
 have hg1:∀ m,(B++m)[b]?=some (bI T i):=fun m=>fU hb
 have hg2:∀ z m,(B.set b z++m)[b]?=some z:=fun z m=>fU (iA hb)
 have hl:∀ z,(B.set b z).length=B.length:=fun z=>abA
 have hG:∀ (z:aJ) (m:List aJ) (k:Nat),(B.set b z++m)[B.length+k]?=m[k]?:=fun z m k=>by rw [aaO (by simp)];simp
 have hG0:∀ (z:aJ) (m:List aJ),(B.set b z++m)[B.length]?=m[0]?:=fun z m=>by rw [aaO (by simp)];simp
 have hS:∀ (z y:aJ) (m:List aJ) (k:Nat),(B.set b z++m).set (B.length+k) y=B.set b z++m.set k y:=fun z y m k=>by rw [abf _ _ (by simp)];simp
 have hS0:∀ (z y:aJ) (m:List aJ),(B.set b z++m).set B.length y=B.set b z++m.set 0 y:=fun z y m=>by rw [abf _ _ (by simp)];simp
 have len:∀ j,j≤T.length→T.length - (T.drop j).length=j:=fun j hj=>by simp only [aa6];omega
 simp only [pF] at h
 by_cases hn:n=7
 ·subst hn
  rw [if_pos rfl] at h
  have c1:=(hf f (aaP _)).un i hi _ h
  cases r with
  |ok e rest=>
   simp only [kf,fh,au] at c1
   have c1':∀ m,aa prog G 267 [.ptr b 0] ⟨B++m,K⟩ (fun o s=>o= .ret (vE e)∧s=⟨B.set b (bI T (T.length - rest.length))++m,K⟩):=fun m=>by have:=c1 _ K b (hg1 m);simp only [hs1] at this;exact this
   simp only [fh,au]
   refine aa.body func259 rfl ntmps259 (by simp) ?_
   (try refine Wk.aw fun _ ag=>?_);(repeat' (first|((first|refine Wk.hd ?_|refine Wk.i ?_);simp (disch:=omega) only [go_sem,seval,hs1,hs2,hl,hG,hG0,hS,hS0])|refine aW (c1' _) ?_|first|refine Wk.o ?_|refine Wk.q ‹_› ?_));all_goals (repeat subst ag)
   refine aV (v:=vE e) K.length (aaP _) (s1:=⟨B.set b (bI T (T.length - rest.length)),K⟩) (by simp [St.cut]) (aR ?_) (by simp (disch:=omega) only [go_sem,seval,bQ,bZ,results259,hG,hG0];try exact rfl) (by simp (disch:=omega) only [go_sem,seval,eD];try exact rfl) (by simp (disch:=omega) only [go_sem,seval];try exact rfl) ⟨rfl,rfl⟩
   simp [aJ.within,V.within,V.within.all]
  |err rest c=>
   simp only [kf,fh,au] at c1
   have c1':∀ m,aa prog G 267 [.ptr b 0] ⟨B++m,K⟩ (fun o s=>o= .dw (panV (T.length - rest.length) c)∧s=⟨B.set b (bI T (T.length - rest.length))++m,K⟩):=fun m=>by have:=c1 _ K b (hg1 m);simp only [hs1] at this;exact this
   simp only [fh,au]
   refine aa.body func259 rfl ntmps259 (by simp) ?_
   (try refine Wk.aw fun _ ag=>?_);(repeat' (first|((first|refine Wk.hd ?_|refine Wk.i ?_);simp (disch:=omega) only [go_sem,seval,hs1,hs2,hl,hG,hG0,hS,hS0])|refine cA (c1' _) ?_|first|refine Wk.o ?_|refine Wk.q ‹_› ?_));all_goals (repeat subst ag)
   refine aM (s1:=⟨B.set b (bI T (T.length - rest.length)),K⟩) (by simp [St.cut]) (aR ?_) rfl ⟨rfl,rfl⟩
   simp [aJ.within,V.within,V.within.all]
 ·rw [if_neg hn] at h
  have hn7':¬ (n:Int)=7:=by omega
  rcases h1:pF f (.op (n+1)) (T.drop i) with _|(⟨c,r1⟩|⟨r1,ec⟩)
  ·rw [h1] at h;simp [aL] at h
  ·have c1:=(hf f (aaP _)).op (n+1) (by omega) (by omega) i hi _ h1
   obtain ⟨j,hij,hj,d1,e1⟩:=fS h1 hi
   simp only [au] at d1 e1
   subst d1
   simp only [kf,fh,au,e1] at c1
   have c1':∀ m,aa prog G 259 [.ptr b 0,ai ↑(n+1)] ⟨B++m,K⟩ (fun o s=>o= .ret (vE c)∧s=⟨B.set b (bI T j)++m,K⟩):=fun m=>by have:=c1 _ K b (hg1 m);simp only [hs1] at this;exact this
   rw [h1] at h
   simp only [aL] at h
   refine aa.body func259 rfl ntmps259 (by simp) ?_
   (try refine Wk.aw fun _ ag=>?_);(repeat' (first|((first|refine Wk.hd ?_|refine Wk.i ?_);simp (disch:=omega) only [go_sem,seval,hs1,hs2,hl,hG,hG0,hS,hS0])|(refine ay (fun hc=>?_) (fun hc=>?_)<;>try omega)|refine aW (c1' _) ?_|refine Wk.o ?_));all_goals (repeat subst ag)
   refine AW.Bz (Zc B b n) (TZ B K b T)
    (fun x=>x.2.1≤T.length∧x.2.2≤f∧pF x.2.2 (.ops n x.1) (T.drop x.2.1)=some r) (fun x=>x.2.2) (c,j,f) rfl (yK.app (yK.refl _) (by simp (disch:=omega) only [go_sem,seval];try exact rfl)) (by simp (disch:=omega) only [go_sem,seval]<;>first|rfl|exact ⟨rfl,rfl⟩|skip) ⟨hj,aaP _,h⟩ ?_
   rintro ⟨e,k,g⟩ ⟨p1,p2,p3⟩
   simp only at p1 p2 p3
   obtain ⟨g,rfl⟩:∃ g',g=g'+1:=by
    cases g with
    |zero=>simp [pF] at p3
    |succ g=>exact ⟨g,rfl⟩
   simp only [pF] at p3
   have hpk:=fun m=>xk (G:=G) hg ⟨B.set b (bI T k)++m,K⟩ b k T hT hx (by omega) (hg2 _ m)
   have hst:=lf (G:=G) (ez T k).text
   by_cases hq:(ez T k).kind=4∧bB (ez T k).text=n
   ·obtain ⟨hq1,hq2⟩:=hq
    obtain ⟨hk,hpe⟩:=Ds hq1
    rw [bM hk,←hpe] at p3
    simp only at p3
    rw [if_pos ⟨hq1,hq2⟩] at p3
    rw [hq2] at hst
    generalize ez T k=u at*
    rcases h2:pF g (.op (n+1)) (T.drop (k+1)) with _|(⟨x,r2⟩|⟨r2,e2⟩)
    ·rw [h2] at p3;simp [aL] at p3
    ·have c2:=(hf g (by omega)).op (n+1) (by omega) (by omega) (k+1) (by omega) _ h2
     obtain ⟨m,hkm,hm,d2,e2⟩:=fS h2 (by omega)
     simp only [au] at d2 e2
     subst d2
     simp only [kf,fh,au,e2] at c2
     have c2':∀ m',aa prog G 259 [.ptr b 0,ai ↑(n+1)] ⟨B.set b (bI T (k+1))++m',K⟩ (fun o s=>o= .ret (vE x)∧s=⟨B.set b (bI T m)++m',K⟩):=fun m'=>by have:=c2 _ K b (hg2 _ m');simp only [hs2] at this;exact this
     rw [h2] at p3
     simp only [aL] at p3
     by_cases hn4:n=4
     ·have hn4':(n:Int)=4:=by omega
      rw [if_pos hn4] at p3
      simp only [aaJ] at p3
      subst p3
      simp only [fh,au,len m hm]
      (try refine Wk.aw fun _ ag=>?_);(repeat' (first|((refine Wk.Au 8 ?_);refine AW.uh (P:=prog) mx 6 [(1,7),(2,7)] (by kernel_rfl) (by kernel_rfl) (by simp (disch:=omega) only [go_sem,seval,hs1,hs2,hl,hG,hG0,hS,hS0,hg2,hq1];try exact rfl) (by kernel_rfl) call259 rfl rfl (by simp (disch:=omega) only [go_sem,seval,hs1,hs2,hl,hG,hG0,hS,hS0,hg2,hq1];try exact rfl) (c2' _) (by simp (disch:=omega) only [go_sem,seval,hs1,hs2,hl,hG,hG0,hS,hS0,hg2,hq1];try exact rfl) (fF (by decide) (by decide) rfl rfl (by simp (disch:=omega) only [go_sem,seval,hs1,hs2,hl,hG,hG0,hS,hS0,hg2,hq1]) (fF (by decide) (by decide) rfl rfl (by simp (disch:=omega) only [go_sem,seval,hs1,hs2,hl,hG,hG0,hS,hS0,hg2,hq1]) (iz))) ?_)|(first|refine Wk.ox ?_|refine Wk.th ?_|refine Wk.bl ?_)|((first|refine Wk.hd ?_|refine Wk.i ?_);simp (disch:=omega) only [go_sem,seval,hs1,hs2,hl,hG,hG0,hS,hS0,hg2,hq1])|(refine ay (fun hc=>?_) (fun hc=>?_)<;>try omega)|refine ah (hpk _) ?_|refine ah (hst _) ?_|first|refine Wk.o ?_|refine Wk.q ‹_› ?_));all_goals (repeat subst ag)
      refine aV (v:=vE (Ex.mk 7 u.text ct [e,x] [])) K.length (aaP _) (s1:=⟨B.set b (bI T m),K⟩) (by simp [St.cut]) (aR ?_) (by simp (disch:=omega) only [go_sem,seval,bQ,bZ,results259,hG,hG0];try exact rfl) (by simp (disch:=omega) only [go_sem,seval,eD];try exact rfl) (by simp (disch:=omega) only [go_sem,seval];try exact rfl) ⟨rfl,rfl⟩
      simp [aJ.within,V.within,V.within.all]
     ·have hn4':¬ (n:Int)=4:=by omega
      rw [if_neg hn4] at p3
      (try refine Wk.aw fun _ ag=>?_);(repeat' (first|((refine Wk.Au 8 ?_);refine AW.uh (P:=prog) mx 6 [(1,7),(2,7)] (by kernel_rfl) (by kernel_rfl) (by simp (disch:=omega) only [go_sem,seval,hs1,hs2,hl,hG,hG0,hS,hS0,hg2,hq1];try exact rfl) (by kernel_rfl) call259 rfl rfl (by simp (disch:=omega) only [go_sem,seval,hs1,hs2,hl,hG,hG0,hS,hS0,hg2,hq1];try exact rfl) (c2' _) (by simp (disch:=omega) only [go_sem,seval,hs1,hs2,hl,hG,hG0,hS,hS0,hg2,hq1];try exact rfl) (fF (by decide) (by decide) rfl rfl (by simp (disch:=omega) only [go_sem,seval,hs1,hs2,hl,hG,hG0,hS,hS0,hg2,hq1]) (fF (by decide) (by decide) rfl rfl (by simp (disch:=omega) only [go_sem,seval,hs1,hs2,hl,hG,hG0,hS,hS0,hg2,hq1]) (iz))) ?_)|(first|refine Wk.ox ?_|refine Wk.th ?_|refine Wk.bl ?_)|((first|refine Wk.hd ?_|refine Wk.i ?_);simp (disch:=omega) only [go_sem,seval,hs1,hs2,hl,hG,hG0,hS,hS0,hg2,hq1])|(refine ay (fun hc=>?_) (fun hc=>?_)<;>try omega)|refine ah (hpk _) ?_|refine ah (hst _) ?_|first|refine Wk.o ?_|refine Wk.q ‹_› ?_));all_goals (repeat subst ag)
      refine ⟨(Ex.mk 7 u.text ct [e,x] [],m,g),?_⟩
      refine L4 (x':=(Ex.mk 7 u.text ct [e,x] [],m,g)) hb ?_ ?_ ?_ ?_ ?_ ?_
      ·simp (disch:=omega) only [go_sem,seval]<;>first|rfl|exact ⟨rfl,rfl⟩|skip
      ·exact ⟨by simp only;omega,by simp only;omega,p3⟩
      ·simp only;omega
      ·rfl
      ·simp [aJ.within,V.within,V.within.all]
      ·simp [okW,V.within];omega
    ·have c2:=(hf g (by omega)).op (n+1) (by omega) (by omega) (k+1) (by omega) _ h2
     rw [h2] at p3
     simp only [aL,aaJ] at p3
     subst p3
     simp only [kf,fh,au] at c2
     have c2':∀ m',aa prog G 259 [.ptr b 0,ai ↑(n+1)] ⟨B.set b (bI T (k+1))++m',K⟩ (fun o s=>o= .dw (panV (T.length - r2.length) e2)∧s=⟨B.set b (bI T (T.length - r2.length))++m',K⟩):=fun m'=>by have:=c2 _ K b (hg2 _ m');simp only [hs2] at this;exact this
     simp only [fh,au]
     (try refine Wk.aw fun _ ag=>?_);(repeat' (first|((refine Wk.Au 8 ?_);refine AW.H7 (P:=prog) mx 6 [(1,7),(2,7)] (by kernel_rfl) (by kernel_rfl) (by simp (disch:=omega) only [go_sem,seval,hs1,hs2,hl,hG,hG0,hS,hS0,hg2,hq1];try exact rfl) (by kernel_rfl) call259 rfl (by simp (disch:=omega) only [go_sem,seval,hs1,hs2,hl,hG,hG0,hS,hS0,hg2,hq1];try exact rfl) (c2' _) (fun fr_=>?_))|(first|refine Wk.ox ?_|refine Wk.th ?_|refine Wk.bl ?_)|((first|refine Wk.hd ?_|refine Wk.i ?_);simp (disch:=omega) only [go_sem,seval,hs1,hs2,hl,hG,hG0,hS,hS0,hg2,hq1])|(refine ay (fun hc=>?_) (fun hc=>?_)<;>try omega)|refine ah (hpk _) ?_|refine ah (hst _) ?_|first|refine Wk.o ?_|refine Wk.q ‹_› ?_));all_goals (repeat subst ag)
     refine aM (s1:=⟨B.set b (bI T (T.length - r2.length)),K⟩) (by simp [St.cut]) (aR ?_) rfl ⟨rfl,rfl⟩
     simp [aJ.within,V.within,V.within.all]
   ·have hr:r= .ok e (T.drop k):=by
     by_cases hk:k<T.length
     ·rw [bM hk] at p3
      simp only at p3
      have hnq:¬ ((T.getD k default).kind=4∧bB (T.getD k default).text=n):=by
       rintro ⟨q1,q2⟩
       by_cases hp4:(ez T k).kind=4
       ·exact hq ⟨hp4,by rw [(Ds hp4).2];exact q2⟩
       ·exact Jd hk hp4 q1
      rw [if_neg hnq,←bM hk,aaJ] at p3
      exact p3.symm
     ·rw [bk hk,aaJ] at p3
      rw [←p3,bk hk]
    subst hr
    simp only [fh,au,len k p1]
    generalize ez T k=u at*
    by_cases hq1:u.kind=4
    ·have hq2:¬ (bB u.text:Int)=n:=fun h=>hq ⟨hq1,by omega⟩
     (try refine Wk.aw fun _ ag=>?_);(repeat' (first|((first|refine Wk.hd ?_|refine Wk.i ?_);simp (disch:=omega) only [go_sem,seval,hs1,hs2,hl,hG,hG0,hS,hS0,hg2,hq1])|(refine ay (fun hc=>?_) (fun hc=>?_)<;>try omega)|refine ah (hpk _) ?_|refine ah (hst _) ?_|first|refine Wk.o ?_|refine Wk.q ‹_› ?_));all_goals (repeat subst ag)
     refine aV (v:=vE e) K.length (aaP _) (s1:=⟨B.set b (bI T k),K⟩) (by simp [St.cut]) (aR ?_) (by simp (disch:=omega) only [go_sem,seval,bQ,bZ,results259,hG,hG0];try exact rfl) (by simp (disch:=omega) only [go_sem,seval,eD];try exact rfl) (by simp (disch:=omega) only [go_sem,seval];try exact rfl) ⟨rfl,rfl⟩
     simp [aJ.within,V.within,V.within.all]
    ·(try refine Wk.aw fun _ ag=>?_);(repeat' (first|((first|refine Wk.hd ?_|refine Wk.i ?_);simp (disch:=omega) only [go_sem,seval,hs1,hs2,hl,hG,hG0,hS,hS0,hg2,hq1])|(refine ay (fun hc=>?_) (fun hc=>?_)<;>try omega)|refine ah (hpk _) ?_|first|refine Wk.o ?_|refine Wk.q ‹_› ?_));all_goals (repeat subst ag)
     refine aV (v:=vE e) K.length (aaP _) (s1:=⟨B.set b (bI T k),K⟩) (by simp [St.cut]) (aR ?_) (by simp (disch:=omega) only [go_sem,seval,bQ,bZ,results259,hG,hG0];try exact rfl) (by simp (disch:=omega) only [go_sem,seval,eD];try exact rfl) (by simp (disch:=omega) only [go_sem,seval];try exact rfl) ⟨rfl,rfl⟩
     simp [aJ.within,V.within,V.within.all]
  ·have c1:=(hf f (aaP _)).op (n+1) (by omega) (by omega) i hi _ h1
   rw [h1] at h
   simp only [aL,aaJ] at h
   subst h
   simp only [kf,fh,au] at c1
   have c1':∀ m,aa prog G 259 [.ptr b 0,ai ↑(n+1)] ⟨B++m,K⟩ (fun o s=>o= .dw (panV (T.length - r1.length) ec)∧s=⟨B.set b (bI T (T.length - r1.length))++m,K⟩):=fun m=>by have:=c1 _ K b (hg1 m);simp only [hs1] at this;exact this
   simp only [fh,au]
   refine aa.body func259 rfl ntmps259 (by simp) ?_
   (try refine Wk.aw fun _ ag=>?_);(repeat' (first|((first|refine Wk.hd ?_|refine Wk.i ?_);simp (disch:=omega) only [go_sem,seval,hs1,hs2,hl,hG,hG0,hS,hS0])|(refine ay (fun hc=>?_) (fun hc=>?_)<;>try omega)|refine cA (c1' _) ?_|first|refine Wk.o ?_|refine Wk.q ‹_› ?_));all_goals (repeat subst ag)
   refine aM (s1:=⟨B.set b (bI T (T.length - r1.length)),K⟩) (by simp [St.cut]) (aR ?_) rfl ⟨rfl,rfl⟩
   simp [aJ.within,V.within,V.within.all]
theorem zI {T:List Tk} {i:Nat} {u:Tk} (h:gL T i= .ok u):i<T.length∧u=T.getD i default∧fT u=true:=by
 have hil:=sZ h
 rw [gL,if_neg (by omega),ez,if_pos hil] at h
 by_cases hr:fT (T.getD i default)=true
 ·rw [if_pos hr] at h
  split at h
  ·cases h
  ·cases h;exact ⟨hil,rfl,hr⟩
 ·rw [if_neg hr,if_pos (show MZ.kind=0 from rfl)] at h
  cases h
theorem zJ {T:List Tk} {i:Nat} {e:Int} (h:gL T i= .error e):(i<T.length→fT (T.getD i default)=false):=by
 intro hil
 rw [←Bool.not_eq_true]
 intro hr
 have hk:¬ (T.getD i default).kind=0:=by
  intro hk
  rw [fT,if_neg (by omega),if_neg (by omega),if_neg (by omega),aaS] at hr
  omega
 rw [gL,if_neg (by omega),ez,if_pos hil,if_pos hr,if_neg hk] at h
 cases h
theorem Je {T:List Tk} {i f:Nat} {e:Int} {r:dF Ex} (h:gL T i= .error e) (hp:pF (f+1) .atom (T.drop i)=some r):r= .err (T.drop i) e:=by
 rw [nh h,bD]
 by_cases hil:i<T.length
 ·have hr:=zJ h hil
  rw [if_neg (by omega)]
  rw [bM hil] at hp ⊢
  generalize T.getD i default=t at*
  simp only [pF] at hp
  rw [fT] at hr
  by_cases k1:t.kind=1
  ·rw [if_pos k1] at hr
   have hs1:¬ t.text=jc:=by rintro h;rw [h] at hr;exact absurd hr (by decide)
   have hs2:¬ (t.text=gX∨t.text=fY):=by rintro (h|h)<;>(rw [h] at hr;exact absurd hr (by decide))
   rw [if_neg (by omega),if_neg (by omega),if_pos k1,if_neg hs1,if_neg hs2,if_neg (by rw [hr];decide)] at hp
   exact (Option.some.inj hp).symm
  ·rw [if_neg k1] at hr
   by_cases k2:t.kind=2
   ·rw [if_pos k2] at hr
    rw [if_pos k2,if_neg (by rw [hr];decide)] at hp
    exact (Option.some.inj hp).symm
   ·rw [if_neg k2] at hr
    by_cases k3:t.kind=3
    ·rw [if_pos k3,abG] at hr
     rw [if_neg k2,if_pos k3,if_neg hr] at hp
     exact (Option.some.inj hp).symm
    ·rw [if_neg k3,abG] at hr
     have o:∀ s,cg s t=false:=fun s=>decide_eq_false fun h=>hr h.1
     rw [if_neg k2,if_neg k3,if_neg k1] at hp
     simp only [o,abh,if_false,aaJ] at hp
     exact hp.symm
 ·rw [if_pos (by omega)]
  rw [bk hil] at hp ⊢
  simp only [pF,aaJ] at hp
  exact hp.symm
theorem Pt (hg:GV G) {T:List Tk} {f:Nat} (hT:T.length≤1048576) (hx:∀ t∈T,t.text.length≤1048576) (hf:∀ g≤f,ur G T g)
  (hargs:∀ s,s≠[44]→∀ i,i≤T.length→∀ r,pF f (.args s) (T.drop i)=some r→Ny G T 279 [vs s] i r)
  (hents:∀ i,i≤T.length→∀ r,pF f .kW (T.drop i)=some r→kf G T 280 [] i r)
  (i:Nat) (hi:i≤T.length) (r:dF Ex) (h:pF (f+1) .atom (T.drop i)=some r):
  kf G T 274 [] i r:=by
 intro B K b hb
 have hbl:b<B.length:=(aaL.1 hb).1
 have hs1:∀ m y,(B++m).set b y=B.set b y++m:=fun m y=>kg hb
 have hs2:∀ z m y,(B.set b z++m).set b y=B.set b y++m:=fun z m y=>jU hb
 have hg1:∀ m,(B++m)[b]?=some (bI T i):=fun m=>fU hb
 have hg2:∀ z m,(B.set b z++m)[b]?=some z:=fun z m=>fU (iA hb)
 have hl:∀ z,(B.set b z).length=B.length:=fun z=>abA
 have hG:∀ (z:aJ) (m:List aJ) (k:Nat),(B.set b z++m)[B.length+k]?=m[k]?:=fun z m k=>by rw [aaO (by simp)];simp
 have hG0:∀ (z:aJ) (m:List aJ),(B.set b z++m)[B.length]?=m[0]?:=fun z m=>by rw [aaO (by simp)];simp
 have hS:∀ (z y:aJ) (m:List aJ) (k:Nat),(B.set b z++m).set (B.length+k) y=B.set b z++m.set k y:=fun z y m k=>by rw [abf _ _ (by simp)];simp
 have hS0:∀ (z y:aJ) (m:List aJ),(B.set b z++m).set B.length y=B.set b z++m.set 0 y:=fun z y m=>by rw [abf _ _ (by simp)];simp
 have len:∀ j,j≤T.length→T.length - (T.drop j).length=j:=fun j hj=>by simp only [aa6];omega
 cases hne:gL T i with
 |error e=>
  have hr:=Je hne h
  subst hr
  have hn:=fun m=>lH (G:=G) hg ⟨B++m,K⟩ b i T hT hx (by omega) (hg1 m) e hne
  simp only [fh,au,len i hi,og hb]
  refine aa.body func274 rfl ntmps274 (by simp) ?_
  (try refine Wk.aw fun _ ag=>?_);(repeat' (first|((first|refine Wk.hd ?_|refine Wk.i ?_);simp (disch:=omega) only [go_sem,seval,hs1,hs2,hl,hG,hG0,hS,hS0])|refine cA (hn _) ?_|first|refine Wk.o ?_|refine Wk.q ‹_› ?_));all_goals (repeat subst ag)
  exact aM (s1:=⟨B,K⟩) (by simp [St.cut]) (fun _ _ h=> .inl h) rfl ⟨rfl,rfl⟩
 |ok u=>
  have hn:=fun m=>kN (G:=G) hg ⟨B++m,K⟩ b i T hT hx (by omega) (hg1 m) u hne
  obtain ⟨hil,hu,hru⟩:=zI hne
  rw [bM hil,←hu] at h
  simp only [pF] at h
  rw [fT] at hru
  have hux:u.text.length≤1048576:=by rw [hu];exact hx _ (aB hil)
  by_cases k2:u.kind=2
  ·rw [if_neg (by omega),if_pos k2] at hru
   rw [if_pos k2,if_pos hru,aaJ] at h
   subst h
   have hd:=hru
   simp only [fZ,aaW,aaS,aa3] at hd
   have hat:=vm (G:=G) u.text hux (cZ u.text) (by rw [Dq u.text hd.1.1.1 hd.1.2,if_pos (by omega)])
   have hlit:=c_par_literal (G:=G) (.mk 2 false (cZ u.text) [] [] [])
   simp only [fh,au,len (i+1) (by omega)]
   refine aa.body func274 rfl ntmps274 (by simp) ?_
   (try refine Wk.aw fun _ ag=>?_);(repeat' (first|((first|refine Wk.hd ?_|refine Wk.i ?_);simp (disch:=omega) only [go_sem,seval,hs1,hs2,hl,hG,hG0,hS,hS0,hg1,hg2,k2])|refine ah (hn _) ?_|refine ah (hat _) ?_|refine ah (hlit _) ?_|first|refine Wk.o ?_|refine Wk.q ‹_› ?_));all_goals (repeat subst ag)
   refine aV (v:=vE (lit (.mk 2 false (cZ u.text) [] [] []))) K.length (aaP _) (s1:=⟨B.set b (bI T (i+1)),K⟩) (by simp [St.cut];rfl) (aR ?_) (by simp (disch:=omega) only [go_sem,seval,bQ,bZ,results274,hG,hG0];try exact rfl) (by simp (disch:=omega) only [go_sem,seval,eD];try exact rfl) (by simp (disch:=omega) only [go_sem,seval];try exact rfl) ⟨rfl,rfl⟩
   simp [aJ.within,V.within,V.within.all]
  ·by_cases k3:u.kind=3
   ·rw [if_neg (by omega),if_neg k2,if_pos k3,aaS] at hru
    rw [if_neg k2,if_pos k3,if_pos hru,aaJ] at h
    subst h
    have hlit:=c_par_literal (G:=G) (.mk 3 false 0 u.text [] [])
    simp only [fh,au,len (i+1) (by omega)]
    refine aa.body func274 rfl ntmps274 (by simp) ?_
    (try refine Wk.aw fun _ ag=>?_);(repeat' (first|((first|refine Wk.hd ?_|refine Wk.i ?_);simp (disch:=omega) only [go_sem,seval,hs1,hs2,hl,hG,hG0,hS,hS0,hg1,hg2,k3])|refine ah (hn _) ?_|refine ah (hlit _) ?_|first|refine Wk.o ?_|refine Wk.q ‹_› ?_));all_goals (repeat subst ag)
    refine aV (v:=vE (lit (.mk 3 false 0 u.text [] []))) K.length (aaP _) (s1:=⟨B.set b (bI T (i+1)),K⟩) (by simp [St.cut];rfl) (aR ?_) (by simp (disch:=omega) only [go_sem,seval,bQ,bZ,results274,hG,hG0];try exact rfl) (by simp (disch:=omega) only [go_sem,seval,eD];try exact rfl) (by simp (disch:=omega) only [go_sem,seval];try exact rfl) ⟨rfl,rfl⟩
    simp [aJ.within,V.within,V.within.all]
   ·by_cases k1:u.kind=1
    ·rw [if_pos k1] at hru
     rw [if_neg k2,if_neg k3,if_pos k1,if_pos hru] at h
     have hnr:Dr f T u.text (i+1)=some r:=by
      rw [Dr]
      by_cases q1:u.text=jc
      ·rw [if_pos q1] at h ⊢;exact h
      ·rw [if_neg q1] at h ⊢
       by_cases q2:u.text=gX∨u.text=fY
       ·rw [if_pos q2] at h ⊢;exact h
       ·rw [if_neg q2] at h ⊢
        by_cases hl1:i+1<T.length
        ·rw [bM hl1] at h ⊢
         simp only at h
         cases hb1:bU T (i+1) [40]
         ·rw [dj hl1 hb1,if_neg abE] at h
          rw [if_neg abE];exact h
         ·rw [eH hb1,if_pos rfl] at h
          rw [if_pos rfl];exact h
        ·have hb1:bU T (i+1) [40]=false:=by rw [abO];intro hh;exact hl1 (bW hh)
         rw [bk hl1] at h ⊢
         rw [hb1,if_neg abE];exact h
     have c1:=Po hg hT hx hargs u.text (i+1) (by omega) r hnr
     cases r with
     |ok e rest=>
      simp only [kf,fh,au] at c1
      have c1':∀ m,aa prog G 278 [.ptr b 0,vs u.text] ⟨B.set b (bI T (i+1))++m,K⟩ (fun o s=>o= .ret (vE e)∧s=⟨B.set b (bI T (T.length - rest.length))++m,K⟩):=fun m=>by have:=c1 _ K b (hg2 _ m);simp only [hs2] at this;exact this
      simp only [fh,au]
      refine aa.body func274 rfl ntmps274 (by simp) ?_
      (try refine Wk.aw fun _ ag=>?_);(repeat' (first|((first|refine Wk.hd ?_|refine Wk.i ?_);simp (disch:=omega) only [go_sem,seval,hs1,hs2,hl,hG,hG0,hS,hS0,hg1,hg2,k1])|refine ah (hn _) ?_|refine aW (c1' _) ?_|first|refine Wk.o ?_|refine Wk.q ‹_› ?_));all_goals (repeat subst ag)
      refine aV (v:=vE e) K.length (aaP _) (s1:=⟨B.set b (bI T (T.length - rest.length)),K⟩) (by simp [St.cut]) (aR ?_) (by simp (disch:=omega) only [go_sem,seval,bQ,bZ,results274,hG,hG0];try exact rfl) (by simp (disch:=omega) only [go_sem,seval,eD];try exact rfl) (by simp (disch:=omega) only [go_sem,seval];try exact rfl) ⟨rfl,rfl⟩
      simp [aJ.within,V.within,V.within.all]
     |err rest c=>
      simp only [kf,fh,au] at c1
      have c1':∀ m,aa prog G 278 [.ptr b 0,vs u.text] ⟨B.set b (bI T (i+1))++m,K⟩ (fun o s=>o= .dw (panV (T.length - rest.length) c)∧s=⟨B.set b (bI T (T.length - rest.length))++m,K⟩):=fun m=>by have:=c1 _ K b (hg2 _ m);simp only [hs2] at this;exact this
      simp only [fh,au]
      refine aa.body func274 rfl ntmps274 (by simp) ?_
      (try refine Wk.aw fun _ ag=>?_);(repeat' (first|((first|refine Wk.hd ?_|refine Wk.i ?_);simp (disch:=omega) only [go_sem,seval,hs1,hs2,hl,hG,hG0,hS,hS0,hg1,hg2,k1])|refine ah (hn _) ?_|refine cA (c1' _) ?_|first|refine Wk.o ?_|refine Wk.q ‹_› ?_));all_goals (repeat subst ag)
      refine aM (s1:=⟨B.set b (bI T (T.length - rest.length)),K⟩) (by simp [St.cut]) (aR ?_) rfl ⟨rfl,rfl⟩
      simp [aJ.within,V.within,V.within.all]
    ·rw [if_neg k1,if_neg k2,if_neg k3,aaS] at hru
     rw [if_neg k2,if_neg k3,if_neg k1] at h
     have hop:∀ s,cg s u=bU T i s:=fun s=>by rw [bU,decide_eq_true hil,Bool.true_and,hu]
     simp only [hop] at h
     have at_:∀ s,bU T i s=true→∀ m,aa prog G 260 [.ptr b 0,vs s] ⟨B++m,K⟩ (fun o s'=>o= .ret (vb true)∧s'=⟨B.set b (bI T (i+1))++m,K⟩):=fun s hs m=>by
      have:=eL (G:=G) hg ⟨B++m,K⟩ b i T hT hx (by omega) (hg1 _) s (by rw [cW];exact hs)
      simp only [hs1] at this;exact this
     have af_:∀ s,bU T i s=false→∀ m,aa prog G 260 [.ptr b 0,vs s] ⟨B++m,K⟩ (fun o s'=>o= .ret (vb false)∧s'=⟨B++m,K⟩):=fun s hs m=>
      eK (G:=G) hg ⟨B++m,K⟩ b i T hT hx (by omega) (hg1 _) s (by rw [cW];exact hs)
     cases o1:bU T i [40]
     ·have a1:=af_ _ o1
      rw [o1,if_neg abE] at h
      cases o2:bU T i [91]
      ·have a2:=af_ _ o2
       rw [o2,if_neg abE] at h
       cases o3:bU T i [123]
       ·have a3:=af_ _ o3
        rw [o3,if_neg abE,hu,←bM hil,aaJ] at h
        subst h
        have hfl:=fun m=>p8 (G:=G) ⟨B++m,K⟩ b i T 5 (hg1 m)
        simp only [fh,au,len i hi,og hb]
        refine aa.body func274 rfl ntmps274 (by simp) ?_
        (try refine Wk.aw fun _ ag=>?_);(repeat' (first|((first|refine Wk.hd ?_|refine Wk.i ?_);simp (disch:=omega) only [go_sem,seval,hs1,hs2,hl,hG,hG0,hS,hS0,hg1,hg2])|(refine ay (fun hc=>?_) (fun hc=>?_)<;>try omega)|refine ah (hn _) ?_|refine ah ((by first|exact a1 _|exact a2 _|exact a3 _)) ?_|refine cA (hfl _) ?_|first|refine Wk.o ?_|refine Wk.q ‹_› ?_));all_goals (repeat subst ag)
        exact aM (s1:=⟨B,K⟩) (by simp [St.cut]) (fun _ _ h=> .inl h) rfl ⟨rfl,rfl⟩
       ·have a3:=at_ _ o3
        rw [o3,if_pos rfl] at h
        have c1:=hents (i+1) (by omega) _ h
        cases r with
        |ok e rest=>
         simp only [kf,fh,au] at c1
         have c1':∀ m,aa prog G 280 [.ptr b 0] ⟨B.set b (bI T (i+1))++m,K⟩ (fun o s=>o= .ret (vE e)∧s=⟨B.set b (bI T (T.length - rest.length))++m,K⟩):=fun m=>by have:=c1 _ K b (hg2 _ m);simp only [hs2] at this;exact this
         simp only [fh,au]
         refine aa.body func274 rfl ntmps274 (by simp) ?_
         (try refine Wk.aw fun _ ag=>?_);(repeat' (first|((first|refine Wk.hd ?_|refine Wk.i ?_);simp (disch:=omega) only [go_sem,seval,hs1,hs2,hl,hG,hG0,hS,hS0,hg1,hg2])|(refine ay (fun hc=>?_) (fun hc=>?_)<;>try omega)|refine ah (hn _) ?_|refine ah ((by first|exact a1 _|exact a2 _)) ?_|refine aW (a3 _) ?_|refine aW (c1' _) ?_|first|refine Wk.o ?_|refine Wk.q ‹_› ?_));all_goals (repeat subst ag)
         refine aV (v:=vE e) K.length (aaP _) (s1:=⟨B.set b (bI T (T.length - rest.length)),K⟩) (by simp [St.cut]) (aR ?_) (by simp (disch:=omega) only [go_sem,seval,bQ,bZ,results274,hG,hG0];try exact rfl) (by simp (disch:=omega) only [go_sem,seval,eD];try exact rfl) (by simp (disch:=omega) only [go_sem,seval];try exact rfl) ⟨rfl,rfl⟩
         simp [aJ.within,V.within,V.within.all]
        |err rest c=>
         simp only [kf,fh,au] at c1
         have c1':∀ m,aa prog G 280 [.ptr b 0] ⟨B.set b (bI T (i+1))++m,K⟩ (fun o s=>o= .dw (panV (T.length - rest.length) c)∧s=⟨B.set b (bI T (T.length - rest.length))++m,K⟩):=fun m=>by have:=c1 _ K b (hg2 _ m);simp only [hs2] at this;exact this
         simp only [fh,au]
         refine aa.body func274 rfl ntmps274 (by simp) ?_
         (try refine Wk.aw fun _ ag=>?_);(repeat' (first|((first|refine Wk.hd ?_|refine Wk.i ?_);simp (disch:=omega) only [go_sem,seval,hs1,hs2,hl,hG,hG0,hS,hS0,hg1,hg2])|(refine ay (fun hc=>?_) (fun hc=>?_)<;>try omega)|refine ah (hn _) ?_|refine ah ((by first|exact a1 _|exact a2 _)) ?_|refine aW (a3 _) ?_|refine cA (c1' _) ?_|first|refine Wk.o ?_|refine Wk.q ‹_› ?_));all_goals (repeat subst ag)
         refine aM (s1:=⟨B.set b (bI T (T.length - rest.length)),K⟩) (by simp [St.cut]) (aR ?_) rfl ⟨rfl,rfl⟩
         simp [aJ.within,V.within,V.within.all]
      ·have a2:=at_ _ o2
       rw [o2,if_pos rfl] at h
       rcases h3:pF f (.args [93]) (T.drop (i+1)) with _|(⟨l,r1⟩|⟨r1,ec⟩)
       ·rw [h3] at h;simp [aL] at h
       ·have c1:=hargs [93] (by decide) (i+1) (by omega) _ h3
        rw [h3] at h
        simp only [aL,aaJ] at h
        subst h
        simp only [Ny,L1,au] at c1
        have c1':∀ m,aa prog G 279 [.ptr b 0,vs [93]] ⟨B.set b (bI T (i+1))++m,K⟩ (fun o s=>o= .ret (.d (.sl (l.args.map Ex.enc)))∧s=⟨B.set b (bI T (T.length - r1.length))++m,K⟩):=fun m=>by have:=c1 _ K b (hg2 _ m);simp only [hs2] at this;exact this
        simp only [fh,au]
        have hve:vE (Ex.mk 9 [] ct l.args [])=V.agg [V.d (D.int .i64 9),V.d (D.str []),V.d (D.int .i64 0),V.d (D.bool false),V.d (D.int .i64 0),V.d (D.str []),V.d (D.sl []),V.d (D.sl []),V.d (D.sl (l.args.map Ex.enc)),V.d (D.sl [])]:=by rw [vE,Ex.aP];rfl
        refine aa.body func274 rfl ntmps274 (by simp) ?_
        (try refine Wk.aw fun _ ag=>?_);(repeat' (first|((first|refine Wk.hd ?_|refine Wk.i ?_);simp (disch:=omega) only [go_sem,seval,hs1,hs2,hl,hG,hG0,hS,hS0,hg1,hg2])|(refine ay (fun hc=>?_) (fun hc=>?_)<;>try omega)|refine ah (hn _) ?_|refine ah (a1 _) ?_|refine aW (a2 _) ?_|refine aW (c1' _) ?_|first|refine Wk.o ?_|refine Wk.q ‹_› ?_));all_goals (repeat subst ag)
        refine aV (v:=vE (Ex.mk 9 [] ct l.args [])) K.length (aaP _) (s1:=⟨B.set b (bI T (T.length - r1.length)),K⟩) (by simp [St.cut]) (aR ?_) (by simp (disch:=omega) only [go_sem,seval,bQ,bZ,results274,hG,hG0];try exact rfl) (by rw [hve];simp (disch:=omega) only [go_sem,seval,eD];try exact rfl) (by simp (disch:=omega) only [go_sem,seval];try exact rfl) ⟨rfl,rfl⟩
        simp [aJ.within,V.within,V.within.all]
       ·have c1:=hargs [93] (by decide) (i+1) (by omega) _ h3
        rw [h3] at h
        simp only [aL,aaJ] at h
        subst h
        simp only [Ny,L1,au] at c1
        have c1':∀ m,aa prog G 279 [.ptr b 0,vs [93]] ⟨B.set b (bI T (i+1))++m,K⟩ (fun o s=>o= .dw (panV (T.length - r1.length) ec)∧s=⟨B.set b (bI T (T.length - r1.length))++m,K⟩):=fun m=>by have:=c1 _ K b (hg2 _ m);simp only [hs2] at this;exact this
        simp only [fh,au]
        refine aa.body func274 rfl ntmps274 (by simp) ?_
        (try refine Wk.aw fun _ ag=>?_);(repeat' (first|((first|refine Wk.hd ?_|refine Wk.i ?_);simp (disch:=omega) only [go_sem,seval,hs1,hs2,hl,hG,hG0,hS,hS0,hg1,hg2])|(refine ay (fun hc=>?_) (fun hc=>?_)<;>try omega)|refine ah (hn _) ?_|refine ah (a1 _) ?_|refine aW (a2 _) ?_|refine cA (c1' _) ?_|first|refine Wk.o ?_|refine Wk.q ‹_› ?_));all_goals (repeat subst ag)
        refine aM (s1:=⟨B.set b (bI T (T.length - r1.length)),K⟩) (by simp [St.cut]) (aR ?_) rfl ⟨rfl,rfl⟩
        simp [aJ.within,V.within,V.within.all]
     ·have a1:=at_ _ o1
      rw [o1,if_pos rfl] at h
      rcases h2:pF f .cond (T.drop (i+1)) with _|(⟨x,r2⟩|⟨r2,e2⟩)
      ·rw [h2] at h;simp [aL] at h
      ·have c2:=(hf f (aaP _)).cond (i+1) (by omega) _ h2
       obtain ⟨m,hkm,hm,d2,e2⟩:=fS h2 (by omega)
       simp only [au] at d2 e2
       subst d2
       simp only [kf,fh,au,e2] at c2
       have c2':∀ m',aa prog G 246 [.ptr b 0] ⟨B.set b (bI T (i+1))++m',K⟩ (fun o s=>o= .ret (vE x)∧s=⟨B.set b (bI T m)++m',K⟩):=fun m'=>by have:=c2 _ K b (hg2 _ m');simp only [hs2] at this;exact this
       rw [h2] at h
       simp only [aL] at h
       rw [gp] at h
       cases hb3:bU T m [41]
       ·rw [hb3,if_neg abE,aaJ] at h
        subst h
        have hx2:=fun m'=>iR (G:=G) hg ⟨B.set b (bI T m)++m',K⟩ b m T hT hx (by omega) (by exact hg2 _ _) [41] (by rw [cW];exact hb3)
        simp only [fh,au,len m hm]
        refine aa.body func274 rfl ntmps274 (by simp) ?_
        (try refine Wk.aw fun _ ag=>?_);(repeat' (first|((first|refine Wk.hd ?_|refine Wk.i ?_);simp (disch:=omega) only [go_sem,seval,hs1,hs2,hl,hG,hG0,hS,hS0,hg1,hg2])|(refine ay (fun hc=>?_) (fun hc=>?_)<;>try omega)|refine ah (hn _) ?_|refine aW (a1 _) ?_|refine aW (c2' _) ?_|refine cA (hx2 _) ?_|first|refine Wk.o ?_|refine Wk.q ‹_› ?_));all_goals (repeat subst ag)
        refine aM (s1:=⟨B.set b (bI T m),K⟩) (by simp [St.cut]) (aR ?_) rfl ⟨rfl,rfl⟩
        simp [aJ.within,V.within,V.within.all]
       ·have hml:=bW hb3
        rw [hb3,if_pos rfl,aaJ] at h
        subst h
        have hx2':∀ m',aa prog G 261 [.ptr b 0,vs [41]] ⟨B.set b (bI T m)++m',K⟩ (fun o s'=>o= .ret (.cF [])∧s'=⟨B.set b (bI T (m+1))++m',K⟩):=fun m'=>by
         have:=iQ (G:=G) hg ⟨B.set b (bI T m)++m',K⟩ b m T hT hx (by omega) (by exact hg2 _ _) [41] (by rw [cW];exact hb3)
         simp only [hs2] at this;exact this
        simp only [fh,au,len (m+1) (by omega)]
        refine aa.body func274 rfl ntmps274 (by simp) ?_
        (try refine Wk.aw fun _ ag=>?_);(repeat' (first|((first|refine Wk.hd ?_|refine Wk.i ?_);simp (disch:=omega) only [go_sem,seval,hs1,hs2,hl,hG,hG0,hS,hS0,hg1,hg2])|(refine ay (fun hc=>?_) (fun hc=>?_)<;>try omega)|refine ah (hn _) ?_|refine aW (a1 _) ?_|refine aW (c2' _) ?_|refine aW (hx2' _) ?_|first|refine Wk.o ?_|refine Wk.q ‹_› ?_));all_goals (repeat subst ag)
        refine aV (v:=vE x) K.length (aaP _) (s1:=⟨B.set b (bI T (m+1)),K⟩) (by simp [St.cut]) (aR ?_) (by simp (disch:=omega) only [go_sem,seval,bQ,bZ,results274,hG,hG0];try exact rfl) (by simp (disch:=omega) only [go_sem,seval,eD];try exact rfl) (by simp (disch:=omega) only [go_sem,seval];try exact rfl) ⟨rfl,rfl⟩
        simp [aJ.within,V.within,V.within.all]
      ·have c2:=(hf f (aaP _)).cond (i+1) (by omega) _ h2
       rw [h2] at h
       simp only [aL,aaJ] at h
       subst h
       simp only [kf,fh,au] at c2
       have c2':∀ m',aa prog G 246 [.ptr b 0] ⟨B.set b (bI T (i+1))++m',K⟩ (fun o s=>o= .dw (panV (T.length - r2.length) e2)∧s=⟨B.set b (bI T (T.length - r2.length))++m',K⟩):=fun m'=>by have:=c2 _ K b (hg2 _ m');simp only [hs2] at this;exact this
       simp only [fh,au]
       refine aa.body func274 rfl ntmps274 (by simp) ?_
       (try refine Wk.aw fun _ ag=>?_);(repeat' (first|((first|refine Wk.hd ?_|refine Wk.i ?_);simp (disch:=omega) only [go_sem,seval,hs1,hs2,hl,hG,hG0,hS,hS0,hg1,hg2])|(refine ay (fun hc=>?_) (fun hc=>?_)<;>try omega)|refine ah (hn _) ?_|refine aW (a1 _) ?_|refine cA (c2' _) ?_|first|refine Wk.o ?_|refine Wk.q ‹_› ?_));all_goals (repeat subst ag)
       refine aM (s1:=⟨B.set b (bI T (T.length - r2.length)),K⟩) (by simp [St.cut]) (aR ?_) rfl ⟨rfl,rfl⟩
       simp [aJ.within,V.within,V.within.all]
