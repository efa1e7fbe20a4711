/- A step of the proofs of the seat's theorems. -/
import Derived.Test.YthnoiikjfcnlhaaGreatDoorZ14
import Derived.Test.YthnoiikjfcnlhaaGreatDoorZ21
import Derived.Test.YthnoiikjfcnlhaaGreatDoorZ22
set_option linter.unusedSimpArgs false
set_option linter.unusedVariables false
section
set_option maxHeartbeats 8000000
set_option maxRecDepth 20000
namespace Go.Proofs.YthnoiikjfcnlhaaGreatDoor
open Go.Abs Go.RowKit
variable {G:World→Nat→Prop}
theorem uo (b:Bool):b8 G 181 [vb b] (vs (if b then gX else fY)):=by
 intro st
 cases b
 all_goals
  refine aa.body Tryz.func181 rfl Tryz.ntmps181 (by simp) ?_
  (try refine Wk.aw fun _ ag=>?_);(repeat' (first|((refine Wk.i ?_);simp -implicitDefEqProofs only [go_sem,seval])|refine Wk.ret fun _ _=>?_|(refine Wk.fin (by assumption) ?_;refine ⟨?_,rfl⟩)|first|refine Wk.o ?_|refine Wk.q (by assumption) ?_));all_goals (repeat subst ag)
  all_goals rfl
theorem xg (b:Bool):b8 G 165 [vb b] (vs (if b then gX else fY)):=by
 intro st
 cases b
 all_goals
  refine aa.body Tryz.func165 rfl Tryz.ntmps165 (by simp) ?_
  (try refine Wk.aw fun _ ag=>?_);(repeat' (first|((first|refine Wk.hd ?_|refine Wk.i ?_);simp -implicitDefEqProofs only [go_sem,seval])|refine ah (uo _ _) ?_|refine Wk.ret fun _ _=>?_|(refine Wk.fin (by assumption) ?_;refine ⟨?_,rfl⟩)|first|refine Wk.o ?_|refine Wk.q (by assumption) ?_));all_goals (repeat subst ag)
  all_goals rfl
def GT (G:World→Nat→Prop):Prop:=∀ w0 b w,G w0 b→Below b w0 w→Lib.TabIs Tryz.prog w "internal/strconv.uint64pow10" .u64 Lib.pow10Tab
theorem vl:∀ n,Lib.decDigits n=rL n:=by
 intro n
 induction n using Nat.strongRecOn with
 |_ n ih=>
  rw [Lib.decDigits]
  by_cases h:n<10
  ·rw [dif_pos h,AB h]
  ·rw [dif_neg h,DM h,ih _ (by omega)]
theorem Fp (n:Int):Lib.itoa n=xY n:=by
 rw [Lib.itoa,xY]
 split
 ·rw [vl]
 ·rw [vl]
  congr 1
  omega
theorem Pc (hg:GT G) (n:Int) (h1: -9223372036854775808≤n) (h2:n≤9223372036854775807):b8 G 166 [ai n] (vs (xY n)):=by
 intro st c w cargs hc hG hs hr
 have ha:cargs= #[.int .i64 n]:=by
  have h0:=hr 0 (by simp)
  simp only [List.getD_cons_zero] at h0
  generalize hq:cargs.getD 0 undef=q at h0
  cases h0 with|d _ _ h0=>?_
  cases h0
  apply Array.ext
  ·simpa using hs
  ·intro i hi hi2
   have:i=0:=by simp at hi2;omega
   subst this
   simpa [Array.getD_eq_getD_getElem?,hi] using hq
 subst ha
 refine (Any.strconv_Itoa Tryz.H9 n h1 h2 w (hg _ _ _ hG hc.below)).mono ?_
 rintro e w' ⟨rfl,k,os,rfl⟩
 refine ⟨.ret (vs (xY n)),st,c,⟨rfl,rfl⟩,Ext.refl c,hc.later (Below.QD w k os),?_⟩
 rw [Fp]
 exact .d _ _ (.str _ _ (by simp))
end Go.Proofs.YthnoiikjfcnlhaaGreatDoor
end
section
set_option maxHeartbeats 8000000
set_option maxRecDepth 20000
namespace Go.Proofs.YthnoiikjfcnlhaaGreatDoor
open Go.Abs
attribute [local irreducible] AW OX cG GQ bK bO bz aY aa
variable {G:World→Nat→Prop}
theorem LU (x:Ex):x.enc.all Abs.D.one=true:=by rw [Ex.aP,aX.aP];rfl
attribute [go_sem] LU
theorem I3 {T:List Tk} {f:Nat} (hT:T.length≤1048576) (hf:∀ g≤f,mC G T g) (s:az) (i:Nat) (hi:i≤T.length) (r:dF Ex) (h:pF (f+1) (.args s) (T.drop i)=some r):
  b8 G 212 [jA T,ai i,vs s,vb false] (pW T r):=by
 intro st
 have len:∀ j,j≤T.length→T.length - (T.drop j).length=j:=fun j hj=>by simp only [List.length_drop];omega
 have hop:=nB (G:=G) T i s hT (by omega)
 cases hb:bU T i s
 ·rw [hb] at hop
  have h':pF f (.items s []) (T.drop i)=some r:=by
   simp only [pF] at h
   by_cases hil:i<T.length
   ·rw [bM hil] at h ⊢
    simp only [dj hil hb,Bool.false_eq_true,if_false] at h
    exact h
   ·rw [bk hil] at h ⊢;exact h
  refine aa.body Tryz.func212 rfl Tryz.ntmps212 (by simp) ?_
  (try with_reducible refine Wk.aw fun _ ag=>?_);(repeat' (first|((with_reducible first|refine Wk.hd ?_|refine Wk.i ?_);simp -implicitDefEqProofs (disch:=first|omega|(simp only [go_sem];try omega)) only [go_sem,seval])|refine ah (hop _) ?_|with_reducible refine Wk.o ?_));all_goals (repeat subst ag)
  refine AW.cD (fun x:List Ex×Nat×Nat=>[(0,jA T),(1,ai ↑x.2.1),(2,vs s),(3,vb false),(12,lz st.toks.length (x.1.map Ex.enc)),(13,.bh)]) (fun _=>[]) (fun x=>k9 47 10 (x.1.map Ex.enc))
   (fun x=>x.2.1≤T.length∧x.1.length≤x.2.1∧x.2.2≤f∧pF x.2.2 (.items s x.1) (T.drop x.2.1)=some r) (fun x=>x.2.2) ([],i,f) (by simp -implicitDefEqProofs (disch:=first|omega|(simp only [go_sem];try omega)) only [go_sem,seval]<;>first|rfl|exact ⟨rfl,rfl⟩|skip) (by simp -implicitDefEqProofs (disch:=first|omega|(simp only [go_sem];try omega)) only [go_sem,seval]<;>first|rfl|exact ⟨rfl,rfl⟩|skip) ⟨hi,by simp,Nat.le_refl _,h'⟩ ?_
  rintro ⟨acc,k,g⟩ ⟨p1,p2,p3,p4⟩
  simp only at p1 p2 p3 p4
  obtain ⟨g,rfl⟩:∃ g',g=g'+1:=by
   cases g with
   |zero=>simp [pF] at p4
   |succ g=>exact ⟨g,rfl⟩
  simp only [pF] at p4
  rcases h2:pF g .cond (T.drop k) with _|(⟨x,r2⟩|⟨r2,e2⟩)
  ·rw [h2] at p4;simp [aL] at p4
  ·have c2:=((hf g (by omega)).cond k p1 _ h2).ok
   obtain ⟨m,hkm,hm,d2,e2⟩:=fS h2 p1
   simp only [au] at d2 e2
   subst d2
   rw [e2] at c2
   rw [h2] at p4
   simp only [aL] at p4
   have hop1:=nB (G:=G) T m s hT (by omega)
   have hop2:=nB (G:=G) T m [44] hT (by omega)
   cases hb1:bU T m s
   ·rw [hb1] at hop1
    cases hb2:bU T m [44]
    ·rw [hb2] at hop2
     have hm':=fI (G:=G) T m hT (by omega)
     have hr:r= .err (T.drop m) (bD T m):=by
      by_cases hml:m<T.length
      ·rw [bM hml] at p4
       simp only [dj hml hb1,dj hml hb2,Bool.false_eq_true,if_false,Option.some.injEq] at p4
       rw [←p4,bD,if_neg (by omega),bM hml]
      ·rw [bk hml] at p4
       simp only [Option.some.injEq] at p4
       rw [←p4,bD,if_pos (by omega),bk hml]
     subst hr
     (try with_reducible refine Wk.aw fun _ ag=>?_);(repeat' (first|((with_reducible first|refine Wk.hd ?_|refine Wk.i ?_);simp -implicitDefEqProofs (disch:=first|omega|(simp only [go_sem];try omega)) only [go_sem,seval])|refine ah (c2 _) ?_|refine ah ((by first|exact hop1 _|exact hop2 _)) ?_|refine ah (hm' _) ?_|with_reducible refine Wk.ret fun _ _=>?_|refine Wk.fin (by assumption) ?_|with_reducible first|refine Wk.o ?_|refine Wk.q (by assumption) ?_));all_goals (repeat subst ag)
     all_goals exact ⟨by simp only [pW];rw [len m hm],rfl⟩
    ·rw [hb2] at hop2
     have hml:=bW hb2
     rw [bM hml] at p4
     simp only [dj hml hb1,eH hb2,Bool.false_eq_true,if_false,if_true] at p4
     (try with_reducible refine Wk.aw fun _ ag=>?_);(repeat' (first|((with_reducible first|refine Wk.hd ?_|refine Wk.i ?_);simp -implicitDefEqProofs (disch:=first|omega|(simp only [go_sem];try omega)) only [go_sem,seval])|refine ah (c2 _) ?_|refine ah ((by first|exact hop1 _|exact hop2 _)) ?_|with_reducible first|refine Wk.o ?_|refine Wk.q (by assumption) ?_));all_goals (repeat subst ag)
     ·(refine ⟨(acc++[x],m+1,g),gk.mk ?_ ?_ ?_ (by simp -implicitDefEqProofs (disch:=first|omega|(simp only [go_sem];try omega)) only [go_sem,seval,List.map_append]) (by simp -implicitDefEqProofs (disch:=first|omega|(simp only [go_sem];try omega)) only [go_sem,seval,List.map_append]) (by first|rfl|(simp -implicitDefEqProofs (disch:=first|omega|(simp only [go_sem];try omega)) only [go_sem,seval,List.map_append];all_goals omega)) (by first|rfl|(simp -implicitDefEqProofs (disch:=first|omega|(simp only [go_sem];try omega)) only [go_sem,seval,List.map_append];all_goals omega))⟩;focus (try (simp -implicitDefEqProofs (disch:=first|omega|(simp only [go_sem];try omega)) only [go_sem,seval,List.map_append]);try ((repeat' apply And.intro)<;>first|rfl|trivial|refine aD ?_|refine aE ?_|refine ax ?_|skip)))
      ·refine ⟨by simp only;omega,by simp only [List.length_append,List.length_singleton];omega,by simp only;omega,p4⟩
      ·simp only;omega
   ·rw [hb1] at hop1
    have hml:=bW hb1
    rw [bM hml] at p4
    simp only [eH hb1,if_true,Option.some.injEq] at p4
    subst p4
    (try with_reducible refine Wk.aw fun _ ag=>?_);(repeat' (first|((with_reducible first|refine Wk.hd ?_|refine Wk.i ?_);simp -implicitDefEqProofs (disch:=first|omega|(simp only [go_sem];try omega)) only [go_sem,seval])|refine ah (c2 _) ?_|refine ah ((by first|exact hop1 _|exact hop2 _)) ?_|with_reducible refine Wk.ret fun _ _=>?_|refine Wk.fin (by assumption) ?_|with_reducible first|refine Wk.o ?_|refine Wk.q (by assumption) ?_));all_goals (repeat subst ag)
    all_goals exact ⟨by simp only [pW,Ex.args,Ex.keys,List.map_append,List.map_cons,List.map_nil,len (m+1) (by omega)];rfl,rfl⟩
  ·have c2:=((hf g (by omega)).cond k p1 _ h2).err
   have he:=fJ h2
   rw [h2] at p4
   simp only [aL,Option.some.injEq] at p4
   subst p4
   (try with_reducible refine Wk.aw fun _ ag=>?_);(repeat' (first|((with_reducible first|refine Wk.hd ?_|refine Wk.i ?_);simp -implicitDefEqProofs (disch:=first|omega|(simp only [go_sem];try omega)) only [go_sem,seval])|(refine ay (fun hc=>?_) (fun hc=>?_)<;>try (exfalso;first|omega|contradiction))|refine iI (c2 _) fun x_=>?_|with_reducible refine Wk.ret fun _ _=>?_|refine Wk.fin (by assumption) ?_|with_reducible first|refine Wk.o ?_|refine Wk.q (by assumption) ?_));all_goals (repeat subst ag)
   all_goals exact ⟨rfl,rfl⟩
 ·rw [hb] at hop
  have hil:=bW hb
  rw [bM hil] at h
  simp only [pF,eH hb,if_true,Option.some.injEq] at h
  subst h
  refine aa.body Tryz.func212 rfl Tryz.ntmps212 (by simp) ?_
  (try with_reducible refine Wk.aw fun _ ag=>?_);(repeat' (first|((with_reducible first|refine Wk.hd ?_|refine Wk.i ?_);simp -implicitDefEqProofs (disch:=first|omega|(simp only [go_sem];try omega)) only [go_sem,seval])|refine ah (hop _) ?_|with_reducible refine Wk.ret fun _ _=>?_|refine Wk.fin (by assumption) ?_|with_reducible first|refine Wk.o ?_|refine Wk.q (by assumption) ?_));all_goals (repeat subst ag)
  all_goals exact ⟨by simp only [pW];rw [len (i+1) (by omega)];rfl,rfl⟩
end Go.Proofs.YthnoiikjfcnlhaaGreatDoor
end
section
set_option maxHeartbeats 8000000
set_option maxRecDepth 20000
namespace Go.Abs
open Go.RowKit
def zu (e1 s1 e2 s2:Nat) (ks ls:List (List D)):List (Nat×Nat×Nat):=k9 e1 s1 ks++k9 e2 s2 ls
theorem Dp (e1 s1 e2 s2:Nat):zu e1 s1 e2 s2 [] []=[]:=rfl
section
variable {P:Program} {t:TypeId} {st:St}
theorem sS (N M:Nat) (e1 s1 e2 s2:Nat) (ks ls:List (List D)):(lz M ks).within N (M+(zu e1 s1 e2 s2 ks ls).length)=true:=by cases ks<;>cases ls<;>simp [lz,k9,zu,V.within]
theorem sU (N M:Nat) (e1 s1 e2 s2:Nat) (ks ls:List (List D)) (h:ls.length≤ks.length):(lz (M+1) ls).within N (M+(zu e1 s1 e2 s2 ks ls).length)=true:=by
 cases ks<;>cases ls<;>simp [lz,k9,zu,V.within] at h ⊢
theorem I4 (e1 s1 e2 s2 by_:Nat) (xs ks ls:List (List D)) (B:List aJ) (T:List (Nat×Nat×Nat)) (h0:0<s1) (hx:0<xs.length) (hl:ls.length≤ks.length) (h1:(ks.length+xs.length)*by_≤140737488355328) (h2:ks.length+xs.length≤9223372036854775807):
  jt (some s1) true true e1 s1 by_ xs (lz T.length ks) ⟨B,T++zu e1 s1 e2 s2 ks ls⟩=some (lz T.length (ks++xs),⟨B,T++zu e1 s1 e2 s2 (ks++xs) ls⟩):=by
 have hm:maxLen=9223372036854775807:=by decide
 have hxe:xs.isEmpty=false:=by cases xs<;>simp_all
 cases ks with
 |nil=>
  have:ls=[]:=by cases ls<;>simp_all
  subst this
  simp only [List.length_nil,Nat.zero_add] at h1 h2
  cases xs with
  |nil=>simp at hx
  |cons x xs=>simp [jt,lz,k9,zu,ff,hm,h0];simp at h1 h2;exact ⟨h1,h2⟩
 |cons y es=>
  simp only [jt,lz,k9,zu,ff,hm,h0]
  rw [if_pos ⟨trivial,trivial,trivial⟩,if_pos ⟨by simp,trivial,by simpa using h1,by simpa using h2⟩,hxe]
  simp;omega
theorem I5 (e1 s1 e2 s2 by_:Nat) (xs ks ls:List (List D)) (B:List aJ) (T:List (Nat×Nat×Nat)) (h0:0<s2) (hx:0<xs.length) (hk:0<ks.length) (h1:(ls.length+xs.length)*by_≤140737488355328) (h2:ls.length+xs.length≤9223372036854775807):
  jt (some s2) true true e2 s2 by_ xs (lz (T.length+1) ls) ⟨B,T++zu e1 s1 e2 s2 ks ls⟩=some (lz (T.length+1) (ls++xs),⟨B,T++zu e1 s1 e2 s2 ks (ls++xs)⟩):=by
 have hm:maxLen=9223372036854775807:=by decide
 have hxe:xs.isEmpty=false:=by cases xs<;>simp_all
 cases ks with
 |nil=>simp at hk
 |cons k ks=>
 cases ls with
 |nil=>
  simp only [List.length_nil,Nat.zero_add] at h1 h2
  cases xs with
  |nil=>simp at hx
  |cons x xs=>simp [jt,lz,k9,zu,ff,hm,h0];simp at h1 h2;exact ⟨h1,h2⟩
 |cons y es=>
  simp only [jt,lz,k9,zu,ff,hm,h0]
  rw [if_pos ⟨trivial,trivial,trivial⟩,if_pos ⟨by simp,trivial,by simpa using h1,by simpa using h2⟩,hxe]
  simp;omega
attribute [go_sem] Dp sS sU I4 I5
end
end Go.Abs
namespace Go.Proofs.YthnoiikjfcnlhaaGreatDoor
open Go.Abs
attribute [local irreducible] AW OX cG GQ bK bO bz aY aa
variable {G:World→Nat→Prop}
theorem gG (a b:List az):bt (a++b)=bt a++bt b:=by induction a<;>simp_all [bt]
theorem I6 {T:List Tk} {f:Nat} (hT:T.length≤1048576) (hX:∀ t∈T,t.text.length≤1048576) (hf:∀ g≤f,mC G T g) (i:Nat) (hi:i≤T.length) (r:dF Ex) (h:pF (f+1) .kW (T.drop i)=some r):
  b8 G 212 [jA T,ai i,vs [125],vb true] (pW T r):=by
 intro st
 have len:∀ j,j≤T.length→T.length - (T.drop j).length=j:=fun j hj=>by simp only [List.length_drop];omega
 have hop:=nB (G:=G) T i [125] hT (by omega)
 cases hb:bU T i [125]
 ·rw [hb] at hop
  have h':pF f (.xR [] []) (T.drop i)=some r:=by
   simp only [pF] at h
   by_cases hil:i<T.length
   ·rw [bM hil] at h ⊢
    simp only [dj hil hb,Bool.false_eq_true,if_false] at h
    exact h
   ·rw [bk hil] at h ⊢;exact h
  refine aa.body Tryz.func212 rfl Tryz.ntmps212 (by simp) ?_
  (try with_reducible refine Wk.aw fun _ ag=>?_);(repeat' (first|((with_reducible first|refine Wk.hd ?_|refine Wk.i ?_);simp -implicitDefEqProofs (disch:=first|omega|(simp only [go_sem];try omega)) only [go_sem,seval])|refine ah (hop _) ?_|with_reducible refine Wk.o ?_));all_goals (repeat subst ag)
  refine AW.cD (fun x:List Ex×List az×Nat×Nat=>[(0,jA T),(1,ai ↑x.2.2.1),(2,vs [125]),(3,vb true),(12,lz (st.toks.length+1) (x.1.map Ex.enc)),(13,lz st.toks.length (bt x.2.1))]) (fun _=>[]) (fun x=>zu 9 1 47 10 (bt x.2.1) (x.1.map Ex.enc))
   (fun x=>x.2.2.1≤T.length∧x.1.length≤x.2.2.1∧x.1.length=x.2.1.length∧x.2.2.2≤f∧pF x.2.2.2 (.xR x.1 x.2.1) (T.drop x.2.2.1)=some r) (fun x=>x.2.2.2) ([],[],i,f) (by simp -implicitDefEqProofs (disch:=first|omega|(simp only [go_sem];try omega)) only [go_sem,seval,bt]<;>first|rfl|exact ⟨rfl,rfl⟩|skip) (by simp -implicitDefEqProofs (disch:=first|omega|(simp only [go_sem];try omega)) only [go_sem,seval,bt]<;>first|rfl|exact ⟨rfl,rfl⟩|skip) ⟨hi,by simp,by simp,Nat.le_refl _,h'⟩ ?_
  rintro ⟨acc,ks,k,g⟩ ⟨p1,p2,p2',p3,p4⟩
  simp only at p1 p2 p2' p3 p4
  obtain ⟨g,rfl⟩:∃ g',g=g'+1:=by
   cases g with
   |zero=>simp [pF] at p4
   |succ g=>exact ⟨g,rfl⟩
  simp only [pF] at p4
  by_cases hk:k<T.length
  ·have hxk:=hX _ (mG hk)
   have hkey:=Fe (G:=G) (T.getD k default) hxk
   rw [bM hk] at p4
   simp only at p4
   cases hkb:kq (T.getD k default)
   ·rw [hkb] at p4 hkey
    rw [if_neg Bool.false_ne_true] at p4
    simp only [Option.some.injEq] at p4
    rw [←bM hk] at p4
    subst p4
    have hm':=fI (G:=G) T k hT (by omega)
    rw [bD,if_neg (by omega)] at hm'
    (try with_reducible refine Wk.aw fun _ ag=>?_);(repeat' (first|((with_reducible first|refine Wk.hd ?_|refine Wk.i ?_);simp -implicitDefEqProofs (disch:=first|omega|(simp only [go_sem];try omega)) only [go_sem,seval])|(refine ay (fun hc=>?_) (fun hc=>?_)<;>try (exfalso;first|omega|contradiction))|refine ah (hkey _) ?_|refine ah (hm' _) ?_|with_reducible refine Wk.ret fun _ _=>?_|refine Wk.fin (by assumption) ?_|with_reducible first|refine Wk.o ?_|refine Wk.q (by assumption) ?_));all_goals (repeat subst ag)
    all_goals exact ⟨by simp only [pW];rw [len k p1],rfl⟩
   ·rw [hkb] at p4 hkey
    rw [if_pos rfl,gp] at p4
    have hop1:=nB (G:=G) T (k+1) [58] hT (by omega)
    cases hb1:bU T (k+1) [58]
    ·rw [hb1] at hop1 p4
     rw [if_neg Bool.false_ne_true] at p4
     simp only [Option.some.injEq] at p4
     subst p4
     have hm':=fI (G:=G) T (k+1) hT (by omega)
     (try with_reducible refine Wk.aw fun _ ag=>?_);(repeat' (first|((with_reducible first|refine Wk.hd ?_|refine Wk.i ?_);simp -implicitDefEqProofs (disch:=first|omega|(simp only [go_sem];try omega)) only [go_sem,seval])|(refine ay (fun hc=>?_) (fun hc=>?_)<;>try (exfalso;first|omega|contradiction))|refine ah (hkey _) ?_|refine ah (hop1 _) ?_|refine ah (hm' _) ?_|with_reducible refine Wk.ret fun _ _=>?_|refine Wk.fin (by assumption) ?_|with_reducible first|refine Wk.o ?_|refine Wk.q (by assumption) ?_));all_goals (repeat subst ag)
     all_goals exact ⟨by simp only [pW];rw [len (k+1) (by omega)],rfl⟩
    ·rw [hb1] at hop1 p4
     rw [if_pos rfl] at p4
     have hkl1:=bW hb1
     rcases h2:pF g .cond (T.drop (k+1+1)) with _|(⟨x,r2⟩|⟨r2,e2⟩)
     ·rw [h2] at p4;simp [aL] at p4
     ·have c2:=((hf g (by omega)).cond (k+1+1) (by omega) _ h2).ok
      obtain ⟨m,hkm,hm,d2,e2⟩:=fS h2 (by omega)
      simp only [au] at d2 e2
      subst d2
      rw [e2] at c2
      rw [h2] at p4
      simp only [aL] at p4
      have hop2:=nB (G:=G) T m [125] hT (by omega)
      have hop3:=nB (G:=G) T m [44] hT (by omega)
      cases hb2:bU T m [125]
      ·rw [hb2] at hop2
       cases hb3:bU T m [44]
       ·rw [hb3] at hop3
        have hm':=fI (G:=G) T m hT (by omega)
        have hr:r= .err (T.drop m) (bD T m):=by
         by_cases hml:m<T.length
         ·rw [bM hml] at p4
          simp only [dj hml hb2,dj hml hb3,Bool.false_eq_true,if_false,Option.some.injEq] at p4
          rw [←p4,bD,if_neg (by omega),bM hml]
         ·rw [bk hml] at p4
          simp only [Option.some.injEq] at p4
          rw [←p4,bD,if_pos (by omega),bk hml]
        subst hr
        (try with_reducible refine Wk.aw fun _ ag=>?_);(repeat' (first|((with_reducible first|refine Wk.hd ?_|refine Wk.i ?_);simp -implicitDefEqProofs (disch:=first|omega|(simp only [go_sem];try omega)) only [go_sem,seval])|(refine ay (fun hc=>?_) (fun hc=>?_)<;>try (exfalso;first|omega|contradiction))|refine ah (hkey _) ?_|refine ah (c2 _) ?_|refine ah ((by first|exact hop1 _|exact hop2 _|exact hop3 _)) ?_|refine ah (hm' _) ?_|with_reducible refine Wk.ret fun _ _=>?_|refine Wk.fin (by assumption) ?_|with_reducible first|refine Wk.o ?_|refine Wk.q (by assumption) ?_));all_goals (repeat subst ag)
        all_goals exact ⟨by simp only [pW];rw [len m hm],rfl⟩
       ·rw [hb3] at hop3
        have hml:=bW hb3
        rw [bM hml] at p4
        simp only [dj hml hb2,eH hb3,Bool.false_eq_true,if_false,if_true] at p4
        (try with_reducible refine Wk.aw fun _ ag=>?_);(repeat' (first|((with_reducible first|refine Wk.hd ?_|refine Wk.i ?_);simp -implicitDefEqProofs (disch:=first|omega|(simp only [go_sem];try omega)) only [go_sem,seval])|(refine ay (fun hc=>?_) (fun hc=>?_)<;>try (exfalso;first|omega|contradiction))|refine ah (hkey _) ?_|refine ah (c2 _) ?_|refine ah ((by first|exact hop1 _|exact hop2 _|exact hop3 _)) ?_|with_reducible first|refine Wk.o ?_|refine Wk.q (by assumption) ?_));all_goals (repeat subst ag)
        ·(refine ⟨(acc++[x],ks++[(T.getD k default).text],m+1,g),gk.mk ?_ ?_ ?_ (by simp -implicitDefEqProofs (disch:=first|omega|(simp only [go_sem];try omega)) only [go_sem,seval,List.map_append,gG,bt]) (by simp -implicitDefEqProofs (disch:=first|omega|(simp only [go_sem];try omega)) only [go_sem,seval,List.map_append,gG,bt]) (by first|rfl|(simp -implicitDefEqProofs (disch:=first|omega|(simp only [go_sem];try omega)) only [go_sem,seval,List.map_append,gG,bt];all_goals omega)) (by first|rfl|(simp -implicitDefEqProofs (disch:=first|omega|(simp only [go_sem];try omega)) only [go_sem,seval,List.map_append,gG,bt];all_goals omega))⟩;focus (try (simp -implicitDefEqProofs (disch:=first|omega|(simp only [go_sem];try omega)) only [go_sem,seval,List.map_append,gG,bt]);try ((repeat' apply And.intro)<;>first|rfl|trivial|refine aD ?_|refine aE ?_|refine ax ?_|skip)))
         ·refine ⟨by simp only;omega,by simp only [List.length_append,List.length_singleton];omega,by simp only [List.length_append,List.length_singleton];omega,by simp only;omega,p4⟩
         ·simp only;omega
      ·rw [hb2] at hop2
       have hml:=bW hb2
       rw [bM hml] at p4
       simp only [eH hb2,if_true,Option.some.injEq] at p4
       subst p4
       (try with_reducible refine Wk.aw fun _ ag=>?_);(repeat' (first|((with_reducible first|refine Wk.hd ?_|refine Wk.i ?_);simp -implicitDefEqProofs (disch:=first|omega|(simp only [go_sem];try omega)) only [go_sem,seval])|(refine ay (fun hc=>?_) (fun hc=>?_)<;>try (exfalso;first|omega|contradiction))|refine ah (hkey _) ?_|refine ah (c2 _) ?_|refine ah ((by first|exact hop1 _|exact hop2 _)) ?_|with_reducible refine Wk.ret fun _ _=>?_|refine Wk.fin (by assumption) ?_|with_reducible first|refine Wk.o ?_|refine Wk.q (by assumption) ?_));all_goals (repeat subst ag)
       all_goals exact ⟨by simp only [pW,Ex.args,Ex.keys,List.map_append,List.map_cons,List.map_nil,gG,bt,len (m+1) (by omega)],rfl⟩
     ·have c2:=((hf g (by omega)).cond (k+1+1) (by omega) _ h2).err
      have he:=fJ h2
      rw [h2] at p4
      simp only [aL,Option.some.injEq] at p4
      subst p4
      (try with_reducible refine Wk.aw fun _ ag=>?_);(repeat' (first|((with_reducible first|refine Wk.hd ?_|refine Wk.i ?_);simp -implicitDefEqProofs (disch:=first|omega|(simp only [go_sem];try omega)) only [go_sem,seval])|(refine ay (fun hc=>?_) (fun hc=>?_)<;>try (exfalso;first|omega|contradiction))|refine ah (hkey _) ?_|refine ah (hop1 _) ?_|refine iI (c2 _) fun x_=>?_|with_reducible refine Wk.ret fun _ _=>?_|refine Wk.fin (by assumption) ?_|with_reducible first|refine Wk.o ?_|refine Wk.q (by assumption) ?_));all_goals (repeat subst ag)
      all_goals exact ⟨rfl,rfl⟩
  ·rw [bk hk] at p4
   simp only [Option.some.injEq] at p4
   subst p4
   have hm':=fI (G:=G) T k hT (by omega)
   rw [bD,if_pos (by omega)] at hm'
   (try with_reducible refine Wk.aw fun _ ag=>?_);(repeat' (first|((with_reducible first|refine Wk.hd ?_|refine Wk.i ?_);simp -implicitDefEqProofs (disch:=first|omega|(simp only [go_sem];try omega)) only [go_sem,seval])|(refine ay (fun hc=>?_) (fun hc=>?_)<;>try (exfalso;first|omega|contradiction))|refine ah (hm' _) ?_|with_reducible refine Wk.ret fun _ _=>?_|refine Wk.fin (by assumption) ?_|with_reducible first|refine Wk.o ?_|refine Wk.q (by assumption) ?_));all_goals (repeat subst ag)
   all_goals exact ⟨by simp only [pW,List.length_nil];rw [show T.length - 0=k by omega],rfl⟩
 ·rw [hb] at hop
  have hil:=bW hb
  rw [bM hil] at h
  simp only [pF,eH hb,if_true,Option.some.injEq] at h
  subst h
  refine aa.body Tryz.func212 rfl Tryz.ntmps212 (by simp) ?_
  (try with_reducible refine Wk.aw fun _ ag=>?_);(repeat' (first|((with_reducible first|refine Wk.hd ?_|refine Wk.i ?_);simp -implicitDefEqProofs (disch:=first|omega|(simp only [go_sem];try omega)) only [go_sem,seval])|refine ah (hop _) ?_|with_reducible refine Wk.ret fun _ _=>?_|refine Wk.fin (by assumption) ?_|with_reducible first|refine Wk.o ?_|refine Wk.q (by assumption) ?_));all_goals (repeat subst ag)
  all_goals exact ⟨by simp only [pW];rw [len (i+1) (by omega)];rfl,rfl⟩
end Go.Proofs.YthnoiikjfcnlhaaGreatDoor
end
section
set_option maxHeartbeats 8000000
set_option maxRecDepth 20000
namespace Go.Proofs.YthnoiikjfcnlhaaGreatDoor
open Go.Abs
attribute [local irreducible] AW OX cG GQ bK bO bz aY aa
variable {G:World→Nat→Prop}
theorem Fq (a b:List az):bt (a++b)=bt a++bt b:=by simp [bt]
theorem oe {l:List az} {i:Nat} (h:i<l.length):bt (l.take (i+1))=bt (l.take i)++bt [l.getD i default]:=by rw [ej h,Fq]
theorem Fs (hg:GT G):∀ v:aX,∀ level,dI level v=0→gU v→lX v→cj v≤1099511627776→b8 G 144 [vV v] (vs (ZA v)):=by
 intro v
 induction v using aX.ind with
 |h v ih=>
  intro level hck fv iv hb st
  obtain ⟨a1,a2,a3,a4,a5⟩:=(dX v).1 fv
  obtain ⟨⟨i1,i2⟩,i3⟩:=(l6 v).1 iv
  obtain ⟨hnode,hcl⟩:=LN hck
  obtain ⟨k1,k2,n1,n2,n3,n4,n5⟩:=O5 hnode
  have hq:=Dm (G:=G) v.str (by omega)
  have hd:=Pc hg v.int (by omega) (by omega)
  have hfb:=xg (G:=G) v.bool
  rw [CO]
  by_cases hk:v.kind=4∨v.kind=5
  ·have hparts:(if v.kind=4 then [91]++c6 [44,32] (v.list.map ZA)++[93] else if v.kind=5 then [123]++c6 [44,32] (ZA.nR v.list v.keys)++[125] else jc)=if v.kind=4 then 91::(c6 [44,32] (cO v)++[93]) else 123::(c6 [44,32] (cO v)++[125]):=by
    rcases hk with hk|hk
    ·simp [hk,cO]
    ·simp [hk,cO]
   rw [if_neg (by omega),if_neg (by omega),if_neg (by omega),hparts]
   have hpl:=BV iv
   have hlen:=BU v
   have hj:=gz (sep:=[44,32]) (by simp) (cO v)
   have hjn:=IX (G:=G) (cO v) (by omega) (by omega)
   have hbl:=fun x (hx:x∈v.list)=>rP hx
   have hb':=hb
   rw [jK] at hb'
   have hnl:bt []=[]:=rfl
   rcases hk with hk5|hk5
   ·refine aa.body Tryz.func144 rfl Tryz.ntmps144 (by simp) ?_
    (try with_reducible refine Wk.aw fun _ ag=>?_);(repeat' (first|((with_reducible refine Wk.i ?_);simp -implicitDefEqProofs (disch:=first|omega|(simp only [go_sem,List.length_take,List.length_drop];try omega)) only [go_sem,seval,hk5])|with_reducible refine Wk.o ?_));all_goals (repeat subst ag)
    refine AW.cD (fun i:Nat=>[(1,.ptr st.aj.length 0),(3,lz st.toks.length (bt ((cO v).take i))),(28,.d (.sl (v.list.map aX.enc))),(29,ai ↑v.list.length),(30,ai ↑i)]) (fun _=>[.cells (v.enc.map .d)]) (fun i=>k9 9 1 (bt ((cO v).take i))) (fun i=>i≤v.list.length) (fun i=>v.list.length - i) 0 (by simp -implicitDefEqProofs (disch:=first|omega|(simp only [go_sem,List.length_take,List.length_drop];try omega)) only [go_sem,seval,hnl]<;>first|rfl|exact ⟨rfl,rfl⟩|skip) (by simp -implicitDefEqProofs (disch:=first|omega|(simp only [go_sem,List.length_take,List.length_drop];try omega)) only [go_sem,seval,hnl]<;>first|rfl|exact ⟨rfl,rfl⟩|skip) (by omega) ?_
    intro i hi
    have hel:(bt ((cO v).take i)).length=i:=by rw [iP,List.length_take];omega
    by_cases hlt:i<v.list.length
    ·have hx:=aB hlt
     have hgi:=ZQ (l:=cO v) (i:=i) (by omega)
     have hst:=oe (l:=cO v) (i:=i) (by omega)
     have hlx:=l7 _ (i3 _ hx)
     have hcx:=ih _ hx (level+1) (hcl _ hx) (a5 _ hx) (i3 _ hx) (by have:=hbl _ hx;omega)
     have hpg:(cO v).getD i default=ZA (v.list.getD i default):=by
      rw [cO,if_neg (by omega)];simp [List.getD_eq_getElem?_getD,hlt]
     rw [hpg] at hst hgi
     have hst':bt ((cO v).take (i+1))=bt ((cO v).take i)++[[D.str (ZA (v.list.getD i default))]]:=hst
     (try with_reducible refine Wk.aw fun _ ag=>?_);(repeat' (first|((with_reducible first|refine Wk.hd ?_|refine Wk.i ?_);simp -implicitDefEqProofs (disch:=first|omega|(simp only [go_sem,List.length_take,List.length_drop];try omega)) only [go_sem,seval,hk5])|(refine ay (fun hc=>?_) (fun hc=>?_)<;>try (exfalso;first|omega|contradiction|exact fQ hc ‹_› |exact fQ ‹_› hc))|refine ah (hcx _) ?_|with_reducible first|refine Wk.o ?_|refine Wk.q (by assumption) ?_));all_goals (repeat subst ag)
     ·(refine ⟨i+1,gk.mk ?_ ?_ ?_ (by simp -implicitDefEqProofs (disch:=first|omega|(simp only [go_sem,List.length_take,List.length_drop];try omega)) only [go_sem,seval,hst']) (by simp -implicitDefEqProofs (disch:=first|omega|(simp only [go_sem,List.length_take,List.length_drop];try omega)) only [go_sem,seval,hst']) (by first|rfl|(simp -implicitDefEqProofs (disch:=first|omega|(simp only [go_sem,List.length_take,List.length_drop];try omega)) only [go_sem,seval,hst'];all_goals omega)) (by first|rfl|(simp -implicitDefEqProofs (disch:=first|omega|(simp only [go_sem,List.length_take,List.length_drop];try omega)) only [go_sem,seval,hst'];all_goals omega))⟩;focus (try (simp -implicitDefEqProofs (disch:=first|omega|(simp only [go_sem,List.length_take,List.length_drop];try omega)) only [go_sem,seval,hst']);try ((repeat' apply And.intro)<;>first|rfl|trivial|refine aD ?_|refine aE ?_|refine ax ?_|skip)))
      all_goals first|omega|rw [hst']|skip
    ·have:(cO v).take i=cO v:=List.take_of_length_le (by omega)
     rw [this]
     (try with_reducible refine Wk.aw fun _ ag=>?_);(repeat' (first|((with_reducible first|refine Wk.hd ?_|refine Wk.i ?_);simp -implicitDefEqProofs (disch:=first|omega|(simp only [go_sem,List.length_take,List.length_drop];try omega)) only [go_sem,seval,hk5])|(refine ay (fun hc=>?_) (fun hc=>?_)<;>try (exfalso;first|omega|contradiction|exact fQ hc ‹_› |exact fQ ‹_› hc))|refine ah (hjn _) ?_|with_reducible refine Wk.ret fun _ _=>?_|(refine Wk.fin (by assumption) ?_;refine ⟨?_,rfl⟩)|with_reducible first|refine Wk.o ?_|refine Wk.q (by assumption) ?_|refine Wk.sw fun _ ag=>?_));all_goals (repeat subst ag)
     all_goals (simp [hk5])
   ·refine aa.body Tryz.func144 rfl Tryz.ntmps144 (by simp) ?_
    (try with_reducible refine Wk.aw fun _ ag=>?_);(repeat' (first|((with_reducible refine Wk.i ?_);simp -implicitDefEqProofs (disch:=first|omega|(simp only [go_sem,List.length_take,List.length_drop];try omega)) only [go_sem,seval,hk5])|with_reducible refine Wk.o ?_));all_goals (repeat subst ag)
    refine AW.cD (fun i:Nat=>[(1,.ptr st.aj.length 0),(3,lz st.toks.length (bt ((cO v).take i))),(28,.d (.sl (v.list.map aX.enc))),(29,ai ↑v.list.length),(30,ai ↑i)]) (fun _=>[.cells (v.enc.map .d)]) (fun i=>k9 9 1 (bt ((cO v).take i))) (fun i=>i≤v.list.length) (fun i=>v.list.length - i) 0 (by simp -implicitDefEqProofs (disch:=first|omega|(simp only [go_sem,List.length_take,List.length_drop];try omega)) only [go_sem,seval,hnl]<;>first|rfl|exact ⟨rfl,rfl⟩|skip) (by simp -implicitDefEqProofs (disch:=first|omega|(simp only [go_sem,List.length_take,List.length_drop];try omega)) only [go_sem,seval,hnl]<;>first|rfl|exact ⟨rfl,rfl⟩|skip) (by omega) ?_
    intro i hi
    have hel:(bt ((cO v).take i)).length=i:=by rw [iP,List.length_take];omega
    by_cases hlt:i<v.list.length
    ·have hx:=aB hlt
     have hgi:=ZQ (l:=cO v) (i:=i) (by omega)
     have hst:=oe (l:=cO v) (i:=i) (by omega)
     have hlx:=l7 _ (i3 _ hx)
     have hcx:=ih _ hx (level+1) (hcl _ hx) (a5 _ hx) (i3 _ hx) (by have:=hbl _ hx;omega)
     have hki:i<v.keys.length:=by have:=n5 hk5;omega
     have hqk:=Dm (G:=G) (v.keys.getD i default) (by have:=a4 _ (aB hki);omega)
     have hqkl:=gS (v.keys.getD i default)
     have hkk:=a4 _ (aB hki)
     have hpg:(cO v).getD i default=fl (v.keys.getD i default)++[58,32]++ZA (v.list.getD i default):=by
      rw [cO,if_pos hk5,Gj _ _ _ hlt];rfl
     rw [hpg] at hst hgi
     simp only [List.length_append,List.length_cons,List.length_nil] at hgi
     have hst':bt ((cO v).take (i+1))=bt ((cO v).take i)++[[D.str (fl (v.keys.getD i default)++58::32::ZA (v.list.getD i default))]]:=by rw [hst];simp [bt]
     (try with_reducible refine Wk.aw fun _ ag=>?_);(repeat' (first|((with_reducible first|refine Wk.hd ?_|refine Wk.i ?_);simp -implicitDefEqProofs (disch:=first|omega|(simp only [go_sem,List.length_take,List.length_drop];try omega)) only [go_sem,seval,hk5])|(refine ay (fun hc=>?_) (fun hc=>?_)<;>try (exfalso;first|omega|contradiction|exact fQ hc ‹_› |exact fQ ‹_› hc))|refine ah (hqk _) ?_|refine ah (hcx _) ?_|refine Wk.drawn mx (by kernel_rfl) ?_|with_reducible first|refine Wk.o ?_|refine Wk.q (by assumption) ?_));all_goals (repeat subst ag)
     ·(refine ⟨i+1,gk.mk ?_ ?_ ?_ (by simp -implicitDefEqProofs (disch:=first|omega|(simp only [go_sem,List.length_take,List.length_drop];try omega)) only [go_sem,seval,hst']) (by simp -implicitDefEqProofs (disch:=first|omega|(simp only [go_sem,List.length_take,List.length_drop];try omega)) only [go_sem,seval,hst']) (by first|rfl|(simp -implicitDefEqProofs (disch:=first|omega|(simp only [go_sem,List.length_take,List.length_drop];try omega)) only [go_sem,seval,hst'];all_goals omega)) (by first|rfl|(simp -implicitDefEqProofs (disch:=first|omega|(simp only [go_sem,List.length_take,List.length_drop];try omega)) only [go_sem,seval,hst'];all_goals omega))⟩;focus (try (simp -implicitDefEqProofs (disch:=first|omega|(simp only [go_sem,List.length_take,List.length_drop];try omega)) only [go_sem,seval,hst']);try ((repeat' apply And.intro)<;>first|rfl|trivial|refine aD ?_|refine aE ?_|refine ax ?_|skip)))
      all_goals first|omega|rw [hst']|skip
    ·have:(cO v).take i=cO v:=List.take_of_length_le (by omega)
     rw [this]
     (try with_reducible refine Wk.aw fun _ ag=>?_);(repeat' (first|((with_reducible first|refine Wk.hd ?_|refine Wk.i ?_);simp -implicitDefEqProofs (disch:=first|omega|(simp only [go_sem,List.length_take,List.length_drop];try omega)) only [go_sem,seval,hk5])|(refine ay (fun hc=>?_) (fun hc=>?_)<;>try (exfalso;first|omega|contradiction|exact fQ hc ‹_› |exact fQ ‹_› hc))|refine ah (hjn _) ?_|with_reducible refine Wk.ret fun _ _=>?_|(refine Wk.fin (by assumption) ?_;refine ⟨?_,rfl⟩)|with_reducible first|refine Wk.o ?_|refine Wk.q (by assumption) ?_|refine Wk.sw fun _ ag=>?_));all_goals (repeat subst ag)
     all_goals (simp [hk5])
  ·by_cases q1:v.kind=1
   ·rw [if_pos q1]
    refine aa.body Tryz.func144 rfl Tryz.ntmps144 (by simp) ?_
    (try with_reducible refine Wk.aw fun _ ag=>?_);(repeat' (first|((with_reducible first|refine Wk.hd ?_|refine Wk.i ?_);simp -implicitDefEqProofs (disch:=first|omega|(simp only [go_sem,List.length_take,List.length_drop];try omega)) only [go_sem,seval,q1])|refine ah (hfb _) ?_|with_reducible refine Wk.ret fun _ _=>?_|(refine Wk.fin (by assumption) ?_;refine ⟨?_,rfl⟩)|with_reducible first|refine Wk.o ?_|refine Wk.q (by assumption) ?_));all_goals (repeat subst ag)
    all_goals rfl
   rw [if_neg q1]
   by_cases q2:v.kind=2
   ·rw [if_pos q2]
    refine aa.body Tryz.func144 rfl Tryz.ntmps144 (by simp) ?_
    (try with_reducible refine Wk.aw fun _ ag=>?_);(repeat' (first|((with_reducible first|refine Wk.hd ?_|refine Wk.i ?_);simp -implicitDefEqProofs (disch:=first|omega|(simp only [go_sem,List.length_take,List.length_drop];try omega)) only [go_sem,seval,q2])|refine ah (hd _) ?_|with_reducible refine Wk.ret fun _ _=>?_|(refine Wk.fin (by assumption) ?_;refine ⟨?_,rfl⟩)|with_reducible first|refine Wk.o ?_|refine Wk.q (by assumption) ?_));all_goals (repeat subst ag)
    all_goals rfl
   rw [if_neg q2]
   by_cases q3:v.kind=3
   ·rw [if_pos q3]
    refine aa.body Tryz.func144 rfl Tryz.ntmps144 (by simp) ?_
    (try with_reducible refine Wk.aw fun _ ag=>?_);(repeat' (first|((with_reducible first|refine Wk.hd ?_|refine Wk.i ?_);simp -implicitDefEqProofs (disch:=first|omega|(simp only [go_sem,List.length_take,List.length_drop];try omega)) only [go_sem,seval,q3])|refine ah (hq _) ?_|with_reducible refine Wk.ret fun _ _=>?_|(refine Wk.fin (by assumption) ?_;refine ⟨?_,rfl⟩)|with_reducible first|refine Wk.o ?_|refine Wk.q (by assumption) ?_));all_goals (repeat subst ag)
    all_goals rfl
   rw [if_neg q3,if_neg (by omega),if_neg (by omega)]
   refine aa.body Tryz.func144 rfl Tryz.ntmps144 (by simp) ?_
   (try with_reducible refine Wk.aw fun _ ag=>?_);(repeat' (first|((with_reducible refine Wk.i ?_);simp -implicitDefEqProofs (disch:=first|omega|(simp only [go_sem,List.length_take,List.length_drop];try omega)) only [go_sem,seval])|(refine ay (fun hc=>?_) (fun hc=>?_)<;>try (exfalso;first|omega|contradiction|exact fQ hc ‹_› |exact fQ ‹_› hc))|with_reducible refine Wk.ret fun _ _=>?_|(refine Wk.fin (by assumption) ?_;refine ⟨?_,rfl⟩)|with_reducible first|refine Wk.o ?_|refine Wk.q (by assumption) ?_));all_goals (repeat subst ag)
   all_goals first|rfl|(exfalso;omega)
end Go.Proofs.YthnoiikjfcnlhaaGreatDoor
end
