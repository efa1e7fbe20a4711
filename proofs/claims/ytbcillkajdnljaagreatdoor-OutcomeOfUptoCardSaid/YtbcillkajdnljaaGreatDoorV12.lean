import Derived.Test.YtbcillkajdnljaaGreatDoorV2
import Derived.Test.YtbcillkajdnljaaGreatDoorV3
import Derived.Test.YtbcillkajdnljaaGreatDoorV11
import Derived.Laws.RangeString
import Derived.Laws.RangeAny
import Derived.Lib.DecodeN
set_option linter.all false
section
set_option maxHeartbeats 8000000
set_option maxRecDepth 20000
namespace Go.Abs
open Go.RowKit
def zu (e1 s1 e2 s2:Nat) (ks ls:List (List D)):List (Nat×Nat×Nat):=k9 e1 s1 ks++k9 e2 s2 ls
def Dp (e1 s1 e2 s2:Nat):zu e1 s1 e2 s2 [] []=[]:=(rfl)
section
variable {P:Program} {t:TypeId} {st:St}
def sS (N M:Nat) (e1 s1 e2 s2:Nat) (ks ls:List (List D)):(lz M ks).within N (M+(zu e1 s1 e2 s2 ks ls).length)=true:=by cases ks<;>cases ls<;>simp [lz,k9,zu,V.within]
def sU (N M:Nat) (e1 s1 e2 s2:Nat) (ks ls:List (List D)) (h:ls.length≤ks.length):(lz (M+1) ls).within N (M+(zu e1 s1 e2 s2 ks ls).length)=true:=by
 cases ks<;>cases ls<;>simp [lz,k9,zu,V.within] at h ⊢
def I4 (e1 s1 e2 s2 by_:Nat) (xs ks ls:List (List D)) (B:List ec) (T:List (Nat×Nat×Nat)) (h0:0<s1) (hx:0<xs.length) (hl:ls.length≤ks.length) (h1:(ks.length+xs.length)*by_≤140737488355328) (h2:ks.length+xs.length≤9223372036854775807):
  jt (some s1) true true e1 s1 by_ xs (lz T.length ks) ⟨B,T++zu e1 s1 e2 s2 ks ls⟩=some (lz T.length (ks++xs),⟨B,T++zu e1 s1 e2 s2 (ks++xs) ls⟩):=by
 have hm:maxLen=9223372036854775807:=by decide
 have hxe:xs.isEmpty=false:=by cases xs<;>simp_all
 cases ks with
 |nil=>
  have:ls=[]:=by cases ls<;>simp_all
  subst this
  simp only [aaA,aaL] at h1 h2
  cases xs with
  |nil=>simp at hx
  |cons x xs=>simp [jt,lz,k9,zu,rS,hm,h0];simp at h1 h2;exact ⟨h1,h2⟩
 |cons y es=>
  simp only [jt,lz,k9,zu,rS,hm,h0]
  rw [if_pos ⟨trivial,trivial,trivial⟩,if_pos ⟨by simp,trivial,by simpa using h1,by simpa using h2⟩,hxe]
  simp;omega
def I5 (e1 s1 e2 s2 by_:Nat) (xs ks ls:List (List D)) (B:List ec) (T:List (Nat×Nat×Nat)) (h0:0<s2) (hx:0<xs.length) (hk:0<ks.length) (h1:(ls.length+xs.length)*by_≤140737488355328) (h2:ls.length+xs.length≤9223372036854775807):
  jt (some s2) true true e2 s2 by_ xs (lz (T.length+1) ls) ⟨B,T++zu e1 s1 e2 s2 ks ls⟩=some (lz (T.length+1) (ls++xs),⟨B,T++zu e1 s1 e2 s2 ks (ls++xs)⟩):=by
 have hm:maxLen=9223372036854775807:=by decide
 have hxe:xs.isEmpty=false:=by cases xs<;>simp_all
 cases ks with
 |nil=>simp at hk
 |cons k ks=>
 cases ls with
 |nil=>
  simp only [aaA,aaL] at h1 h2
  cases xs with
  |nil=>simp at hx
  |cons x xs=>simp [jt,lz,k9,zu,rS,hm,h0];simp at h1 h2;exact ⟨h1,h2⟩
 |cons y es=>
  simp only [jt,lz,k9,zu,rS,hm,h0]
  rw [if_pos ⟨trivial,trivial,trivial⟩,if_pos ⟨by simp,trivial,by simpa using h1,by simpa using h2⟩,hxe]
  simp;omega
attribute [go_sem] Dp sS sU I4 I5
end
end Go.Abs
namespace Go.Proofs.YtbcillkajdnljaaGreatDoor
open Tryz
open Go.Abs
attribute [local irreducible] AW OX GQ bK bO bz aY aA
variable {G:World→Nat→Prop}
end Go.Proofs.YtbcillkajdnljaaGreatDoor
end
section
set_option maxHeartbeats 8000000
set_option maxRecDepth 20000
namespace Go.Proofs.YtbcillkajdnljaaGreatDoor
open Tryz
open Go.Abs
attribute [local irreducible] AW OX GQ bK bO bz aY aA
variable {G:World→Nat→Prop}
def I9 (k:aF) (hk:k.length≤1048576):b8 G 366 [vs k] (vb (!fP k)):=by
 intro st;refine aA.body func366 rfl ntmps366 (by simp) ?_;(try refine Wk.aw fun _ ag=>?_);(repeat' (first|((first|refine Wk.hd ?_|refine Wk.i ?_);simp only [go_sem,seval])|(refine ay (fun hc=>?_) (fun hc=>?_)<;>try omega)|refine Wk.ret fun _ _=>?_|(refine Wk.fin ‹_› ?_;refine ⟨?_,rfl⟩)|first|refine Wk.o ?_|refine Wk.q ‹_› ?_));all_goals (repeat subst ag)
 all_goals (refine aO ?_;simp only [fP,abC,abz,aau,reduceCtorEq,iff_false,false_iff,iff_true,true_iff];omega)
def Ja (l:List aF) (hl:l.length≤1048576) (hk:∀ k∈l,k.length≤1048576):∀ st,aA prog G 205 [qC l,.jE 366 []] st (fun o s=>∃ x:Int,o= .ret (ai x)∧(0≤x↔l.all fP=false)∧s=st):=by
 intro st;refine aA.body func205 rfl ntmps205 (by simp) ?_;(try refine Wk.aw fun _ ag=>?_);(repeat' (first|((refine Wk.i ?_);simp (disch:=omega) only [go_sem,seval])|refine Wk.o ?_));all_goals (repeat subst ag)
 refine AW.cD (fun i:Nat=>[(0,qC l),(1,.jE 366 []),(7,ai ↑l.length),(8,ai ↑i)]) (fun _=>[]) (fun _=>[]) (fun i=>i≤l.length∧∀ k,k<i→fP (l.getD k default)=true) (fun i=>l.length - i) 0 (by simp (disch:=omega) only [go_sem,seval]<;>first|rfl|exact ⟨rfl,rfl⟩|skip) (by simp (disch:=omega) only [go_sem,seval]<;>first|rfl|exact ⟨rfl,rfl⟩|skip) ⟨by omega,by omega⟩ ?_;intro i ⟨h1,h2⟩;by_cases hi:i<l.length
 ·have hc1:=I9 (G:=G) (l.getD i default) (hk _ (aB hi));cases hb:fP (l.getD i default)
  ·rw [hb,show (!false)=true from rfl] at hc1;(try refine Wk.aw fun _ ag=>?_);(repeat' (first|((first|refine Wk.hd ?_|refine Wk.i ?_);simp (disch:=omega) only [go_sem,seval])|(refine ay (fun hc=>?_) (fun hc=>?_)<;>try omega)|refine ah (hc1 _) ?_|refine Wk.ret fun _ _=>?_|refine Wk.fin ‹_› ?_|first|refine Wk.o ?_|refine Wk.q ‹_› ?_));all_goals (repeat subst ag)
   all_goals exact ⟨i,rfl,⟨fun _=>(by rw [Bool.eq_false_iff];intro h;rw [aaE.1 h _ (aB hi)] at hb;cases hb),fun _=>(by omega)⟩,rfl⟩
  ·rw [hb,show (!true)=false from rfl] at hc1;(try refine Wk.aw fun _ ag=>?_);(repeat' (first|((first|refine Wk.hd ?_|refine Wk.i ?_);simp (disch:=omega) only [go_sem,seval])|(refine ay (fun hc=>?_) (fun hc=>?_)<;>try omega)|refine ah (hc1 _) ?_|first|refine Wk.o ?_|refine Wk.q ‹_› ?_));all_goals (repeat subst ag)
   ·(refine ⟨i+1,gk.mk ?_ ?_ ?_ (by simp (disch:=omega) only [go_sem,seval]) (by simp (disch:=omega) only [go_sem,seval]) (by first|rfl|(simp (disch:=omega) only [go_sem,seval];all_goals omega)) (by first|rfl|(simp (disch:=omega) only [go_sem,seval];all_goals omega))⟩;focus (try (simp (disch:=omega) only [go_sem,seval]);try ((repeat' apply And.intro)<;>first|rfl|trivial|refine aD ?_|refine Pr ?_|refine ax ?_|skip)))
    ·refine ⟨by omega,fun k hk=>?_⟩;by_cases hki:k=i
     ·subst hki;exact hb
     ·exact h2 k (by omega)
    ·omega
 ·(try refine Wk.aw fun _ ag=>?_);(repeat' (first|((refine Wk.i ?_);simp (disch:=omega) only [go_sem,seval])|(refine ay (fun hc=>?_) (fun hc=>?_)<;>try omega)|refine Wk.ret fun _ _=>?_|refine Wk.fin ‹_› ?_|first|refine Wk.o ?_|refine Wk.q ‹_› ?_|refine Wk.sw fun _ ag=>?_));all_goals (repeat subst ag)
  all_goals refine ⟨-1,rfl,⟨fun h=>by omega,fun h=>?_⟩,rfl⟩
  all_goals exfalso
  all_goals refine Bool.eq_false_iff.1 h (aaE.2 fun x hx=>?_)
  all_goals obtain ⟨k,hk1,hk2⟩:=aaY.1 hx
  all_goals have:=h2 k (by omega)
  all_goals simpa [aam,hk1,hk2] using this
def zw (e:Ex) (h1:e.keys.length≤1048576) (h2:e.args.length≤1048576) (hcf:b8 G 137 [qC e.keys,.jE 366 []] (vb (!e.keys.all fP))):b8 G 275 [vE e] (vb (gR e)):=by
 intro st;rw [vE,Ex.aP,aX.aP];refine aA.body func275 rfl ntmps275 (by simp) ?_;(try refine Wk.aw fun _ ag=>?_);(repeat' (first|((first|refine Wk.hd ?_|refine Wk.i ?_);simp only [go_sem,seval])|(refine ay (fun hc=>?_) (fun hc=>?_)<;>try omega)|refine ah (hcf _) ?_|refine Wk.ret fun _ _=>?_|(refine Wk.fin ‹_› ?_;refine ⟨?_,rfl⟩)|first|refine Wk.o ?_|refine Wk.q ‹_› ?_));all_goals (repeat subst ag)
 all_goals (refine congrArg (fun b=>Out.ret (.d (.bool b))) ?_;rw [abk];simp only [gR];have hlk:e.keys=[]↔(e.keys.length:Int)=0:=⟨fun h=>by rw [h];rfl,fun h=>aba.1 (by omega)⟩;grind)
def sV (s:aF) (hs:s.length≤1048576):b8 G 438 [vs s] (vb (isName s)):=by
 intro st;by_cases h1:1≤s.length
 ·by_cases h64:s.length≤64
  ·cases hl:bN (s.getD 0 0)
   ·rw [jS fun h=>by have:=h.2.2 0 (by omega);rw [hl] at this;simp at this];have hle:=ju (G:=G) (s.getD 0 0);rw [hl] at hle;refine aA.body func438 rfl ntmps438 (by simp) ?_;(try refine Wk.aw fun _ ag=>?_);(repeat' (first|((first|refine Wk.hd ?_|refine Wk.i ?_);simp (disch:=omega) only [go_sem,seval])|(refine ay (fun hc=>?_) (fun hc=>?_)<;>try omega)|refine ah (hle _) ?_|refine Wk.ret fun _ _=>?_|(refine Wk.fin ‹_› ?_;refine ⟨?_,rfl⟩)|first|refine Wk.o ?_|refine Wk.q ‹_› ?_));all_goals (repeat subst ag)
    all_goals rfl
   ·have hle:=ju (G:=G) (s.getD 0 0);rw [hl] at hle;refine aA.body func438 rfl ntmps438 (by simp) ?_;(try refine Wk.aw fun _ ag=>?_);(repeat' (first|((first|refine Wk.hd ?_|refine Wk.i ?_);simp (disch:=omega) only [go_sem,seval])|(refine ay (fun hc=>?_) (fun hc=>?_)<;>try omega)|refine ah (hle _) ?_|refine Wk.o ?_));all_goals (repeat subst ag)
    refine AW.cD (fun n:Nat=>[(0,vs s),(3,ai ↑n)]) (fun _=>[]) (fun _=>[]) (fun n=>n≤s.length∧∀ k,k<n→(bN (s.getD k 0)||isDigit (s.getD k 0))=true) (fun n=>s.length - n) 0 (by simp (disch:=omega) only [go_sem,seval]<;>first|rfl|exact ⟨rfl,rfl⟩|skip) (by simp (disch:=omega) only [go_sem,seval]<;>first|rfl|exact ⟨rfl,rfl⟩|skip) ⟨by omega,by omega⟩ ?_;intro n ⟨hn,hr⟩;have hstep:(bN (s.getD n 0)||isDigit (s.getD n 0))=true→∀ k,k<n+1→(bN (s.getD k 0)||isDigit (s.getD k 0))=true:=fun h k hk=>by
     by_cases hkn:k=n
     ·subst hkn;exact h
     ·exact hr k (by omega)
    by_cases hns:n<s.length
    ·(try refine Wk.aw fun _ ag=>?_);(repeat' (first|((first|refine Wk.hd ?_|refine Wk.i ?_);simp (disch:=omega) only [go_sem,seval])|(refine ay (fun hc=>?_) (fun hc=>?_)<;>try omega)|refine ah (jR _ _) ?_|refine ah (ju _ _) ?_|refine Wk.ret fun _ _=>?_|(refine Wk.fin ‹_› ?_;refine ⟨?_,rfl⟩)|first|refine Wk.o ?_|refine Wk.q ‹_› ?_));all_goals (repeat subst ag)
     ·refine aO ?_;rw [jS fun h=>?_];have:=h.2.2 n hns;simp_all
     ·(refine ⟨n+1,gk.mk ?_ ?_ ?_ (by simp (disch:=omega) only [go_sem,seval]) (by simp (disch:=omega) only [go_sem,seval]) (by first|rfl|(simp (disch:=omega) only [go_sem,seval];all_goals omega)) (by first|rfl|(simp (disch:=omega) only [go_sem,seval];all_goals omega))⟩;focus (try (simp (disch:=omega) only [go_sem,seval]);try ((repeat' apply And.intro)<;>first|rfl|trivial|refine aD ?_|refine Pr ?_|refine ax ?_|skip)))
      ·exact ⟨by omega,hstep (by simp_all)⟩
      ·omega
     ·(refine ⟨n+1,gk.mk ?_ ?_ ?_ (by simp (disch:=omega) only [go_sem,seval]) (by simp (disch:=omega) only [go_sem,seval]) (by first|rfl|(simp (disch:=omega) only [go_sem,seval];all_goals omega)) (by first|rfl|(simp (disch:=omega) only [go_sem,seval];all_goals omega))⟩;focus (try (simp (disch:=omega) only [go_sem,seval]);try ((repeat' apply And.intro)<;>first|rfl|trivial|refine aD ?_|refine Pr ?_|refine ax ?_|skip)))
      ·exact ⟨by omega,hstep (by simp_all)⟩
      ·omega
    ·(try refine Wk.aw fun _ ag=>?_);(repeat' (first|((refine Wk.i ?_);simp (disch:=omega) only [go_sem,seval])|(refine ay (fun hc=>?_) (fun hc=>?_)<;>try omega)|refine Wk.ret fun _ _=>?_|(refine Wk.fin ‹_› ?_;refine ⟨?_,rfl⟩)|first|refine Wk.o ?_|refine Wk.q ‹_› ?_|refine Wk.sw fun _ ag=>?_));all_goals (repeat subst ag)
     all_goals (refine aO ?_;simp only [true_iff];rw [isName_iff];refine ⟨h64,h1,fun k hk=>?_⟩;have:=hr k (by omega);rcases Nat.eq_zero_or_pos k with k0|k0<;>first|(subst k0;rw [hl];rfl)|(rw [decide_eq_true (show k≠0 by omega),Bool.true_and];exact this))
  ·rw [jS fun h=>by omega];refine aA.body func438 rfl ntmps438 (by simp) ?_;(try refine Wk.aw fun _ ag=>?_);(repeat' (first|((first|refine Wk.hd ?_|refine Wk.i ?_);simp (disch:=omega) only [go_sem,seval])|(refine ay (fun hc=>?_) (fun hc=>?_)<;>try omega)|refine Wk.ret fun _ _=>?_|(refine Wk.fin ‹_› ?_;refine ⟨?_,rfl⟩)|first|refine Wk.o ?_|refine Wk.q ‹_› ?_));all_goals (repeat subst ag)
   all_goals rfl
 ·rw [jS fun h=>by omega];refine aA.body func438 rfl ntmps438 (by simp) ?_;(try refine Wk.aw fun _ ag=>?_);(repeat' (first|((first|refine Wk.hd ?_|refine Wk.i ?_);simp (disch:=omega) only [go_sem,seval])|(refine ay (fun hc=>?_) (fun hc=>?_)<;>try omega)|refine Wk.ret fun _ _=>?_|(refine Wk.fin ‹_› ?_;refine ⟨?_,rfl⟩)|first|refine Wk.o ?_|refine Wk.q ‹_› ?_));all_goals (repeat subst ag)
  all_goals rfl
def zx (s:aF) (hn:b8 G 438 [vs s] (vb (isName s))):b8 G 364 [vs s] (vb (isPlain s)):=by
 intro st;have hw:=OU (G:=G) s;refine aA.body func364 rfl ntmps364 (by simp) ?_;(try refine Wk.aw fun _ ag=>?_);(repeat' (first|((first|refine Wk.hd ?_|refine Wk.i ?_);simp only [go_sem,seval])|(refine ay (fun hc=>?_) (fun hc=>?_)<;>try omega)|refine ah (hn _) ?_|refine ah (hw _) ?_|refine Wk.ret fun _ _=>?_|(refine Wk.fin ‹_› ?_;refine ⟨?_,rfl⟩)|first|refine Wk.o ?_|refine Wk.q ‹_› ?_));all_goals (repeat subst ag)
 all_goals (refine congrArg (fun b=>Out.ret (.d (.bool b))) ?_;simp only [isPlain];grind)
def zy (e:Ex) (he:e.args.length≤1048576):b8 G 274 [vE e] (vb (jJ e)):=by
 intro st;rw [vE,Ex.aP,aX.aP];refine aA.body func274 rfl ntmps274 (by simp) ?_;(try refine Wk.aw fun _ ag=>?_);(repeat' (first|((refine Wk.i ?_);simp only [go_sem,seval])|(refine ay (fun hc=>?_) (fun hc=>?_)<;>try omega)|refine Wk.ret fun _ _=>?_|(refine Wk.fin ‹_› ?_;refine ⟨?_,rfl⟩)|first|refine Wk.o ?_|refine Wk.q ‹_› ?_));all_goals (repeat subst ag)
 all_goals refine congrArg (fun b=>Out.ret (.d (.bool b))) ?_
 all_goals simp only [jJ]
 all_goals grind
def sW (e:Ex) (st:St) (hb:bS e≤4611686018427387904) (hl:e.args.length≤4611686018427387904) (ih:∀ a∈e.args,b8 G 131 [vE a] (ai (bS a))):
  aA prog G 131 [vE e] st (fun o s=>o= .ret (ai (bS e))∧s=st):=by
 have hcnt:bS e=1+bS.cY e.args:=eCount_eq e
 refine aA.body func131 rfl ntmps131 (by simp) ?_
 (try refine Wk.aw fun _ ag=>?_);(repeat' (first|((refine Wk.i ?_);simp (disch:=omega) only [go_sem,seval])|refine Wk.o ?_));all_goals (repeat subst ag)
 refine AW.cD (fun i:Nat=>[(3,ai ↑(1+bS.cY (e.args.take i))),(7,.d (.sl (e.args.map Ex.enc))),(8,ai ↑e.args.length),(9,ai i)]) (fun _=>[.cells (e.enc.map .d)]) (fun _=>[]) (fun i=>i≤e.args.length) (fun i=>e.args.length - i) 0 (by simp (disch:=omega) only [go_sem,seval]<;>first|rfl|exact ⟨rfl,rfl⟩|skip) (by simp (disch:=omega) only [go_sem,seval]<;>first|rfl|exact ⟨rfl,rfl⟩|skip) (aaK _) ?_
 intro i hi
 have hs:=oX e.args i
 have ht:=jD e.args i
 have ht1:=jD e.args (i+1)
 (try refine Wk.aw fun _ ag=>?_);(repeat' (first|((first|refine Wk.hd ?_|refine Wk.i ?_);simp (disch:=omega) only [go_sem,seval])|(refine ay (fun hc=>?_) (fun hc=>?_)<;>try omega)|refine ah (ih _ (aB (by omega)) _) ?_|refine Wk.ret fun _ _=>?_|(refine Wk.fin ‹_› ?_;refine ⟨?_,rfl⟩)|first|refine Wk.o ?_|refine Wk.q ‹_› ?_|refine Wk.sw fun _ ag=>?_));all_goals (repeat subst ag)
 ·(refine ⟨i+1,gk.mk ?_ ?_ ?_ (by simp (disch:=omega) only [go_sem,seval]) (by simp (disch:=omega) only [go_sem,seval]) (by first|rfl|(simp (disch:=omega) only [go_sem,seval];all_goals omega)) (by first|rfl|(simp (disch:=omega) only [go_sem,seval];all_goals omega))⟩;focus (try (simp (disch:=omega) only [go_sem,seval]);try ((repeat' apply And.intro)<;>first|rfl|trivial|refine aD ?_|refine Pr ?_|refine ax ?_|skip)))
  all_goals omega
 ·rw [hcnt,aaO (by omega)]
def c_par_Count (n:Nat):∀ e:Ex,bS e≤n→bS e≤4611686018427387904→b8 G 131 [vE e] (ai (bS e)):=by
 induction n with
 |zero=>intro e h;have:=lF e;omega
 |succ n ih=>
  intro e h hb st
  have h1:=eCount_eq e
  have h2:=qF e.args fun a _=>lF a
  exact sW e st hb (by omega) fun a ha=>ih a (by have:=ke ha;omega) (by have:=ke ha;omega)
def zA (e:Ex) (he:e.name.length≤1048576):b8 G 273 [vE e] (vb (dJ e)):=by
 intro st;rw [vE,Ex.aP,aX.aP];have hpl:=zx (G:=G) e.name (sV e.name he);have hst:=lf (G:=G) e.name;by_cases k1:e.kind=2∨e.kind=3∨e.kind=5
 ·have:dJ e=isPlain e.name:=if_pos k1;rw [this];rcases k1 with k1|k1|k1
  ·refine aA.body func273 rfl ntmps273 (by simp) ?_;(try refine Wk.aw fun _ ag=>?_);(repeat' (first|((first|refine Wk.hd ?_|refine Wk.i ?_);simp only [go_sem,seval,k1])|refine ah (hpl _) ?_|refine Wk.ret fun _ _=>?_|(refine Wk.fin ‹_› ?_;refine ⟨?_,rfl⟩)|first|refine Wk.o ?_|refine Wk.q ‹_› ?_));all_goals (repeat subst ag)
   all_goals rfl
  ·refine aA.body func273 rfl ntmps273 (by simp) ?_;(try refine Wk.aw fun _ ag=>?_);(repeat' (first|((first|refine Wk.hd ?_|refine Wk.i ?_);simp only [go_sem,seval,k1])|refine ah (hpl _) ?_|refine Wk.ret fun _ _=>?_|(refine Wk.fin ‹_› ?_;refine ⟨?_,rfl⟩)|first|refine Wk.o ?_|refine Wk.q ‹_› ?_));all_goals (repeat subst ag)
   all_goals rfl
  ·refine aA.body func273 rfl ntmps273 (by simp) ?_;(try refine Wk.aw fun _ ag=>?_);(repeat' (first|((first|refine Wk.hd ?_|refine Wk.i ?_);simp only [go_sem,seval,k1])|refine ah (hpl _) ?_|refine Wk.ret fun _ _=>?_|(refine Wk.fin ‹_› ?_;refine ⟨?_,rfl⟩)|first|refine Wk.o ?_|refine Wk.q ‹_› ?_));all_goals (repeat subst ag)
   all_goals rfl
 ·have n1:¬ e.kind=2:=fun h=>k1 (.inl h);have n2:¬ e.kind=3:=fun h=>k1 (.inr (.inl h));have n3:¬ e.kind=5:=fun h=>k1 (.inr (.inr h));by_cases k6:e.kind=6
  ·have:dJ e=decide (e.name=[33]∨e.name=[45]):=by rw [dJ,if_neg k1,if_pos k6]
   rw [this];refine aA.body func273 rfl ntmps273 (by simp) ?_;(try refine Wk.aw fun _ ag=>?_);(repeat' (first|((first|refine Wk.hd ?_|refine Wk.i ?_);simp only [go_sem,seval,k6])|(refine ay (fun hc=>?_) (fun hc=>?_)<;>try omega)|refine Wk.ret fun _ _=>?_|(refine Wk.fin ‹_› ?_;refine ⟨?_,rfl⟩)|first|refine Wk.o ?_|refine Wk.q ‹_› ?_));all_goals (repeat subst ag)
   all_goals refine congrArg (fun b=>Out.ret (.d (.bool b))) ?_
   all_goals grind
  ·by_cases k7:e.kind=7
   ·have:dJ e=decide (0<bB e.name):=by rw [dJ,if_neg k1,if_neg k6,if_pos k7]
    rw [this];refine aA.body func273 rfl ntmps273 (by simp) ?_;(try refine Wk.aw fun _ ag=>?_);(repeat' (first|((first|refine Wk.hd ?_|refine Wk.i ?_);simp only [go_sem,seval,k7])|refine ah (hst _) ?_|refine Wk.ret fun _ _=>?_|(refine Wk.fin ‹_› ?_;refine ⟨?_,rfl⟩)|first|refine Wk.o ?_|refine Wk.q ‹_› ?_));all_goals (repeat subst ag)
    all_goals refine congrArg (fun b=>Out.ret (.d (.bool b))) ?_
    all_goals grind
   ·have:dJ e=decide (e.name=[]):=by rw [dJ,if_neg k1,if_neg k6,if_neg k7]
    rw [this];refine aA.body func273 rfl ntmps273 (by simp) ?_;(try refine Wk.aw fun _ ag=>?_);(repeat' (first|((refine Wk.i ?_);simp only [go_sem,seval])|(refine ay (fun hc=>?_) (fun hc=>?_)<;>try omega)|refine Wk.ret fun _ _=>?_|(refine Wk.fin ‹_› ?_;refine ⟨?_,rfl⟩)|first|refine Wk.o ?_|refine Wk.q ‹_› ?_));all_goals (repeat subst ag)
    all_goals refine congrArg (fun b=>Out.ret (.d (.bool b))) ?_
    all_goals grind
def zB (l:List aF) (hl:l.length≤1048576) (hk:∀ k∈l,k.length≤1048576):b8 G 137 [qC l,.jE 366 []] (vb (!l.all fP)):=by
 intro st;have h:=Ja (G:=G) l hl hk;refine aA.body func137 rfl ntmps137 (by simp) ?_;(try refine Wk.aw fun _ ag=>?_);(repeat' (first|refine OK (h _) fun x_ hx_=>?_|((first|refine Wk.hd ?_|refine Wk.i ?_);simp only [go_sem,seval])|refine Wk.ret fun _ _=>?_|(refine Wk.fin ‹_› ?_;refine ⟨?_,rfl⟩)|first|refine Wk.o ?_|refine Wk.q ‹_› ?_));all_goals (repeat subst ag)
 all_goals (refine aO ?_;simp only [aau,ge_iff_le,hx_,abC])
def xh (e:Ex) (fe:j0 e):b8 G 275 [vE e] (vb (gR e)):=by
 obtain ⟨a1,a2,a3,a4,a5,a6⟩:=(gq e).1 fe;exact zw e a4 a3 (zB e.keys a4 a5)
def zC (v:aX) (fv:gU v):b8 G 271 [vV v] (vb (decide (v.keys.length=v.list.length∧dG v.keys=true))):=by
 intro st;rw [show decide (v.keys.length=v.list.length∧dG v.keys=true)=(decide (v.keys.length=v.list.length)&&dG v.keys) from by rw [abk];simp];obtain ⟨a1,a2,a3,a4,a5⟩:=(dX v).1 fv;by_cases hl:v.keys.length=v.list.length
 ·rw [decide_eq_true hl,Bool.true_and];refine aA.body func271 rfl ntmps271 (by simp) ?_;(try refine Wk.aw fun _ ag=>?_);(repeat' (first|((refine Wk.i ?_);simp (disch:=omega) only [go_sem,seval])|(refine ay (fun hc=>?_) (fun hc=>?_)<;>try omega)|refine Wk.o ?_));all_goals (repeat subst ag)
  all_goals first|(exfalso;omega)|skip
  refine AW.cD (fun i:Nat=>[(1,.ptr st.aj.length 0),(13,qC v.keys),(14,ai ↑v.keys.length),(15,ai ↑i)]) (fun _=>[.cells (v.enc.map .d)]) (fun _=>[]) (fun i=>i≤v.keys.length∧oU v.keys i=dG v.keys) (fun i=>v.keys.length - i) 0 (by simp (disch:=omega) only [go_sem,seval]<;>first|rfl|exact ⟨rfl,rfl⟩|skip) (by simp (disch:=omega) only [go_sem,seval]<;>first|rfl|exact ⟨rfl,rfl⟩|skip) ⟨by omega,Di _⟩ ?_;intro i ⟨h1,h2⟩;have h3:=sK v.keys i;rw [←h2];by_cases hi:i<v.keys.length
  ·have hk:=a4 _ (aB hi);have hk2:=a4 _ (aB (l:=v.keys) (i:=i - 1) (by omega));rw [h3 hi];cases ok:fP (v.keys.getD i default)
   ·simp only [fP,abz] at ok;(try refine Wk.aw fun _ ag=>?_);(repeat' (first|((first|refine Wk.hd ?_|refine Wk.i ?_);simp (disch:=omega) only [go_sem,seval])|(refine ay (fun hc=>?_) (fun hc=>?_)<;>try omega)|refine Wk.ret fun _ _=>?_|(refine Wk.fin ‹_› ?_;refine ⟨?_,rfl⟩)|first|refine Wk.o ?_|refine Wk.q ‹_› ?_));all_goals (repeat subst ag)
    all_goals first|(exfalso;omega)|(refine aO ?_;simp)
   ·have ok':=ok;simp only [fP,aau] at ok';by_cases hi0:i=0
    ·subst hi0;(try refine Wk.aw fun _ ag=>?_);(repeat' (first|((first|refine Wk.hd ?_|refine Wk.i ?_);simp (disch:=omega) only [go_sem,seval])|(refine ay (fun hc=>?_) (fun hc=>?_)<;>try omega)|first|refine Wk.o ?_|refine Wk.q ‹_› ?_));all_goals (repeat subst ag)
     all_goals first|(exfalso;omega)|skip
     ·(refine ⟨0+1,gk.mk ?_ ?_ ?_ (by simp (disch:=omega) only [go_sem,seval]) (by simp (disch:=omega) only [go_sem,seval]) (by first|rfl|(simp (disch:=omega) only [go_sem,seval];all_goals omega)) (by first|rfl|(simp (disch:=omega) only [go_sem,seval];all_goals omega))⟩;focus (try (simp (disch:=omega) only [go_sem,seval]);try ((repeat' apply And.intro)<;>first|rfl|trivial|refine aD ?_|refine Pr ?_|refine ax ?_|skip)))
      ·exact ⟨by omega,by simp⟩
      ·omega
    ·rw [decide_eq_false hi0,Bool.false_or];by_cases hcp:c8 (v.keys.getD (i - 1) default) (v.keys.getD i default)<0
     ·rw [decide_eq_true hcp];have hcp':¬ c8 (v.keys.getD (i - 1) default) (v.keys.getD i default)≥0:=by omega
      (try refine Wk.aw fun _ ag=>?_);(repeat' (first|((first|refine Wk.hd ?_|refine Wk.i ?_);simp (disch:=omega) only [go_sem,seval])|(refine ay (fun hc=>?_) (fun hc=>?_)<;>try omega)|refine ah (lR _ _ (by first|exact hk2|exact a4 _ (aB (by omega))) hk _) ?_|refine Wk.ret fun _ _=>?_|(refine Wk.fin ‹_› ?_;refine ⟨?_,rfl⟩)|first|refine Wk.o ?_|refine Wk.q ‹_› ?_));all_goals (repeat subst ag)
      all_goals first|(exfalso;omega)|skip
      all_goals first
       |(exfalso;refine hcp' ?_;rw [show i - 1=(↑i - 1:Int).toNat by omega];assumption)
       |skip
      ·(refine ⟨i+1,gk.mk ?_ ?_ ?_ (by simp (disch:=omega) only [go_sem,seval]) (by simp (disch:=omega) only [go_sem,seval]) (by first|rfl|(simp (disch:=omega) only [go_sem,seval];all_goals omega)) (by first|rfl|(simp (disch:=omega) only [go_sem,seval];all_goals omega))⟩;focus (try (simp (disch:=omega) only [go_sem,seval]);try ((repeat' apply And.intro)<;>first|rfl|trivial|refine aD ?_|refine Pr ?_|refine ax ?_|skip)))
       ·exact ⟨by omega,by simp⟩
       ·omega
     ·rw [decide_eq_false hcp];(try refine Wk.aw fun _ ag=>?_);(repeat' (first|((first|refine Wk.hd ?_|refine Wk.i ?_);simp (disch:=omega) only [go_sem,seval])|(refine ay (fun hc=>?_) (fun hc=>?_)<;>try omega)|refine ah (lR _ _ (by first|exact hk2|exact a4 _ (aB (by omega))) hk _) ?_|refine Wk.ret fun _ _=>?_|(refine Wk.fin ‹_› ?_;refine ⟨?_,rfl⟩)|first|refine Wk.o ?_|refine Wk.q ‹_› ?_));all_goals (repeat subst ag)
      all_goals first|(exfalso;omega)|skip
      all_goals first
       |(refine aO ?_;simp;done)
       |(exfalso;rw [show i - 1=(↑i - 1:Int).toNat by omega] at hcp;omega)
  ·have hi':i=v.keys.length:=by omega
   subst hi';rw [ve];(try refine Wk.aw fun _ ag=>?_);(repeat' (first|((refine Wk.i ?_);simp (disch:=omega) only [go_sem,seval,Nat.lt_irrefl])|refine Wk.ret fun _ _=>?_|(refine Wk.fin ‹_› ?_;refine ⟨?_,rfl⟩)|first|refine Wk.o ?_|refine Wk.q ‹_› ?_|refine Wk.sw fun _ ag=>?_));all_goals (repeat subst ag)
   all_goals rfl
 ·rw [decide_eq_false hl,Bool.false_and];refine aA.body func271 rfl ntmps271 (by simp) ?_;(try refine Wk.aw fun _ ag=>?_);(repeat' (first|((refine Wk.i ?_);simp (disch:=omega) only [go_sem,seval])|(refine ay (fun hc=>?_) (fun hc=>?_)<;>try omega)|refine Wk.ret fun _ _=>?_|(refine Wk.fin ‹_› ?_;refine ⟨?_,rfl⟩)|first|refine Wk.o ?_|refine Wk.q ‹_› ?_));all_goals (repeat subst ag)
  all_goals first|rfl|(exfalso;omega)
def B5 (v:aX) (fv:gU v) (level:Nat) (hl:level≤1152921504606846976):b8 G 194 [vV v,ai level] (ai (gY v level)):=by
 intro st;rw [vV,aX.aP];obtain ⟨a1,a2,a3,a4,a5⟩:=(dX v).1 fv;have hu:=IU (G:=G) v fv;have hk:=zC (G:=G) v fv;rw [vV,aX.aP] at hu hk;have hvl:v.list=[]↔(v.list.length:Int)=0:=⟨fun h=>by rw [h];rfl,fun h=>aba.1 (by omega)⟩;refine aA.body func194 rfl ntmps194 (by simp) ?_;(try refine Wk.aw fun _ ag=>?_);(repeat' (first|((first|refine Wk.hd ?_|refine Wk.i ?_);simp only [go_sem,seval])|(refine ay (fun hc=>?_) (fun hc=>?_)<;>try omega)|refine ah (hu _) ?_|refine ah (hk _) ?_|refine Wk.ret fun _ _=>?_|(refine Wk.fin ‹_› ?_;refine ⟨?_,rfl⟩)|first|refine Wk.o ?_|refine Wk.q ‹_› ?_));all_goals (repeat subst ag)
 all_goals (refine bA ?_;rw [pX];clear fv a4 a5 hu hk;grind)
def ng (G:World→Nat→Prop):Prop:=∀ v,gU v→cj v≤1099511627776→b8 G 130 [vV v] (ai (fk v))
def zD (G:World→Nat→Prop):Prop:=∀ ks:List aF,ks.length≤1048576→(∀ k∈ks,k.length≤1048576)→b8 G 276 [qC ks] (vb (kA ks))
def B6 (hV:ng G) (hR:zD G) (e:Ex) (fe:j0 e) (hb:bq e≤1099511627776) (level:Nat) (hlv:level≤100000):b8 G 195 [vE e,ai level] (ai (jv e level)):=by
 intro st;obtain ⟨a1,a2,a3,a4,a5,a6⟩:=(gq e).1 fe;have hz:=O8 (G:=G) e.value a2;have hn:=zA (G:=G) e a1;have ha:=zy (G:=G) e a3;have hk:=xh (G:=G) e fe;have hv:=hV e.value a2 (by rw [iq] at hb;omega);have hr:=hR e.keys a4 a5;have he:jv e level=if 16<level then 13
  else if (decide (e.kind<1)||decide (10<e.kind)||(decide (e.kind≠1)&& !jg e.value)|| !dJ e|| !jJ e|| !gR e)=true then 1
  else if (decide (e.kind=1)&&decide (fk e.value≠0))=true then fk e.value
  else if 1024<e.args.length then 3 else if kA e.keys=true then 7 else 0:=by
   rw [jv];simp only [aaU,aas,aau,abC,or_assoc]
 rw [he];clear he;by_cases hd:16<level
 ·rw [if_pos hd];refine aA.body func195 rfl ntmps195 (by simp) ?_;(try refine Wk.aw fun _ ag=>?_);(repeat' (first|((refine Wk.i ?_);simp only [go_sem,seval])|(refine ay (fun hc=>?_) (fun hc=>?_)<;>try omega)|refine Wk.ret fun _ _=>?_|(refine Wk.fin ‹_› ?_;refine ⟨?_,rfl⟩)|first|refine Wk.o ?_|refine Wk.q ‹_› ?_));all_goals (repeat subst ag)
  all_goals rfl
 rw [if_neg hd];generalize hb1:jg e.value=b1 at*;generalize hb2:dJ e=b2 at*;generalize hb3:jJ e=b3 at*;generalize hb4:gR e=b4 at*;generalize hb5:fk e.value=b5 at*;generalize hb6:kA e.keys=b6 at*;refine aA.body func195 rfl ntmps195 (by simp) ?_;(try refine Wk.aw fun _ ag=>?_);(repeat' (first|((first|refine Wk.hd ?_|refine Wk.i ?_);simp only [go_sem,seval])|(refine ay (fun hc=>?_) (fun hc=>?_)<;>try omega)|refine ah (hz _) ?_|refine ah (hn _) ?_|refine ah (ha _) ?_|refine ah (hk _) ?_|refine ah (hv _) ?_|refine ah (hr _) ?_|refine Wk.ret fun _ _=>?_|(refine Wk.fin ‹_› ?_;refine ⟨?_,rfl⟩)|first|refine Wk.o ?_|refine Wk.q ‹_› ?_));all_goals (repeat subst ag)
 all_goals (refine congrArg (fun n:Int=>Out.ret (ai n)) ?_;grind)
def zF (hV:ng G) (hR:zD G):∀ e:Ex,j0 e→bq e≤1099511627776→∀ level:Nat,level≤1000→b8 G 132 [vE e,ai level] (ai (dc level e)):=by
 intro e;induction e using Ex.ind with
 |h e ih=>
  intro fe hb level hlv st
  obtain ⟨a1,a2,a3,a4,a5,a6⟩:=(gq e).1 fe
  have hnd:=B6 hV hR e fe hb level (by omega)
  have hbl:=fun x (hx:x∈e.args)=>nV hx
  have hb':=hb
  rw [iq] at hb'
  rw [eCheck_eq]
  by_cases hn:jv e level=0
  ·rw [if_neg (by simp [hn])]
   have hlv2:level≤16:=by
    refine Nat.le_of_not_lt fun h=>?_;rw [jv,if_pos h] at hn;omega
   rw [hn] at hnd
   refine aA.body func132 rfl ntmps132 (by simp) ?_
   (try refine Wk.aw fun _ ag=>?_);(repeat' (first|((first|refine Wk.hd ?_|refine Wk.i ?_);simp (disch:=omega) only [go_sem,seval])|refine ah (hnd _) ?_|refine Wk.o ?_));all_goals (repeat subst ag)
   refine AW.cD (fun i:Nat=>[(1,ai ↑level),(2,.ptr st.aj.length 0),(16,.d (.sl (e.args.map Ex.enc))),(17,ai ↑e.args.length),(18,ai ↑i)]) (fun _=>[.cells (e.enc.map .d)]) (fun _=>[]) (fun i=>i≤e.args.length∧dc.gy (level+1) (e.args.drop i)=dc.gy (level+1) e.args) (fun i=>e.args.length - i) 0 (by simp (disch:=omega) only [go_sem,seval]<;>first|rfl|exact ⟨rfl,rfl⟩|skip) (by simp (disch:=omega) only [go_sem,seval]<;>first|rfl|exact ⟨rfl,rfl⟩|skip) ⟨by omega,by rw [aa5]⟩ ?_
   intro i ⟨g1,g2⟩
   have g3:=sR (level+1) e.args i
   rw [←g2]
   by_cases hi:i<e.args.length
   ·rw [if_pos hi] at g3
    have hrc:=ih _ (aB hi) (a6 _ (aB hi)) (by have:=hbl _ (aB hi);omega) (level+1) (by omega)
    by_cases hx:dc (level+1) (e.args.getD i default)=0
    ·rw [if_neg (fun h=>h hx)] at g3
     rw [hx] at hrc
     (try refine Wk.aw fun _ ag=>?_);(repeat' (first|((first|refine Wk.hd ?_|refine Wk.i ?_);simp (disch:=omega) only [go_sem,seval])|(refine ay (fun hc=>?_) (fun hc=>?_)<;>try omega)|refine ah (hrc _) ?_|first|refine Wk.o ?_|refine Wk.q ‹_› ?_));all_goals (repeat subst ag)
     ·(refine ⟨i+1,gk.mk ?_ ?_ ?_ (by simp (disch:=omega) only [go_sem,seval]) (by simp (disch:=omega) only [go_sem,seval]) (by first|rfl|(simp (disch:=omega) only [go_sem,seval];all_goals omega)) (by first|rfl|(simp (disch:=omega) only [go_sem,seval];all_goals omega))⟩;focus (try (simp (disch:=omega) only [go_sem,seval]);try ((repeat' apply And.intro)<;>first|rfl|trivial|refine aD ?_|refine Pr ?_|refine ax ?_|skip)))
      ·exact ⟨by omega,g3.symm⟩
      ·omega
    ·rw [if_pos hx] at g3
     (try refine Wk.aw fun _ ag=>?_);(repeat' (first|((first|refine Wk.hd ?_|refine Wk.i ?_);simp (disch:=omega) only [go_sem,seval])|(refine ay (fun hc=>?_) (fun hc=>?_)<;>try omega)|refine ah (hrc _) ?_|refine Wk.ret fun _ _=>?_|(refine Wk.fin ‹_› ?_;refine ⟨?_,rfl⟩)|first|refine Wk.o ?_|refine Wk.q ‹_› ?_));all_goals (repeat subst ag)
     all_goals (rw [g3])
   ·rw [if_neg hi] at g3
    (try refine Wk.aw fun _ ag=>?_);(repeat' (first|((refine Wk.i ?_);simp (disch:=omega) only [go_sem,seval])|(refine ay (fun hc=>?_) (fun hc=>?_)<;>try omega)|refine Wk.ret fun _ _=>?_|(refine Wk.fin ‹_› ?_;refine ⟨?_,rfl⟩)|first|refine Wk.o ?_|refine Wk.q ‹_› ?_|refine Wk.sw fun _ ag=>?_));all_goals (repeat subst ag)
    all_goals (rw [g3])
  ·rw [if_pos hn]
   refine aA.body func132 rfl ntmps132 (by simp) ?_
   (try refine Wk.aw fun _ ag=>?_);(repeat' (first|((first|refine Wk.hd ?_|refine Wk.i ?_);simp (disch:=omega) only [go_sem,seval])|(refine ay (fun hc=>?_) (fun hc=>?_)<;>try omega)|refine ah (hnd _) ?_|refine Wk.ret fun _ _=>?_|(refine Wk.fin ‹_› ?_;refine ⟨?_,rfl⟩)|first|refine Wk.o ?_|refine Wk.q ‹_› ?_));all_goals (repeat subst ag)
   all_goals rfl
def qI (hV:ng G) (hR:zD G) (e:Ex) (fe:j0 e) (hb:bq e≤1099511627776) (hc:bS e≤4611686018427387904):b8 G 85 [vE e] (ai (dW e)):=by
 intro st;have h1:=c_par_Count (G:=G) (bS e) e (aat _) hc;have h2:=zF hV hR e fe hb 1 (by omega);rw [dW];refine aA.body func85 rfl ntmps85 (by simp) ?_;(try refine Wk.aw fun _ ag=>?_);(repeat' (first|((first|refine Wk.hd ?_|refine Wk.i ?_);simp only [go_sem,seval])|(refine ay (fun hc=>?_) (fun hc=>?_)<;>try omega)|refine ah (h1 _) ?_|refine ah (h2 _) ?_|refine Wk.ret fun _ _=>?_|(refine Wk.fin ‹_› ?_;refine ⟨?_,rfl⟩)|first|refine Wk.o ?_|refine Wk.q ‹_› ?_));all_goals (repeat subst ag)
 ·rw [if_pos (by omega)]
 ·rw [if_neg (by omega)]
end Go.Proofs.YtbcillkajdnljaaGreatDoor
end
section
set_option maxHeartbeats 8000000
set_option maxRecDepth 20000
namespace Go.Proofs.YtbcillkajdnljaaGreatDoor
open Tryz
open Go.Abs Go.RowKit
variable {G:World→Nat→Prop}
def Pe {H:GH} {v:Value} {s:aF} (h:de H v (.str s)):v= .string ⟨s.toArray⟩:=by
 cases h with|str b _ h=>?_
 subst h;simp
def LV {c:Ctx} {w:World} {st:St} (hc:bf c w st) {q:Value} {ks:List aF} (h:Rel c q (qC ks)):((∃ lp,q= .slice lp 0 0)∧ks=[])∨∃ b off cap,q= .slice (some ⟨b,off,none⟩) ks.length cap∧
  (0<ks.length→b<w.heap.size)∧∀ j,j<ks.length→w.cell? ⟨b,off+j,none⟩=some (.string ⟨(ks.getD j []).toArray⟩):=by
 cases h with|d _ _ h=>?_
 generalize he:bt ks=es at h
 cases h with
 |slnil=>
  refine .inl ⟨⟨_,rfl⟩,?_⟩
  cases ks with
  |nil=>rfl
  |cons a r=>simp [bt] at he
 |uV a=>
  refine .inl ⟨⟨_,rfl⟩,?_⟩
  cases ks with
  |nil=>rfl
  |cons a r=>simp [bt] at he
 |sl k off n cap sz vs _ h1 h2 h3 h4 h5=>
  subst he
  rw [iP] at h1
  subst h1
  have hcell:∀ j,j<ks.length→w.cell? ⟨k,off+j,none⟩=some (.string ⟨(ks.getD j []).toArray⟩):=by
   intro j hj;have hjl:j< (bt ks).length:=by rw [iP];exact hj
   have hr:=h3 _ (aaX hjl);have hsz:sz=1:=by rw [←hr];simp [bt]
   subst hsz;have h4':=h4 j 0 hj (by omega);have h5':=h5 j 0 hj (by omega);rw [Nat.mul_one,abE] at h4';rw [hc.cy _ _ _ h4'];refine congrArg some (Pe (H:=c.H) ?_);have:((bt ks).getD j []).getD 0 .eX= .str (ks.getD j []):=by
    simp [bt,aam,hj]
   rw [←this];exact h5'
  exact .inr ⟨k,off,cap,rfl,fun h0=>World.block_lt_of_cell? w _ (hcell 0 h0),hcell⟩
def sX:zD G:=by
 intro ks hl hkl st c w cargs hc hG hs hr;have h0:=hr 0 (by simp);simp only [abi] at h0;generalize hq:cargs.getD 0 undef=q at h0;have ha:cargs= #[q]:=by
  apply Array.ext
  ·simpa using hs
  ·intro i hi hi2;have:i=0:=by simp at hi2;omega
   subst this;simpa [aap,hi] using hq
 subst ha;have fin:∀ (e:Ending) (w':World),e= .returned (.bool (decide ¬ ks.Nodup))∧Below w.heap.size w w'→∃ out st' c',(out=Out.ret (vb (kA ks))∧st'=st)∧Ext c c'∧bf c' w' st'∧gT c' e out:=by
  rintro e w' ⟨rfl,hb⟩;refine ⟨.ret (vb (kA ks)),st,c,⟨rfl,rfl⟩,Ext.refl c,hc.later hb,?_⟩;have:kA ks=decide ¬ ks.Nodup:=by rw [abk,zn,aau]
  rw [this];exact .d _ _ (.bool _)
 rcases LV hc h0 with ⟨⟨lp,rfl⟩,rfl⟩|⟨b,off,cap,rfl,hb,hcell⟩
 ·refine (LW lp w).mono ?_;rintro e w' ⟨rfl,h⟩;exact fin _ _ ⟨by simp,h⟩
 ·exact (LX b off cap ks w (by omega) hb hkl hcell).mono fin
def sY (node:Nat→aX→Int) (a b:List (Nat×aX)):ey node (a++b)=if ey node a≠0 then ey node a else ey node b:=by
 induction a with
 |nil=>simp [ey]
 |cons x r ih=>
  simp only [aaP,ey,ih]
  by_cases h:node x.1 x.2≠0
  ·rw [if_pos h]
   simp only [if_pos h]
  ·simp only [if_neg h]
def uq (v:aX):∀ level,ey (fun l v=>gY v l) (gW level v)=dI level v:=by
 induction v using aX.ind with
 |h v ih=>
  intro level
  rw [lG,pY,ey]
  by_cases h:gY v level=0
  ·rw [if_neg (fun hh=>hh h),if_neg (fun hh=>hh h)]
   generalize v.list=l at ih
   induction l with
   |nil=>rfl
   |cons a r ihr=>
    rw [List.flatMap_cons,sY,ih a (by simp),dI.vCheckL,ihr fun x hx=>ih x (by simp [hx])]
  ·rw [if_pos h,if_pos h]
def zG {H:GH} {w:World} (hs:∀ k o v,H k o=some v→w.cell? ⟨k,o,none⟩=some v):LY w.heap.size w (fun va v=>de H va (.agg v.enc)) where
 parts:=by
  intro va v h;rw [aX.aP] at h;cases h with|agg arr _ h1 h2=>?_
  simp only [aav,aaA] at h1 h2;have e0:=h2 0 (by omega);have e1:=h2 1 (by omega);have e2:=h2 2 (by omega);have e3:=h2 3 (by omega);have e4:=h2 4 (by omega);have e5:=h2 5 (by omega);simp only [abi,abI] at e0 e1 e2 e3 e4 e5;have harr:arr= #[arr.getD 0 undef,arr.getD 1 undef,arr.getD 2 undef,arr.getD 3 undef,arr.getD 4 undef,arr.getD 5 undef]:=by
   apply Array.ext
   ·simpa using h1
   ·intro i hi hi2;have hi6:i<6:=by omega
    match i,hi6 with
    |0,_=>simp [aap,hi]
    |1,_=>simp [aap,hi]
    |2,_=>simp [aap,hi]
    |3,_=>simp [aap,hi]
    |4,_=>simp [aap,hi]
    |5,_=>simp [aap,hi]
    |i+6,h=>omega
  rw [harr];generalize arr.getD 0 undef=q0 at*;generalize arr.getD 1 undef=q1 at*;generalize arr.getD 2 undef=q2 at*;generalize arr.getD 3 undef=q3 at*;generalize arr.getD 4 undef=q4 at*;generalize arr.getD 5 undef=q5 at*;clear h2 h1 harr;generalize bt v.keys=ek at e5;have hk:∃ (kp:Option Addr) (kn km:Nat),q5= .slice kp kn km:=by
   cases e5 with
   |slnil=>exact ⟨_,_,_,rfl⟩
   |uV a=>exact ⟨_,_,_,rfl⟩
   |sl k off n cap sz vs _ h1 h2 h3 h4 h5=>exact ⟨_,_,_,rfl⟩
  obtain ⟨kp,kn,km,rfl⟩:=hk;cases e0;cases e1;cases e2;cases e3 with|str s _ hs3=>?_;generalize hes:v.list.map aX.enc=es at e4;cases e4 with
  |slnil=>
   refine ⟨_,_,_,_,_,_,_,_,_,_,rfl,.inl ⟨rfl,?_⟩⟩
   simpa using hes
  |uV a=>
   refine ⟨_,_,_,_,_,_,_,_,_,_,rfl,.inl ⟨rfl,?_⟩⟩
   simpa using hes
  |sl k off n cap sz vs _ h1 h2 h3 h4 h5=>
   subst hes
   rw [aaC] at h1
   subst h1
   refine ⟨_,_,_,_,_,_,_,_,_,_,rfl,.inr ⟨k,off,vs,rfl,rfl,?_,?_⟩⟩
   ·intro W hb i j hi hj
    have hr:=h3 (v.list[i]).enc (abm.2 ⟨_,aaX hi,rfl⟩)
    have hsz:sz=6:=by rw [←hr,aX.aP];rfl
    subst hsz
    have hc:=hs _ _ _ (h4 i j hi hj)
    rw [hb.cell (p:=⟨k,off+i*6+j,none⟩) (World.block_lt_of_cell? w _ hc)]
    exact hc
   ·intro i hi
    have hr:=h3 (v.list[i]).enc (abm.2 ⟨_,aaX hi,rfl⟩)
    have hsz:sz=6:=by rw [←hr,aX.aP];rfl
    subst hsz
    have hx:(v.list.map aX.enc).getD i []=(v.list.getD i default).enc:=by
     simp [aam,hi]
    refine .agg _ _ (by rw [aX.aP];rfl) ?_
    intro j hj
    have hj6:j<6:=by rw [aX.aP] at hj;simpa using hj
    have:=h5 i j hi hj6
    rw [hx] at this
    match j,hj6 with
    |0,_=>exact this
    |1,_=>exact this
    |2,_=>exact this
    |3,_=>exact this
    |4,_=>exact this
    |5,_=>exact this
    |j+6,h=>omega
def Pf {c:Ctx} {va:Value} {v:aX} (h:Rel c va (vV v)):de c.H va (.agg v.enc):=by
 rw [vV] at h;generalize v.enc=l at h;cases h with|agg arr _ h1 h2=>?_
 rw [aaC] at h1 h2;refine .agg _ _ h1 fun i hi=>?_;have:=h2 i hi;have e:(l.map V.d).getD i .aU= .d (l.getD i .eX):=by simp [aam,hi]
 rw [e] at this;exact Rel.me this rfl
def Pg {c:Ctx} {va:Value} {v:aX} (h:de c.H va (.agg v.enc)):Rel c va (vV v):=by
 rw [vV];generalize v.enc=l at h;cases h with|agg arr _ h1 h2=>?_
 refine .agg _ _ (by simpa using h1) fun i hi=>?_;rw [aaC] at hi;have:=h2 i hi;have e:(l.map V.d).getD i .aU= .d (l.getD i .eX):=by simp [aam,hi]
 rw [e];exact .d _ _ this
def qJ : ng G := by
  intro v fv hb st c w cargs hc hG hs hr;have h0 := hr 0 (by simp);simp only [abi] at h0;generalize hq : cargs.getD 0 undef = q at h0;have ha : cargs = #[q] := by
    apply Array.ext
    · simpa using hs
    · intro i hi hi2;have : i = 0 := by simp at hi2; omega
      subst this;simpa [aap, hi] using hq
  subst ha;have hR : de c.H q (.agg v.enc) := Pf h0;have hL := zG hc.cy;refine (Valid_in (Rl := fun va v => de c.H va (.agg v.enc)) (Fit := fun level v => gU v ∧ level + cj v ≤ 1152921504606846976) (fun l v => gY v l) w hL ?_ ?_ q v hR ⟨fv, by omega⟩).mono ?_
  · intro level v ⟨h1, h2⟩;have hf := (dX v).1 h1;refine ⟨by omega, hf.2.1, fun x hx => ⟨hf.2.2.2.2 x hx, ?_⟩⟩;have := rP hx;rw [jK] at h2;omega
  · rintro W ⟨⟨level, va, v⟩, h1, h2, h3⟩ hB;have hnode := B5 (G := fun _ _ => True) v h2 level (by simp only at h3; omega) ⟨[], []⟩;have hsl : ∀ k o u, c.H k o = some u → W.cell? ⟨k, o, none⟩ = some u := fun k o u h => by
      have := hc.cy k o u h;rw [hB.cell (p := ⟨k, o, none⟩) (World.block_lt_of_cell? w _ this)]; exact this
    refine (hnode ⟨c.H, [], [], W.heap.size, W⟩ W #[va, .int .i64 level] ?_ trivial rfl ?_).mono ?_
    · exact { cN := rfl, dH := fun i j k h => by simp at h, cI := fun i k h => by simp at h, mS := fun i k o h => by simp at h, blk := fun b k B h => by simp at h, cu := rfl,
              cz := fun i t h => by simp at h, cK := fun i j s t g h => by simp at h, cy := hsl, below := Below.refl _ _, cw := aat _ }
    · intro i hi
      match i, hi with
      | 0, _ => exact Pg h1
      | 1, _ => exact .d _ _ (.int _ _)
      | i + 2, h => simp at h; omega
    · rintro e W' ⟨out, st', c', ⟨rfl, rfl⟩, hext, hc', he⟩;refine ⟨?_, ?_⟩
      · cases e with
        | returned u =>
          have he' : Rel c' u (ai (gY v level)) := he
          cases he' with | d _ _ he' => ?_
          cases he'
          rfl
        | _ => exact he.elim
      · have hb := hc'.below;rw [hext.base, hext.w0] at hb;exact hb
  · rintro e w' ⟨rfl, hb'⟩;refine ⟨.ret (ai (fk v)), st, c, ⟨rfl, rfl⟩, Ext.refl c, hc.later hb', ?_⟩;rw [uq, fk];exact .d _ _ (.int _ _)
end Go.Proofs.YtbcillkajdnljaaGreatDoor
end
section
set_option maxHeartbeats 8000000
set_option maxRecDepth 20000
namespace Go.Proofs
open Go.Shelf
end Go.Proofs
namespace Go.Proofs.YtbcillkajdnljaaGreatDoor
open Tryz
open Go.Abs Go.RowKit
variable {G:World→Nat→Prop}
def LZ (s:aF):∀ acc,acc≤s.foldl (fun n c=>10*n+(c.toNat - 48)) acc:=by
 induction s with
 |nil=>intro acc;exact aat _
 |cons c r ih=>
  intro acc
  have:=ih (10*acc+(c.toNat - 48))
  simp only [List.foldl_cons]
  omega
def Ph (s:aF) (h:∀ c∈s,isDigit c=true):∀ acc,Lib.parseUint10 acc s=if s.foldl (fun n c=>10*n+(c.toNat - 48)) acc<18446744073709551616 then .ok (s.foldl (fun n c=>10*n+(c.toNat - 48)) acc) else if s=[] then .ok acc else .range:=by
 induction s with
 |nil=>intro acc;simp [Lib.parseUint10]
 |cons c r ih=>
  intro acc
  have hc:=h c (by simp)
  rw [isDigit,aau] at hc
  have hf:=LZ r (10*acc+(c.toNat - 48))
  rw [Lib.parseUint10,if_pos hc,List.foldl_cons]
  have e:acc*10+(c.toNat - 48)=10*acc+(c.toNat - 48):=by omega
  rw [e]
  by_cases h1:1844674407370955162≤acc
  ·rw [if_pos h1,if_neg (by omega),if_neg (by simp)]
  ·rw [if_neg h1]
   by_cases h2:18446744073709551616≤10*acc+(c.toNat - 48)
   ·rw [if_pos h2,if_neg (by omega),if_neg (by simp)]
   ·rw [if_neg h2,ih (fun x hx=>h x (by simp [hx]))]
    by_cases h3:r.foldl (fun n c=>10*n+(c.toNat - 48)) (10*acc+(c.toNat - 48))<18446744073709551616
    ·rw [if_pos h3,if_pos h3]
    ·rw [if_neg h3,if_neg h3]
     cases r with
     |nil=>simp at h3;omega
     |cons a r=>simp
def Dq (s:aF) (h0:s≠[]) (h:∀ c∈s,isDigit c=true):Lib.atoiAll s=if cZ s<9223372036854775808 then .ok (cZ s:Int) else .range:=by
 have hp:=Ph s h 0
 match s,h0 with
 |c::r,_=>
  have hc:=h c (by simp)
  rw [isDigit,aau] at hc
  have hn:cZ (c::r)=(c::r).foldl (fun n c=>10*n+(c.toNat - 48)) 0:=rfl
  rw [←hn] at hp
  simp only [Lib.atoiAll]
  rw [if_neg (by omega),Lib.parseMag,if_neg (by simp),hp]
  by_cases h1:cZ (c::r)<18446744073709551616
  ·rw [if_pos h1]
   simp only
   by_cases h2:cZ (c::r)<9223372036854775808
   ·rw [if_neg (by omega),if_neg (by omega),if_neg (by omega),if_pos h2]
   ·rw [if_pos (by omega),if_neg h2]
  ·rw [if_neg h1,if_neg (by simp),if_neg (by omega)]
def GV (G:World→Nat→Prop):Prop:=∀ w0 b w,G w0 b→Below b w0 w→∃ tp p,w.var? prog "strconv.ErrRange" =some #[.iface tp p]
def zH (w:World) (e:TypeId) (s:ByteArray):Below w.heap.size w (Lib.bytesWorld w e s):=by
 refine ⟨rfl,rfl,rfl,?_,fun k hk=>?_⟩
 ·simp [Lib.bytesWorld,World.freeze]
 ·have:(w.drew.alloc (.cells (Lib.bytesCells w e s) e)).heap[k]?=w.heap[k]?:=Below.heap_alloc w.drew _ k hk;rw [←this];show ((w.drew.alloc (.cells (Lib.bytesCells w e s) e)).heap.modify w.heap.size _)[k]?=_;rw [abv,if_neg (by omega)]
def vm (s:aF) (hs:s.length≤1048576) (v:Int) (h:Lib.atoiAll s= .ok v):b8 G 547 [vs s] (.cF [ai v,.d .fD]):=by
 intro st c w cargs hc hG hsz hr;have ha:cargs= #[.string ⟨s.toArray⟩]:=by
  have h0:=hr 0 (by simp);simp only [abi] at h0;generalize hq:cargs.getD 0 undef=q at h0;cases h0 with|d _ _ h0=>?_
  have:=Pe h0;subst this;apply Array.ext
  ·simpa using hsz
  ·intro i hi hi2;have:i=0:=by simp at hi2;omega
   subst this;simpa [aap,hi] using hq
 subst ha;refine (Any.strconv_Atoi_ok Tryz.yL ⟨s.toArray⟩ (by simp only [ByteArray.size,aaW];omega) v (by simpa using h) w).mono ?_;rintro e w' ⟨rfl,hw⟩;have hb:Below w.heap.size w w':=by
  rcases hw with rfl|⟨t,rfl⟩
  ·exact Below.refl _ _
  ·exact zH _ _ _
 refine ⟨.ret (.cF [ai v,.d .fD]),st,c,⟨rfl,rfl⟩,Ext.refl c,hc.later hb,.cF _ _ rfl fun i hi=>?_⟩
 match i,hi with
 |0,_=>exact .d _ _ (.int _ _)
 |1,_=>exact .d _ _ .fD
 |i+2,h=>simp at h;omega
def xj (hg:GV G) (s:aF) (hs:s.length≤1048576) (h:Lib.atoiAll s= .range):b8 G 547 [vs s] (.cF [ai (Lib.atoiSat s),.d .nz]):=by
 intro st c w cargs hc hG hsz hr;have ha:cargs= #[.string ⟨s.toArray⟩]:=by
  have h0:=hr 0 (by simp);simp only [abi] at h0;generalize hq:cargs.getD 0 undef=q at h0;cases h0 with|d _ _ h0=>?_
  have:=Pe h0;subst this;apply Array.ext
  ·simpa using hsz
  ·intro i hi hi2;have:i=0:=by simp at hi2;omega
   subst this;simpa [aap,hi] using hq
 subst ha;obtain ⟨tp,p,hvar⟩:=hg _ _ w hG hc.below;refine (Any.strconv_Atoi_range_var Tryz.yL ⟨s.toArray⟩ (by simp only [ByteArray.size,aaW];omega) (by simpa using h) tp p w hvar).mono ?_;rintro e w' ⟨N,rfl,hN,hh,hb⟩;refine ⟨.ret (.cF [ai (Lib.atoiSat s),.d .nz]),st,c,⟨rfl,rfl⟩,Ext.refl c,hc.later hb,.cF _ _ rfl fun i hi=>?_⟩
 match i,hi with
 |0,_=>exact .d _ _ (.int _ _)
 |1,_=>exact .d _ _ (.nz _ _)
 |i+2,h=>simp at h;omega
def Ft (hg:GV G) (s:aF) (hs:s.length≤1048576):b8 G 562 [vs s] (vb (fZ s)):=by
 intro st;by_cases h0:s=[]
 ·subst h0;refine aA.body func562 rfl ntmps562 (by simp) ?_;(try refine Wk.aw fun _ ag=>?_);(repeat' (first|((first|refine Wk.hd ?_|refine Wk.i ?_);simp (disch:=omega) only [go_sem,seval])|refine Wk.ret fun _ _=>?_|(refine Wk.fin ‹_› ?_;refine ⟨?_,rfl⟩)|first|refine Wk.o ?_|refine Wk.q ‹_› ?_));all_goals (repeat subst ag)
  all_goals rfl
 have h0l:0<s.length:=abP.2 h0;by_cases hz:1<s.length∧(s.getD 0 0).toNat=48
 ·have:fZ s=false:=by rw [fZ,decide_eq_true hz];simp
  rw [this];obtain ⟨z1,z2⟩:=hz;refine aA.body func562 rfl ntmps562 (by simp) ?_;(try refine Wk.aw fun _ ag=>?_);(repeat' (first|((first|refine Wk.hd ?_|refine Wk.i ?_);simp (disch:=omega) only [go_sem,seval])|(refine ay (fun hc=>?_) (fun hc=>?_)<;>try omega)|refine Wk.ret fun _ _=>?_|(refine Wk.fin ‹_› ?_;refine ⟨?_,rfl⟩)|first|refine Wk.o ?_|refine Wk.q ‹_› ?_));all_goals (repeat subst ag)
  all_goals first|rfl|(exfalso;omega)|skip
 by_cases hall:∀ c∈s,isDigit c=true
 ·have hd:fZ s=decide (cZ s≤9007199254740992):=by
   rw [fZ,decide_eq_true h0,decide_eq_false hz,aaE.2 hall];simp
  rw [hd];have hat:=Dq s h0 hall;have hne:decide (s=[])=false:=decide_eq_false h0;refine aA.body func562 rfl ntmps562 (by simp) ?_;(try refine Wk.aw fun _ ag=>?_);(repeat' (first|((first|refine Wk.hd ?_|refine Wk.i ?_);simp (disch:=omega) only [go_sem,seval,hne])|(refine ay (fun hc=>?_) (fun hc=>?_)<;>try omega)|refine Wk.o ?_));all_goals (repeat subst ag)
  all_goals first|(exfalso;omega)|skip
  all_goals refine AW.cD (fun i:Nat=>[(0,vs s),(3,ai ↑i)]) (fun _=>[]) (fun _=>[]) (fun i=>i≤s.length) (fun i=>s.length - i) 0 (by simp (disch:=omega) only [go_sem,seval]<;>first|rfl|exact ⟨rfl,rfl⟩|skip) (by simp (disch:=omega) only [go_sem,seval]<;>first|rfl|exact ⟨rfl,rfl⟩|skip) (by omega) ?_
  all_goals intro i hi
  all_goals
   by_cases hlt:i<s.length
   ·have hdi:isDigit (s.getD i 0)=true:=hall _ (aB hlt)
    have hdc:=jR (G:=G) (s.getD i 0)
    rw [hdi] at hdc
    (try refine Wk.aw fun _ ag=>?_);(repeat' (first|((first|refine Wk.hd ?_|refine Wk.i ?_);simp (disch:=omega) only [go_sem,seval])|(refine ay (fun hc=>?_) (fun hc=>?_)<;>try omega)|refine ah (hdc _) ?_|first|refine Wk.o ?_|refine Wk.q ‹_› ?_));all_goals (repeat subst ag)
    ·(refine ⟨i+1,gk.mk ?_ ?_ ?_ (by simp (disch:=omega) only [go_sem,seval]) (by simp (disch:=omega) only [go_sem,seval]) (by first|rfl|(simp (disch:=omega) only [go_sem,seval];all_goals omega)) (by first|rfl|(simp (disch:=omega) only [go_sem,seval];all_goals omega))⟩;focus (try (simp (disch:=omega) only [go_sem,seval]);try ((repeat' apply And.intro)<;>first|rfl|trivial|refine aD ?_|refine Pr ?_|refine ax ?_|skip)))
     all_goals omega
   ·by_cases hn:cZ s<9223372036854775808
    ·rw [if_pos hn] at hat
     have hrc:=vm (G:=G) s hs _ hat
     (try refine Wk.aw fun _ ag=>?_);(repeat' (first|((first|refine Wk.hd ?_|refine Wk.i ?_);simp (disch:=omega) only [go_sem,seval])|(refine ay (fun hc=>?_) (fun hc=>?_)<;>try omega)|refine ah (hrc _) ?_|refine Wk.ret fun _ _=>?_|(refine Wk.fin ‹_› ?_;refine ⟨?_,rfl⟩)|first|refine Wk.o ?_|refine Wk.q ‹_› ?_|refine Wk.sw fun _ ag=>?_));all_goals (repeat subst ag)
     all_goals (refine aO ?_;simp only [aau];omega)
    ·rw [if_neg hn] at hat
     have hrc:=xj hg s hs hat
     (try refine Wk.aw fun _ ag=>?_);(repeat' (first|((first|refine Wk.hd ?_|refine Wk.i ?_);simp (disch:=omega) only [go_sem,seval])|(refine ay (fun hc=>?_) (fun hc=>?_)<;>try omega)|refine ah (hrc _) ?_|refine Wk.ret fun _ _=>?_|(refine Wk.fin ‹_› ?_;refine ⟨?_,rfl⟩)|first|refine Wk.o ?_|refine Wk.q ‹_› ?_|refine Wk.sw fun _ ag=>?_));all_goals (repeat subst ag)
     all_goals (rw [decide_eq_false (show ¬ cZ s≤9007199254740992 by omega)])
 ·have hd:fZ s=false:=by
   rw [fZ,Bool.eq_false_iff];intro h;simp only [aas] at h;exact hall (aaE.1 h.1.2)
  rw [hd];have hne:decide (s=[])=false:=decide_eq_false h0;refine aA.body func562 rfl ntmps562 (by simp) ?_;(try refine Wk.aw fun _ ag=>?_);(repeat' (first|((first|refine Wk.hd ?_|refine Wk.i ?_);simp (disch:=omega) only [go_sem,seval,hne])|(refine ay (fun hc=>?_) (fun hc=>?_)<;>try omega)|refine Wk.o ?_));all_goals (repeat subst ag)
  all_goals first|(exfalso;omega)|skip
  all_goals refine AW.cD (fun i:Nat=>[(0,vs s),(3,ai ↑i)]) (fun _=>[]) (fun _=>[]) (fun i=>i≤s.length∧∀ k,k<i→isDigit (s.getD k 0)=true) (fun i=>s.length - i) 0 (by simp (disch:=omega) only [go_sem,seval]<;>first|rfl|exact ⟨rfl,rfl⟩|skip) (by simp (disch:=omega) only [go_sem,seval]<;>first|rfl|exact ⟨rfl,rfl⟩|skip) ⟨by omega,by omega⟩ ?_
  all_goals
   intro i ⟨hi,hk⟩
   have hlt:i<s.length:=by
    refine Nat.lt_of_not_le fun hge=>hall fun c hc=>?_;obtain ⟨k,hk1,rfl⟩:=aaY.1 hc;have:=hk k (by omega);simpa [aam,hk1] using this
   have hdc:=jR (G:=G) (s.getD i 0)
   by_cases hdi:isDigit (s.getD i 0)=true
   ·rw [hdi] at hdc
    (try refine Wk.aw fun _ ag=>?_);(repeat' (first|((first|refine Wk.hd ?_|refine Wk.i ?_);simp (disch:=omega) only [go_sem,seval])|(refine ay (fun hc=>?_) (fun hc=>?_)<;>try omega)|refine ah (hdc _) ?_|first|refine Wk.o ?_|refine Wk.q ‹_› ?_));all_goals (repeat subst ag)
    ·(refine ⟨i+1,gk.mk ?_ ?_ ?_ (by simp (disch:=omega) only [go_sem,seval]) (by simp (disch:=omega) only [go_sem,seval]) (by first|rfl|(simp (disch:=omega) only [go_sem,seval];all_goals omega)) (by first|rfl|(simp (disch:=omega) only [go_sem,seval];all_goals omega))⟩;focus (try (simp (disch:=omega) only [go_sem,seval]);try ((repeat' apply And.intro)<;>first|rfl|trivial|refine aD ?_|refine Pr ?_|refine ax ?_|skip)))
     ·refine ⟨by omega,fun k hk'=>?_⟩
      by_cases hki:k=i
      ·subst hki;exact hdi
      ·exact hk k (by omega)
     ·omega
   ·rw [Bool.not_eq_true] at hdi
    rw [hdi] at hdc
    (try refine Wk.aw fun _ ag=>?_);(repeat' (first|((first|refine Wk.hd ?_|refine Wk.i ?_);simp (disch:=omega) only [go_sem,seval])|(refine ay (fun hc=>?_) (fun hc=>?_)<;>try omega)|refine ah (hdc _) ?_|refine Wk.ret fun _ _=>?_|(refine Wk.fin ‹_› ?_;refine ⟨?_,rfl⟩)|first|refine Wk.o ?_|refine Wk.q ‹_› ?_));all_goals (repeat subst ag)
    all_goals rfl
def Pj (hg:GV G) (k:Int) (s:aF) (n:Int) (hs:s.length≤1048576):b8 G 551 [.agg [ai k,vs s,ai n]] (vb (if k=1 then isName s else if k=2 then fZ s else if k=3 then decide (s.length≤4096) else decide (k=4))):=by
 intro st;have h1:=sV (G:=G) s hs;have h2:=Ft hg s hs;by_cases k1:k=1
 ·rw [if_pos k1];subst k1;refine aA.body func551 rfl ntmps551 (by simp) ?_;(try refine Wk.aw fun _ ag=>?_);(repeat' (first|((first|refine Wk.hd ?_|refine Wk.i ?_);simp only [go_sem,seval])|refine ah (h1 _) ?_|refine Wk.ret fun _ _=>?_|(refine Wk.fin ‹_› ?_;refine ⟨?_,rfl⟩)|first|refine Wk.o ?_|refine Wk.q ‹_› ?_));all_goals (repeat subst ag)
  all_goals rfl
 rw [if_neg k1];by_cases k2:k=2
 ·rw [if_pos k2];subst k2;refine aA.body func551 rfl ntmps551 (by simp) ?_;(try refine Wk.aw fun _ ag=>?_);(repeat' (first|((first|refine Wk.hd ?_|refine Wk.i ?_);simp only [go_sem,seval])|refine ah (h2 _) ?_|refine Wk.ret fun _ _=>?_|(refine Wk.fin ‹_› ?_;refine ⟨?_,rfl⟩)|first|refine Wk.o ?_|refine Wk.q ‹_› ?_));all_goals (repeat subst ag)
  all_goals rfl
 rw [if_neg k2];by_cases k3:k=3
 ·rw [if_pos k3];subst k3;refine aA.body func551 rfl ntmps551 (by simp) ?_;(try refine Wk.aw fun _ ag=>?_);(repeat' (first|((refine Wk.i ?_);simp only [go_sem,seval])|refine Wk.ret fun _ _=>?_|(refine Wk.fin ‹_› ?_;refine ⟨?_,rfl⟩)|first|refine Wk.o ?_|refine Wk.q ‹_› ?_));all_goals (repeat subst ag)
  all_goals (refine aO ?_;simp only [aau];omega)
 rw [if_neg k3];by_cases k4:k=4
 ·subst k4;refine aA.body func551 rfl ntmps551 (by simp) ?_;(try refine Wk.aw fun _ ag=>?_);(repeat' (first|((refine Wk.i ?_);simp only [go_sem,seval])|refine Wk.ret fun _ _=>?_|(refine Wk.fin ‹_› ?_;refine ⟨?_,rfl⟩)|first|refine Wk.o ?_|refine Wk.q ‹_› ?_));all_goals (repeat subst ag)
  all_goals rfl
 ·rw [decide_eq_false k4];refine aA.body func551 rfl ntmps551 (by simp) ?_;(try refine Wk.aw fun _ ag=>?_);(repeat' (first|((refine Wk.i ?_);simp only [go_sem,seval])|(refine ay (fun hc=>?_) (fun hc=>?_)<;>try omega)|refine Wk.ret fun _ _=>?_|(refine Wk.fin ‹_› ?_;refine ⟨?_,rfl⟩)|first|refine Wk.o ?_|refine Wk.q ‹_› ?_));all_goals (repeat subst ag)
  all_goals first|rfl|(exfalso;omega)
end Go.Proofs.YtbcillkajdnljaaGreatDoor
end
section
set_option maxHeartbeats 8000000
set_option maxRecDepth 20000
namespace Go.Proofs.YtbcillkajdnljaaGreatDoor
open Tryz
open Go.Abs
attribute [local irreducible] AW OX GQ bK bO bz aY aA
variable {G:World→Nat→Prop}
abbrev bI (T:List Tk) (j:Nat):ec:= .cells [jA T,ai ↑j]
abbrev panV (j:Nat) (code:Int):V:= .d (.iface 532 (.agg [.int .i64 j,.int .i64 code]))
def fT (t:Tk):Bool:=if t.kind=1 then isName t.text else if t.kind=2 then fZ t.text else if t.kind=3 then decide (t.text.length≤4096) else decide (t.kind=4)
def ez (T:List Tk) (j:Nat):Tk:=if j<T.length then (if fT (T.getD j default) then T.getD j default else MZ) else MZ
def J5 (T:List Tk) (j:Nat) (s:aF):Bool:=decide ((ez T j).kind=4)&&decide ((ez T j).text=s)
def cW (T:List Tk) (j:Nat) (s:aF):J5 T j s=bU T j s:=by
 rw [J5,bU,ez];by_cases h:j<T.length
 ·rw [if_pos h,decide_eq_true h,Bool.true_and,cg];by_cases hk:(T.getD j default).kind=4
  ·have:fT (T.getD j default)=true:=by rw [fT,if_neg (by omega),if_neg (by omega),if_neg (by omega),decide_eq_true hk]
   rw [if_pos this];generalize T.getD j default=t at*;simp [hk]
  ·generalize T.getD j default=t at*;by_cases hr:fT t=true
   ·rw [if_pos hr];simp [hk]
   ·rw [if_neg hr];simp [hk,MZ]
 ·rw [if_neg h,decide_eq_false h];simp [MZ]
def fh (T:List Tk):dF Ex→Out
 | .ok e _=> .ret (vE e)
 | .err rest c=> .dw (panV (T.length - rest.length) c)
def kf (G:World→Nat→Prop) (T:List Tk) (f:FuncId) (args:List V) (j:Nat) (r:dF Ex):Prop:=
 ∀ B K b,B[b]?=some (bI T j)→aA prog G f (.ptr b 0::args) ⟨B,K⟩ (fun o s=>o=fh T r∧s=⟨B.set b (bI T (T.length - (au r).length)),K⟩)
def fU {l m:List ec} {b:Nat} {x:ec} (h:l[b]?=some x):(l++m)[b]?=some x:=by rw [aaz (aao.1 h).1];exact h
structure ur (G:World→Nat→Prop) (T:List Tk) (f:Nat):Prop where
 cond:∀ i,i≤T.length→∀ r,pF f .cond (T.drop i)=some r→kf G T 442 [] i r
 op:∀ n,1≤n→n≤7→∀ i,i≤T.length→∀ r,pF f (.op n) (T.drop i)=some r→kf G T 487 [ai ↑n] i r
 un:∀ i,i≤T.length→∀ r,pF f .un (T.drop i)=some r→kf G T 522 [] i r
 chain:∀ i,i≤T.length→∀ r,aL (pF f .atom (T.drop i)) (fun e r2=>pF f (.chain e) r2)=some r→kf G T 550 [] i r
def c_par_word (s:aF):b8 G 439 [vs s] (vb (decide (s=gX)||decide (s=fY)||decide (s=jc))):=by
 intro st;refine aA.body func439 rfl ntmps439 (by simp) ?_;(try refine Wk.aw fun _ ag=>?_);(repeat' (first|((first|refine Wk.hd ?_|refine Wk.i ?_);simp only [go_sem,seval])|(refine ay (fun hc=>?_) (fun hc=>?_)<;>try omega)|refine Wk.ret fun _ _=>?_|(refine Wk.fin ‹_› ?_;refine ⟨?_,rfl⟩)|first|refine Wk.o ?_|refine Wk.q ‹_› ?_));all_goals (repeat subst ag)
 all_goals (refine aO ?_;simp only [aaU,aau];simp_all [gX,fY,jc])
abbrev Qi:List V:=[.d (.int .i64 0),.d (.str []),.d (.int .i64 0),.d (.bool false),.d (.int .i64 0),.d (.str []),.bh,.bh,.bh,.bh]
abbrev Xt (N:Nat) (ls ks:List (List D)):List V:=[.d (.int .i64 10),.d (.str []),.d (.int .i64 0),.d (.bool false),.d (.int .i64 0),.d (.str []),.bh,.bh,lz (N+1) ls,lz N ks]
def oY (ks:List aF):(bt ks).length=ks.length:=by induction ks<;>simp_all [bt]
end Go.Proofs.YtbcillkajdnljaaGreatDoor
end
section
namespace Go.Abs
open Go.RowKit
def Ti (l:List Oper) (fr:Fr) (b i:Nat):Op→Bool
 | .store _ (.tmp u) _=>(match iO l u with|some j=>decide (j<i)|none=>true)&& (match fr u with| .ptr b' _=>b' !=b|_=>false)
 | .load _ _=>true
 |o=>eu o
def T0 (l:List Oper) (fr:Fr) (b:Nat):Bool:=l.zipIdx.all fun p=>Ti l fr b p.2 p.1.op
def Jf (l:List Oper) (fr:Fr) (i:Nat):Bool:=
 match l[i]? with
 |some ⟨_,.load _ (.tmp t),_,_,_,none⟩=>(match iO l t with|some j=>decide (j<i)|none=>true)&& (match fr t with| .ep _ _=>true| .ptr b _=>T0 l fr b|_=>false)
 |_=>false
section
variable {P:Program} {G:World→Nat→Prop} {n:NDs} {aC:St} {Q:AX→Fr→St→Prop}
def zK {t:TypeId} {b' o':Nat} {x:V} {st st':St} (h:iJ P t (.ptr b' o') x st=some st') {b:Nat} (hb:b'≠b) (ty:TypeId) (off:Nat):bn P ty (.ptr b off) st'=bn P ty (.ptr b off) st:=by
 have key:st'.aj[b]?=st.aj[b]?:=by
  unfold iJ at h;split at h
  ·rename_i k off' sz l hk _ _;cases hk;split at h
   ·split at h
    ·unfold putBlk at h;split at h
     ·split at h
      ·simp only [aal] at h;subst h;simp only [dY];rw [aa6 hb]
      ·cases h
     ·cases h
    ·cases h
   ·cases h
  ·cases h
 unfold bn;simp only [key]
def AW.Pv (hm:P.follows .mixedOrders=true) {id:Nat} {l rest:List Oper} (ex:List (Nat×Nat)) (hok:fM l [] ex l.length=true) {fr fr':Fr} {st st':St} (h:cJ P n l.toArray [] l fr st=some (rest,fr',st'))
  (k:OX P G n aC true [] l.toArray (fun x fr st=>(ex.all fun p=>decide (p.2≤l.length)&&Jf l fr p.1)=true∧Q x fr st) rest fr' st'):AW P G n aC (.region id l.toArray true) Q fr st:=by
 obtain ⟨vs,ss,fr'',st'',htr,hb,hQ⟩:=OT.run h k
 have hM:=htr.toM 0
 refine AW.wN hm hok hM (fun i hi hmem=>?_) hQ
 have hE:=aaE.1 hb (i,hi) hmem
 simp only [aas,aau] at hE
 obtain ⟨hhi,hE⟩:=hE
 obtain ⟨h1,h2,h3⟩:=hM.spec [] fr (fun i=>vs.getD i .aU) (fun i=>(st::ss).getD i default) rfl (fun j o d ho hd=>(Pb hok ho).dst d hd) (by simp) (by simp) (by
  funext t;unfold valOf;cases iO ([]++l) t<;>simp)
 simp only [aaN,aaA,aaK,true_implies] at h1 h2
 unfold Jf at hE
 split at hE
 ·rename_i a ty t b c d he
  simp only [aas] at hE
  obtain ⟨hE1,hE2⟩:=hE
  refine ⟨_,t,ty,he,rfl,rfl,fun j hj=>by rw [hj] at hE1;simpa using hE1,fun k hk v s hv hs=>?_⟩
  split at hE2
  ·rename_i cs off he2
   rw [he2] at hv ⊢
   unfold bn at hv ⊢
   exact hv
  ·rename_i b off he2
   have step:∀ i,i<l.length→bn P ty (.ptr b off) ((st::ss).getD (i+1) default)=bn P ty (.ptr b off) ((st::ss).getD i default):=by
    intro i hil;obtain ⟨s1,s2⟩:=h1 i l[i] (by simp [hil]);have hq:=aaE.1 hE2 (l[i],i) (by rw [aa9];simp [hil]);simp only at hq;generalize ho:l[i]=o at*;obtain ⟨dst,op,type,pos,after,guard⟩:=o;simp only at hq;have quiet:eu op=true→bn P ty (.ptr b off) ((st::ss).getD (i+1) default)=bn P ty (.ptr b off) ((st::ss).getD i default):=by
     intro hq;have:=(s1.quiet hq).1;rw [this]
    cases op with
    |store t2 x y=>
     cases x with
     |tmp u=>
      simp only [Ti,aas] at hq
      obtain ⟨q1,q2⟩:=hq
      have hfu:fr'' u=valOf l fr (fun i=>vs.getD i .aU) (fun k=>decide (k<i)) u:=by
       rw [h2];unfold valOf;cases hw:iO l u with
       |none=>rfl
       |some j=>
        rw [hw] at q1
        have q1:j<i:=by simpa using q1
        have:j<l.length:=by omega
        simp only [decide_eq_true q1,decide_eq_true this,if_true]
      split at q2
      ·rename_i b' o' hpu
       rw [hfu] at hpu
       generalize hS:(st::ss).getD i default=S1 at s1
       generalize (st::ss).getD (i+1) default=S2 at s1
       generalize vs.getD i .aU=vv at s1
       cases s1 with
       |op _ _ g1 g2 g3=>
        simp only [evalOp,ev] at g2
        rw [hpu] at g2
        rw [aaF] at g2
        obtain ⟨s',g4,g5⟩:=g2
        cases g5
        exact zK g4 (by simpa using q2) ty off
       |skip g1 g2=>rfl
       |call _ _ g cap x args ats _ hop=>cases hop
      ·cases q2
     |const c=>exact quiet hq
     |func f=>exact quiet hq
     |global g=>exact quiet hq
    |load t2 x=>rw [s2 rfl]
    |_=>exact quiet hq
   have all:∀ k,k≤l.length→bn P ty (.ptr b off) ((st::ss).getD k default)=bn P ty (.ptr b off) st:=by
    intro k;induction k with
    |zero=>intro _;rfl
    |succ k ih=>intro hk;rw [step k (by omega),ih (by omega)]
   have hil:i<l.length:=(aao.1 he).1
   rw [he2] at hv ⊢
   subst hs
   rw [all i (by omega)] at hv
   rw [all k (by omega)];exact hv
  ·cases hE2
 ·cases hE
end
end Go.Abs
end
section
set_option maxHeartbeats 8000000
set_option maxRecDepth 20000
namespace Go.Proofs.YtbcillkajdnljaaGreatDoor
open Tryz
open Go.Abs
attribute [local irreducible] AW OX GQ bK bO bz aY aA
variable {G:World→Nat→Prop}
def Xv:(zeroOf prog 532).map ofConst=some (.agg [.d (.int .i64 0),.d (.int .i64 0)]):=by kernel_rfl
def B9 (cs:List Abs.D):(V.d (.agg cs)).cells=some (cs.map V.d):=(rfl)
attribute [go_sem] Xv B9
def zL (B:List ec) (a b c d e:ec) (K:List (Nat×Nat×Nat)) {N:Nat} (h:N=B.length+4):St.cut ⟨B++[a,b,c,d,e],K⟩ N K.length=⟨B++[a,b,c,d],K⟩:=by
 subst h;simp only [St.cut,aaD];rw [List.take_append,aaO (by omega),Nat.add_sub_cancel_left];rfl
def c_read1_n (B:List ec) (K:List (Nat×Nat×Nat)) (es:List V) (v1 v2:V) (X:ec):
  fN prog G 441 [.ptr B.length 0,.ptr (B.length+1) 0,.ptr (B.length+2) 0] none ⟨B++[.cells es,.cells [v1],.cells [v2],X],K⟩ (fun o s=>o= .ret (.cF [])∧s=⟨B++[.cells es,.cells [v1],.cells [v2],X],K⟩):=by
 refine fN.body func441 rfl ntmps441 (by simp) rfl rfl rfl (by decide) ?_
 (try refine Wk.ow fun _ ag=>?_);(repeat' (first|((refine Wk.i ?_);simp only [go_sem,seval,Option.getD_none])|first|refine Wk.o ?_|refine Wk.q ‹_› ?_));all_goals (repeat subst ag)
 (try refine Wk.aw fun _ ag=>?_);(repeat' (first|((refine Wk.i ?_);simp only [go_sem,seval])|first|refine Wk.o ?_|refine Wk.q ‹_› ?_));all_goals (repeat subst ag)
 refine kH (aV K.length (aat _) (s1:=⟨B++[.cells es,.cells [v1],.cells [v2],X],K⟩) (zL _ _ _ _ _ _ _ (by simp)) (fun _ _ h=> .inl h) rfl rfl rfl ⟨rfl,rfl⟩)
def Fx (B:List ec) (K:List (Nat×Nat×Nat)) (es:List V) (hes:es.length=10) (v1 v2:V) (X:ec) (j:Nat) (c:Int):
  fN prog G 441 [.ptr B.length 0,.ptr (B.length+1) 0,.ptr (B.length+2) 0] (some (panV j c)) ⟨B++[.cells es,.cells [v1],.cells [v2],X],K⟩ (fun o s=>o= .ret (.cF [])∧s=⟨B++[.cells Qi,.cells [ai j],.cells [ai c],X],K⟩):=by
 have hG:∀ (m:List ec) (k:Nat),(B++m)[B.length+k]?=m[k]?:=fun m k=>by rw [aay (by simp)];simp
 have hG0:∀ (m:List ec),(B++m)[B.length]?=m[0]?:=fun m=>by rw [aay (by simp)];simp
 have hS:∀ (y:ec) (m:List ec) (k:Nat),(B++m).set (B.length+k) y=B++m.set k y:=fun y m k=>by rw [List.set_append_right _ _ (by simp)];simp
 have hS0:∀ (y:ec) (m:List ec),(B++m).set B.length y=B++m.set 0 y:=fun y m=>by rw [List.set_append_right _ _ (by simp)];simp
 refine fN.body func441 rfl ntmps441 (by simp) rfl rfl rfl (by decide) ?_
 (try refine Wk.ow fun _ ag=>?_);(repeat' (first|((refine Wk.i ?_);simp only [go_sem,seval,hG,hG0,hS,hS0,hes])|first|refine Wk.o ?_|refine Wk.q ‹_› ?_));all_goals (repeat subst ag)
 (try refine Wk.aw fun _ ag=>?_);(repeat' (first|((refine Wk.Au 2 ?_);refine AW.Pv (P:=prog) mx [(2,7),(4,8)] (by kernel_rfl) (by simp only [go_sem,seval,hG,hG0,hS,hS0,hes];try exact rfl) ?_;refine OX.nil ?_;refine ⟨by simp [Jf,T0,Ti,iO,eu,upd,List.zipIdx_cons,List.findIdx?_cons,dr]<;>omega,?_⟩)|((refine Wk.i ?_);simp only [go_sem,seval,hG,hG0,hS,hS0,hes])|refine Wk.q ‹_› ?_));all_goals (repeat subst ag)
 rw [show List.drop 10 es=[] from aa0 (by omega)]
 refine kH (aV K.length (aat _) (s1:=⟨B++[.cells Qi,.cells [ai j],.cells [ai c],X],K⟩) (zL _ _ _ _ _ _ _ (by simp)) ?_ rfl rfl rfl ⟨rfl,rfl⟩)
 intro i A h
 by_cases hlt:i<B.length
 ·rw [aaz hlt] at h ⊢;exact .inl h
 ·rw [aay (by omega)] at h ⊢
  match hd:i - B.length with
  |0=>rw [hd] at h;simp at h;subst h;exact .inr (by simp [ec.within,V.within,V.within.all])
  |1=>rw [hd] at h;simp at h;subst h;exact .inr (by simp [ec.within,V.within,V.within.all])
  |2=>rw [hd] at h;simp at h;subst h;exact .inr (by simp [ec.within,V.within,V.within.all])
  |3=>rw [hd] at h;simp at h;subst h;exact .inl (by simp)
  |d+4=>rw [hd] at h;simp at h
