import Derived.Test.YteeohmopbcjifaaGreatDoorS23
import Derived.Shelf.Bits.Mul64
set_option linter.unusedSimpArgs false
set_option linter.unusedVariables false
section
set_option maxHeartbeats 8000000
set_option maxRecDepth 20000
namespace Go.Proofs.YteeohmopbcjifaaGreatDoor
open Tryz
open Go.Abs
attribute [local irreducible] AW OX cG GQ bK bO bz aY aa
variable {G:World→Nat→Prop}
abbrev aaf (n:Int):V:= .d (.int .u64 n)
def addC (n k:Nat) (a:Int):Int:=if n / 64=k then aaG .or .u64 a (shlI .u64 1 ↑(n % 64)) else a
def dropC (n k:Nat) (a:Int):Int:=if n / 64=k then aaG .andNot .u64 a (shlI .u64 1 ↑(n % 64)) else a
theorem g_add (B R:List aJ) (K:List (Nat×Nat×Nat)) (n:Nat) (hn:n<256) (a0 a1 a2 a3:Int) (rest:List D):aa prog G 222 [.ptr B.length 0,.d (.int .u8 ↑n)] ⟨B++(.cells (aaf a0::aaf a1::aaf a2::aaf a3::rest.map V.d)::R),K⟩
  (fun o s=>o= .ret (.cF [])∧s=⟨B++(.cells (aaf (addC n 0 a0)::aaf (addC n 1 a1)::aaf (addC n 2 a2)::aaf (addC n 3 a3)::rest.map V.d)::R),K⟩):=by
 have h:n / 64=0∨n / 64=1∨n / 64=2∨n / 64=3:=by omega
 have d:((n:Int).tdiv 64)=((n / 64:Nat):Int):=by rw [Int.tdiv_eq_ediv_of_nonneg (by omega)];omega
 have e:(n:Int).tmod 64=((n % 64:Nat):Int):=by rw [Int.tmod_eq_emod_of_nonneg (by omega)];omega
 have nn:¬ ((n % 64:Nat):Int)<0:=by omega
 rcases h with h|h|h|h
 ·have q:IntKind.u8.wrap ((n:Int).tdiv 64)=0:=by rw [d,h];decide
  refine aa.Co func222 rfl ntmps222 (by simp) fun _ ag=>?_
  simp (disch:=first|exact ⟨by kernel_rfl⟩|omega) only [go_sem,seval,cX ag,wd,q,e,nn,if_false,abe];(repeat' apply cq.l)<;>try subst ag
  refine Tv (Tt (B:=B) (L:=R) (K:=K) (T:=K) (.cells (V.d (D.int IntKind.u64 (aaG BinOp.or IntKind.u64 a0 (shlI IntKind.u64 1 ↑(n % 64))))::aaf a1::aaf a2::aaf a3::rest.map V.d)) rfl ⟨⟨?_,?_,?_,?_⟩,rfl,rfl,rfl⟩ ⟨rfl,by simp [addC,h]⟩)
  all_goals (simp only [go_sem,seval]<;>simp)
 ·have q:IntKind.u8.wrap ((n:Int).tdiv 64)=1:=by rw [d,h];decide
  refine aa.Co func222 rfl ntmps222 (by simp) fun _ ag=>?_
  simp (disch:=first|exact ⟨by kernel_rfl⟩|omega) only [go_sem,seval,cX ag,wd,q,e,nn,if_false,abe];(repeat' apply cq.l)<;>try subst ag
  refine Tv (Tt (B:=B) (L:=R) (K:=K) (T:=K) (.cells (aaf a0::V.d (D.int IntKind.u64 (aaG BinOp.or IntKind.u64 a1 (shlI IntKind.u64 1 ↑(n % 64))))::aaf a2::aaf a3::rest.map V.d)) rfl ⟨⟨?_,?_,?_,?_⟩,rfl,rfl,rfl⟩ ⟨rfl,by simp [addC,h]⟩)
  all_goals (simp only [go_sem,seval]<;>simp)
 ·have q:IntKind.u8.wrap ((n:Int).tdiv 64)=2:=by rw [d,h];decide
  refine aa.Co func222 rfl ntmps222 (by simp) fun _ ag=>?_
  simp (disch:=first|exact ⟨by kernel_rfl⟩|omega) only [go_sem,seval,cX ag,wd,q,e,nn,if_false,abe];(repeat' apply cq.l)<;>try subst ag
  refine Tv (Tt (B:=B) (L:=R) (K:=K) (T:=K) (.cells (aaf a0::aaf a1::V.d (D.int IntKind.u64 (aaG BinOp.or IntKind.u64 a2 (shlI IntKind.u64 1 ↑(n % 64))))::aaf a3::rest.map V.d)) rfl ⟨⟨?_,?_,?_,?_⟩,rfl,rfl,rfl⟩ ⟨rfl,by simp [addC,h]⟩)
  all_goals (simp only [go_sem,seval]<;>simp)
 ·have q:IntKind.u8.wrap ((n:Int).tdiv 64)=3:=by rw [d,h];decide
  refine aa.Co func222 rfl ntmps222 (by simp) fun _ ag=>?_
  simp (disch:=first|exact ⟨by kernel_rfl⟩|omega) only [go_sem,seval,cX ag,wd,q,e,nn,if_false,abe];(repeat' apply cq.l)<;>try subst ag
  refine Tv (Tt (B:=B) (L:=R) (K:=K) (T:=K) (.cells (aaf a0::aaf a1::aaf a2::V.d (D.int IntKind.u64 (aaG BinOp.or IntKind.u64 a3 (shlI IntKind.u64 1 ↑(n % 64))))::rest.map V.d)) rfl ⟨⟨?_,?_,?_,?_⟩,rfl,rfl,rfl⟩ ⟨rfl,by simp [addC,h]⟩)
  all_goals (simp only [go_sem,seval]<;>simp)
theorem g_drop (B R:List aJ) (K:List (Nat×Nat×Nat)) (n:Nat) (hn:n<256) (a0 a1 a2 a3:Int) (rest:List D):aa prog G 220 [.ptr B.length 0,.d (.int .u8 ↑n)] ⟨B++(.cells (aaf a0::aaf a1::aaf a2::aaf a3::rest.map V.d)::R),K⟩
  (fun o s=>o= .ret (.cF [])∧s=⟨B++(.cells (aaf (dropC n 0 a0)::aaf (dropC n 1 a1)::aaf (dropC n 2 a2)::aaf (dropC n 3 a3)::rest.map V.d)::R),K⟩):=by
 have h:n / 64=0∨n / 64=1∨n / 64=2∨n / 64=3:=by omega
 have d:((n:Int).tdiv 64)=((n / 64:Nat):Int):=by rw [Int.tdiv_eq_ediv_of_nonneg (by omega)];omega
 have e:(n:Int).tmod 64=((n % 64:Nat):Int):=by rw [Int.tmod_eq_emod_of_nonneg (by omega)];omega
 have nn:¬ ((n % 64:Nat):Int)<0:=by omega
 rcases h with h|h|h|h
 ·have q:IntKind.u8.wrap ((n:Int).tdiv 64)=0:=by rw [d,h];decide
  refine aa.Co func220 rfl ntmps220 (by simp) fun _ ag=>?_
  simp (disch:=first|exact ⟨by kernel_rfl⟩|omega) only [go_sem,seval,cX ag,wd,q,e,nn,if_false,abe];(repeat' apply cq.l)<;>try subst ag
  refine Tv (Tt (B:=B) (L:=R) (K:=K) (T:=K) (.cells (V.d (D.int IntKind.u64 (aaG BinOp.andNot IntKind.u64 a0 (shlI IntKind.u64 1 ↑(n % 64))))::aaf a1::aaf a2::aaf a3::rest.map V.d)) rfl ⟨⟨?_,?_,?_,?_⟩,rfl,rfl,rfl⟩ ⟨rfl,by simp [dropC,h]⟩)
  all_goals (simp only [go_sem,seval]<;>simp)
 ·have q:IntKind.u8.wrap ((n:Int).tdiv 64)=1:=by rw [d,h];decide
  refine aa.Co func220 rfl ntmps220 (by simp) fun _ ag=>?_
  simp (disch:=first|exact ⟨by kernel_rfl⟩|omega) only [go_sem,seval,cX ag,wd,q,e,nn,if_false,abe];(repeat' apply cq.l)<;>try subst ag
  refine Tv (Tt (B:=B) (L:=R) (K:=K) (T:=K) (.cells (aaf a0::V.d (D.int IntKind.u64 (aaG BinOp.andNot IntKind.u64 a1 (shlI IntKind.u64 1 ↑(n % 64))))::aaf a2::aaf a3::rest.map V.d)) rfl ⟨⟨?_,?_,?_,?_⟩,rfl,rfl,rfl⟩ ⟨rfl,by simp [dropC,h]⟩)
  all_goals (simp only [go_sem,seval]<;>simp)
 ·have q:IntKind.u8.wrap ((n:Int).tdiv 64)=2:=by rw [d,h];decide
  refine aa.Co func220 rfl ntmps220 (by simp) fun _ ag=>?_
  simp (disch:=first|exact ⟨by kernel_rfl⟩|omega) only [go_sem,seval,cX ag,wd,q,e,nn,if_false,abe];(repeat' apply cq.l)<;>try subst ag
  refine Tv (Tt (B:=B) (L:=R) (K:=K) (T:=K) (.cells (aaf a0::aaf a1::V.d (D.int IntKind.u64 (aaG BinOp.andNot IntKind.u64 a2 (shlI IntKind.u64 1 ↑(n % 64))))::aaf a3::rest.map V.d)) rfl ⟨⟨?_,?_,?_,?_⟩,rfl,rfl,rfl⟩ ⟨rfl,by simp [dropC,h]⟩)
  all_goals (simp only [go_sem,seval]<;>simp)
 ·have q:IntKind.u8.wrap ((n:Int).tdiv 64)=3:=by rw [d,h];decide
  refine aa.Co func220 rfl ntmps220 (by simp) fun _ ag=>?_
  simp (disch:=first|exact ⟨by kernel_rfl⟩|omega) only [go_sem,seval,cX ag,wd,q,e,nn,if_false,abe];(repeat' apply cq.l)<;>try subst ag
  refine Tv (Tt (B:=B) (L:=R) (K:=K) (T:=K) (.cells (aaf a0::aaf a1::aaf a2::V.d (D.int IntKind.u64 (aaG BinOp.andNot IntKind.u64 a3 (shlI IntKind.u64 1 ↑(n % 64))))::rest.map V.d)) rfl ⟨⟨?_,?_,?_,?_⟩,rfl,rfl,rfl⟩ ⟨rfl,by simp [dropC,h]⟩)
  all_goals (simp only [go_sem,seval]<;>simp)
def litD (n:Nat):List D:=[.int .u64 (addC n 0 0),.int .u64 (addC n 1 0),.int .u64 (addC n 2 0),.int .u64 (addC n 3 0),.bool false,.bool true,.int .u8 n]
theorem g_literal (n:Nat) (hn:n<256):b8 G 191 [.d (.int .u8 ↑n)] (.agg ((litD n).map .d)):=by
 intro st
 have ha:=g_add (G:=G) (st.aj++[.cells [aaf 0,aaf 0,aaf 0,aaf 0,vb false,vb false,.d (.int .u8 0)]]) [] st.toks n hn 0 0 0 0 [.bool false,.bool true,.int .u8 n]
 simp only [aaQ,aaM,aaV,abl,aaX,aa4,aa8,aa5,aba] at ha
 refine aa.start func191 rfl ntmps191 (by simp) fun _ ag=>?_
 simp (disch:=first|exact ⟨by kernel_rfl⟩|omega) only [go_sem,seval,cX ag,wd,Ck ha];(repeat' first|apply cq.l|refine aQ.i ⟨?_,rfl⟩)<;>try subst ag
 all_goals rfl
def allC:Int:=18446744073709551615
def mostC (b:Bool) (k:Nat):Int:=if b then allC else dropC 47 k allC
theorem g_most (b:Bool):b8 G 189 [vb b] (.agg [aaf (mostC b 0),aaf (mostC b 1),aaf (mostC b 2),aaf (mostC b 3)]):=by
 intro st
 have hd:=g_drop (G:=G) (st.aj++[.cells [aaf 0,aaf 0,aaf 0,aaf 0]]) [] st.toks 47 (by omega) allC allC allC allC []
 simp only [aaQ,aaM,aaV,abl,aaX,aa4,aa8,aa5,aba,allC,show ((47:Nat):Int)=47 from rfl] at hd
 refine aa.body func189 rfl ntmps189 (by simp) ?_
 refine AW.aal fun K hK=>?_
 refine Wk.go fun _ ag=>?_;simp only [go_sem,seval,cX ag];(repeat' apply cq.l)<;>try subst ag
 refine Pr.i (hK _ _ ?_)
 refine AW.aal fun K2 hK2=>?_
 refine AW.regL 0 (by rfl) (by rfl) fun K3 hK3=>OPW.const (.agg #[.int .u64 18446744073709551615,.int .u64 18446744073709551615,.int .u64 18446744073709551615,.int .u64 18446744073709551615]) (by rfl) (by rfl) (fun a w=>by kernel_rfl) (hK3 _ _ (OW.endR (by simp only [go_sem,seval,ofConst,ny,tJ];try exact rfl) (KT (hK2 _ _ ?_))))
 cases b
 all_goals
  refine Wk.go fun _ ag=>?_;simp only [go_sem,seval,cX ag,Ck hd];(repeat' first|apply cq.l|refine aQ.i ⟨?_,rfl⟩)<;>try subst ag
  all_goals rfl
structure C4 where
 a:Int
 b:Int
 c:Int
 d:Int
abbrev C4.l (x:C4):List V:=[aaf x.a,aaf x.b,aaf x.c,aaf x.d]
theorem gchF_le (s:cx):(gchF s).2≤s.length:=by
 unfold gchF
 repeat' split
 all_goals first|exact abt _|skip
 ·rename_i h _ _;exact abV.2 h
 ·omega
theorem gchF_lt (s:cx):(gchF s).1<256:=by
 unfold gchF
 repeat' split
 all_goals first|exact UInt8.toNat_lt _|omega
abbrev ClA (s:cx):Type:= { x:C4×Nat // x.2≤s.length }
def clV {s:cx} (x:ClA s):V:= .cF [.agg x.1.1.l,ai ↑x.1.2]
theorem g_class (s:cx) (hs:s.length≤1048576) (h1:1≤s.length) (st:St):AcE prog G 190 [vs s] st (clV (s:=s)):=by
 unfold AcE
 refine aa.start func190 rfl ntmps190 (by simp) fun _ ag=>?_
 simp only [go_sem,seval,cX ag];all_goals (try subst ag)
 refine AW.zU (fun x:C4×Nat=>[(0,vs s),(2,.ptr st.aj.length 0),(4,.ptr (st.aj.length+1) 0),(5,ai ↑x.2)]) (fun x=>[.cells [aaf 0,aaf 0,aaf 0,aaf 0],.cells x.1.l]) (fun _=>[]) (fun x=>1≤x.2∧x.2≤s.length) (fun x=>s.length - x.2) (⟨0,0,0,0⟩,1) ⟨by simp,by simp only [go_sem,seval]⟩ ⟨aaP _,h1⟩ ?_
 rintro ⟨a,i⟩ ⟨hi1,hi2⟩
 simp only at hi1 hi2
 have hd:=g_drop (G:=G) (st.aj++[.cells [aaf 0,aaf 0,aaf 0,aaf 0]]) [] st.toks 47 (by omega) a.a a.b a.c a.d []
 simp only [aaQ,aaM,aaV,abl,aaX,aa4,aa8,aa5,aba,show ((47:Nat):Int)=47 from rfl] at hd
 refine AW.cutE 1 (τ:=Unit) (fun _=>True) (fun _=>[(0,vs s),(2,.ptr st.aj.length 0),(4,.ptr (st.aj.length+1) 0),(5,ai ↑i)]) (fun _=>⟨st.aj++[.cells [aaf 0,aaf 0,aaf 0,aaf 0],.cells a.l],st.toks⟩) rfl (fun K hK _ ag=>?_) fun _ _=>?_
 ·simp (disch:=omega) only [go_sem,seval,cX ag,Ck hd];(repeat' first|apply cq.l|apply bg.i|refine cE.i fun hc=>?_|refine aQ.i ⟨?_,rfl⟩)<;>try subst ag
  all_goals first|exact ⟨⟨(a,0),abt _⟩,rfl⟩|exact ⟨⟨(⟨_,_,_,_⟩,i+1),by simp only;omega⟩,rfl⟩|exact Pr.i (hK () _ trivial (by simp (disch:=omega) only [go_sem,seval]))
 refine AW.block ?_
 have hc:=g_char (G:=G) (s.drop i) (by rw [aa6];omega)
 have hc1:=gchF_le (s.drop i)
 have hc2:=gchF_lt (s.drop i)
 rw [aa6] at hc1
 generalize gchF (s.drop i)=g at hc hc1 hc2
 refine AW.cutN 4 rfl fun K hK _ ag=>?_
 simp (disch:=omega) only [go_sem,seval,cX ag,bC (hc _)];(repeat' first|apply cq.l|apply bg.i|refine cE.i fun hc=>?_|refine aQ.i ⟨?_,rfl⟩)<;>try subst ag
 ·exact ⟨⟨(a,0),abt _⟩,rfl⟩
 refine Pr.i (hK _ _ ?_)
 refine AW.cutE 1 (τ:=Nat×Nat) (fun x=>i<x.1∧x.1≤s.length∧g.1≤x.2∧x.2<256) (fun x=>[(0,vs s),(2,.ptr st.aj.length 0),(4,.ptr (st.aj.length+1) 0),(5,ai ↑x.1),(6,.d (.int .u8 ↑g.1)),(8,.d (.int .u8 ↑x.2))]) (fun _=>⟨st.aj++[.cells [aaf 0,aaf 0,aaf 0,aaf 0],.cells a.l],st.toks⟩) rfl (fun K hK _ ag=>?_) ?_
 ·have hc3:=fun h:i+g.2+1≤s.length=>g_char (G:=G) (s.drop (i+g.2+1)) (by rw [aa6];omega)
  have hc4:=gchF_le (s.drop (i+g.2+1))
  have hc5:=gchF_lt (s.drop (i+g.2+1))
  rw [aa6] at hc4
  generalize gchF (s.drop (i+g.2+1))=u at hc3 hc4 hc5
  simp (disch:=omega) only [go_sem,seval,cX ag,nC hc3];(repeat' first|apply cq.l|apply bg.i|refine cE.i fun hc=>?_|refine aQ.i ⟨?_,rfl⟩)<;>try subst ag
  all_goals first|exact ⟨⟨(a,0),abt _⟩,rfl⟩|skip
  ·exact Pr.i (hK (i+g.2+(1+u.2),u.1) _ ⟨by simp only;omega,by simp only;omega,by simp only;omega,hc5⟩ (by simp (disch:=omega) only [go_sem,seval,V.d.injEq,D.int.injEq,true_and];omega))
  all_goals exact Pr.i (hK (i+g.2,g.1) _ ⟨by simp only;omega,by simp only;omega,aaP _,hc2⟩ (by simp only [go_sem,seval]))
 rintro ⟨i2,k⟩ ⟨hk1,hk2,hk3,hk4⟩
 simp only at hk1 hk2 hk3 hk4
 have hkw:∀ c:Nat,c<256→IntKind.u8.wrap (c:Int)=c:=fun c h=>Go.IntWalk.u8_in _ ⟨by omega,by omega⟩
 refine Wk.go fun _ ag=>?_;simp only [go_sem,seval,cX ag];all_goals (try subst ag)
 refine AW.zU (fun x:C4×Nat=>[(0,vs s),(2,.ptr st.aj.length 0),(4,.ptr (st.aj.length+1) 0),(5,ai ↑i2),(8,.d (.int .u8 ↑k)),(9,ai ↑x.2)]) (fun x=>[.cells [aaf 0,aaf 0,aaf 0,aaf 0],.cells x.1.l]) (fun _=>[]) (fun x=>x.2≤k+1) (fun x=>k+1 - x.2) (a,g.1) ⟨by simp,by simp (disch:=omega) only [go_sem,seval]⟩ (by simp only;omega) ?_
 rintro ⟨e,c⟩ hce
 simp only at hce
 have ha:=fun h:c<256=>g_add (G:=G) (st.aj++[.cells [aaf 0,aaf 0,aaf 0,aaf 0]]) [] st.toks c h e.a e.b e.c e.d []
 simp only [aaQ,aaM,aaV,abl,aaX,aa4,aa8,aa5,aba] at ha
 refine Wk.go fun _ ag=>?_;simp (disch:=omega) only [go_sem,seval,cX ag,CQ_is ha,hkw c];(repeat' first|apply cq.l|apply bg.i|refine cE.i fun hc=>?_)<;>try subst ag
 ·refine Pr.i ⟨(⟨addC c 0 e.a,addC c 1 e.b,addC c 2 e.c,addC c 3 e.d⟩,c+1),⟨by simp (disch:=omega) only [go_sem,seval]<;>omega,?_,?_⟩⟩
  all_goals simp only;omega
 ·refine Pr.i ⟨(e,i2),⟨by simp (disch:=omega) only [go_sem,seval]<;>omega,?_,?_⟩⟩
  ·simp only;omega
  ·simp only;omega
structure El where
 s:C4
 m:Bool
 l:Bool
 c:Nat
def El.enc (x:El):List D:=[.int .u64 x.s.a,.int .u64 x.s.b,.int .u64 x.s.c,.int .u64 x.s.d,.bool x.m,.bool x.l,.int .u8 ↑x.c]
theorem El.dN (x:El):x.enc.length=7:=(rfl)
def vEl (x:El):V:= .agg (x.enc.map .d)
theorem vEl_cells (x:El):(vEl x).cells=some (x.enc.map .d):=(rfl)
theorem one_El (x:El):((x.enc.map V.d).all fun x=>x.one)=true:=(rfl)
theorem vEl_fold (x:El):V.agg (x.enc.map .d)=vEl x:=(rfl)
theorem Elx (x:El):(x.enc.map V.d).take 7=x.enc.map .d:=(rfl)
theorem rowsLen_El (l:List El):cr 7 (l.map El.enc)=true:=ZJ _ _ El.dN l
theorem one_ElD (x:El):x.enc.all D.one=true:=(rfl)
attribute [local go_sem] El.dN vEl_cells one_El vEl_fold Elx rowsLen_El one_ElD
theorem app_el (B:List aJ) (K:List (Nat×Nat×Nat)) (l:List El) (x:El) (hx:l.length≤1048576):
  jt (some 7) true true 272 7 40 [x.enc] (lz K.length (l.map El.enc)) ⟨B,K++k9 272 7 (l.map El.enc)⟩=some (lz K.length ((l++[x]).map El.enc),⟨B,K++k9 272 7 ((l++[x]).map El.enc)⟩):=by
 rw [CZ _ _ _ _ _ _ _ (by omega) (by simp) (by simp;omega) (by simp;omega),abm];rfl
abbrev ElA (s:cx):Type:= { x:El×Nat // x.2≤s.length }
def elV {s:cx} (x:ElA s):V:= .cF [vEl x.1.1,ai ↑x.1.2]
theorem g_first (s:cx) (hs:s.length≤1048576) (h1:1≤s.length) (st:St):AcE prog G 148 [vs s] st (elV (s:=s)):=by
 have hcl:=fun st=>g_class (G:=G) s hs h1 st
 have hm:=fun b=>g_most (G:=G) b
 have hl:=fun n h=>g_literal (G:=G) n h
 have hl0:=hl _ (UInt8.toNat_lt (s.getD 0 0))
 have hl1:=hl _ (UInt8.toNat_lt (s.getD 1 0))
 unfold AcE
 refine aa.start func148 rfl ntmps148 (by simp) fun _ ag=>?_
 simp (disch:=omega) only [go_sem,seval,cX ag,CQ_x (hcl _),bC (hm _ _),bC (hl0 _),bC (hl1 _),clV,litD,wr];(repeat' first|apply cq.l|apply bg.i|refine cE.i fun hc=>?_|refine aQ.i ⟨?_,rfl⟩|refine fB.i fun j=>?_)<;>try subst ag
 all_goals (refine ⟨⟨(⟨⟨_,_,_,_⟩,_,_,_⟩,_),?_⟩,rfl⟩;first|exact j.2|(simp only;omega))
theorem g_parse (s:cx) (hs:s.length≤1048576) (st:St):AcE prog G 115 [vs s] st (fun x:List (List D)×Int=> .cF [.d (.sl x.1),ai x.2]):=by
 unfold AcE
 refine aa.start func115 rfl ntmps115 (by simp) fun _ ag=>?_
 simp (disch:=omega) only [go_sem,seval,cX ag];(repeat' first|apply cq.l|apply bg.i|refine cE.i fun hc=>?_|refine aQ.i ⟨?_,rfl⟩)<;>try subst ag
 all_goals first|exact ⟨([],3),rfl⟩|skip
 refine AW.zU (fun x:List El×Nat=>[(0,vs (s.drop x.2)),(4,lz st.toks.length (x.1.map El.enc))]) (fun _=>[]) (fun x=>k9 272 7 (x.1.map El.enc)) (fun x=>x.2≤s.length∧x.1.length≤x.2) (fun x=>s.length - x.2) ([],0) ⟨by simp [k9],by simp only [go_sem,seval,aba,lz,abr]⟩ (by simp) ?_
 rintro ⟨l,i⟩ ⟨hi,hl⟩
 simp only at hi hl
 by_cases hil:i=s.length
 ·subst hil
  rw [List.drop_length]
  refine Wk.go fun _ ag=>?_;simp (disch:=omega) only [go_sem,seval,cX ag];(repeat' first|apply cq.l|apply bg.i|refine cE.i fun hc=>?_|refine aQ.i ⟨?_,rfl⟩)<;>try subst ag
  all_goals first|exact ⟨(_,_),rfl⟩|contradiction
 have hf:=fun st=>g_first (G:=G) (s.drop i) (by rw [aa6];omega) (by rw [aa6];omega) st
 have hne:s.drop i≠[]:=fun h=>by have:=congrArg List.length h;simp at this;omega
 have hll:l.length≤1048576:=by omega
 refine Wk.go fun _ ag=>?_;simp (disch:=omega) only [go_sem,seval,cX ag,CQ_x (hf _),elV,hne,app_el,hll,wr];(repeat' first|apply cq.l|apply bg.i|refine cE.i fun hc=>?_|refine aQ.i ⟨?_,rfl⟩|refine fB.i fun j=>?_)<;>try subst ag
 all_goals first|exact ⟨(_,_),rfl⟩|contradiction|skip
 have hj:=j.2
 have hdl:=aa6 (i:=i) (l:=s)
 have hdd:(s.drop i).drop j.1.2=s.drop (i+j.1.2):=ab7 ..
 refine Pr.i ⟨(l++[j.1.1],i+j.1.2),⟨by simp (disch:=omega) only [go_sem,seval,hdd]<;>omega,?_,?_⟩⟩
 ·exact ⟨by simp only;omega,by simp only [aaQ,aaM,aaV];omega⟩
 ·simp only;omega
theorem g_Valid (s:cx) (hs:s.length≤1048576) (st:St):AcE prog G 80 [vs s] st ai:=by
 have hp:=fun st=>g_parse (G:=G) s hs st
 unfold AcE
 refine aa.start func80 rfl ntmps80 (by simp) fun _ ag=>?_
 simp only [go_sem,seval,cX ag,CQ_x (hp _),wr];(repeat' first|apply cq.l|refine aQ.i ⟨?_,rfl⟩|refine fB.i fun j=>?_)<;>try subst ag
 all_goals exact ⟨_,rfl⟩
theorem cm_patterns (l:List cx) (h:gKs l) (st:St):AcE prog G 56 [vSs l] st ai:=by
 have hl:=h.1
 unfold AcE
 refine aa.start func56 rfl ntmps56 (by simp) fun _ ag=>?_
 simp only [go_sem,seval,cX ag];all_goals (try subst ag)
 refine AW.zU (fun i:Nat=>[(6,vSs l),(7,ai ↑l.length),(8,ai ↑i)]) (fun _=>[]) (fun _=>[]) (fun i=>i≤l.length) (fun i=>l.length - i) 0 ⟨by simp,by simp only [go_sem,seval]⟩ (by simp) ?_
 intro i hi
 by_cases hil:i<l.length
 ·have hv:=fun st=>g_Valid (G:=G) (l.getD i default) (h.2 _ (aB hil)) st
  refine Wk.go fun _ ag=>?_;simp (disch:=omega) only [go_sem,seval,cX ag,CQ_x (hv _),wr];(repeat' first|apply cq.l|apply bg.i|refine cE.i fun hc=>?_|refine aQ.i ⟨?_,rfl⟩|refine fB.i fun j=>?_)<;>try subst ag
  all_goals first|exact ⟨_,rfl⟩|skip
  refine Pr.i ⟨i+1,⟨by simp (disch:=omega) only [go_sem,seval]<;>omega,?_,?_⟩⟩
  all_goals omega
 ·refine Wk.go fun _ ag=>?_;simp (disch:=omega) only [go_sem,seval,cX ag];(repeat' first|apply cq.l|refine cE.i fun hc=>?_|refine aQ.i ⟨?_,rfl⟩)<;>try subst ag
  all_goals exact ⟨_,rfl⟩
end Go.Proofs.YteeohmopbcjifaaGreatDoor
end
section
namespace Go.Proofs.YteeohmopbcjifaaGreatDoor
open Tryz
open Go Go.Proofs Go.RowKit
set_option maxHeartbeats 1000000 in
set_option maxRecDepth 100000 in
theorem cd_used (b:Nat) (w:World) (h0:w.cell? ⟨b,1,none⟩=some (.pointer (some ⟨b,1,none⟩))):
  Calls prog 193 #[.pointer (some ⟨b,1,none⟩)] w fun e w'=>e= .returned (.tuple #[])∧w'=w:=by
 obtain ⟨j,hj,_⟩:=abv.1 (show (Tryz.prog.info? 277).map (fun i=>i.size)=some 2 by kernel_rfl)
 have mixed:=Tryz.checked.mixed
 go_enter func193,ntmps193
 go_wp2
 rw [Lib.run_neq_ptr_same w _ underlying275 hj]
 go_wp2
 go_end0
 exact ⟨rfl,rfl⟩
set_option maxHeartbeats 1000000 in
set_option maxRecDepth 100000 in
theorem cd_fresh (b:Nat) (w:World) (h0:w.cell? ⟨b,1,none⟩=some (.pointer none)) (hsh:w.shape? b=some (279,3)) (hfz:w.frozen? ⟨b,1,none⟩=false):
  Calls prog 193 #[.pointer (some ⟨b,1,none⟩)] w fun e w'=>e= .returned (.tuple #[])∧w'=w.setCell ⟨b,1,none⟩ (.pointer (some ⟨b,1,none⟩)):=by
 obtain ⟨j,hj,hjs⟩:=abv.1 (show (Tryz.prog.info? 277).map (fun i=>i.size)=some 2 by kernel_rfl)
 have lies:liesAt prog Tryz.prog.depth 279 (3 / Tryz.prog.cellsOf 279) 1 277 1=true:=by kernel_rfl
 have mixed:=Tryz.checked.mixed
 go_enter func193,ntmps193
 go_wp2
 rw [Lib.run_to_unsafe w ⟨b,1,none⟩ underlying275 underlying348 hj (by rw [hjs];decide) hsh (by show 1<3;decide)]
 simp only [Result.andThen]
 rw [Oper.upon_value]
 go_wp2
 rw [run_callFunc_extern func223 (by kernel_rfl) (by kernel_rfl) (by kernel_rfl) (e:=Extern.AbiNoEscape.same) (by kernel_rfl)]
 rw [Lib.run_noEscape]
 simp only [Result.andThen]
 rw [Oper.upon_value]
 go_wp2
 rw [Lib.run_from_unsafe w ⟨b,1,none⟩ underlying348 underlying275 hj hsh lies]
 simp only [Result.andThen]
 rw [Oper.upon_value]
 go_wp2
 go_end0
 exact ⟨rfl,rfl⟩
set_option maxHeartbeats 2000000 in
set_option maxRecDepth 100000 in
theorem sd_row (b g cap:Nat) (q p:Value) (T:TypeId) (cur:Array Value) (l:List UInt8) (w:World) (hbk:w.heap[b]?=some (.cells #[q,p,.slice (some ⟨g,0,none⟩) l.length cap] T (0,0))) (hg:w.heap[g]?=some (.cells cur 5 (0,0)))
  (hnc:l.length≤cap) (hcm:cap≤maxLen) (hcs:cur.size=cap) (h0:l≠[]) (hcells:∀ j x,l[j]?=some x→w.cell? ((⟨g,0,none⟩:Addr).add j)=some (.int .u8 x.toNat)):
  Calls prog 199 #[.pointer (some ⟨b,1,none⟩)] w fun e w'=>e= .returned (.string ⟨l.toArray⟩)∧w'=w.drew.freeze ⟨g,0,none⟩ l.length:=by
 have hl0:l.length≠0:=by simpa using h0
 have c1:w.drew.cell? ⟨b,2,none⟩=some (.slice (some ⟨g,0,none⟩) l.length cap):=by
  have:w.drew.heap[b]?=some (.cells #[q,p,.slice (some ⟨g,0,none⟩) l.length cap] T (0,0)):=hbk
  rw [Lib.cell_of_heap this];rfl
 have hSD:(Builtin.unsafeSliceData_ #[26] 354 #[.slice (some ⟨g,0,none⟩) l.length cap]).run prog w.drew= .ok (.pointer (some ⟨g,0,none⟩)) w.drew:=
  Lib.run_unsafeSliceData_row _ _ _ _ _ _ (by omega)
 have hUS:(Builtin.unsafeString_ #[354,3] 9 #[.pointer (some ⟨g,0,none⟩),.int .i64 l.length]).run prog w.drew= .ok (.string ⟨l.toArray⟩) (w.drew.freeze ⟨g,0,none⟩ l.length):=by
  refine Lib.run_unsafeString_row w.drew 354 3 9 5 underlying354 (by kernel_rfl) g cur.size (by have hg':w.drew.heap[g]?=some (.cells cur 5 (0,0)):=hg;simp [World.shape?,hg']) l h0 (by omega) (by unfold maxLen at hcm;omega) ?_
  intro j x hx
  exact hcells j x hx
 have mixed:=Tryz.checked.mixed
 go_enter func199,ntmps199
 go_wp2
 go_region_o
 all_goals (go_wp2;go_ret;exact ⟨rfl,rfl⟩)
end Go.Proofs.YteeohmopbcjifaaGreatDoor
end
section
set_option maxHeartbeats 8000000
set_option maxRecDepth 20000
namespace Go.Proofs.YteeohmopbcjifaaGreatDoor
open Tryz
open Go.Abs
variable {G:World→Nat→Prop}
abbrev dT:Nat:=279
theorem div_at {c:Ctx} {w:World} {st:St} (hc:bf c w st) {b:Nat} {q p X:V} (hb:st.aj[b]?=some (.tc dT [q,p,X])):∃ k qv pv xv,c.mu[b]?=some k∧w.heap[k]?=some (.cells #[qv,pv,xv] dT (0,0))∧Rel c qv q∧Rel c pv p∧Rel c xv X:=by
 have hlt:b<c.mu.length:=by rw [hc.cN];exact (aaL.1 hb).1
 have hk:c.mu[b]?=some c.mu[b]:=aaT hlt
 obtain ⟨arr,elem,h1,h2,h3,h4⟩:=hc.rowAt hk hb rfl
 have he:=h4 _ _ rfl
 subst he
 have h0:=h3 0 (by simp)
 have h1':=h3 1 (by simp)
 have h2':=h3 2 (by simp)
 refine ⟨_,arr.getD 0 undef,arr.getD 1 undef,arr.getD 2 undef,hk,?_,by simpa using h0,by simpa using h1',by simpa using h2'⟩
 rw [h1]
 congr 2
 apply Array.ext
 ·simpa using h2
 ·intro i hi hi2
  simp only [aaM,aaV] at h2
  match i with
  |0=>simp [aaR,show 0<arr.size by omega]
  |1=>simp [aaR,show 1<arr.size by omega]
  |2=>simp [aaR,show 2<arr.size by omega]
  |i+3=>omega
theorem arg_ptr1 {c:Ctx} {b k:Nat} {cargs:Array Value} (hk:c.mu[b]?=some k) (hs:cargs.size=1) (h0:Rel c (cargs.getD 0 undef) (.ptr b 1)):cargs= #[.pointer (some ⟨k,1,none⟩)]:=by
 generalize hq:cargs.getD 0 undef=q at h0
 cases h0 with|ptr _ k' _ hk'=>?_
 rw [hk] at hk';cases hk'
 apply Array.ext
 ·simpa using hs
 ·intro i hi hi2
  have:i=0:=by simp at hi2;omega
  subst this
  simpa [aaR,hi] using hq
theorem cd_copyCheck_u (st:St) (b:Nat) (q X:V) (hb:st.aj[b]?=some (.tc dT [q,.ptr b 1,X])):aa prog G 193 [.ptr b 1] st (fun o s=>o= .ret (.cF [])∧s=st):=by
 intro c w cargs hc hG hs hr
 obtain ⟨k,qv,pv,xv,hk,hh,hq,hp,hx⟩:=div_at hc hb
 have ha:=arg_ptr1 hk (by simpa using hs) (hr 0 (by simp))
 subst ha
 have hpv:pv= .pointer (some ⟨k,1,none⟩):=by
  cases hp with|ptr _ k' _ hk'=>?_
  rw [hk] at hk';cases hk';rfl
 subst hpv
 refine (cd_used k w (by simp [World.cell?,hh])).mono ?_
 rintro e w' ⟨rfl,rfl⟩
 exact ⟨.ret (.cF []),st,c,⟨rfl,rfl⟩,Ext.refl c,hc,.cF _ _ rfl (by simp)⟩
theorem cd_copyCheck_f (st:St) (b:Nat) (q X:V) (hb:st.aj[b]?=some (.tc dT [q,.d .eX,X])):aa prog G 193 [.ptr b 1] st (fun o s=>o= .ret (.cF [])∧s=⟨st.aj.set b (.tc dT [q,.ptr b 1,X]),st.toks⟩):=by
 intro c w cargs hc hG hs hr
 obtain ⟨k,qv,pv,xv,hk,hh,hq,hp,hx⟩:=div_at hc hb
 have ha:=arg_ptr1 hk (by simpa using hs) (hr 0 (by simp))
 subst ha
 have hpv:pv= .pointer none:=by
  cases hp with|d _ _ h=>?_
  cases h;rfl
 subst hpv
 refine (cd_fresh k w (by simp [World.cell?,hh]) (by simp [World.shape?,hh]) (by simp [World.frozen?,hh])).mono ?_
 rintro e w' ⟨rfl,rfl⟩
 rw [mD hh]
 refine ⟨.ret (.cF []),_,c,⟨rfl,rfl⟩,Ext.refl c,?_,.cF _ _ rfl (by simp)⟩
 refine hc.setRow hk hb hh (cs':=[q,.ptr b 1,X]) (by simp) (fun i hi=>?_) (.inr rfl)
 match i with
 |0=>simpa using hq
 |1=>exact .ptr _ _ _ hk
 |2=>simpa using hx
 |i+3=>simp at hi;omega
theorem cd_String (st:St) (b id:Nat) (q p:V) (s:cx) (hb:st.aj[b]?=some (.tc dT [q,p,.own id (aH s)])) (ht:st.toks[id]?=some (bE,1,s.length)) (h0:s≠[]):
  aa prog G 199 [.ptr b 1] st (fun o s'=>o= .ret (.d (.str s))∧s'=⟨st.aj,st.toks.set id (bE,1,maxLen+1)⟩):=by
 intro c w cargs hc hG hs hr
 obtain ⟨k,qv,pv,xv,hk,hh,hq,hp,hx⟩:=div_at hc hb
 obtain ⟨t,g,cap,cur,q1,q2,q3,q4,q5,q6,q7,q8,q9,q10,q11⟩:=Ff hc hx ht h0
 have ha:=arg_ptr1 hk (by simpa using hs) (hr 0 (by simp))
 subst ha q4
 refine (sd_row k g cap qv pv dT cur s w hh q5 q6 q7 q8 h0 q11).mono ?_
 rintro e w' ⟨rfl,rfl⟩
 obtain ⟨k1,k2⟩:=hc.kill q1 (by rw [q2];omega) (g:=g) (by rw [q3];rfl) s.length
 rw [q9,q10] at k1
 exact ⟨.ret (.d (.str s)),_,_,⟨rfl,rfl⟩,k2,k1,.d _ _ (.str _ _ (by simp))⟩
end Go.Proofs.YteeohmopbcjifaaGreatDoor
end
section
set_option maxHeartbeats 8000000
set_option maxRecDepth 20000
namespace Go.Proofs.YteeohmopbcjifaaGreatDoor
open Tryz
open Go.Abs
attribute [local irreducible] AW OX cG GQ bK bO bz aY aa
variable {G:World→Nat→Prop}
def qtF (s:cx) (i:Nat):Nat:=if i<s.length then (if (s.getD i 0).toNat=92 then qtF s (i+2) else if (s.getD i 0).toNat=34 then i+1 else qtF s (i+1)) else s.length
termination_by s.length - i
theorem qtF_le (s:cx):∀ (n i:Nat),s.length+2 - i≤n→qtF s i≤s.length:=by
 intro n
 induction n with
 |zero=>intro i h;rw [qtF,if_neg (by omega)];exact aaP _
 |succ n ih=>
  intro i h
  rw [qtF]
  split
  ·split
   ·exact ih _ (by omega)
   ·split
    ·omega
    ·exact ih _ (by omega)
  ·exact aaP _
theorem qtF_ge (s:cx):∀ (n i:Nat),s.length+2 - i≤n→i≤s.length→i≤qtF s i:=by
 intro n
 induction n with
 |zero=>intro i h;omega
 |succ n ih=>
  intro i h hi
  rw [qtF]
  split
  ·split
   ·by_cases h2:i+2≤s.length
    ·have:=ih (i+2) (by omega) h2;omega
    ·rw [qtF,if_neg (by omega)];omega
   ·split
    ·omega
    ·have:=ih (i+1) (by omega) (by omega);omega
  ·exact hi
theorem ip_quoted (s:cx) (hs:s.length≤1099511627776) (i:Nat) (hi:i≤s.length):b8 G 194 [vs s,ai ↑i] (ai ↑(qtF s (i+1))):=by
 intro st
 refine aa.start func194 rfl ntmps194 (by simp) fun _ ag=>?_
 simp (disch:=omega) only [go_sem,seval,cX ag];all_goals (try subst ag)
 refine AW.zU (fun j:Nat=>[(0,vs s),(5,ai ↑j)]) (fun _=>[]) (fun _=>[]) (fun j=>j≤s.length+2∧qtF s j=qtF s (i+1)) (fun j=>s.length+2 - j) (i+1) (by simp (disch:=omega) only [go_sem,seval]<;>omega) ⟨by omega,rfl⟩ ?_
 intro j ⟨hj,g⟩
 rw [qtF] at g
 by_cases hjl:j<s.length
 ·rw [if_pos hjl] at g
  refine Wk.go fun _ ag=>?_;simp (disch:=omega) only [go_sem,seval,cX ag];(repeat' first|apply cq.l|apply bg.i|refine cE.i fun hc=>?_|refine aQ.i ⟨?_,rfl⟩)<;>try subst ag
  ·refine Pr.i ⟨j+2,⟨by simp (disch:=omega) only [go_sem,seval]<;>omega,?_,?_⟩⟩
   ·exact ⟨by omega,by grind⟩
   ·omega
  ·refine bA ?_;grind
  ·refine Pr.i ⟨j+1,⟨by simp (disch:=omega) only [go_sem,seval]<;>omega,?_,?_⟩⟩
   ·exact ⟨by omega,by grind⟩
   ·omega
 ·rw [if_neg hjl] at g
  refine Wk.go fun _ ag=>?_;simp (disch:=omega) only [go_sem,seval,cX ag];(repeat' first|apply cq.l|refine cE.i fun hc=>?_|refine aQ.i ⟨?_,rfl⟩)<;>try subst ag
  rw [g]
theorem qtF_gt {s:cx} {i:Nat} (h:i<s.length):i<qtF s (i+1):=by
 have:=qtF_ge s _ (i+1) (aaP _) (by omega)
 omega
def clF (s:cx) (i d:Nat):Int:=
 if i<s.length then
  if (s.getD i 0).toNat=34 then (if i<qtF s (i+1) then clF s (qtF s (i+1)) d else -1)
  else if (s.getD i 0).toNat=123 then clF s (i+1) (d+1)
  else if (s.getD i 0).toNat=125 then (if d=0 then i else clF s (i+1) (d - 1)) else clF s (i+1) d
 else -1
termination_by s.length - i
theorem ip_closing (s:cx) (hs:s.length≤1099511627776) (i0:Nat) (hi:i0≤s.length):b8 G 151 [vs s,ai ↑i0] (ai (clF s i0 0)):=by
 intro st
 refine aa.start func151 rfl ntmps151 (by simp) fun _ ag=>?_
 simp (disch:=omega) only [go_sem,seval,cX ag];all_goals (try subst ag)
 refine AW.zU (fun x:Nat×Nat=>[(0,vs s),(1,ai ↑x.1),(5,ai ↑x.2)]) (fun _=>[]) (fun _=>[]) (fun x=>x.1≤s.length∧x.2≤x.1∧clF s x.1 x.2=clF s i0 0) (fun x=>s.length - x.1) (i0,0) (by simp (disch:=omega) only [go_sem,seval]<;>omega) ⟨hi,by simp,rfl⟩ ?_
 rintro ⟨i,d⟩ ⟨g1,g2,g⟩
 simp only at g1 g2 g
 rw [clF] at g
 by_cases hil:i<s.length
 ·rw [if_pos hil] at g
  have hq:=ip_quoted (G:=G) s hs i g1
  have hgt:=qtF_gt hil
  have hle:=qtF_le s _ (i+1) (aaP _)
  refine Wk.go fun _ ag=>?_;simp (disch:=omega) only [go_sem,seval,cX ag,bC (hq _)];(repeat' first|apply cq.l|apply bg.i|refine cE.i fun hc=>?_|refine aQ.i ⟨?_,rfl⟩)<;>try subst ag
  ·refine Pr.i ⟨(qtF s (i+1),d),⟨by simp (disch:=omega) only [go_sem,seval]<;>omega,?_,?_⟩⟩
   ·exact ⟨hle,by simp only;omega,by grind⟩
   ·simp only;omega
  ·refine Pr.i ⟨(i+1,d+1),⟨by simp (disch:=omega) only [go_sem,seval]<;>omega,?_,?_⟩⟩
   ·exact ⟨by simp only;omega,by simp only;omega,by grind⟩
   ·simp only;omega
  ·refine bA ?_;grind
  ·rename_i hd
   have e:((d:Int) - 1)=((d - 1:Nat):Int):=by omega
   refine Pr.i ⟨(i+1,d - 1),⟨by simp (disch:=omega) only [go_sem,seval,e]<;>omega,?_,?_⟩⟩
   ·exact ⟨by simp only;omega,by simp only;omega,by grind⟩
   ·simp only;omega
  ·refine Pr.i ⟨(i+1,d),⟨by simp (disch:=omega) only [go_sem,seval]<;>omega,?_,?_⟩⟩
   ·exact ⟨by simp only;omega,by simp only;omega,by grind⟩
   ·simp only;omega
 ·rw [if_neg hil] at g
  refine Wk.go fun _ ag=>?_;simp (disch:=omega) only [go_sem,seval,cX ag];(repeat' first|apply cq.l|refine cE.i fun hc=>?_|refine aQ.i ⟨?_,rfl⟩)<;>try subst ag
  rw [←g]
theorem cd_WB1 (st:St) (b id m:Nat) (ps:List (List D)) (s:cx) (ch:UInt8) (hb:st.aj[b]?=some (.tc dT [.own m ps,.ptr b 1,.own id (aH s)])) (hm:m<st.toks.length) (ht:st.toks[id]?=some (bE,1,s.length)) (hs:s.length≤4398046511104):
  aa prog G 150 [.ptr b 1,vc ch] st (fun o s'=>o= .ret (.d .fD)∧s'=⟨st.aj.set b (.tc dT [.own m ps,.ptr b 1,.own id (aH (s++[ch]))]),st.toks.set id (bE,1,s.length+1)⟩):=by
 have hcc:=cd_copyCheck_u (G:=G) st b _ _ hb
 have hap:=zf (st:=st) (e:=bE) (by_:=1) (id:=id) (s:=s) (x:=[ch]) ht (by simp) (by simp;omega) (by simp;omega)
 have hbl:b<st.aj.length:=(aaL.1 hb).1
 have hil:id<st.toks.length:=(aaL.1 ht).1
 refine aa.Co func150 rfl ntmps150 (by simp) fun _ ag=>?_
 simp (disch:=omega) only [go_sem,seval,cX ag,bC hcc,hb,oT,iB,gK,mV,hap,splice];(repeat' first|apply cq.l|refine cE.i fun hc=>?_)<;>try subst ag
 refine qc.i ?_;unfold nM;refine aV st.toks.length (aaP _) (by simp only [St.cut,abA,fy,aa0,aaP];rfl) (aR ?_) (by simp (disch:=omega) only [go_sem,seval,bQ,results150];try exact rfl) rfl rfl ⟨rfl,?_⟩
 ·simp [aJ.within,V.within,V.within.all,hbl,hil,hm]
 ·simp
theorem cd_WB0 (st:St) (b m:Nat) (ps:List (List D)) (ch:UInt8) (hb:st.aj[b]?=some (.tc dT [.own m ps,.d .eX,.bh])) (hm:m<st.toks.length):
  aa prog G 150 [.ptr b 1,vc ch] st (fun o s'=>o= .ret (.d .fD)∧s'=⟨st.aj.set b (.tc dT [.own m ps,.ptr b 1,.own st.toks.length (aH [ch])]),st.toks++[(bE,1,1)]⟩):=by
 have hcc:=cd_copyCheck_f (G:=G) st b _ _ hb
 have hap:=zg (st:=⟨st.aj.set b (.tc dT [.own m ps,.ptr b 1,.bh]),st.toks⟩) (e:=bE) (by_:=1) (x:=[ch]) (by simp) (by simp) (by simp)
 have hbl:b<st.aj.length:=(aaL.1 hb).1
 have hsg:=iA (y:=aJ.tc dT [.own m ps,.ptr b 1,.bh]) hb
 refine aa.Co func150 rfl ntmps150 (by simp) fun _ ag=>?_
 simp (disch:=omega) only [go_sem,seval,cX ag,Ck hcc,hsg,oT,iB,gK,oK,hap,splice,List.set_set];(repeat' first|apply cq.l|refine cE.i fun hc=>?_)<;>try subst ag
 refine qc.i ?_;unfold nM;refine aV (st.toks.length+1) (by omega) (by simp only [St.cut,abA,fy];rw [aa0 (by simp)]) (aR ?_) (by simp (disch:=omega) only [go_sem,seval,bQ,results150];try exact rfl) rfl rfl ⟨rfl,?_⟩
 ·simp [aJ.within,V.within,V.within.all,hbl];omega
 ·simp
theorem cd_Len1 (st:St) (b id:Nat) (q p:V) (s:cx) (hb:st.aj[b]?=some (.tc dT [q,p,.own id (aH s)])):aa prog G 198 [.ptr b 1] st (fun o s'=>o= .ret (ai ↑s.length)∧s'=st):=by
 refine aa.start func198 rfl ntmps198 (by simp) fun _ ag=>?_
 simp (disch:=omega) only [go_sem,seval,cX ag,hb,jB];(repeat' first|apply cq.l|refine aQ.i ⟨?_,rfl⟩)<;>try subst ag
 all_goals rfl
theorem cd_Len0 (st:St) (b:Nat) (q p:V) (hb:st.aj[b]?=some (.tc dT [q,p,.bh])):aa prog G 198 [.ptr b 1] st (fun o s'=>o= .ret (ai 0)∧s'=st):=by
 refine aa.start func198 rfl ntmps198 (by simp) fun _ ag=>?_
 simp (disch:=omega) only [go_sem,seval,cX ag,hb];(repeat' first|apply cq.l|refine aQ.i ⟨?_,rfl⟩)<;>try subst ag
 all_goals rfl
theorem cd_Reset (B R:List aJ) (K:List (Nat×Nat×Nat)) (m:Nat) (ps:List (List D)) (p X:V) (hm:m<K.length):aa prog G 200 [.ptr B.length 1] ⟨B++ .tc dT [.own m ps,p,X]::R,K⟩
  (fun o s'=>(o,s')=(.ret (.cF []),⟨B++ .tc dT [.own m ps,.d .eX,.bh]::R,K⟩)):=by
 refine aa.iG func200 rfl ntmps200 (by simp) fun _ ag=>?_
 simp (disch:=omega) only [go_sem,seval,cX ag,wr,hm,decide_true];(repeat' first|apply cq.l|refine dU.i ?_)<;>try subst ag
 rfl
abbrev Pc:Type:=cx×Bool×Ex
def pcD (p:Pc):List D:= .str p.1:: .bool p.2.1::p.2.2.enc
abbrev pT:Nat:=288
theorem pcD_len (p:Pc):(pcD p).length=12:=by simp [pcD,Ex.aP,aX.aP]
theorem pc_one (p:Pc):(pcD p).all D.one=true:=by simp [pcD,Ex.aP,aX.aP,D.one]
theorem rowsLen_pc (l:List Pc):cr 12 (l.map pcD)=true:=ZJ _ _ pcD_len l
theorem pcD_fold (a:cx) (b:Bool) (e:Ex):D.str a::D.bool b::e.enc=pcD (a,b,e):=(rfl)
theorem pcD_fold0 (a:cx):[D.str a,D.bool false,D.int .i64 0,D.str [],D.int .i64 0,D.bool false,D.int .i64 0,D.str [],D.sl [],D.sl [],D.sl [],D.sl []]=pcD (a,false,xQ):=(rfl)
theorem app_pc (st:St) (m:Nat) (l:List Pc) (x:Pc) (ht:st.toks[m]?=some (pT,12,l.length)) (hl:l.length≤1048576):
  jt (some 12) true true pT 12 184 [pcD x] (.own m (l.map pcD)) st=some (.own m ((l++[x]).map pcD),⟨st.aj,st.toks.set m (pT,12,l.length+1)⟩):=by
 have hm:maxLen=9223372036854775807:=by decide
 simp only [jt,ff,aa9,aaM,aaV]
 rw [if_pos ⟨trivial,by omega,trivial⟩,if_pos ⟨ht,trivial,by omega,by omega⟩]
 simp
theorem cd_flush0 (B R:List aJ) (K:List (Nat×Nat×Nat)) (m:Nat) (ps:List (List D)) (hm:m<K.length):aa prog G 153 [.ptr B.length 0] ⟨B++ .tc dT [.own m ps,.d .eX,.bh]::R,K⟩
  (fun o s'=>o= .ret (.cF [])∧s'=⟨B++ .tc dT [.own m ps,.d .eX,.bh]::R,K⟩):=by
 have h1:=cd_Len0 (G:=G) ⟨B++ .tc dT [.own m ps,.d .eX,.bh]::R,K⟩ B.length (.own m ps) (.d .eX) (by simp)
 have h2:=cd_Reset (G:=G) B R K m ps (.d .eX) .bh hm
 refine aa.start func153 rfl ntmps153 (by simp) fun _ ag=>?_
 simp (disch:=omega) only [go_sem,seval,cX ag,bC h1,PZ h2];(repeat' first|apply cq.l|refine aQ.i ⟨?_,rfl⟩)<;>try subst ag
 all_goals rfl
theorem cd_flush1 (B R:List aJ) (K:List (Nat×Nat×Nat)) (l:List Pc) (hl:l.length≤1048576) (s:cx) (hs:s.length≤1048576) (h0:s≠[]):
  aa prog G 153 [.ptr B.length 0] ⟨B++ .tc dT [.own K.length (l.map pcD),.ptr B.length 1,.own (K.length+1) (aH s)]::R,K++[(pT,12,l.length),(bE,1,s.length)]⟩
  (fun o s'=>o= .ret (.cF [])∧s'=⟨B++ .tc dT [.own K.length ((l++[(s,false,xQ)]).map pcD),.d .eX,.bh]::R,K++[(pT,12,l.length+1),(bE,1,maxLen+1)]⟩):=by
 have hp:=abV.2 h0
 have h1:=cd_Len1 (G:=G) ⟨B++ .tc dT [.own K.length (l.map pcD),.ptr B.length 1,.own (K.length+1) (aH s)]::R,K++[(pT,12,l.length),(bE,1,s.length)]⟩ B.length (K.length+1) (.own K.length (l.map pcD)) (.ptr B.length 1) s (by simp)
 have h2:=cd_String (G:=G) ⟨B++ .tc dT [.own K.length (l.map pcD),.ptr B.length 1,.own (K.length+1) (aH s)]::R,K++[(pT,12,l.length),(bE,1,s.length)]⟩ B.length (K.length+1) (.own K.length (l.map pcD)) (.ptr B.length 1) s (by simp) (by simp) h0
 have h3:=cd_Reset (G:=G) B R (K++[(pT,12,l.length+1),(bE,1,maxLen+1)]) K.length ((l++[(s,false,xQ)]).map pcD) (.ptr B.length 1) (.own (K.length+1) (aH s)) (by simp)
 have e:(K++[(pT,12,l.length),(bE,1,s.length)]).set (K.length+1) (bE,1,maxLen+1)=K++[(pT,12,l.length),(bE,1,maxLen+1)]:=by simp
 rw [e] at h2
 have ha:=fun bl=>app_pc ⟨bl,K++[(pT,12,l.length),(bE,1,maxLen+1)]⟩ K.length l (s,false,xQ) (by simp) hl
 have e2:(K++[(pT,12,l.length),(bE,1,maxLen+1)]).set K.length (pT,12,l.length+1)=K++[(pT,12,l.length+1),(bE,1,maxLen+1)]:=by simp
 simp only [e2] at ha
 have hz:dy prog 288=some 12:=by kernel_rfl
 simp only at h2
 refine aa.Co func153 rfl ntmps153 (by simp) fun _ ag=>?_
 simp (disch:=omega) only [go_sem,seval,cX ag,bC h1];(repeat' first|apply cq.l|refine cE.i fun hc=>?_)<;>try subst ag
 refine AW.uh (P:=prog) mx 8 [(4,9)] (by kernel_rfl) (by kernel_rfl) (by simp (disch:=omega) only [go_sem,seval];try exact rfl) (by kernel_rfl) call199 rfl rfl (by simp (disch:=omega) only [go_sem,seval];try exact rfl) h2 (by simp (disch:=omega) only [go_sem,seval,mV,hz,ha,rowsLen_pc,pc_one,pcD_len,pcD_fold0];try exact rfl) (fF (by decide) (by decide) rfl rfl (by simp (disch:=omega) only [go_sem,seval]) iz) ?_
 simp only [abm,aa5,aba] at h3
 refine kQ fun _ ag=>?_
 simp (disch:=omega) only [go_sem,seval,cX ag,PZ h3];(repeat' apply cq.l)<;>try subst ag
 refine Tv (Tt (B:=B) (L:=R) (T:=K++[(pT,12,l.length+1),(bE,1,maxLen+1)]) (.tc dT [.own K.length (l.map pcD++[pcD (s,false,xQ)]),.d .eX,.bh]) rfl ⟨⟨?_,?_,?_,?_⟩,rfl,rfl,rfl⟩ ⟨rfl,by simp⟩)
 ·exact aa0 (by simp)
 ·exact aa0 (by simp)
 all_goals simp [aJ.within,V.within,V.within.all]
def dvB (b n:Nat) (l:List Pc) (s:cx):aJ:= .tc dT (if s=[] then [.own n (l.map pcD),.d .eX,.bh] else [.own n (l.map pcD),.ptr b 1,.own (n+1) (aH s)])
def dvT (l:List Pc) (s:cx):List (Nat×Nat×Nat):=(pT,12,l.length)::(if s=[] then [] else [(bE,1,s.length)])
theorem cd_WB (B R:List aJ) (K:List (Nat×Nat×Nat)) (l:List Pc) (s:cx) (hs:s.length≤1048576) (ch:UInt8):aa prog G 150 [.ptr B.length 1,vc ch] ⟨B++dvB B.length K.length l s::R,K++dvT l s⟩
  (fun o s'=>o= .ret (.d .fD)∧s'=⟨B++dvB B.length K.length l (s++[ch])::R,K++dvT l (s++[ch])⟩):=by
 by_cases h0:s=[]
 ·subst h0
  refine (cd_WB0 (G:=G) ⟨B++dvB B.length K.length l []::R,K++dvT l []⟩ B.length K.length (l.map pcD) ch (by simp [dvB]) (by simp [dvT])).mono ?_
  rintro o s' ⟨rfl,rfl⟩
  exact ⟨rfl,by simp [dvB,dvT]⟩
 ·refine (cd_WB1 (G:=G) ⟨B++dvB B.length K.length l s::R,K++dvT l s⟩ B.length (K.length+1) K.length (l.map pcD) s ch (by simp [dvB,h0]) (by simp [dvT,h0]) (by simp [dvT,h0]) (by omega)).mono ?_
  rintro o s' ⟨rfl,rfl⟩
  exact ⟨rfl,by simp [dvB,dvT,h0]⟩
def flF (l:List Pc) (s:cx):List Pc:=if s=[] then l else l++[(s,false,xQ)]
def flT (s:cx):List (Nat×Nat×Nat):=if s=[] then [] else [(bE,1,maxLen+1)]
theorem cd_flush (B R:List aJ) (K:List (Nat×Nat×Nat)) (l:List Pc) (hl:l.length≤1048576) (s:cx) (hs:s.length≤1048576):aa prog G 153 [.ptr B.length 0] ⟨B++dvB B.length K.length l s::R,K++dvT l s⟩
  (fun o s'=>o= .ret (.cF [])∧s'=⟨B++ .tc dT [.own K.length ((flF l s).map pcD),.d .eX,.bh]::R,K++(pT,12,(flF l s).length)::flT s⟩):=by
 by_cases h0:s=[]
 ·subst h0
  refine (cd_flush0 (G:=G) B R (K++[(pT,12,l.length)]) K.length (l.map pcD) (by simp)).mono ?_
  rintro o s' ⟨rfl,rfl⟩
  exact ⟨rfl,by simp [flF,flT]⟩
 ·have h:=cd_flush1 (G:=G) B R K l hl s hs h0
  simp only [dvB,dvT,flF,flT,if_neg h0,aaQ,aaM,aaV] at h ⊢
  exact h
end Go.Proofs.YteeohmopbcjifaaGreatDoor
end
section
set_option maxHeartbeats 8000000
set_option maxRecDepth 20000
namespace Go.Proofs.YteeohmopbcjifaaGreatDoor
open Tryz
open Go.Abs Go.RowKit
variable {G:World→Nat→Prop}
theorem xC (a b:cx):b8 G 192 [vs a,vs b] (vb (decide (b<+:a))):=by
 intro st
 refine aa.start func192 rfl ntmps192 (by simp) fun _ ag=>?_
 simp (disch:=first|exact ⟨by kernel_rfl⟩|omega) only [go_sem,seval,cX ag,wd];(repeat' first|apply cq.l|apply bg.i|refine cE.i fun hc=>?_|refine aQ.i ⟨?_,rfl⟩)<;>try subst ag
 ·refine aO ?_;rw [aaS,aaS,List.prefix_iff_eq_take];exact eq_comm
 ·refine aO ?_;simp only [abh,false_iff,aaS];exact fun h=>hc h.length_le
theorem Ad (a b:cx):b8 G 149 [vs a,vs b] (vb (decide (b<+:a))):=by
 intro st
 refine aa.start func149 rfl ntmps149 (by simp) fun _ ag=>?_
 simp (disch:=first|exact ⟨by kernel_rfl⟩|omega) only [go_sem,seval,cX ag,wd,bC (xC a b _)];(repeat' first|apply cq.l|refine aQ.i ⟨?_,rfl⟩)<;>try subst ag
 rfl
end Go.Proofs.YteeohmopbcjifaaGreatDoor
end
section
set_option maxHeartbeats 8000000
set_option maxRecDepth 20000
namespace Go.Proofs.YteeohmopbcjifaaGreatDoor
open Tryz
open Go.Abs
attribute [local irreducible] AW OX cG GQ bK bO bz aY aa
variable {G:World→Nat→Prop}
theorem clF_b (s:cx):∀ (n i d:Nat),s.length - i≤n→clF s i d= -1∨∃ e:Nat,clF s i d=e∧i≤e∧e<s.length:=by
 intro n
 induction n with
 |zero=>intro i d h;rw [clF,if_neg (by omega)];exact .inl rfl
 |succ n ih=>
  intro i d h
  rw [clF]
  split
  ·split
   ·split
    ·rename_i h3
     rcases ih (qtF s (i+1)) d (by omega) with h'|⟨e,h1,h2,h4⟩
     ·exact .inl h'
     ·exact .inr ⟨e,h1,by omega,h4⟩
    ·exact .inl rfl
   ·split
    ·rcases ih (i+1) (d+1) (by omega) with h'|⟨e,h1,h2,h4⟩
     ·exact .inl h'
     ·exact .inr ⟨e,h1,by omega,h4⟩
    ·split
     ·split
      ·exact .inr ⟨i,rfl,aaP _,by assumption⟩
      ·rcases ih (i+1) (d - 1) (by omega) with h'|⟨e,h1,h2,h4⟩
       ·exact .inl h'
       ·exact .inr ⟨e,h1,by omega,h4⟩
     ·rcases ih (i+1) d (by omega) with h'|⟨e,h1,h2,h4⟩
      ·exact .inl h'
      ·exact .inr ⟨e,h1,by omega,h4⟩
  ·exact .inl rfl
theorem parV_is (r:Yx):∃ e a c,parV r= .cF [vE e,ai a,ai c]:=by
 cases r with
 |ok e=>exact ⟨e,0,0,rfl⟩
 |err a c=>exact ⟨xQ,a,c,rfl⟩
theorem pre2 {a b:UInt8} {s:cx} {i:Nat} (h:[a,b]<+:s.drop i):i+2≤s.length:=by
 have:=h.length_le
 rw [aa6] at this
 simp only [aaM,aaV] at this
 omega
abbrev ptA:Type:=(List (List D)×Int)×Int
def ptV (x:ptA):V:= .cF [.d (.sl x.1.1),ai x.1.2,ai x.2]
theorem dvB_w (b n:Nat) (l:List Pc) (t:cx) (N:Nat) (h:b<N):(dvB b n l t).within N (n+(dvT l t).length)=true:=by
 by_cases h0:t=[]<;>simp [dvB,dvT,h0,aJ.within,V.within,V.within.all,h]
theorem dvB_nil (b n:Nat) (l:List Pc):dvB b n l []= .tc dT [.own n (l.map pcD),.d .eX,.bh]:=(rfl)
theorem dvT_nil (l:List Pc):dvT l []=[(pT,12,l.length)]:=(rfl)
theorem tdv_w (n:Nat) (r:List (List D)) (N:Nat):(aJ.tc dT [.own n r,.d .eX,.bh]).within N (n+1)=true:=by simp [aJ.within,V.within,V.within.all]
theorem ip_Parts (ga:GA G) (s:cx) (hs:s.length≤1048576) (st:St):AcE prog G 119 [vs s] st ptV:=by
 have hz:L2 prog 279=some [.bh,.d .eX,.bh]:=by kernel_rfl
 unfold AcE
 refine aa.body func119 rfl ntmps119 (by simp) ?_
 refine AW.cutN 2 rfl fun K hK _ ag=>?_
 simp (disch:=omega) only [go_sem,seval,cX ag];(repeat' first|apply cq.l|apply bg.i|refine cE.i fun hc=>?_|refine aQ.i ⟨?_,rfl⟩)<;>try subst ag
 ·exact ⟨(([],0),3),rfl⟩
 refine Pr.i (hK _ _ ?_)
 refine AW.aal fun K1 hK1=>?_
 refine AW.regL 0 (by rfl) (by rfl) fun K3 hK3=>OPW.allocT (e:=279) (by rfl) (by rfl) hz (hK3 _ _ (OW.endR (by rfl) (KT (hK1 _ _ ?_))))
 refine AW.tokenT st.aj.length 0 288 12 (T:=dT) (cs:=[.bh,.d .eX,.bh]) (by simp) rfl (by decide) (st':=⟨st.aj++[dvB st.aj.length st.toks.length [] []],st.toks++dvT [] []⟩) (by simp [dvB,dvT]) ?_
 refine Wk.go fun _ ag=>?_;simp only [go_sem,seval,cX ag];all_goals (try subst ag)
 refine AW.zU (fun x:(List Pc×cx)×Nat=>[(0,vs s),(5,.ptr st.aj.length 0),(6,ai ↑x.2)]) (fun x=>[dvB st.aj.length st.toks.length x.1.1 x.1.2]) (fun x=>dvT x.1.1 x.1.2) (fun x=>x.2≤s.length∧x.1.1.length≤2*x.2∧x.1.2.length≤x.2) (fun x=>s.length - x.2) (([],[]),0) ⟨by simp,by simp only [go_sem,seval]⟩ (by simp) ?_
 rintro ⟨⟨l,t⟩,i⟩ ⟨hi,hl,ht⟩
 simp only at hi hl ht
 have hf:=cd_flush (G:=G) st.aj [] st.toks l (by omega) t (by omega)
 by_cases hil:i<s.length
 ·have h1:=Ad (G:=G) (s.drop i) [36,36]
  have h2:=Ad (G:=G) (s.drop i) [36,123]
  have hw1:aa prog G 150 [.ptr st.aj.length 1,.d (.int .u8 36)] ⟨st.aj++dvB st.aj.length st.toks.length l t::[],st.toks++dvT l t⟩ (fun o s'=>o= .ret (.d .fD)∧s'=⟨st.aj++dvB st.aj.length st.toks.length l (t++[36])::[],st.toks++dvT l (t++[36])⟩):=cd_WB st.aj [] st.toks l t (by omega) 36
  have hw2:aa prog G 150 [.ptr st.aj.length 1,.d (.int .u8 ↑(s.getD i 0).toNat)] ⟨st.aj++dvB st.aj.length st.toks.length l t::[],st.toks++dvT l t⟩ (fun o s'=>o= .ret (.d .fD)∧s'=⟨st.aj++dvB st.aj.length st.toks.length l (t++[s.getD i 0])::[],st.toks++dvT l (t++[s.getD i 0])⟩):=cd_WB st.aj [] st.toks l t (by omega) _
  by_cases p1:[36,36]<+:s.drop i
  ·rw [decide_eq_true p1] at h1
   have hp:=pre2 p1
   refine Wk.go fun _ ag=>?_;simp (disch:=omega) only [go_sem,seval,cX ag,bC (h1 _),Ck hw1];(repeat' first|apply cq.l|refine cE.i fun hc=>?_)<;>try subst ag
   refine Pr.i ⟨((l,t++[36]),i+2),⟨by simp (disch:=omega) only [go_sem,seval,dvB_w,acd,aaY]<;>omega,?_,?_⟩⟩
   ·exact ⟨by simp only;omega,by simp only;omega,by simp only [aaQ,aaM,aaV];omega⟩
   ·simp only;omega
  ·rw [decide_eq_false p1] at h1
   by_cases p2:[36,123]<+:s.drop i
   ·rw [decide_eq_true p2] at h2
    have hp:=pre2 p2
    have hc:=ip_closing (G:=G) s (by omega) (i+2) hp
    rcases clF_b s _ (i+2) 0 (aaP _) with he|⟨e,he,he1,he2⟩
    ·rw [he] at hc
     refine Wk.go fun _ ag=>?_;simp (disch:=omega) only [go_sem,seval,cX ag,bC (h1 _),bC (h2 _),bC (hc _)];(repeat' first|apply cq.l|refine cE.i fun hc=>?_|refine aQ.i ⟨?_,rfl⟩)<;>try subst ag
     exact ⟨((_,_),_),rfl⟩
    ·rw [he] at hc
     obtain ⟨x,a,c,hx⟩:=parV_is (parseF ((s.take e).drop (i+2)))
     have hP:=k_Parse (G:=G) ga ((s.take e).drop (i+2)) (by rw [aa6,aaN];omega)
     rw [hx] at hP
     have hf:=cd_flush (G:=G) st.aj [.cells (x.enc.map .d)] st.toks l (by omega) t (by omega)
     have hfl:(flF l t).length≤2*i+1:=by
      unfold flF
      split
      ·omega
      ·simp only [aaQ,aaM,aaV];omega
     have ha:=fun bl=>app_pc ⟨bl,st.toks++(pT,12,(flF l t).length)::flT t⟩ st.toks.length (flF l t) ([],true,x) (by simp) (by omega)
     have e2:(st.toks++(pT,12,(flF l t).length)::flT t).set st.toks.length (pT,12,(flF l t).length+1)=st.toks++(pT,12,(flF l t).length+1)::flT t:=by simp
     simp only [e2] at ha
     have hz:dy prog 288=some 12:=by kernel_rfl
     refine Wk.go fun _ ag=>?_;simp (disch:=omega) only [go_sem,seval,cX ag,bC (h1 _),bC (h2 _),bC (hc _),bC (hP _),Ck hf,mV,hz,ha,rowsLen_pc,pc_one,pcD_len,pcD_fold];(repeat' first|apply cq.l|apply bg.i|refine cE.i fun hc=>?_|refine aQ.i ⟨?_,rfl⟩)<;>try subst ag
     ·exact ⟨((_,_),_),rfl⟩
     refine Pr.i ⟨((flF l t++[([],true,x)],[]),e+1),⟨by simp (disch:=omega) only [go_sem,seval,dvB_nil,dvT_nil,abm,aa5,aba,aaQ,aaM,aaV,tdv_w,decide_true]<;>omega,?_,?_⟩⟩
     ·exact ⟨by simp only;omega,by simp only [aaQ,aaM,aaV];omega,by simp⟩
     ·simp only;omega
   ·rw [decide_eq_false p2] at h2
    refine Wk.go fun _ ag=>?_;simp (disch:=omega) only [go_sem,seval,cX ag,bC (h1 _),bC (h2 _),Ck hw2];(repeat' first|apply cq.l|refine cE.i fun hc=>?_)<;>try subst ag
    refine Pr.i ⟨((l,t++[s.getD i 0]),i+1),⟨by simp (disch:=omega) only [go_sem,seval,dvB_w,acd,aaY]<;>omega,?_,?_⟩⟩
    ·exact ⟨by simp only;omega,by simp only;omega,by simp only [aaQ,aaM,aaV];omega⟩
    ·simp only;omega
 ·refine Wk.go fun _ ag=>?_;simp (disch:=omega) only [go_sem,seval,cX ag,Ck hf];(repeat' first|apply cq.l|refine cE.i fun hc=>?_|refine aQ.i ⟨?_,rfl⟩)<;>try subst ag
  exact ⟨((_,_),_),rfl⟩
theorem app_key (B:List aJ) (K:List (Nat×Nat×Nat)) (k:cx) (l:List cx) (hl:l.length≤1048576):
  Bt prog (some (9,1,16)) (some (.sl (bt l))) (.own K.length [[.str k]]) ⟨B,K++[(9,1,1)]⟩=some (.own K.length (bt (k::l)),⟨B,K++[(9,1,(k::l).length)]⟩):=by
 have hz:dy prog 9=some 1:=by kernel_rfl
 have hm:maxLen=9223372036854775807:=by decide
 have hr:dA 1 (bt l)=true:=by simp [dA,bt,D.one]
 have he:(bt l).length=l.length:=iP l
 rw [mV,hz,hr]
 simp only [jt]
 rw [if_pos ⟨trivial,by omega,trivial⟩,if_pos ⟨by simp,by rfl,by simp [ff,he];omega,by simp [he,hm];omega⟩]
 cases l with
 |nil=>simp [bt]
 |cons a r=>simp [bt];omega
theorem cm_caches (ga:GA G) (st:St) (b n:Nat) (q:cx→Option Nat) (hB:st.aj[b]?=some (.mp .str n (ixM q))) (l:List Jb) (j:Jb) (gj:gJb j):AcE prog G 84 [vCk l b,vJb j] st ai:=by
 have hbl:=(aaL.1 hB).1
 have hcl:=gj.caches.1
 unfold AcE
 refine aa.start func84 rfl ntmps84 (by simp) fun _ ag=>?_
 simp (disch:=omega) only [go_sem,seval,cX ag];all_goals (try subst ag)
 refine AW.zU (fun i:Nat=>[(14,.d (.sl (j.caches.map Csh.enc))),(15,ai ↑j.caches.length),(16,ai ↑i)]) (fun _=>[.cells [.d (.sl (l.map Jb.enc)),.mp b],.cells (j.enc.map .d)]) (fun _=>[]) (fun i=>i≤j.caches.length) (fun i=>j.caches.length - i) 0 ⟨by simp,by simp (disch:=omega) only [go_sem,seval]⟩ (by simp) ?_
 intro i hi
 by_cases hil:i<j.caches.length
 ·have gc:=gj.caches.2 _ (aB hil)
  generalize hx:j.caches.getD i default=x at gc
  have hrl:=gc.restore.1
  have hpt:=fun st=>cm_patterns (G:=G) x.files gc.files st
  refine AW.cutN 2 rfl fun K hK _ ag=>?_
  simp (disch:=omega) only [go_sem,seval,cX ag];(repeat' first|apply cq.l|refine cE.i fun hc=>?_)<;>try subst ag
  refine Pr.i (hK _ _ ?_)
  refine AW.aal fun K2 hK2=>?_
  refine AW.block ?_
  refine AW.cutN 1 rfl fun K hK _ ag=>?_
  simp (disch:=omega) only [go_sem,seval,cX ag,hx];(repeat' apply cq.l)<;>try subst ag
  refine Pr.i (hK _ _ ?_)
  refine AW.aal fun K3 hK3=>?_
  refine AW.aal fun K4 hK4=>?_
  have ha:=fun bl=>app_key bl st.toks x.key x.restore hrl
  refine AW.regL 2 (by rfl) (by simp (disch:=omega) only [go_sem,seval];try exact rfl) fun K5 hK5=>OPW.mkL (e:=9) (sz:=1) (by_:=16) (rs:=[[.str x.key]]) (by rfl) (by rfl) (by simp (disch:=omega) only [go_sem,seval];try exact rfl) (by simp (disch:=omega) only [go_sem,seval]) (hK5 _ _ (OW.endR (by simp (disch:=omega) only [go_sem,seval,ha,aaM,aaV];try exact rfl) (KT (hK4 _ _ ?_))))
  refine Wk.go fun _ ag=>?_;simp (disch:=omega) only [go_sem,seval,cX ag];all_goals (try subst ag)
  refine AW.zU (fun k:Nat=>[(6,.ptr (st.aj.length+2) 0),(14,.d (.sl (j.caches.map Csh.enc))),(15,ai ↑j.caches.length),(16,ai ↑i),(25,.own st.toks.length (bt (x.key::x.restore))),(26,ai ↑(x.key::x.restore).length),(27,ai ↑k)]) (fun _=>[.cells [.d (.sl (l.map Jb.enc)),.mp b],.cells (j.enc.map .d),.cells (x.enc.map .d)]) (fun _=>[(9,1,(x.key::x.restore).length)]) (fun k=>k≤(x.key::x.restore).length) (fun k=>(x.key::x.restore).length - k) 0 ⟨by simp,by simp (disch:=omega) only [go_sem,seval]⟩ (by simp) ?_
  have hks:∀ s∈x.key::x.restore,s.length≤1048576:=fun s hs=>by
   rcases aby.1 hs with rfl|hs
   ·exact gc.key
   ·exact gc.restore.2 s hs
  have hkl:(x.key::x.restore).length≤1048577:=by simp only [aaM];omega
  generalize x.key::x.restore=ks at hks hkl
  intro k hk
  by_cases hkk:k<ks.length
  ·have hp:=fun st=>ip_Parts (G:=G) ga (ks.getD k default) (hks _ (aB hkk)) st
   refine Wk.go fun _ ag=>?_;simp (disch:=omega) only [go_sem,seval,cX ag,CQ_x (hp _),ptV,wr];(repeat' first|apply cq.l|apply bg.i|refine cE.i fun hc=>?_|refine aQ.i ⟨?_,rfl⟩|refine fB.i fun j=>?_)<;>try subst ag
   ·exact ⟨_,rfl⟩
   refine Pr.i ⟨k+1,⟨by simp (disch:=omega) only [go_sem,seval,aaW,aaS]<;>omega,?_,?_⟩⟩
   all_goals omega
  ·refine Wk.go fun _ ag=>?_;simp (disch:=omega) only [go_sem,seval,cX ag];(repeat' first|apply cq.l|refine cE.i fun hc=>?_)<;>try subst ag
   refine Pr.i (hK3 _ _ ?_)
   refine Wk.go fun _ ag=>?_;simp (disch:=omega) only [go_sem,seval,cX ag,CQ_x (hpt _),wr];(repeat' first|apply cq.l|apply bg.i|refine cE.i fun hc=>?_|refine aQ.i ⟨?_,rfl⟩|refine fB.i fun j=>?_)<;>try subst ag
   ·exact ⟨_,rfl⟩
   refine Pr.i (hK2 _ _ ?_)
   refine Wk.go fun _ ag=>?_;simp (disch:=omega) only [go_sem,seval,cX ag];(repeat' apply cq.l)<;>try subst ag
   refine Pr.i ⟨i+1,⟨by simp (disch:=omega) only [go_sem,seval]<;>omega,?_,?_⟩⟩
   all_goals omega
 ·refine Wk.go fun _ ag=>?_;simp (disch:=omega) only [go_sem,seval,cX ag];(repeat' first|apply cq.l|refine cE.i fun hc=>?_|refine aQ.i ⟨?_,rfl⟩)<;>try subst ag
  all_goals exact ⟨_,rfl⟩
theorem cm_rest (ga:GA G) (gm:GM G) (st:St) (b n:Nat) (q:cx→Option Nat) (hB:st.aj[b]?=some (.mp .str n (ixM q))) (l:List Jb) (j:Jb) (gj:gJb j):AcE prog G 58 [vCk l b,vJb j] st ai:=by
 have hw:=fun a b c=>cm_within (G:=G) a b c
 have he:=fun (p:cx→Bool) g (ks:List cx) (h:gKs ks) (hh:HasOK G g p ks)=>cm_each (G:=G) g p ks h.2 (by have:=h.1;omega) hh
 have e1:=he _ _ j.aak gj.aak (has_name _ gj.aak.2)
 have e2:=he _ _ j.secrets gj.secrets (has_name _ gj.secrets.2)
 have e3:=he _ _ j.gate.aaj gj.gate.aaj (has_name _ gj.gate.aaj.2)
 have e4:=he _ _ j.tests gj.tests (has_path gm _ gj.tests.2)
 have hn:=i_Name (G:=G) j.environment (by have:=gj.environment;omega)
 have hcc:=cm_caches (G:=G) ga ⟨st.aj++[.cells [.d (.sl (l.map Jb.enc)),.mp b],.cells (j.enc.map .d)],st.toks⟩ b n q (fU hB) l j gj
 have ha:=gj.gate.aaj.1
 unfold AcE
 refine aa.body func58 rfl ntmps58 (by simp) ?_
 refine AW.cutE 3 (τ:=Unit) (fun _=>True) (fun _=>[(3,.ptr (st.aj.length+1) 0)]) (fun _=>⟨st.aj++[.cells [.d (.sl (l.map Jb.enc)),.mp b],.cells (j.enc.map .d)],st.toks⟩) rfl (fun K hK _ ag=>?_) fun _ _=>?_
 ·simp (disch:=omega) only [go_sem,seval,cX ag,bC (e1 _),bC (e2 _),CQ_x hcc,wr];(repeat' first|apply cq.l|apply bg.i|refine cE.i fun hc=>?_|refine aQ.i ⟨?_,rfl⟩|refine fB.i fun j=>?_)<;>try subst ag
  all_goals first|exact ⟨_,rfl⟩|exact Pr.i (hK () _ trivial (by simp only [go_sem,seval]))
 refine AW.cutE 1 (τ:=Unit) (fun _=>True) (fun _=>[(3,.ptr (st.aj.length+1) 0)]) (fun _=>⟨st.aj++[.cells [.d (.sl (l.map Jb.enc)),.mp b],.cells (j.enc.map .d)],st.toks⟩) rfl (fun K hK _ ag=>?_) fun _ _=>?_
 ·simp (disch:=omega) only [go_sem,seval,cX ag,bC (hn _)];(repeat' first|apply cq.l|apply bg.i|refine cE.i fun hc=>?_|refine aQ.i ⟨?_,rfl⟩)<;>try subst ag
  all_goals first|exact ⟨_,rfl⟩|exact Pr.i (hK () _ trivial (by simp only [go_sem,seval]))
 refine AW.cutE 1 (τ:=Unit) (fun _=>True) (fun _=>[(3,.ptr (st.aj.length+1) 0),(6,.ptr (st.aj.length+2) 0)]) (fun _=>⟨st.aj++[.cells [.d (.sl (l.map Jb.enc)),.mp b],.cells (j.enc.map .d),.cells (j.gate.enc.map .d)],st.toks⟩) rfl (fun K hK _ ag=>?_) fun _ _=>?_
 ·simp only [go_sem,seval,cX ag];(repeat' apply cq.l)<;>try subst ag
  all_goals exact Pr.i (hK () _ trivial (by simp only [go_sem,seval]))
 refine AW.aal fun K hK=>?_
 refine AW.block ?_
 refine AW.ifB [(3,.ptr (st.aj.length+1) 0),(6,.ptr (st.aj.length+2) 0)] ⟨st.aj++[.cells [.d (.sl (l.map Jb.enc)),.mp b],.cells (j.enc.map .d),.cells (j.gate.enc.map .d)],st.toks⟩ rfl (fun K hK _ ag=>?_) ?_ ?_
 ·simp (disch:=omega) only [go_sem,seval,cX ag];(repeat' first|apply cq.l|apply bg.i|refine cE.i fun hc=>?_)<;>try subst ag
  all_goals exact Pr.i (hK _ _ ⟨rfl,by simp only [go_sem,seval]⟩)
 ·refine Wk.go fun _ ag=>?_;simp only [go_sem,seval,cX ag];(repeat' first|apply cq.l|refine aQ.i ⟨?_,rfl⟩)<;>try subst ag
  all_goals exact ⟨_,rfl⟩
 refine AW.ifB [(3,.ptr (st.aj.length+1) 0),(6,.ptr (st.aj.length+2) 0)] ⟨st.aj++[.cells [.d (.sl (l.map Jb.enc)),.mp b],.cells (j.enc.map .d),.cells (j.gate.enc.map .d)],st.toks⟩ rfl (fun K hK _ ag=>?_) ?_ ?_
 ·simp (disch:=omega) only [go_sem,seval,cX ag,bC (e3 _)];(repeat' first|apply cq.l|apply bg.i|refine cE.i fun hc=>?_)<;>try subst ag
  all_goals exact Pr.i (hK _ _ ⟨rfl,by simp only [go_sem,seval]⟩)
 ·refine Wk.go fun _ ag=>?_;simp only [go_sem,seval,cX ag];(repeat' first|apply cq.l|refine aQ.i ⟨?_,rfl⟩)<;>try subst ag
  all_goals exact ⟨_,rfl⟩
 refine AW.ifB [(3,.ptr (st.aj.length+1) 0),(6,.ptr (st.aj.length+2) 0)] ⟨st.aj++[.cells [.d (.sl (l.map Jb.enc)),.mp b],.cells (j.enc.map .d),.cells (j.gate.enc.map .d)],st.toks⟩ rfl (fun K hK _ ag=>?_) ?_ ?_
 ·simp (disch:=omega) only [go_sem,seval,cX ag,bC (hw _ _ _ _)];(repeat' first|apply cq.l|apply bg.i|refine cE.i fun hc=>?_)<;>try subst ag
  all_goals exact Pr.i (hK _ _ ⟨rfl,by simp only [go_sem,seval]⟩)
 ·refine Wk.go fun _ ag=>?_;simp only [go_sem,seval,cX ag];(repeat' first|apply cq.l|refine aQ.i ⟨?_,rfl⟩)<;>try subst ag
  all_goals exact ⟨_,rfl⟩
 refine AW.ifB [(3,.ptr (st.aj.length+1) 0),(6,.ptr (st.aj.length+2) 0)] ⟨st.aj++[.cells [.d (.sl (l.map Jb.enc)),.mp b],.cells (j.enc.map .d),.cells (j.gate.enc.map .d)],st.toks⟩ rfl (fun K hK _ ag=>?_) ?_ ?_
 ·simp only [go_sem,seval,cX ag,bC (e4 _)];(repeat' apply cq.l)<;>try subst ag
  all_goals exact Pr.i (hK _ _ ⟨rfl,by simp only [go_sem,seval]⟩)
 ·refine Wk.go fun _ ag=>?_;simp only [go_sem,seval,cX ag];(repeat' first|apply cq.l|refine aQ.i ⟨?_,rfl⟩)<;>try subst ag
  all_goals exact ⟨_,rfl⟩
 refine AW.ifB [(3,.ptr (st.aj.length+1) 0),(6,.ptr (st.aj.length+2) 0)] ⟨st.aj++[.cells [.d (.sl (l.map Jb.enc)),.mp b],.cells (j.enc.map .d),.cells (j.gate.enc.map .d)],st.toks⟩ rfl (fun K hK _ ag=>?_) ?_ ?_
 ·simp (disch:=omega) only [go_sem,seval,cX ag,bC (hw _ _ _ _)];(repeat' first|apply cq.l|apply bg.i|refine cE.i fun hc=>?_)<;>try subst ag
  all_goals exact Pr.i (hK _ _ ⟨rfl,by simp only [go_sem,seval]⟩)
 ·refine Wk.go fun _ ag=>?_;simp only [go_sem,seval,cX ag];(repeat' first|apply cq.l|refine aQ.i ⟨?_,rfl⟩)<;>try subst ag
  all_goals exact ⟨_,rfl⟩
 refine Wk.go fun _ ag=>?_;simp only [go_sem,seval,cX ag];(repeat' apply cq.l)<;>try subst ag
 refine Pr.i (hK _ _ ?_)
 refine Wk.go fun _ ag=>?_;simp only [go_sem,seval,cX ag];(repeat' first|apply cq.l|refine aQ.i ⟨?_,rfl⟩)<;>try subst ag
 all_goals exact ⟨_,rfl⟩
