import Derived.Test.YtbcillkajdnljaaGreatDoorV17
set_option linter.all false
section
set_option maxHeartbeats 8000000
set_option maxRecDepth 20000
namespace Go.Proofs.YtbcillkajdnljaaGreatDoor
open Tryz
open Go.Abs
attribute [local irreducible] AW OX GQ bK bO bz aY aA
variable {G:World→Nat→Prop}
abbrev e8 (n:Int):V:= .d (.int .u64 n)
def addC (n k:Nat) (a:Int):Int:=if n / 64=k then Ta .or .u64 a (shlI .u64 1 ↑(n % 64)) else a
def dropC (n k:Nat) (a:Int):Int:=if n / 64=k then Ta .andNot .u64 a (shlI .u64 1 ↑(n % 64)) else a
def g_add (B R:List ec) (K:List (Nat×Nat×Nat)) (n:Nat) (hn:n<256) (a0 a1 a2 a3:Int) (rest:List D):aA prog G 377 [.ptr B.length 0,.d (.int .u8 ↑n)] ⟨B++(.cells (e8 a0::e8 a1::e8 a2::e8 a3::rest.map V.d)::R),K⟩
  (fun o s=>o= .ret (.cF [])∧s=⟨B++(.cells (e8 (addC n 0 a0)::e8 (addC n 1 a1)::e8 (addC n 2 a2)::e8 (addC n 3 a3)::rest.map V.d)::R),K⟩):=by
 have h:n / 64=0∨n / 64=1∨n / 64=2∨n / 64=3:=by omega
 have d:((n:Int).tdiv 64)=((n / 64:Nat):Int):=by rw [Int.tdiv_eq_ediv_of_nonneg (by omega)];omega
 have e:(n:Int).tmod 64=((n % 64:Nat):Int):=by rw [Int.tmod_eq_emod_of_nonneg (by omega)];omega
 have nn:¬ ((n % 64:Nat):Int)<0:=by omega
 rcases h with h|h|h|h
 ·have q:IntKind.u8.wrap ((n:Int).tdiv 64)=0:=by rw [d,h];decide
  refine aA.Co func377 rfl ntmps377 (by simp) fun _ ag=>?_
  simp (disch:=first|exact ⟨by kernel_rfl⟩|omega) only [go_sem,seval,cX ag,wd,q,e,nn,if_false,aaJ];(repeat' apply cq.l)<;>try subst ag
  refine Tv (Tt (B:=B) (L:=R) (K:=K) (T:=K) (.cells (V.d (D.int IntKind.u64 (Ta BinOp.or IntKind.u64 a0 (shlI IntKind.u64 1 ↑(n % 64))))::e8 a1::e8 a2::e8 a3::rest.map V.d)) rfl ⟨⟨?_,?_,?_,?_⟩,rfl,rfl,rfl⟩ ⟨rfl,by simp [addC,h]⟩)
  all_goals (simp only [go_sem,seval]<;>simp)
 ·have q:IntKind.u8.wrap ((n:Int).tdiv 64)=1:=by rw [d,h];decide
  refine aA.Co func377 rfl ntmps377 (by simp) fun _ ag=>?_
  simp (disch:=first|exact ⟨by kernel_rfl⟩|omega) only [go_sem,seval,cX ag,wd,q,e,nn,if_false,aaJ];(repeat' apply cq.l)<;>try subst ag
  refine Tv (Tt (B:=B) (L:=R) (K:=K) (T:=K) (.cells (e8 a0::V.d (D.int IntKind.u64 (Ta BinOp.or IntKind.u64 a1 (shlI IntKind.u64 1 ↑(n % 64))))::e8 a2::e8 a3::rest.map V.d)) rfl ⟨⟨?_,?_,?_,?_⟩,rfl,rfl,rfl⟩ ⟨rfl,by simp [addC,h]⟩)
  all_goals (simp only [go_sem,seval]<;>simp)
 ·have q:IntKind.u8.wrap ((n:Int).tdiv 64)=2:=by rw [d,h];decide
  refine aA.Co func377 rfl ntmps377 (by simp) fun _ ag=>?_
  simp (disch:=first|exact ⟨by kernel_rfl⟩|omega) only [go_sem,seval,cX ag,wd,q,e,nn,if_false,aaJ];(repeat' apply cq.l)<;>try subst ag
  refine Tv (Tt (B:=B) (L:=R) (K:=K) (T:=K) (.cells (e8 a0::e8 a1::V.d (D.int IntKind.u64 (Ta BinOp.or IntKind.u64 a2 (shlI IntKind.u64 1 ↑(n % 64))))::e8 a3::rest.map V.d)) rfl ⟨⟨?_,?_,?_,?_⟩,rfl,rfl,rfl⟩ ⟨rfl,by simp [addC,h]⟩)
  all_goals (simp only [go_sem,seval]<;>simp)
 ·have q:IntKind.u8.wrap ((n:Int).tdiv 64)=3:=by rw [d,h];decide
  refine aA.Co func377 rfl ntmps377 (by simp) fun _ ag=>?_
  simp (disch:=first|exact ⟨by kernel_rfl⟩|omega) only [go_sem,seval,cX ag,wd,q,e,nn,if_false,aaJ];(repeat' apply cq.l)<;>try subst ag
  refine Tv (Tt (B:=B) (L:=R) (K:=K) (T:=K) (.cells (e8 a0::e8 a1::e8 a2::V.d (D.int IntKind.u64 (Ta BinOp.or IntKind.u64 a3 (shlI IntKind.u64 1 ↑(n % 64))))::rest.map V.d)) rfl ⟨⟨?_,?_,?_,?_⟩,rfl,rfl,rfl⟩ ⟨rfl,by simp [addC,h]⟩)
  all_goals (simp only [go_sem,seval]<;>simp)
def g_drop (B R:List ec) (K:List (Nat×Nat×Nat)) (n:Nat) (hn:n<256) (a0 a1 a2 a3:Int) (rest:List D):aA prog G 375 [.ptr B.length 0,.d (.int .u8 ↑n)] ⟨B++(.cells (e8 a0::e8 a1::e8 a2::e8 a3::rest.map V.d)::R),K⟩
  (fun o s=>o= .ret (.cF [])∧s=⟨B++(.cells (e8 (dropC n 0 a0)::e8 (dropC n 1 a1)::e8 (dropC n 2 a2)::e8 (dropC n 3 a3)::rest.map V.d)::R),K⟩):=by
 have h:n / 64=0∨n / 64=1∨n / 64=2∨n / 64=3:=by omega
 have d:((n:Int).tdiv 64)=((n / 64:Nat):Int):=by rw [Int.tdiv_eq_ediv_of_nonneg (by omega)];omega
 have e:(n:Int).tmod 64=((n % 64:Nat):Int):=by rw [Int.tmod_eq_emod_of_nonneg (by omega)];omega
 have nn:¬ ((n % 64:Nat):Int)<0:=by omega
 rcases h with h|h|h|h
 ·have q:IntKind.u8.wrap ((n:Int).tdiv 64)=0:=by rw [d,h];decide
  refine aA.Co func375 rfl ntmps375 (by simp) fun _ ag=>?_
  simp (disch:=first|exact ⟨by kernel_rfl⟩|omega) only [go_sem,seval,cX ag,wd,q,e,nn,if_false,aaJ];(repeat' apply cq.l)<;>try subst ag
  refine Tv (Tt (B:=B) (L:=R) (K:=K) (T:=K) (.cells (V.d (D.int IntKind.u64 (Ta BinOp.andNot IntKind.u64 a0 (shlI IntKind.u64 1 ↑(n % 64))))::e8 a1::e8 a2::e8 a3::rest.map V.d)) rfl ⟨⟨?_,?_,?_,?_⟩,rfl,rfl,rfl⟩ ⟨rfl,by simp [dropC,h]⟩)
  all_goals (simp only [go_sem,seval]<;>simp)
 ·have q:IntKind.u8.wrap ((n:Int).tdiv 64)=1:=by rw [d,h];decide
  refine aA.Co func375 rfl ntmps375 (by simp) fun _ ag=>?_
  simp (disch:=first|exact ⟨by kernel_rfl⟩|omega) only [go_sem,seval,cX ag,wd,q,e,nn,if_false,aaJ];(repeat' apply cq.l)<;>try subst ag
  refine Tv (Tt (B:=B) (L:=R) (K:=K) (T:=K) (.cells (e8 a0::V.d (D.int IntKind.u64 (Ta BinOp.andNot IntKind.u64 a1 (shlI IntKind.u64 1 ↑(n % 64))))::e8 a2::e8 a3::rest.map V.d)) rfl ⟨⟨?_,?_,?_,?_⟩,rfl,rfl,rfl⟩ ⟨rfl,by simp [dropC,h]⟩)
  all_goals (simp only [go_sem,seval]<;>simp)
 ·have q:IntKind.u8.wrap ((n:Int).tdiv 64)=2:=by rw [d,h];decide
  refine aA.Co func375 rfl ntmps375 (by simp) fun _ ag=>?_
  simp (disch:=first|exact ⟨by kernel_rfl⟩|omega) only [go_sem,seval,cX ag,wd,q,e,nn,if_false,aaJ];(repeat' apply cq.l)<;>try subst ag
  refine Tv (Tt (B:=B) (L:=R) (K:=K) (T:=K) (.cells (e8 a0::e8 a1::V.d (D.int IntKind.u64 (Ta BinOp.andNot IntKind.u64 a2 (shlI IntKind.u64 1 ↑(n % 64))))::e8 a3::rest.map V.d)) rfl ⟨⟨?_,?_,?_,?_⟩,rfl,rfl,rfl⟩ ⟨rfl,by simp [dropC,h]⟩)
  all_goals (simp only [go_sem,seval]<;>simp)
 ·have q:IntKind.u8.wrap ((n:Int).tdiv 64)=3:=by rw [d,h];decide
  refine aA.Co func375 rfl ntmps375 (by simp) fun _ ag=>?_
  simp (disch:=first|exact ⟨by kernel_rfl⟩|omega) only [go_sem,seval,cX ag,wd,q,e,nn,if_false,aaJ];(repeat' apply cq.l)<;>try subst ag
  refine Tv (Tt (B:=B) (L:=R) (K:=K) (T:=K) (.cells (e8 a0::e8 a1::e8 a2::V.d (D.int IntKind.u64 (Ta BinOp.andNot IntKind.u64 a3 (shlI IntKind.u64 1 ↑(n % 64))))::rest.map V.d)) rfl ⟨⟨?_,?_,?_,?_⟩,rfl,rfl,rfl⟩ ⟨rfl,by simp [dropC,h]⟩)
  all_goals (simp only [go_sem,seval]<;>simp)
def litD (n:Nat):List D:=[.int .u64 (addC n 0 0),.int .u64 (addC n 1 0),.int .u64 (addC n 2 0),.int .u64 (addC n 3 0),.bool false,.bool true,.int .u8 n]
def g_literal (n:Nat) (hn:n<256):b8 G 292 [.d (.int .u8 ↑n)] (.agg ((litD n).map .d)):=by
 intro st;have ha:=g_add (G:=G) (st.aj++[.cells [e8 0,e8 0,e8 0,e8 0,vb false,vb false,.d (.int .u8 0)]]) [] st.toks n hn 0 0 0 0 [.bool false,.bool true,.int .u8 n];simp only [aax,aav,aaA,aaL,aaG,aaP,aaN,aaB,aaI] at ha;refine aA.start func292 rfl ntmps292 (by simp) fun _ ag=>?_;simp (disch:=first|exact ⟨by kernel_rfl⟩|omega) only [go_sem,seval,cX ag,wd,Ck ha];(repeat' first|apply cq.l|refine aQ.i ⟨?_,rfl⟩)<;>try subst ag
 all_goals rfl
def allC:Int:=18446744073709551615
def mostC (b:Bool) (k:Nat):Int:=if b then allC else dropC 47 k allC
def g_most (b:Bool):b8 G 290 [vb b] (.agg [e8 (mostC b 0),e8 (mostC b 1),e8 (mostC b 2),e8 (mostC b 3)]):=by
 intro st;have hd:=g_drop (G:=G) (st.aj++[.cells [e8 0,e8 0,e8 0,e8 0]]) [] st.toks 47 (by omega) allC allC allC allC [];simp only [aax,aav,aaA,aaL,aaG,aaP,aaN,aaB,aaI,allC,show ((47:Nat):Int)=47 from rfl] at hd;refine aA.body func290 rfl ntmps290 (by simp) ?_;refine AW.oA fun K hK=>?_;refine Wk.go fun _ ag=>?_;simp only [go_sem,seval,cX ag];(repeat' apply cq.l)<;>try subst ag
 refine cB.i (hK _ _ ?_);refine AW.oA fun K2 hK2=>?_;refine AW.regL 0 (by rfl) (by rfl) fun K3 hK3=>OPW.const (.agg #[.int .u64 18446744073709551615,.int .u64 18446744073709551615,.int .u64 18446744073709551615,.int .u64 18446744073709551615]) (by rfl) (by rfl) (fun a w=>by kernel_rfl) (hK3 _ _ (OW.endR (by simp only [go_sem,seval,ofConst,ny,tJ];try exact rfl) (KT (hK2 _ _ ?_))));cases b
 all_goals
  refine Wk.go fun _ ag=>?_;simp only [go_sem,seval,cX ag,Ck hd];(repeat' first|apply cq.l|refine aQ.i ⟨?_,rfl⟩)<;>try subst ag
  all_goals rfl
structure C4 where
 a:Int
 b:Int
 c:Int
 d:Int
abbrev C4.l (x:C4):List V:=[e8 x.a,e8 x.b,e8 x.c,e8 x.d]
def gchF_le (s:aF):(gchF s).2≤s.length:=by
 unfold gchF
 repeat' split
 all_goals first|exact aaK _|skip
 ·rename_i h _ _;exact abP.2 h
 ·omega
def gchF_lt (s:aF):(gchF s).1<256:=by
 unfold gchF
 repeat' split
 all_goals first|exact UInt8.toNat_lt _|omega
abbrev ClA (s:aF):Type:= { x:C4×Nat // x.2≤s.length }
def clV {s:aF} (x:ClA s):V:= .cF [.agg x.1.1.l,ai ↑x.1.2]
def g_class (s:aF) (hs:s.length≤1048576) (h1:1≤s.length) (st:St):Ly prog G 291 [vs s] st (clV (s:=s)):=by
 unfold Ly;refine aA.start func291 rfl ntmps291 (by simp) fun _ ag=>?_;simp only [go_sem,seval,cX ag];all_goals (try subst ag)
 refine AW.zU (fun x:C4×Nat=>[(0,vs s),(2,.ptr st.aj.length 0),(4,.ptr (st.aj.length+1) 0),(5,ai ↑x.2)]) (fun x=>[.cells [e8 0,e8 0,e8 0,e8 0],.cells x.1.l]) (fun _=>[]) (fun x=>1≤x.2∧x.2≤s.length) (fun x=>s.length - x.2) (⟨0,0,0,0⟩,1) ⟨by simp,by simp only [go_sem,seval]⟩ ⟨aat _,h1⟩ ?_;rintro ⟨a,i⟩ ⟨hi1,hi2⟩;simp only at hi1 hi2;have hd:=g_drop (G:=G) (st.aj++[.cells [e8 0,e8 0,e8 0,e8 0]]) [] st.toks 47 (by omega) a.a a.b a.c a.d [];simp only [aax,aav,aaA,aaL,aaG,aaP,aaN,aaB,aaI,show ((47:Nat):Int)=47 from rfl] at hd;refine AW.cutE 1 (τ:=Unit) (fun _=>True) (fun _=>[(0,vs s),(2,.ptr st.aj.length 0),(4,.ptr (st.aj.length+1) 0),(5,ai ↑i)]) (fun _=>⟨st.aj++[.cells [e8 0,e8 0,e8 0,e8 0],.cells a.l],st.toks⟩) rfl (fun K hK _ ag=>?_) fun _ _=>?_
 ·simp (disch:=omega) only [go_sem,seval,cX ag,Ck hd];(repeat' first|apply cq.l|apply bg.i|refine cE.i fun hc=>?_|refine aQ.i ⟨?_,rfl⟩)<;>try subst ag
  all_goals first|exact ⟨⟨(a,0),aaK _⟩,rfl⟩|exact ⟨⟨(⟨_,_,_,_⟩,i+1),by simp only;omega⟩,rfl⟩|exact cB.i (hK () _ trivial (by simp (disch:=omega) only [go_sem,seval]))
 refine AW.block ?_;have hc:=g_char (G:=G) (s.drop i) (by rw [aar];omega);have hc1:=gchF_le (s.drop i);have hc2:=gchF_lt (s.drop i);rw [aar] at hc1;generalize gchF (s.drop i)=g at hc hc1 hc2;refine AW.cutN 4 rfl fun K hK _ ag=>?_;simp (disch:=omega) only [go_sem,seval,cX ag,bC (hc _)];(repeat' first|apply cq.l|apply bg.i|refine cE.i fun hc=>?_|refine aQ.i ⟨?_,rfl⟩)<;>try subst ag
 ·exact ⟨⟨(a,0),aaK _⟩,rfl⟩
 refine cB.i (hK _ _ ?_);refine AW.cutE 1 (τ:=Nat×Nat) (fun x=>i<x.1∧x.1≤s.length∧g.1≤x.2∧x.2<256) (fun x=>[(0,vs s),(2,.ptr st.aj.length 0),(4,.ptr (st.aj.length+1) 0),(5,ai ↑x.1),(6,.d (.int .u8 ↑g.1)),(8,.d (.int .u8 ↑x.2))]) (fun _=>⟨st.aj++[.cells [e8 0,e8 0,e8 0,e8 0],.cells a.l],st.toks⟩) rfl (fun K hK _ ag=>?_) ?_
 ·have hc3:=fun h:i+g.2+1≤s.length=>g_char (G:=G) (s.drop (i+g.2+1)) (by rw [aar];omega);have hc4:=gchF_le (s.drop (i+g.2+1));have hc5:=gchF_lt (s.drop (i+g.2+1));rw [aar] at hc4;generalize gchF (s.drop (i+g.2+1))=u at hc3 hc4 hc5;simp (disch:=omega) only [go_sem,seval,cX ag,nC hc3];(repeat' first|apply cq.l|apply bg.i|refine cE.i fun hc=>?_|refine aQ.i ⟨?_,rfl⟩)<;>try subst ag
  all_goals first|exact ⟨⟨(a,0),aaK _⟩,rfl⟩|skip
  ·exact cB.i (hK (i+g.2+(1+u.2),u.1) _ ⟨by simp only;omega,by simp only;omega,by simp only;omega,hc5⟩ (by simp (disch:=omega) only [go_sem,seval,V.d.injEq,D.int.injEq,true_and];omega))
  all_goals exact cB.i (hK (i+g.2,g.1) _ ⟨by simp only;omega,by simp only;omega,aat _,hc2⟩ (by simp only [go_sem,seval]))
 rintro ⟨i2,k⟩ ⟨hk1,hk2,hk3,hk4⟩;simp only at hk1 hk2 hk3 hk4;have hkw:∀ c:Nat,c<256→IntKind.u8.wrap (c:Int)=c:=fun c h=>Go.IntWalk.u8_in _ ⟨by omega,by omega⟩;refine Wk.go fun _ ag=>?_;simp only [go_sem,seval,cX ag];all_goals (try subst ag)
 refine AW.zU (fun x:C4×Nat=>[(0,vs s),(2,.ptr st.aj.length 0),(4,.ptr (st.aj.length+1) 0),(5,ai ↑i2),(8,.d (.int .u8 ↑k)),(9,ai ↑x.2)]) (fun x=>[.cells [e8 0,e8 0,e8 0,e8 0],.cells x.1.l]) (fun _=>[]) (fun x=>x.2≤k+1) (fun x=>k+1 - x.2) (a,g.1) ⟨by simp,by simp (disch:=omega) only [go_sem,seval]⟩ (by simp only;omega) ?_;rintro ⟨e,c⟩ hce;simp only at hce;have ha:=fun h:c<256=>g_add (G:=G) (st.aj++[.cells [e8 0,e8 0,e8 0,e8 0]]) [] st.toks c h e.a e.b e.c e.d [];simp only [aax,aav,aaA,aaL,aaG,aaP,aaN,aaB,aaI] at ha;refine Wk.go fun _ ag=>?_;simp (disch:=omega) only [go_sem,seval,cX ag,CQ_is ha,hkw c];(repeat' first|apply cq.l|apply bg.i|refine cE.i fun hc=>?_)<;>try subst ag
 ·refine cB.i ⟨(⟨addC c 0 e.a,addC c 1 e.b,addC c 2 e.c,addC c 3 e.d⟩,c+1),⟨by simp (disch:=omega) only [go_sem,seval]<;>omega,?_,?_⟩⟩
  all_goals simp only;omega
 ·refine cB.i ⟨(e,i2),⟨by simp (disch:=omega) only [go_sem,seval]<;>omega,?_,?_⟩⟩
  ·simp only;omega
  ·simp only;omega
structure El where
 s:C4
 m:Bool
 l:Bool
 c:Nat
def El.enc (x:El):List D:=[.int .u64 x.s.a,.int .u64 x.s.b,.int .u64 x.s.c,.int .u64 x.s.d,.bool x.m,.bool x.l,.int .u8 ↑x.c]
def El.dN (x:El):x.enc.length=7:=(rfl)
def vEl (x:El):V:= .agg (x.enc.map .d)
def vEl_cells (x:El):(vEl x).cells=some (x.enc.map .d):=(rfl)
def one_El (x:El):((x.enc.map V.d).all fun x=>x.one)=true:=(rfl)
def vEl_fold (x:El):V.agg (x.enc.map .d)=vEl x:=(rfl)
def Elx (x:El):(x.enc.map V.d).take 7=x.enc.map .d:=(rfl)
def rowsLen_El (l:List El):cr 7 (l.map El.enc)=true:=ZJ _ _ El.dN l
def one_ElD (x:El):x.enc.all D.one=true:=(rfl)
attribute [local go_sem] El.dN vEl_cells one_El vEl_fold Elx rowsLen_El one_ElD
def app_el (B:List ec) (K:List (Nat×Nat×Nat)) (l:List El) (x:El) (hx:l.length≤1048576):
  jt (some 7) true true 328 7 40 [x.enc] (lz K.length (l.map El.enc)) ⟨B,K++k9 328 7 (l.map El.enc)⟩=some (lz K.length ((l++[x]).map El.enc),⟨B,K++k9 328 7 ((l++[x]).map El.enc)⟩):=by
 rw [CZ _ _ _ _ _ _ _ (by omega) (by simp) (by simp;omega) (by simp;omega),aaQ];rfl
abbrev ElA (s:aF):Type:= { x:El×Nat // x.2≤s.length }
def elV {s:aF} (x:ElA s):V:= .cF [vEl x.1.1,ai ↑x.1.2]
def g_first (s:aF) (hs:s.length≤1048576) (h1:1≤s.length) (st:St):Ly prog G 206 [vs s] st (elV (s:=s)):=by
 have hcl:=fun st=>g_class (G:=G) s hs h1 st;have hm:=fun b=>g_most (G:=G) b;have hl:=fun n h=>g_literal (G:=G) n h;have hl0:=hl _ (UInt8.toNat_lt (s.getD 0 0));have hl1:=hl _ (UInt8.toNat_lt (s.getD 1 0));unfold Ly;refine aA.start func206 rfl ntmps206 (by simp) fun _ ag=>?_;simp (disch:=omega) only [go_sem,seval,cX ag,yT (hcl _),bC (hm _ _),bC (hl0 _),bC (hl1 _),clV,litD,wr];(repeat' first|apply cq.l|apply bg.i|refine cE.i fun hc=>?_|refine aQ.i ⟨?_,rfl⟩|refine fB.i fun j=>?_)<;>try subst ag
 all_goals (refine ⟨⟨(⟨⟨_,_,_,_⟩,_,_,_⟩,_),?_⟩,rfl⟩;first|exact j.2|(simp only;omega))
def g_parse (s:aF) (hs:s.length≤1048576) (st:St):Ly prog G 139 [vs s] st (fun x:List (List D)×Int=> .cF [.d (.sl x.1),ai x.2]):=by
 unfold Ly;refine aA.start func139 rfl ntmps139 (by simp) fun _ ag=>?_;simp (disch:=omega) only [go_sem,seval,cX ag];(repeat' first|apply cq.l|apply bg.i|refine cE.i fun hc=>?_|refine aQ.i ⟨?_,rfl⟩)<;>try subst ag
 all_goals first|exact ⟨([],3),rfl⟩|skip
 refine AW.zU (fun x:List El×Nat=>[(0,vs (s.drop x.2)),(4,lz st.toks.length (x.1.map El.enc))]) (fun _=>[]) (fun x=>k9 328 7 (x.1.map El.enc)) (fun x=>x.2≤s.length∧x.1.length≤x.2) (fun x=>s.length - x.2) ([],0) ⟨by simp [k9],by simp only [go_sem,seval,aaI,lz,aa5]⟩ (by simp) ?_;rintro ⟨l,i⟩ ⟨hi,hl⟩;simp only at hi hl;by_cases hil:i=s.length
 ·subst hil;rw [List.drop_length];refine Wk.go fun _ ag=>?_;simp (disch:=omega) only [go_sem,seval,cX ag];(repeat' first|apply cq.l|apply bg.i|refine cE.i fun hc=>?_|refine aQ.i ⟨?_,rfl⟩)<;>try subst ag
  all_goals first|exact ⟨(_,_),rfl⟩|contradiction
 have hf:=fun st=>g_first (G:=G) (s.drop i) (by rw [aar];omega) (by rw [aar];omega) st;have hne:s.drop i≠[]:=fun h=>by have:=congrArg List.length h;simp at this;omega
 have hll:l.length≤1048576:=by omega
 refine Wk.go fun _ ag=>?_;simp (disch:=omega) only [go_sem,seval,cX ag,yT (hf _),elV,hne,app_el,hll,wr];(repeat' first|apply cq.l|apply bg.i|refine cE.i fun hc=>?_|refine aQ.i ⟨?_,rfl⟩|refine fB.i fun j=>?_)<;>try subst ag
 all_goals first|exact ⟨(_,_),rfl⟩|contradiction|skip
 have hj:=j.2;have hdl:=aar (i:=i) (l:=s);have hdd:(s.drop i).drop j.1.2=s.drop (i+j.1.2):=List.drop_drop ..;refine cB.i ⟨(l++[j.1.1],i+j.1.2),⟨by simp (disch:=omega) only [go_sem,seval,hdd]<;>omega,?_,?_⟩⟩
 ·exact ⟨by simp only;omega,by simp only [aax,aav,aaA];omega⟩
 ·simp only;omega
def g_Valid (s:aF) (hs:s.length≤1048576) (st:St):Ly prog G 91 [vs s] st ai:=by
 have hp:=fun st=>g_parse (G:=G) s hs st;unfold Ly;refine aA.start func91 rfl ntmps91 (by simp) fun _ ag=>?_;simp only [go_sem,seval,cX ag,yT (hp _),wr];(repeat' first|apply cq.l|refine aQ.i ⟨?_,rfl⟩|refine fB.i fun j=>?_)<;>try subst ag
 all_goals exact ⟨_,rfl⟩
def cm_patterns (l:List aF) (h:gKs l) (st:St):Ly prog G 61 [vSs l] st ai:=by
 have hl:=h.1;unfold Ly;refine aA.start func61 rfl ntmps61 (by simp) fun _ ag=>?_;simp only [go_sem,seval,cX ag];all_goals (try subst ag)
 refine AW.zU (fun i:Nat=>[(6,vSs l),(7,ai ↑l.length),(8,ai ↑i)]) (fun _=>[]) (fun _=>[]) (fun i=>i≤l.length) (fun i=>l.length - i) 0 ⟨by simp,by simp only [go_sem,seval]⟩ (by simp) ?_;intro i hi;by_cases hil:i<l.length
 ·have hv:=fun st=>g_Valid (G:=G) (l.getD i default) (h.2 _ (aB hil)) st;refine Wk.go fun _ ag=>?_;simp (disch:=omega) only [go_sem,seval,cX ag,yT (hv _),wr];(repeat' first|apply cq.l|apply bg.i|refine cE.i fun hc=>?_|refine aQ.i ⟨?_,rfl⟩|refine fB.i fun j=>?_)<;>try subst ag
  all_goals first|exact ⟨_,rfl⟩|skip
  refine cB.i ⟨i+1,⟨by simp (disch:=omega) only [go_sem,seval]<;>omega,?_,?_⟩⟩
  all_goals omega
 ·refine Wk.go fun _ ag=>?_;simp (disch:=omega) only [go_sem,seval,cX ag];(repeat' first|apply cq.l|refine cE.i fun hc=>?_|refine aQ.i ⟨?_,rfl⟩)<;>try subst ag
  all_goals exact ⟨_,rfl⟩
end Go.Proofs.YtbcillkajdnljaaGreatDoor
end
section
namespace Go.Proofs.YtbcillkajdnljaaGreatDoor
open Tryz
open Go Go.Proofs Go.RowKit
set_option maxHeartbeats 1000000 in
set_option maxRecDepth 100000 in
def cd_used (b:Nat) (w:World) (h0:w.cell? ⟨b,1,none⟩=some (.pointer (some ⟨b,1,none⟩))):
  Calls prog 294 #[.pointer (some ⟨b,1,none⟩)] w fun e w'=>e= .returned (.tuple #[])∧w'=w:=by
 obtain ⟨j,hj,_⟩:=aaF.1 (show (Tryz.prog.info? 333).map (fun i=>i.size)=some 2 by kernel_rfl)
 have mixed:=Tryz.checked.mixed
 go_enter func294,ntmps294
 go_wp2
 rw [Lib.run_neq_ptr_same w _ underlying331 hj]
 go_wp2
 go_end0
 exact ⟨rfl,rfl⟩
set_option maxHeartbeats 1000000 in
set_option maxRecDepth 100000 in
def cd_fresh (b:Nat) (w:World) (h0:w.cell? ⟨b,1,none⟩=some (.pointer none)) (hsh:w.shape? b=some (335,3)) (hfz:w.frozen? ⟨b,1,none⟩=false):
  Calls prog 294 #[.pointer (some ⟨b,1,none⟩)] w fun e w'=>e= .returned (.tuple #[])∧w'=w.setCell ⟨b,1,none⟩ (.pointer (some ⟨b,1,none⟩)):=by
 obtain ⟨j,hj,hjs⟩:=aaF.1 (show (Tryz.prog.info? 333).map (fun i=>i.size)=some 2 by kernel_rfl)
 have lies:liesAt prog Tryz.prog.depth 335 (3 / Tryz.prog.cellsOf 335) 1 333 1=true:=by kernel_rfl
 have mixed:=Tryz.checked.mixed
 go_enter func294,ntmps294
 go_wp2
 rw [Lib.run_to_unsafe w ⟨b,1,none⟩ underlying331 underlying483 hj (by rw [hjs];decide) hsh (by show 1<3;decide)]
 simp only [Result.andThen]
 rw [Oper.upon_value]
 go_wp2
 rw [run_callFunc_extern func378 (by kernel_rfl) (by kernel_rfl) (by kernel_rfl) (e:=Extern.AbiNoEscape.same) (by kernel_rfl)]
 rw [Lib.run_noEscape]
 simp only [Result.andThen]
 rw [Oper.upon_value]
 go_wp2
 rw [Lib.run_from_unsafe w ⟨b,1,none⟩ underlying483 underlying331 hj hsh lies]
 simp only [Result.andThen]
 rw [Oper.upon_value]
 go_wp2
 go_end0
 exact ⟨rfl,rfl⟩
set_option maxHeartbeats 2000000 in
set_option maxRecDepth 100000 in
def sd_row (b g cap:Nat) (q p:Value) (T:TypeId) (cur:Array Value) (l:List UInt8) (w:World) (hbk:w.heap[b]?=some (.cells #[q,p,.slice (some ⟨g,0,none⟩) l.length cap] T (0,0))) (hg:w.heap[g]?=some (.cells cur 5 (0,0)))
  (hnc:l.length≤cap) (hcm:cap≤maxLen) (hcs:cur.size=cap) (h0:l≠[]) (hcells:∀ j x,l[j]?=some x→w.cell? ((⟨g,0,none⟩:Addr).add j)=some (.int .u8 x.toNat)):
  Calls prog 215 #[.pointer (some ⟨b,1,none⟩)] w fun e w'=>e= .returned (.string ⟨l.toArray⟩)∧w'=w.drew.freeze ⟨g,0,none⟩ l.length:=by
 have hl0:l.length≠0:=by simpa using h0
 have c1:w.drew.cell? ⟨b,2,none⟩=some (.slice (some ⟨g,0,none⟩) l.length cap):=by
  have:w.drew.heap[b]?=some (.cells #[q,p,.slice (some ⟨g,0,none⟩) l.length cap] T (0,0)):=hbk;rw [Lib.cell_of_heap this];rfl
 have hSD:(Builtin.unsafeSliceData_ #[136] 419 #[.slice (some ⟨g,0,none⟩) l.length cap]).run prog w.drew= .ok (.pointer (some ⟨g,0,none⟩)) w.drew:=
  Lib.run_unsafeSliceData_row _ _ _ _ _ _ (by omega)
 have hUS:(Builtin.unsafeString_ #[419,3] 9 #[.pointer (some ⟨g,0,none⟩),.int .i64 l.length]).run prog w.drew= .ok (.string ⟨l.toArray⟩) (w.drew.freeze ⟨g,0,none⟩ l.length):=by
  refine Lib.run_unsafeString_row w.drew 419 3 9 5 underlying419 (by kernel_rfl) g cur.size (by have hg':w.drew.heap[g]?=some (.cells cur 5 (0,0)):=hg;simp [World.shape?,hg']) l h0 (by omega) (by unfold maxLen at hcm;omega) ?_;intro j x hx;exact hcells j x hx
 have mixed:=Tryz.checked.mixed
 go_enter func215,ntmps215
 go_wp2
 go_region_o
 all_goals (go_wp2;go_ret;exact ⟨rfl,rfl⟩)
end Go.Proofs.YtbcillkajdnljaaGreatDoor
end
section
set_option maxHeartbeats 8000000
set_option maxRecDepth 20000
namespace Go.Proofs.YtbcillkajdnljaaGreatDoor
open Tryz
open Go.Abs
variable {G:World→Nat→Prop}
abbrev dT:Nat:=335
def div_at {c:Ctx} {w:World} {st:St} (hc:bf c w st) {b:Nat} {q p X:V} (hb:st.aj[b]?=some (.tc dT [q,p,X])):∃ k qv pv xv,c.mu[b]?=some k∧w.heap[k]?=some (.cells #[qv,pv,xv] dT (0,0))∧Rel c qv q∧Rel c pv p∧Rel c xv X:=by
 have hlt:b<c.mu.length:=by rw [hc.cN];exact (aao.1 hb).1
 have hk:c.mu[b]?=some c.mu[b]:=aaw hlt;obtain ⟨arr,elem,h1,h2,h3,h4⟩:=hc.rowAt hk hb rfl;have he:=h4 _ _ rfl;subst he;have h0:=h3 0 (by simp);have h1':=h3 1 (by simp);have h2':=h3 2 (by simp);refine ⟨_,arr.getD 0 undef,arr.getD 1 undef,arr.getD 2 undef,hk,?_,by simpa using h0,by simpa using h1',by simpa using h2'⟩;rw [h1];congr 2;apply Array.ext
 ·simpa using h2
 ·intro i hi hi2;simp only [aav,aaA] at h2
  match i with
  |0=>simp [aap,show 0<arr.size by omega]
  |1=>simp [aap,show 1<arr.size by omega]
  |2=>simp [aap,show 2<arr.size by omega]
  |i+3=>omega
def arg_ptr1 {c:Ctx} {b k:Nat} {cargs:Array Value} (hk:c.mu[b]?=some k) (hs:cargs.size=1) (h0:Rel c (cargs.getD 0 undef) (.ptr b 1)):cargs= #[.pointer (some ⟨k,1,none⟩)]:=by
 generalize hq:cargs.getD 0 undef=q at h0;cases h0 with|ptr _ k' _ hk'=>?_
 rw [hk] at hk';cases hk';apply Array.ext
 ·simpa using hs
 ·intro i hi hi2;have:i=0:=by simp at hi2;omega
  subst this;simpa [aap,hi] using hq
def cd_copyCheck_u (st:St) (b:Nat) (q X:V) (hb:st.aj[b]?=some (.tc dT [q,.ptr b 1,X])):aA prog G 294 [.ptr b 1] st (fun o s=>o= .ret (.cF [])∧s=st):=by
 intro c w cargs hc hG hs hr;obtain ⟨k,qv,pv,xv,hk,hh,hq,hp,hx⟩:=div_at hc hb;have ha:=arg_ptr1 hk (by simpa using hs) (hr 0 (by simp));subst ha;have hpv:pv= .pointer (some ⟨k,1,none⟩):=by
  cases hp with|ptr _ k' _ hk'=>?_
  rw [hk] at hk';cases hk';rfl
 subst hpv;refine (cd_used k w (by simp [World.cell?,hh])).mono ?_;rintro e w' ⟨rfl,rfl⟩;exact ⟨.ret (.cF []),st,c,⟨rfl,rfl⟩,Ext.refl c,hc,.cF _ _ rfl (by simp)⟩
def cd_copyCheck_f (st:St) (b:Nat) (q X:V) (hb:st.aj[b]?=some (.tc dT [q,.d .eX,X])):aA prog G 294 [.ptr b 1] st (fun o s=>o= .ret (.cF [])∧s=⟨st.aj.set b (.tc dT [q,.ptr b 1,X]),st.toks⟩):=by
 intro c w cargs hc hG hs hr;obtain ⟨k,qv,pv,xv,hk,hh,hq,hp,hx⟩:=div_at hc hb;have ha:=arg_ptr1 hk (by simpa using hs) (hr 0 (by simp));subst ha;have hpv:pv= .pointer none:=by
  cases hp with|d _ _ h=>?_
  cases h;rfl
 subst hpv;refine (cd_fresh k w (by simp [World.cell?,hh]) (by simp [World.shape?,hh]) (by simp [World.frozen?,hh])).mono ?_;rintro e w' ⟨rfl,rfl⟩;rw [mD hh];refine ⟨.ret (.cF []),_,c,⟨rfl,rfl⟩,Ext.refl c,?_,.cF _ _ rfl (by simp)⟩;refine hc.setRow hk hb hh (cs':=[q,.ptr b 1,X]) (by simp) (fun i hi=>?_) (.inr rfl)
 match i with
 |0=>simpa using hq
 |1=>exact .ptr _ _ _ hk
 |2=>simpa using hx
 |i+3=>simp at hi;omega
def cd_String (st:St) (b id:Nat) (q p:V) (s:aF) (hb:st.aj[b]?=some (.tc dT [q,p,.own id (aH s)])) (ht:st.toks[id]?=some (bE,1,s.length)) (h0:s≠[]):
  aA prog G 215 [.ptr b 1] st (fun o s'=>o= .ret (.d (.str s))∧s'=⟨st.aj,st.toks.set id (bE,1,maxLen+1)⟩):=by
 intro c w cargs hc hG hs hr
 obtain ⟨k,qv,pv,xv,hk,hh,hq,hp,hx⟩:=div_at hc hb
 obtain ⟨t,g,cap,cur,q1,q2,q3,q4,q5,q6,q7,q8,q9,q10,q11⟩:=Ff hc hx ht h0
 have ha:=arg_ptr1 hk (by simpa using hs) (hr 0 (by simp))
 subst ha q4
 refine (sd_row k g cap qv pv dT cur s w hh q5 q6 q7 q8 h0 q11).mono ?_
 rintro e w' ⟨rfl,rfl⟩
 obtain ⟨k1,k2⟩:=hc.kill q1 (by rw [q2];omega) (g:=g) (by rw [q3];rfl) s.length
 rw [q9,q10] at k1
 exact ⟨.ret (.d (.str s)),_,_,⟨rfl,rfl⟩,k2,k1,.d _ _ (.str _ _ (by simp))⟩
end Go.Proofs.YtbcillkajdnljaaGreatDoor
end
section
set_option maxHeartbeats 8000000
set_option maxRecDepth 20000
namespace Go.Proofs.YtbcillkajdnljaaGreatDoor
open Tryz
open Go.Abs
attribute [local irreducible] AW OX GQ bK bO bz aY aA
variable {G:World→Nat→Prop}
def qtF (s:aF) (i:Nat):Nat:=if i<s.length then (if (s.getD i 0).toNat=92 then qtF s (i+2) else if (s.getD i 0).toNat=34 then i+1 else qtF s (i+1)) else s.length
termination_by s.length - i
def qtF_le (s:aF):∀ (n i:Nat),s.length+2 - i≤n→qtF s i≤s.length:=by
 intro n;induction n with
 |zero=>intro i h;rw [qtF,if_neg (by omega)];exact aat _
 |succ n ih=>
  intro i h
  rw [qtF]
  split
  ·split
   ·exact ih _ (by omega)
   ·split
    ·omega
    ·exact ih _ (by omega)
  ·exact aat _
def qtF_ge (s:aF):∀ (n i:Nat),s.length+2 - i≤n→i≤s.length→i≤qtF s i:=by
 intro n;induction n with
 |zero=>intro i h;omega
 |succ n ih=>
  intro i h hi
  rw [qtF]
  split
  ·split
   ·by_cases h2:i+2≤s.length
    ·have:=ih (i+2) (by omega) h2;omega
    ·rw [qtF,if_neg (by omega)];omega
   ·split
    ·omega
    ·have:=ih (i+1) (by omega) (by omega);omega
  ·exact hi
def ip_quoted (s:aF) (hs:s.length≤1099511627776) (i:Nat) (hi:i≤s.length):b8 G 295 [vs s,ai ↑i] (ai ↑(qtF s (i+1))):=by
 intro st;refine aA.start func295 rfl ntmps295 (by simp) fun _ ag=>?_;simp (disch:=omega) only [go_sem,seval,cX ag];all_goals (try subst ag)
 refine AW.zU (fun j:Nat=>[(0,vs s),(5,ai ↑j)]) (fun _=>[]) (fun _=>[]) (fun j=>j≤s.length+2∧qtF s j=qtF s (i+1)) (fun j=>s.length+2 - j) (i+1) (by simp (disch:=omega) only [go_sem,seval]<;>omega) ⟨by omega,rfl⟩ ?_;intro j ⟨hj,g⟩;rw [qtF] at g;by_cases hjl:j<s.length
 ·rw [if_pos hjl] at g;refine Wk.go fun _ ag=>?_;simp (disch:=omega) only [go_sem,seval,cX ag];(repeat' first|apply cq.l|apply bg.i|refine cE.i fun hc=>?_|refine aQ.i ⟨?_,rfl⟩)<;>try subst ag
  ·refine cB.i ⟨j+2,⟨by simp (disch:=omega) only [go_sem,seval]<;>omega,?_,?_⟩⟩
   ·exact ⟨by omega,by grind⟩
   ·omega
  ·refine bA ?_;grind
  ·refine cB.i ⟨j+1,⟨by simp (disch:=omega) only [go_sem,seval]<;>omega,?_,?_⟩⟩
   ·exact ⟨by omega,by grind⟩
   ·omega
 ·rw [if_neg hjl] at g;refine Wk.go fun _ ag=>?_;simp (disch:=omega) only [go_sem,seval,cX ag];(repeat' first|apply cq.l|refine cE.i fun hc=>?_|refine aQ.i ⟨?_,rfl⟩)<;>try subst ag
  rw [g]
def qtF_gt {s:aF} {i:Nat} (h:i<s.length):i<qtF s (i+1):=by
 have:=qtF_ge s _ (i+1) (aat _) (by omega);omega
def clF (s:aF) (i d:Nat):Int:=
 if i<s.length then
  if (s.getD i 0).toNat=34 then (if i<qtF s (i+1) then clF s (qtF s (i+1)) d else -1)
  else if (s.getD i 0).toNat=123 then clF s (i+1) (d+1)
  else if (s.getD i 0).toNat=125 then (if d=0 then i else clF s (i+1) (d - 1)) else clF s (i+1) d
 else -1
termination_by s.length - i
def ip_closing (s:aF) (hs:s.length≤1099511627776) (i0:Nat) (hi:i0≤s.length):b8 G 209 [vs s,ai ↑i0] (ai (clF s i0 0)):=by
 intro st;refine aA.start func209 rfl ntmps209 (by simp) fun _ ag=>?_;simp (disch:=omega) only [go_sem,seval,cX ag];all_goals (try subst ag)
 refine AW.zU (fun x:Nat×Nat=>[(0,vs s),(1,ai ↑x.1),(5,ai ↑x.2)]) (fun _=>[]) (fun _=>[]) (fun x=>x.1≤s.length∧x.2≤x.1∧clF s x.1 x.2=clF s i0 0) (fun x=>s.length - x.1) (i0,0) (by simp (disch:=omega) only [go_sem,seval]<;>omega) ⟨hi,by simp,rfl⟩ ?_;rintro ⟨i,d⟩ ⟨g1,g2,g⟩;simp only at g1 g2 g;rw [clF] at g;by_cases hil:i<s.length
 ·rw [if_pos hil] at g;have hq:=ip_quoted (G:=G) s hs i g1;have hgt:=qtF_gt hil;have hle:=qtF_le s _ (i+1) (aat _);refine Wk.go fun _ ag=>?_;simp (disch:=omega) only [go_sem,seval,cX ag,bC (hq _)];(repeat' first|apply cq.l|apply bg.i|refine cE.i fun hc=>?_|refine aQ.i ⟨?_,rfl⟩)<;>try subst ag
  ·refine cB.i ⟨(qtF s (i+1),d),⟨by simp (disch:=omega) only [go_sem,seval]<;>omega,?_,?_⟩⟩
   ·exact ⟨hle,by simp only;omega,by grind⟩
   ·simp only;omega
  ·refine cB.i ⟨(i+1,d+1),⟨by simp (disch:=omega) only [go_sem,seval]<;>omega,?_,?_⟩⟩
   ·exact ⟨by simp only;omega,by simp only;omega,by grind⟩
   ·simp only;omega
  ·refine bA ?_;grind
  ·rename_i hd;have e:((d:Int) - 1)=((d - 1:Nat):Int):=by omega
   refine cB.i ⟨(i+1,d - 1),⟨by simp (disch:=omega) only [go_sem,seval,e]<;>omega,?_,?_⟩⟩
   ·exact ⟨by simp only;omega,by simp only;omega,by grind⟩
   ·simp only;omega
  ·refine cB.i ⟨(i+1,d),⟨by simp (disch:=omega) only [go_sem,seval]<;>omega,?_,?_⟩⟩
   ·exact ⟨by simp only;omega,by simp only;omega,by grind⟩
   ·simp only;omega
 ·rw [if_neg hil] at g;refine Wk.go fun _ ag=>?_;simp (disch:=omega) only [go_sem,seval,cX ag];(repeat' first|apply cq.l|refine cE.i fun hc=>?_|refine aQ.i ⟨?_,rfl⟩)<;>try subst ag
  rw [←g]
def cd_WB1 (st:St) (b id m:Nat) (ps:List (List D)) (s:aF) (ch:UInt8) (hb:st.aj[b]?=some (.tc dT [.own m ps,.ptr b 1,.own id (aH s)])) (hm:m<st.toks.length) (ht:st.toks[id]?=some (bE,1,s.length)) (hs:s.length≤4398046511104):
  aA prog G 208 [.ptr b 1,vc ch] st (fun o s'=>o= .ret (.d .fD)∧s'=⟨st.aj.set b (.tc dT [.own m ps,.ptr b 1,.own id (aH (s++[ch]))]),st.toks.set id (bE,1,s.length+1)⟩):=by
 have hcc:=cd_copyCheck_u (G:=G) st b _ _ hb
 have hap:=zf (st:=st) (e:=bE) (by_:=1) (id:=id) (s:=s) (x:=[ch]) ht (by simp) (by simp;omega) (by simp;omega)
 have hbl:b<st.aj.length:=(aao.1 hb).1
 have hil:id<st.toks.length:=(aao.1 ht).1
 refine aA.Co func208 rfl ntmps208 (by simp) fun _ ag=>?_
 simp (disch:=omega) only [go_sem,seval,cX ag,bC hcc,hb,oT,iB,gK,mV,hap,splice];(repeat' first|refine cq.l ?_|refine bg.i ?_ ?_|refine cE.i fun hc=>?_|refine aQ.i ⟨?_,rfl⟩|refine aZ.i ?_ ?_|refine cB.o ?_);all_goals (try subst ag)
 refine qc.i ?_
 unfold nM
 refine aV st.toks.length (aat _) (by simp only [St.cut,List.length_set,fy,aaO,aat];rfl) (aR ?_) (by simp (disch:=omega) only [go_sem,seval,bQ,results208];try exact rfl) rfl rfl ⟨rfl,?_⟩
 ·simp [ec.within,V.within,V.within.all,hbl,hil,hm]
 ·simp
def cd_WB0 (st:St) (b m:Nat) (ps:List (List D)) (ch:UInt8) (hb:st.aj[b]?=some (.tc dT [.own m ps,.d .eX,.bh])) (hm:m<st.toks.length):
  aA prog G 208 [.ptr b 1,vc ch] st (fun o s'=>o= .ret (.d .fD)∧s'=⟨st.aj.set b (.tc dT [.own m ps,.ptr b 1,.own st.toks.length (aH [ch])]),st.toks++[(bE,1,1)]⟩):=by
 have hcc:=cd_copyCheck_f (G:=G) st b _ _ hb
 have hap:=zg (st:=⟨st.aj.set b (.tc dT [.own m ps,.ptr b 1,.bh]),st.toks⟩) (e:=bE) (by_:=1) (x:=[ch]) (by simp) (by simp) (by simp)
 have hbl:b<st.aj.length:=(aao.1 hb).1
 have hsg:=iA (y:=ec.tc dT [.own m ps,.ptr b 1,.bh]) hb
 refine aA.Co func208 rfl ntmps208 (by simp) fun _ ag=>?_
 simp (disch:=omega) only [go_sem,seval,cX ag,Ck hcc,hsg,oT,iB,gK,oK,hap,splice,List.set_set];(repeat' first|refine cq.l ?_|refine bg.i ?_ ?_|refine cE.i fun hc=>?_|refine aQ.i ⟨?_,rfl⟩|refine aZ.i ?_ ?_|refine cB.o ?_);all_goals (try subst ag)
 refine qc.i ?_
 unfold nM
 refine aV (st.toks.length+1) (by omega) (by simp only [St.cut,List.length_set,fy];rw [aaO (by simp)]) (aR ?_) (by simp (disch:=omega) only [go_sem,seval,bQ,results208];try exact rfl) rfl rfl ⟨rfl,?_⟩
 ·simp [ec.within,V.within,V.within.all,hbl];omega
 ·simp
def cd_Len1 (st:St) (b id:Nat) (q p:V) (s:aF) (hb:st.aj[b]?=some (.tc dT [q,p,.own id (aH s)])):aA prog G 214 [.ptr b 1] st (fun o s'=>o= .ret (ai ↑s.length)∧s'=st):=by
 refine aA.start func214 rfl ntmps214 (by simp) fun _ ag=>?_;simp (disch:=omega) only [go_sem,seval,cX ag,hb,jB];(repeat' first|apply cq.l|refine aQ.i ⟨?_,rfl⟩)<;>try subst ag
 all_goals rfl
def cd_Len0 (st:St) (b:Nat) (q p:V) (hb:st.aj[b]?=some (.tc dT [q,p,.bh])):aA prog G 214 [.ptr b 1] st (fun o s'=>o= .ret (ai 0)∧s'=st):=by
 refine aA.start func214 rfl ntmps214 (by simp) fun _ ag=>?_;simp (disch:=omega) only [go_sem,seval,cX ag,hb];(repeat' first|apply cq.l|refine aQ.i ⟨?_,rfl⟩)<;>try subst ag
 all_goals rfl
def cd_Reset (B R:List ec) (K:List (Nat×Nat×Nat)) (m:Nat) (ps:List (List D)) (p X:V) (hm:m<K.length):aA prog G 298 [.ptr B.length 1] ⟨B++ .tc dT [.own m ps,p,X]::R,K⟩
  (fun o s'=>(o,s')=(.ret (.cF []),⟨B++ .tc dT [.own m ps,.d .eX,.bh]::R,K⟩)):=by
 refine aA.iG func298 rfl ntmps298 (by simp) fun _ ag=>?_
 simp (disch:=omega) only [go_sem,seval,cX ag,wr,hm,decide_true];(repeat' first|apply cq.l|refine dU.i ?_)<;>try subst ag
 rfl
abbrev Pc:Type:=aF×Bool×Ex
def pcD (p:Pc):List D:= .str p.1:: .bool p.2.1::p.2.2.enc
abbrev pT:Nat:=342
def pcD_len (p:Pc):(pcD p).length=12:=by simp [pcD,Ex.aP,aX.aP]
def pc_one (p:Pc):(pcD p).all D.one=true:=by simp [pcD,Ex.aP,aX.aP,D.one]
def rowsLen_pc (l:List Pc):cr 12 (l.map pcD)=true:=ZJ _ _ pcD_len l
def pcD_fold (a:aF) (b:Bool) (e:Ex):D.str a::D.bool b::e.enc=pcD (a,b,e):=(rfl)
def pcD_fold0 (a:aF):[D.str a,D.bool false,D.int .i64 0,D.str [],D.int .i64 0,D.bool false,D.int .i64 0,D.str [],D.sl [],D.sl [],D.sl [],D.sl []]=pcD (a,false,xQ):=(rfl)
def app_pc (st:St) (m:Nat) (l:List Pc) (x:Pc) (ht:st.toks[m]?=some (pT,12,l.length)) (hl:l.length≤1048576):
  jt (some 12) true true pT 12 184 [pcD x] (.own m (l.map pcD)) st=some (.own m ((l++[x]).map pcD),⟨st.aj,st.toks.set m (pT,12,l.length+1)⟩):=by
 have hm:maxLen=9223372036854775807:=by decide
 simp only [jt,rS,aaC,aav,aaA]
 rw [if_pos ⟨trivial,by omega,trivial⟩,if_pos ⟨ht,trivial,by omega,by omega⟩]
 simp
def cd_flush0 (B R:List ec) (K:List (Nat×Nat×Nat)) (m:Nat) (ps:List (List D)) (hm:m<K.length):aA prog G 211 [.ptr B.length 0] ⟨B++ .tc dT [.own m ps,.d .eX,.bh]::R,K⟩
  (fun o s'=>o= .ret (.cF [])∧s'=⟨B++ .tc dT [.own m ps,.d .eX,.bh]::R,K⟩):=by
 have h1:=cd_Len0 (G:=G) ⟨B++ .tc dT [.own m ps,.d .eX,.bh]::R,K⟩ B.length (.own m ps) (.d .eX) (by simp)
 have h2:=cd_Reset (G:=G) B R K m ps (.d .eX) .bh hm
 refine aA.start func211 rfl ntmps211 (by simp) fun _ ag=>?_
 simp (disch:=omega) only [go_sem,seval,cX ag,bC h1,PZ h2];(repeat' first|apply cq.l|refine aQ.i ⟨?_,rfl⟩)<;>try subst ag
 all_goals rfl
def cd_flush1 (B R:List ec) (K:List (Nat×Nat×Nat)) (l:List Pc) (hl:l.length≤1048576) (s:aF) (hs:s.length≤1048576) (h0:s≠[]):
  aA prog G 211 [.ptr B.length 0] ⟨B++ .tc dT [.own K.length (l.map pcD),.ptr B.length 1,.own (K.length+1) (aH s)]::R,K++[(pT,12,l.length),(bE,1,s.length)]⟩
  (fun o s'=>o= .ret (.cF [])∧s'=⟨B++ .tc dT [.own K.length ((l++[(s,false,xQ)]).map pcD),.d .eX,.bh]::R,K++[(pT,12,l.length+1),(bE,1,maxLen+1)]⟩):=by
 have hp:=abP.2 h0
 have h1:=cd_Len1 (G:=G) ⟨B++ .tc dT [.own K.length (l.map pcD),.ptr B.length 1,.own (K.length+1) (aH s)]::R,K++[(pT,12,l.length),(bE,1,s.length)]⟩ B.length (K.length+1) (.own K.length (l.map pcD)) (.ptr B.length 1) s (by simp)
 have h2:=cd_String (G:=G) ⟨B++ .tc dT [.own K.length (l.map pcD),.ptr B.length 1,.own (K.length+1) (aH s)]::R,K++[(pT,12,l.length),(bE,1,s.length)]⟩ B.length (K.length+1) (.own K.length (l.map pcD)) (.ptr B.length 1) s (by simp) (by simp) h0
 have h3:=cd_Reset (G:=G) B R (K++[(pT,12,l.length+1),(bE,1,maxLen+1)]) K.length ((l++[(s,false,xQ)]).map pcD) (.ptr B.length 1) (.own (K.length+1) (aH s)) (by simp)
 have e:(K++[(pT,12,l.length),(bE,1,s.length)]).set (K.length+1) (bE,1,maxLen+1)=K++[(pT,12,l.length),(bE,1,maxLen+1)]:=by simp
 rw [e] at h2
 have ha:=fun bl=>app_pc ⟨bl,K++[(pT,12,l.length),(bE,1,maxLen+1)]⟩ K.length l (s,false,xQ) (by simp) hl
 have e2:(K++[(pT,12,l.length),(bE,1,maxLen+1)]).set K.length (pT,12,l.length+1)=K++[(pT,12,l.length+1),(bE,1,maxLen+1)]:=by simp
 simp only [e2] at ha
 have hz:dy prog 342=some 12:=by kernel_rfl
 simp only at h2
 refine aA.Co func211 rfl ntmps211 (by simp) fun _ ag=>?_
 simp (disch:=omega) only [go_sem,seval,cX ag,bC h1];(repeat' first|apply cq.l|refine cE.i fun hc=>?_)<;>try subst ag
 refine AW.uh (P:=prog) mx 8 [(4,9)] (by kernel_rfl) (by kernel_rfl) (by simp (disch:=omega) only [go_sem,seval];try exact rfl) (by kernel_rfl) call215 rfl rfl (by simp (disch:=omega) only [go_sem,seval];try exact rfl) h2 (by simp (disch:=omega) only [go_sem,seval,mV,hz,ha,rowsLen_pc,pc_one,pcD_len,pcD_fold0];try exact rfl) (fF (by decide) (by decide) rfl rfl (by simp (disch:=omega) only [go_sem,seval]) iz) ?_
 simp only [aaQ,aaB,aaI] at h3
 refine kQ fun _ ag=>?_
 simp (disch:=omega) only [go_sem,seval,cX ag,PZ h3];(repeat' apply cq.l)<;>try subst ag
 refine Tv (Tt (B:=B) (L:=R) (T:=K++[(pT,12,l.length+1),(bE,1,maxLen+1)]) (.tc dT [.own K.length (l.map pcD++[pcD (s,false,xQ)]),.d .eX,.bh]) rfl ⟨⟨?_,?_,?_,?_⟩,rfl,rfl,rfl⟩ ⟨rfl,by simp⟩)
 ·exact aaO (by simp)
 ·exact aaO (by simp)
 all_goals simp [ec.within,V.within,V.within.all]
def dvB (b n:Nat) (l:List Pc) (s:aF):ec:= .tc dT (if s=[] then [.own n (l.map pcD),.d .eX,.bh] else [.own n (l.map pcD),.ptr b 1,.own (n+1) (aH s)])
def dvT (l:List Pc) (s:aF):List (Nat×Nat×Nat):=(pT,12,l.length)::(if s=[] then [] else [(bE,1,s.length)])
def cd_WB (B R:List ec) (K:List (Nat×Nat×Nat)) (l:List Pc) (s:aF) (hs:s.length≤1048576) (ch:UInt8):aA prog G 208 [.ptr B.length 1,vc ch] ⟨B++dvB B.length K.length l s::R,K++dvT l s⟩
  (fun o s'=>o= .ret (.d .fD)∧s'=⟨B++dvB B.length K.length l (s++[ch])::R,K++dvT l (s++[ch])⟩):=by
 by_cases h0:s=[]
 ·subst h0
  refine (cd_WB0 (G:=G) ⟨B++dvB B.length K.length l []::R,K++dvT l []⟩ B.length K.length (l.map pcD) ch (by simp [dvB]) (by simp [dvT])).mono ?_
  rintro o s' ⟨rfl,rfl⟩
  exact ⟨rfl,by simp [dvB,dvT]⟩
 ·refine (cd_WB1 (G:=G) ⟨B++dvB B.length K.length l s::R,K++dvT l s⟩ B.length (K.length+1) K.length (l.map pcD) s ch (by simp [dvB,h0]) (by simp [dvT,h0]) (by simp [dvT,h0]) (by omega)).mono ?_
  rintro o s' ⟨rfl,rfl⟩
  exact ⟨rfl,by simp [dvB,dvT,h0]⟩
def flF (l:List Pc) (s:aF):List Pc:=if s=[] then l else l++[(s,false,xQ)]
def flT (s:aF):List (Nat×Nat×Nat):=if s=[] then [] else [(bE,1,maxLen+1)]
def cd_flush (B R:List ec) (K:List (Nat×Nat×Nat)) (l:List Pc) (hl:l.length≤1048576) (s:aF) (hs:s.length≤1048576):aA prog G 211 [.ptr B.length 0] ⟨B++dvB B.length K.length l s::R,K++dvT l s⟩
  (fun o s'=>o= .ret (.cF [])∧s'=⟨B++ .tc dT [.own K.length ((flF l s).map pcD),.d .eX,.bh]::R,K++(pT,12,(flF l s).length)::flT s⟩):=by
 by_cases h0:s=[]
 ·subst h0
  refine (cd_flush0 (G:=G) B R (K++[(pT,12,l.length)]) K.length (l.map pcD) (by simp)).mono ?_
  rintro o s' ⟨rfl,rfl⟩
  exact ⟨rfl,by simp [flF,flT]⟩
 ·have h:=cd_flush1 (G:=G) B R K l hl s hs h0
  simp only [dvB,dvT,flF,flT,if_neg h0,aax,aav,aaA] at h ⊢
  exact h
end Go.Proofs.YtbcillkajdnljaaGreatDoor
end
section
set_option maxHeartbeats 8000000
set_option maxRecDepth 20000
namespace Go.Abs
section
variable {P:Program} {G:World→Nat→Prop} {n:NDs} {aC:St} {Q:AX→Fr→St→Prop} {fr:Fr} {st:St}
structure NxS {τ:Type} (B L:List ec) (K:List (Nat×Nat×Nat)) (σ:τ→List (Nat×V)) (z:τ→ec) (M:τ→List ec) (T:τ→List (Nat×Nat×Nat)) (p:τ→Prop) (μ:τ→Nat) (x:τ) (fr:Fr) (st:St) (x':τ) (N:List ec):Prop where
 ok:okF fr (σ x')∧st.aj.take (B.length+(L.length+N.length+1))=B++z x'::(L++N)∧st.toks.take (T x').length=T x'∧K.length≤(T x').length∧okW (B.length+(L.length+N.length+1)) (T x').length (σ x')=true∧
  (z x').within (B.length+(L.length+N.length+1)) (T x').length=true∧N.all (fun B'=>B'.within (B.length+(L.length+N.length+1)) (T x').length)=true
 sh:N.map xU=M x'
 p:p x'
 less:μ x'<μ x
def AW.lpS {τ:Type} {B L:List ec} {z0:ec} {K:List (Nat×Nat×Nat)} (h0:aC=⟨B++z0::L,K⟩) (σ:τ→List (Nat×V)) (z:τ→ec) (M:τ→List ec) (T:τ→List (Nat×Nat×Nat)) (p:τ→Prop) (μ:τ→Nat) (x0:τ) (N0:List ec) {body:Code}
  (h:st=⟨B++z x0::(L++N0),T x0⟩∧okF fr (σ x0)) (hs:N0.map xU=M x0) (hp:p x0)
  (round:∀ x,p x→AW P G n aC body (bz (fun fr' st'=>∃ x' N,NxS B L K σ z M T p μ x fr' st' x' N) Q) (jO (σ x)) ⟨B++z x::(L++M x),T x⟩):AW P G n aC (.loop body) Q fr st:=by
 have e1:∀ (b:ec) (N:List ec),B++b::(L++N)=(B++b::L)++N:=fun b N=>by simp
 refine AW.Bz σ (fun x=>⟨B++z x::(L++M x),T x⟩) p μ x0 (M0:=B++z x0::(L++N0)) h.1 ?_ h.2 hp fun x hx=>?_
 ·simp only [e1];exact (yK.refl _).app hs
 refine (round x hx).mono fun e fr' st' hq=>?_
 cases e<;>simp only [bz] at hq ⊢
 ·obtain ⟨x',N,h⟩:=hq
  obtain ⟨a1,a2,a3,a4,a5,a6,a7⟩:=h.ok
  have el:(M x').length=N.length:=by rw [←h.sh,aaC]
  have e:(B++z x'::(L++M x')).length=B.length+(L.length+N.length+1):=by simp [el]
  refine ⟨x',a1,h.p,h.less,⟨B++z x'::(L++N),?_,?_,fun i X hX=>?_⟩,?_,?_,?_⟩
  ·simp only [St.cut,e,a2,a3]
  ·simp only [e1];exact (yK.refl _).app h.sh
  ·subst h0
   simp only [e]
   exact PT (z0:=z0) a6 a7 i X hX
  ·subst h0;simp
  ·subst h0;exact a4
  ·simp only [e];exact a5
 all_goals exact hq
end
end Go.Abs
namespace Go.Proofs.YtbcillkajdnljaaGreatDoor
open Tryz
open Go.Abs
attribute [local irreducible] AW OX GQ bK bO bz aY aA
variable {G:World→Nat→Prop}
structure LG (G:World→Nat→Prop) (T:List Tk):Prop where
 gv:GV G
 ok:dh T
abbrev rL (B L:List ec) (K:List (Nat×Nat×Nat)) (T:List Tk) (i:Nat):St:=⟨B++bI T i::L,K⟩
instance l_fail (B L:List ec) (K:List (Nat×Nat×Nat)) (T:List Tk) (i:Nat) (c:Int):zX prog G 526 [.ptr B.length 0,ai c] (rL B L K T i) True (.dw (panV i c),rL B L K T i):=⟨fun _=>by
 refine aA.start func526 rfl ntmps526 (by simp) fun _ ag=>?_;simp (disch:=omega) only [go_sem,seval,cX ag,wr];(repeat' first|apply cq.l|refine dU.i ?_)<;>try subst ag
 rfl⟩
instance l_peek (B L:List ec) (K:List (Nat×Nat×Nat)) (T:List Tk) (i:Nat):zX prog G 523 [.ptr B.length 0] (rL B L K T i) (LG G T∧i≤1048576) (.ret (vT (ez T i)),rL B L K T i):=⟨fun ⟨h,hi⟩=>by
 have h6:=h.ok.1;rw [ez];by_cases hl:i<T.length
 ·have hr:b8 G 551 [vT (T.getD i default)] (vb (fT (T.getD i default))):=Pj h.gv _ _ _ (h.ok.2 _ (aB hl));rw [if_pos hl];refine aA.start func523 rfl ntmps523 (by simp) fun _ ag=>?_;simp (disch:=first|omega|exact ⟨by kernel_rfl⟩|(simp only [go_sem,aan];try omega)) only [go_sem,seval,cX ag,wd,wr,bC (hr _)];(repeat' first|apply cq.l|apply bg.i|refine cE.i fun hc=>?_|refine aQ.i ?_)<;>try subst ag
  ·rw [if_pos (by assumption)]
  ·rw [if_neg (by simp_all)];rfl
 ·rw [if_neg hl];refine aA.start func523 rfl ntmps523 (by simp) fun _ ag=>?_;simp (disch:=first|omega|exact ⟨by kernel_rfl⟩|(simp only [go_sem,aan];try omega)) only [go_sem,seval,cX ag,wd,wr];(repeat' first|apply cq.l|refine cE.i fun hc=>?_|refine aQ.i ?_)<;>try subst ag
  rfl⟩
instance l_is (B L:List ec) (K:List (Nat×Nat×Nat)) (T:List Tk) (i:Nat) (s:aF):zX prog G 524 [.ptr B.length 0,vs s] (rL B L K T i) (LG G T∧i≤1048576) (.ret (vb (bU T i s)),rL B L K T i):=⟨fun h=>by
 rw [←cW,J5];refine aA.start func524 rfl ntmps524 (by simp) fun _ ag=>?_;simp (disch:=first|omega|exact ⟨by kernel_rfl⟩|(simp only [go_sem,aan];try omega)) only [go_sem,seval,cX ag,wd,wr];(repeat' first|apply cq.l|apply bg.i|refine cE.i fun hc=>?_|refine aQ.i ?_)<;>try subst ag
 all_goals first|exact h|skip
 all_goals (refine congrArg (fun b=>(Out.ret (vb b),_)) ?_;grind)⟩
instance l_accept (B L:List ec) (K:List (Nat×Nat×Nat)) (T:List Tk) (i:Nat) (s:aF):zX prog G 488 [.ptr B.length 0,vs s] (rL B L K T i) (LG G T∧i≤1048576)
  (if bU T i s=true then (.ret (vb true),rL B L K T (i+1)) else (.ret (vb false),rL B L K T i)):=⟨fun h=>by
 have hi:=h.2
 refine aA.iG func488 rfl ntmps488 (by simp) fun _ ag=>?_
 simp (disch:=first|omega|exact ⟨by kernel_rfl⟩|(simp only [go_sem,aan];try omega)) only [go_sem,seval,cX ag,wd,wr];(repeat' first|apply cq.l|apply bg.i|refine cE.i fun hc=>?_|refine dU.i ?_)<;>try subst ag
 all_goals first|exact h|skip
 ·rw [if_neg (by simp_all)]
 ·rw [if_pos (by assumption)]⟩
instance l_need (B L:List ec) (K:List (Nat×Nat×Nat)) (T:List Tk) (i:Nat):zX prog G 525 [.ptr B.length 0] (rL B L K T i) (LG G T∧i≤1048576)
  (if i<T.length then (if (ez T i).kind=0 then (.dw (panV i 5),rL B L K T i) else (.ret (vT (ez T i)),rL B L K T i)) else (.dw (panV i 4),rL B L K T i)):=⟨fun h=>by
 have hi:=h.2
 have h6:=h.1.ok.1
 refine aA.start func525 rfl ntmps525 (by simp) fun _ ag=>?_
 simp (disch:=first|omega|exact ⟨by kernel_rfl⟩|(simp only [go_sem,aan];try omega)) only [go_sem,seval,cX ag,wd,wr];(repeat' first|apply cq.l|apply bg.i|refine cE.i fun hc=>?_|refine dU.i ?_|refine aQ.i ?_)<;>try subst ag
 all_goals first|exact h|trivial|skip
 all_goals grind⟩
instance l_expect (B L:List ec) (K:List (Nat×Nat×Nat)) (T:List Tk) (i:Nat) (s:aF):zX prog G 489 [.ptr B.length 0,vs s] (rL B L K T i) (LG G T∧i≤1048576)
  (if bU T i s=true then (.ret (.cF []),rL B L K T (i+1)) else (.dw (panV i (bD T i)),rL B L K T i)):=⟨fun h=>by
 have hi:=h.2
 have h6:=h.1.ok.1
 have hl:=@bW T i s
 have hk:bU T i s=true→(ez T i).kind=4:=fun h=>by rw [←cW,J5] at h;simp at h;exact h.1
 refine aA.iG func489 rfl ntmps489 (by simp) fun _ ag=>?_
 simp (disch:=first|omega|exact ⟨by kernel_rfl⟩|(simp only [go_sem,aan];try omega)) only [go_sem,seval,cX ag,wd,wr];(repeat' first|apply cq.l|apply bg.i|refine cE.i fun hc=>?_|refine dU.i ?_)<;>try subst ag
 all_goals first|exact h|trivial|skip
 all_goals (simp only [bD];grind)⟩
def wA (T:List Tk) (i:Nat):Nat:=Wt (T.take i)
def wA_s {T:List Tk} {i:Nat} (h:i<T.length):wA T (i+1)=wA T i+200+8*(T.getD i default).text.length:=by
 rw [wA,wA,show T.take (i+1)=T.take i++[T.getD i default] by rw [List.take_add_one,aaw h,aam,aaw h];rfl,xq,Wt,Wt];omega
theorem wA_m {T:List Tk} {i:Nat}:∀ {j:Nat},i≤j→j≤T.length→wA T i≤wA T j
 |0,h,_=>by
  obtain rfl:i=0:=by omega
  exact aat _
 |j+1,h,h2=>by
  by_cases e:i=j+1
  ·subst e;exact aat _
  ·have:=wA_m (T:=T) (i:=i) (j:=j) (by omega) (by omega);have:=wA_s (T:=T) (i:=j) (by omega);omega
structure GdE (T:List Tk) (i:Nat) (e:Ex) (j:Nat):Prop where
 lt:i<j
 le:j≤T.length
 g:gE e
 w:bq e+wA T i≤wA T j
inductive Rr (α:Type) where
 |ok (a:α) (j:Nat)
 |er (c:Int) (k j:Nat)
def rdR {α:Type} (v:α→V) (B L:List ec) (K:List (Nat×Nat×Nat)) (T:List Tk):Rr α→Out×St
 | .ok a j=>(.ret (v a),rL B L K T j)
 | .er c k j=>(.dw (panV k c),rL B L K T j)
def rdR_ok {α:Type} (v:α→V) (B L:List ec) (K:List (Nat×Nat×Nat)) (T:List Tk) (a:α) (j:Nat):rdR v B L K T (.ok a j)=(.ret (v a),rL B L K T j):=(rfl)
def rdR_er {α:Type} (v:α→V) (B L:List ec) (K:List (Nat×Nat×Nat)) (T:List Tk) (c:Int) (k j:Nat):rdR v B L K T (.er c k j)=(.dw (panV k c),rL B L K T j):=(rfl)
attribute [go_sem] rdR_ok rdR_er
def okR {α:Type} (T:List Tk) (p:α→Nat→Prop):Rr α→Prop
 | .ok a j=>p a j
 | .er _ _ j=>j≤T.length
def RdL (G:World→Nat→Prop) (T:List Tk) (f:FuncId) (args:List V) (i:Nat) {α:Type} (v:α→V) (p:α→Nat→Prop):Prop:=
 ∃ r:Rr α,okR T p r∧∀ B L K,aA prog G f (.ptr B.length 0::args) (rL B L K T i) (fun o s=>(o,s)=rdR v B L K T r)
end Go.Proofs.YtbcillkajdnljaaGreatDoor
end
section
set_option maxHeartbeats 8000000
set_option maxRecDepth 20000
namespace Go.Proofs.YtbcillkajdnljaaGreatDoor
open Tryz
open Go.Abs
attribute [local irreducible] AW OX GQ bK bO bz aY aA
variable {G:World→Nat→Prop}
structure GdA (T:List Tk) (i:Nat) (l:List Ex) (j:Nat):Prop where
 lt:i<j
 le:j≤T.length
 g:∀ x∈l,gE x
 len:l.length≤j
 w:bq.ic l+wA T i≤wA T j
def vLx (l:List Ex):V:= .d (.sl (l.map Ex.enc))
structure LtIH (G:World→Nat→Prop) (T:List Tk) (n:Nat):Prop where
 cond:∀ i,i≤T.length→20*(T.length - i)+12<n→RdL G T 442 [] i vE (GdE T i)
 op:∀ k i:Nat,2≤k→k≤7→i≤T.length→20*(T.length - i)+11<n+k→RdL G T 487 [ai ↑k] i vE (GdE T i)
 un:∀ i,i≤T.length→20*(T.length - i)+3<n→RdL G T 522 [] i vE (GdE T i)
 chain:∀ i,i≤T.length→20*(T.length - i)+2<n→RdL G T 550 [] i vE (GdE T i)
 atom:∀ i,i≤T.length→20*(T.length - i)+1<n→RdL G T 561 [] i vE (GdE T i)
 args:∀ s i,i≤T.length→20*(T.length - i)+13<n→RdL G T 572 [vs s] i vLx (GdA T i)
 kW:∀ i,i≤T.length→20*(T.length - i)+13<n→RdL G T 573 [] i vE (GdE T i)
variable {T:List Tk}
def l_cond (h:LG G T) (i:Nat) (hi:i≤T.length) (ih:LtIH G T (20*(T.length - i)+12)):RdL G T 442 [] i vE (GdE T i):=by
 have h6:=h.ok.1;obtain ⟨r1,g1,h1⟩:=ih.op 2 i (by omega) (by omega) hi (by omega);simp only [Int.cast_ofNat_Int] at h1;cases r1 with
 |er c k j=>exact ⟨.er c k j,g1,fun B L K=>by
  refine aA.iG func442 rfl ntmps442 (by simp) fun _ ag=>?_;simp (disch:=omega) only [go_sem,seval,cX ag,wr,PZ (h1 _ _ _)];(repeat' first|apply cq.l|refine dU.i ?_)<;>try subst ag
  all_goals first|exact ⟨h,by omega⟩|rfl⟩
 |ok e j=>
 obtain ⟨a1,a2,a3,a4⟩:=g1;by_cases o1:bU T j [63]=true
 rotate_left
 ·exact ⟨.ok e j,⟨a1,a2,a3,a4⟩,fun B L K=>by
  refine aA.iG func442 rfl ntmps442 (by simp) fun _ ag=>?_;simp (disch:=omega) only [go_sem,seval,cX ag,wr,PZ (h1 _ _ _),o1];(repeat' first|apply cq.l|apply aZ.i|refine dU.i ?_)<;>try subst ag
  all_goals first|exact ⟨h,by omega⟩|rfl⟩
 have hj:=bW o1;have w1:=wA_s hj;obtain ⟨r2,g2,h2⟩:=ih.cond (j+1) (by omega) (by omega);cases r2 with
 |er c k q=>exact ⟨.er c k q,g2,fun B L K=>by
  refine aA.iG func442 rfl ntmps442 (by simp) fun _ ag=>?_;simp (disch:=omega) only [go_sem,seval,cX ag,wr,PZ (h1 _ _ _),PZ (h2 _ _ _),o1];(repeat' first|apply cq.l|apply aZ.i|refine dU.i ?_)<;>try subst ag
  all_goals first|exact ⟨h,by omega⟩|rfl⟩
 |ok x q=>
 obtain ⟨b1,b2,b3,b4⟩:=g2;by_cases o2:bU T q [58]=true
 rotate_left
 ·exact ⟨.er (bD T q) q q,b2,fun B L K=>by
  refine aA.iG func442 rfl ntmps442 (by simp) fun _ ag=>?_;simp (disch:=omega) only [go_sem,seval,cX ag,wr,PZ (h1 _ _ _),PZ (h2 _ _ _),o1,o2];(repeat' first|apply cq.l|apply aZ.i|refine dU.i ?_)<;>try subst ag
  all_goals first|exact ⟨h,by omega⟩|rfl⟩
 have hq:=bW o2;have w2:=wA_s hq;obtain ⟨r3,g3,h3⟩:=ih.cond (q+1) (by omega) (by omega);cases r3 with
 |er c k p=>exact ⟨.er c k p,g3,fun B L K=>by
  refine aA.iG func442 rfl ntmps442 (by simp) fun _ ag=>?_;simp (disch:=omega) only [go_sem,seval,cX ag,wr,PZ (h1 _ _ _),PZ (h2 _ _ _),PZ (h3 _ _ _),o1,o2];(repeat' first|apply cq.l|apply aZ.i|refine dU.i ?_)<;>try subst ag
  all_goals first|exact ⟨h,by omega⟩|rfl⟩
 |ok y p=>
 obtain ⟨c1,c2,c3,c4⟩:=g3;refine ⟨.ok (.mk 8 [] ct [e,x,y] []) p,⟨by omega,c2,jV (by simp) qY qZ (by simp) (by simp) (by simp) (by simp;exact ⟨a3,b3,c3⟩),?_⟩,fun B L K=>by
  refine aA.iG func442 rfl ntmps442 (by simp) fun _ ag=>?_;simp (disch:=omega) only [go_sem,seval,cX ag,wr,PZ (h1 _ _ _),PZ (h2 _ _ _),PZ (h3 _ _ _),o1,o2];(repeat' first|apply cq.l|apply aZ.i|refine dU.i ?_)<;>try subst ag
  all_goals first|exact ⟨h,by omega⟩|rfl⟩
 simp only [dM,iT,cj.dm,bq.ic,aaA];omega
abbrev zE0:List V:=[.d (.int .i64 0),.d (.str []),.d (.int .i64 0),.d (.bool false),.d (.int .i64 0),.d (.str []),.bh,.bh,.bh,.bh]
abbrev zE1:List V:=[.d (.int .i64 0),.d (.str []),.d (.int .i64 0),.d (.bool false),.d (.int .i64 0),.d (.str []),.d (.sl []),.d (.sl []),.d (.sl []),.d (.sl [])]
def gd_un (s:aF) (hs:s.length≤1048576) {i j:Nat} {e:Ex} (hi:i<T.length) (he:(T.getD i default).text=s) (g:GdE T (i+1) e j):GdE T i (.mk 6 s ct [e] []) j:=by
 have w1:=wA_s hi;obtain ⟨a1,a2,a3,a4⟩:=g;refine ⟨by omega,a2,jV hs qY qZ (by simp) (by simp) (by simp) (by simp;exact a3),?_⟩;simp only [dM,iT,cj.dm,bq.ic];rw [he] at w1;omega
def opAt_tx {i:Nat} {s:aF} (h:bU T i s=true):(T.getD i default).text=s:=by
 simp only [bU,cg,aas,aau] at h;exact h.2.2
def wrU (s:aF):Rr Ex→Rr Ex
 | .ok e j=> .ok (.mk 6 s ct [e] []) j
 | .er c k j=> .er c k j
theorem wrU_ok (s:aF) (hs:s.length≤1048576) {i:Nat} (hi:i<T.length) (he:(T.getD i default).text=s):∀ r:Rr Ex,okR T (GdE T (i+1)) r→okR T (GdE T i) (wrU s r)
 | .ok _ _,g=>gd_un s hs hi he g
 | .er _ _ _,g=>g
def l_un (h:LG G T) (i:Nat) (hi:i≤T.length) (ih:LtIH G T (20*(T.length - i)+3)):RdL G T 522 [] i vE (GdE T i):=by
 have h6:=h.ok.1;by_cases o1:bU T i [33]=true
 ·have hi':=bW o1;obtain ⟨r,g,h1⟩:=ih.un (i+1) (by omega) (by omega);refine ⟨wrU [33] r,wrU_ok _ (by simp) hi' (opAt_tx o1) r g,fun B L K=>?_⟩;refine aA.iG func522 rfl ntmps522 (by simp) fun _ ag=>?_;simp (disch:=omega) only [go_sem,seval,cX ag,wr];all_goals (try subst ag)
  refine AW.T5 (B:=B) (L:=L) (K:=K) (z0:=bI T i) rfl (fun n:Nat=>[(0,.ptr B.length 0),(2,.ptr (B.length+(L.length+1)) 0),(5,.d (.sl [[.str [33]],[.str [45]]])),(6,ai 2),(7,ai ↑n)]) (fun _=>bI T i) (fun _=>[.cells zE0]) (fun _=>K) (fun n=>n≤0) (fun n=>1 - n) 0 ⟨rfl,by simp (disch:=first|omega|(simp only [go_sem,aan,aar];try omega)) only [go_sem,seval]⟩ (by omega) ?_;rintro n hn
  match n,hn with
  |0,_=>
   cases r
   all_goals (refine Wk.go fun _ ag=>?_;simp (disch:=omega) only [go_sem,seval,cX ag,wr,o1,PZ (h1 _ _ _)];(repeat' first|apply cq.l|apply aZ.i|refine dU.i ?_)<;>try subst ag)
   all_goals first|exact ⟨h,by omega⟩|rfl
 by_cases o2:bU T i [45]=true
 ·have hi':=bW o2;obtain ⟨r,g,h1⟩:=ih.un (i+1) (by omega) (by omega);refine ⟨wrU [45] r,wrU_ok _ (by simp) hi' (opAt_tx o2) r g,fun B L K=>?_⟩;refine aA.iG func522 rfl ntmps522 (by simp) fun _ ag=>?_;simp (disch:=omega) only [go_sem,seval,cX ag,wr];all_goals (try subst ag)
  refine AW.T5 (B:=B) (L:=L) (K:=K) (z0:=bI T i) rfl (fun n:Nat=>[(0,.ptr B.length 0),(2,.ptr (B.length+(L.length+1)) 0),(5,.d (.sl [[.str [33]],[.str [45]]])),(6,ai 2),(7,ai ↑n)]) (fun _=>bI T i) (fun _=>[.cells zE0]) (fun _=>K) (fun n=>n≤1) (fun n=>2 - n) 0 ⟨rfl,by simp (disch:=first|omega|(simp only [go_sem,aan,aar];try omega)) only [go_sem,seval]⟩ (by omega) ?_;rintro n hn
  match n,hn with
  |0,_=>
   refine Wk.go fun _ ag=>?_;simp (disch:=omega) only [go_sem,seval,cX ag,wr,o1];(repeat' first|apply cq.l|apply aZ.i)<;>try subst ag
   ·exact ⟨h,by omega⟩
   exact cB.i ⟨1,⟨by simp (disch:=first|omega|(simp only [go_sem,aan,aar];try omega)) only [go_sem,seval,aas,aau]<;>omega,by omega,by omega⟩⟩
  |1,_=>
   cases r
   all_goals (refine Wk.go fun _ ag=>?_;simp (disch:=omega) only [go_sem,seval,cX ag,wr,o2,PZ (h1 _ _ _)];(repeat' first|apply cq.l|apply aZ.i|refine dU.i ?_)<;>try subst ag)
   all_goals first|exact ⟨h,by omega⟩|rfl
 obtain ⟨r,g,h1⟩:=ih.chain i hi (by omega);refine ⟨r,g,fun B L K=>?_⟩;refine aA.iG func522 rfl ntmps522 (by simp) fun _ ag=>?_;simp (disch:=omega) only [go_sem,seval,cX ag,wr];all_goals (try subst ag)
 refine AW.T5 (B:=B) (L:=L) (K:=K) (z0:=bI T i) rfl (fun n:Nat=>[(0,.ptr B.length 0),(2,.ptr (B.length+(L.length+1)) 0),(5,.d (.sl [[.str [33]],[.str [45]]])),(6,ai 2),(7,ai ↑n)]) (fun _=>bI T i) (fun _=>[.cells zE0]) (fun _=>K) (fun n=>n≤2) (fun n=>3 - n) 0 ⟨rfl,by simp (disch:=first|omega|(simp only [go_sem,aan,aar];try omega)) only [go_sem,seval]⟩ (by omega) ?_;rintro n hn
 match n,hn with
 |0,_=>
  refine Wk.go fun _ ag=>?_;simp (disch:=omega) only [go_sem,seval,cX ag,wr,o1];(repeat' first|apply cq.l|apply aZ.i)<;>try subst ag
  ·exact ⟨h,by omega⟩
  exact cB.i ⟨1,⟨by simp (disch:=first|omega|(simp only [go_sem,aan,aar];try omega)) only [go_sem,seval,aas,aau]<;>omega,by omega,by omega⟩⟩
 |1,_=>
  refine Wk.go fun _ ag=>?_;simp (disch:=omega) only [go_sem,seval,cX ag,wr,o2];(repeat' first|apply cq.l|apply aZ.i)<;>try subst ag
  ·exact ⟨h,by omega⟩
  exact cB.i ⟨2,⟨by simp (disch:=first|omega|(simp only [go_sem,aan,aar];try omega)) only [go_sem,seval,aas,aau]<;>omega,by omega,by omega⟩⟩
 |2,_=>
  cases r
  all_goals (refine Wk.go fun _ ag=>?_;simp (disch:=omega) only [go_sem,seval,cX ag,wr,PZ (h1 _ _ _)];(repeat' first|apply cq.l|refine dU.i ?_)<;>try subst ag)
  all_goals first|exact ⟨h,by omega⟩|rfl
end Go.Proofs.YtbcillkajdnljaaGreatDoor
end
section
set_option maxHeartbeats 8000000
set_option maxRecDepth 20000
namespace Go.Proofs.YtbcillkajdnljaaGreatDoor
open Tryz
open Go.Abs
attribute [local irreducible] AW OX GQ bK bO bz aY aA
variable {G:World→Nat→Prop}
variable {T:List Tk}
def peek_lt {j:Nat} (h:(ez T j).kind≠0):j<T.length∧ez T j=T.getD j default:=by
 rw [ez] at h ⊢;split at h
 ·split at h
  ·rename_i h1 h2;rw [if_pos h1,if_pos h2];exact ⟨h1,rfl⟩
  ·simp [MZ] at h
 ·simp [MZ] at h
def opT (T:List Tk) (k:Nat) (j:Nat):Bool:=decide ((ez T j).kind=4)&&decide (bB (ez T j).text=k)
def bin2 (T:List Tk) (j:Nat) (e x:Ex):Ex:= .mk 7 (ez T j).text ct [e,x] []
def mk_enc (k:Int) (n:aF) (ar:List Ex):(Ex.mk k n ct ar []).enc.map V.d=[.d (.int .i64 k),.d (.str n),.d (.int .i64 0),.d (.bool false),.d (.int .i64 0),.d (.str []),.d (.sl []),.d (.sl []),.d (.sl (ar.map Ex.enc)),.d (.sl [])]:=by
 rw [Ex.aP];rfl
def loF (T:List Tk) (k:Nat) (ro:Nat→Rr Ex):Nat→Ex→Nat→Rr Ex
 |0,e,j=> .ok e j
 |f+1,e,j=>if opT T k j=true then (match ro (j+1) with
  | .er c q m=> .er c q m
  | .ok x m=>if k=4 then .ok (bin2 T j e x) m else loF T k ro f (bin2 T j e x) m) else .ok e j
def opT_lt {k j:Nat} (h:opT T k j=true):j<T.length∧ez T j=T.getD j default:=by
 simp only [opT,aas,aau] at h;exact peek_lt (by omega)
def gd_bin (ok:dh T) {i j m:Nat} {e x:Ex} (hj:j<T.length∧ez T j=T.getD j default) (a:GdE T i e j) (b:GdE T (j+1) x m):GdE T i (bin2 T j e x) m:=by
 have w1:=wA_s hj.1;rw [bin2,hj.2];obtain ⟨a1,a2,a3,a4⟩:=a;obtain ⟨b1,b2,b3,b4⟩:=b;refine ⟨by omega,b2,jV (ok.2 _ (aB hj.1)) qY qZ (by simp) (by simp) (by simp) (by simp;exact ⟨a3,b3⟩),?_⟩;simp only [dM,iT,cj.dm,bq.ic];omega
theorem loF_ok (ok:dh T) {k i:Nat} {ro:Nat→Rr Ex} (hro:∀ j,i≤j→j≤T.length→okR T (GdE T j) (ro j)):∀ (f:Nat) (e:Ex) (j:Nat),GdE T i e j→okR T (GdE T i) (loF T k ro f e j)
 |0,e,j,h=>h
 |f+1,e,j,h=>by
  rw [loF];split
  ·rename_i ht;have hj:=opT_lt ht;have h2:=hro (j+1) (by have:=h.lt;omega) (by omega);split
   ·rename_i e2;rw [e2] at h2;exact h2
   ·rename_i x m e2;rw [e2] at h2;have h3:=gd_bin ok hj h h2;split
    ·exact h3
    ·exact loF_ok ok hro f _ _ h3
  ·exact h
def l_op (h:LG G T) (k i:Nat) (k2:2≤k) (k7:k≤7) (hi:i≤T.length) (ih:LtIH G T (20*(T.length - i)+11 - k)):RdL G T 487 [ai ↑k] i vE (GdE T i):=by
 have h6:=h.ok.1;by_cases hk:k=7
 ·subst hk;simp only [Int.cast_ofNat_Int];obtain ⟨r,g,h1⟩:=ih.un i hi (by omega);cases r with
  |er c q m=>
   exact ⟨.er c q m,g,fun B L K=>by
    refine aA.iG func487 rfl ntmps487 (by simp) fun _ ag=>?_;simp (disch:=omega) only [go_sem,seval,cX ag,wr,PZ (h1 _ _ _)];(repeat' first|apply cq.l|refine dU.i ?_)<;>try subst ag
    rfl⟩
  |ok e m=>
   exact ⟨.ok e m,g,fun B L K=>by
    refine aA.iG func487 rfl ntmps487 (by simp) fun _ ag=>?_;simp (disch:=omega) only [go_sem,seval,cX ag,wr,PZ (h1 _ _ _)];(repeat' first|apply cq.l|refine dU.i ?_)<;>try subst ag
    rfl⟩
 have hc:∀ j,∃ r:Rr Ex,i≤j→j≤T.length→okR T (GdE T j) r∧∀ B L K,aA prog G 487 [.ptr B.length 0,ai ↑(k+1)] (rL B L K T j) (fun o s=>(o,s)=rdR vE B L K T r):=fun j=>by
  by_cases hj:i≤j∧j≤T.length
  ·obtain ⟨r,g,h1⟩:=ih.op (k+1) j (by omega) (by omega) hj.2 (by omega);exact ⟨r,fun _ _=>⟨g,h1⟩⟩
  ·exact ⟨.er 0 0 0,fun a b=>absurd ⟨a,b⟩ hj⟩
 obtain ⟨ro,hro⟩:=Classical.axiomOfChoice hc;obtain ⟨g,h1⟩:=hro i (aat _) hi;cases e1:ro i with
 |er c q m=>
  rw [e1] at g h1
  exact ⟨.er c q m,g,fun B L K=>by
   refine aA.iG func487 rfl ntmps487 (by simp) fun _ ag=>?_;simp (disch:=omega) only [go_sem,seval,cX ag,wr,hk,PZ (h1 _ _ _)];(repeat' first|apply cq.l|refine cE.i fun hc=>?_|refine dU.i ?_)<;>try subst ag
   all_goals first|rfl|(exfalso;omega)⟩
 |ok e j=>
 rw [e1] at g h1;have hst:=fun s st=>lf (G:=G) s st;refine ⟨loF T k ro (T.length+1) e j,loF_ok h.ok (fun j a b=>(hro j a b).1) _ _ _ g,fun B L K=>?_⟩;generalize hr:loF T k ro (T.length+1) e j=r;refine aA.iG func487 rfl ntmps487 (by simp) fun _ ag=>?_;simp (disch:=omega) only [go_sem,seval,cX ag,wr,hk,PZ (h1 _ _ _)];(repeat' first|apply cq.l|refine cE.i fun hc=>?_)<;>try subst ag
 refine AW.lpS (B:=B) (L:=L) (K:=K) (z0:=bI T i) rfl (fun x:Nat×Ex×Nat=>[(0,.ptr B.length 0),(1,ai ↑k),(4,.ptr (B.length+(L.length+1)) 0),(5,.ptr (B.length+(L.length+1+1)) 0)]) (fun x=>bI T x.2.2) (fun x=>[.cells zE1,.cells (x.2.1.enc.map .d)]) (fun _=>K)
  (fun x=>loF T k ro x.1 x.2.1 x.2.2=r∧GdE T i x.2.1 x.2.2∧T.length<x.1+x.2.2) (fun x=>x.1) (T.length+1,e,j) [.cells zE0,.cells (e.enc.map .d)] ⟨rfl,by simp (disch:=first|omega|(simp only [go_sem,aan,aar];try omega)) only [go_sem,seval]⟩ (by simp only [aaB,aaI,EO,iM];rfl) ⟨hr,g,by have:=g.lt;simp only;omega⟩ ?_
 rintro ⟨f,e,j⟩ ⟨p1,p2,p3⟩;simp only at p1 p2 p3;have p4:=p2.le;cases f with
 |zero=>omega
 |succ f=>
 rw [loF] at p1;by_cases ht:opT T k j=true
 ·rw [if_pos ht] at p1;have hj:=opT_lt ht;simp only [opT,aas,aau] at ht;refine Wk.go fun _ ag=>?_;simp (disch:=omega) only [go_sem,seval,cX ag,wr,ht.1,ht.2,bC (hst _ _)];(repeat' first|apply cq.l|refine cE.i fun hc=>?_|apply aZ.i)<;>try subst ag
  ·exact ⟨h,by omega⟩
  obtain ⟨g2,h2⟩:=hro (j+1) (by have:=p2.lt;omega) (by omega);cases e2:ro (j+1) with
  |er c q m=>
   rw [e2] at p1 h2
   subst p1
   refine AW.H7 (P:=prog) mx 6 [(1,7),(2,7)] (by kernel_rfl) (by kernel_rfl) (by simp (disch:=first|omega|(simp only [go_sem,aan,aar];try omega)) only [go_sem,seval];try exact rfl) (by kernel_rfl) call487 rfl (by simp (disch:=first|omega|(simp only [go_sem,aan,aar];try omega)) only [go_sem,seval];try exact rfl) ((h2 _ _ _).mono fun o s e=>by cases e;exact ⟨rfl,rfl⟩) (fun fr_=>?_)
   simp only [bz,aY]
   refine qd ?_
   simp (disch:=first|omega|(simp only [go_sem,aan,aar];try omega)) only [go_sem,seval]
   refine dU.i ?_
   rfl
  |ok x m=>
   rw [e2] at p1 h2 g2
   simp only at p1
   refine AW.uh (P:=prog) mx 6 [(1,7),(2,7)] (by kernel_rfl) (by kernel_rfl) (by simp (disch:=first|omega|(simp only [go_sem,aan,aar];try omega)) only [go_sem,seval];try exact rfl) (by kernel_rfl) call487 rfl rfl (by simp (disch:=first|omega|(simp only [go_sem,aan,aar];try omega)) only [go_sem,seval];try exact rfl) ((h2 _ _ _).mono fun o s e=>by cases e;exact ⟨rfl,rfl⟩) (by simp (disch:=first|omega|(simp only [go_sem,aan,aar];try omega)) only [go_sem,seval];try exact rfl)
    (fF (by decide) (by decide) rfl rfl (by simp (disch:=first|omega|(simp only [go_sem,aan,aar];try omega)) only [go_sem,seval]) (fF (by decide) (by decide) rfl rfl (by simp (disch:=first|omega|(simp only [go_sem,aan,aar];try omega)) only [go_sem,seval]) iz)) ?_
   refine kQ fun _ ag=>?_
   simp (disch:=omega) only [go_sem,seval,cX ag,wr];(repeat' first|apply cq.l|apply bg.i|refine cE.i fun hc=>?_|refine dU.i ?_)<;>try subst ag
   ·rw [if_pos (by omega)] at p1
    subst p1
    rfl
   ·rw [if_neg (by omega)] at p1
    refine cB.i ⟨(f,bin2 T j e x,m),[.cells zE1,.cells [.d (.int .i64 7),.d (.str (ez T j).text),.d (.int .i64 0),.d (.bool false),.d (.int .i64 0),.d (.str []),.bh,.bh,.d (.sl [e.enc,x.enc]),.bh]],⟨by simp (disch:=first|omega|(simp only [go_sem,aan,aar];try omega)) only [go_sem,seval,aas,aau]<;>omega,by rw [bin2,mk_enc];rfl,⟨p1,gd_bin h.ok hj p2 g2,by have:=g2.lt;simp only;omega⟩,by simp only;omega⟩⟩
 ·rw [if_neg ht] at p1;subst p1;simp only [opT,aas,aau] at ht;refine Wk.go fun _ ag=>?_;simp (disch:=omega) only [go_sem,seval,cX ag,wr,bC (hst _ _)];(repeat' first|apply cq.l|apply bg.i|refine cE.i fun hc=>?_|apply aZ.i|refine dU.i ?_)<;>try subst ag
  all_goals first|exact ⟨h,by omega⟩|rfl|(exfalso;exact ht ⟨by omega,by omega⟩)
def mem1 (T:List Tk) (j:Nat) (e:Ex):Ex:= .mk 3 (ez T j).text ct [e] []
def idx2 (e x:Ex):Ex:= .mk 4 [] ct [e,x] []
def memT (T:List Tk) (j:Nat):Bool:=decide ((ez T j).kind=1)&& !(decide ((ez T j).text=gX)||decide ((ez T j).text=fY)||decide ((ez T j).text=jc))
def chL (T:List Tk) (rc:Nat→Rr Ex):Nat→Ex→Nat→Rr Ex
 |0,e,j=> .ok e j
 |f+1,e,j=>if bU T j [46]=true then (if j+1<T.length then (if memT T (j+1)=true then chL T rc f (mem1 T (j+1) e) (j+1+1) else .er 5 (j+1) (j+1)) else .er 4 (j+1) (j+1))
  else if bU T j [91]=true then (match rc (j+1) with
   | .er c q m=> .er c q m
   | .ok x m=>if bU T m [93]=true then chL T rc f (idx2 e x) (m+1) else .er (bD T m) m m)
  else .ok e j
def gd_mem (ok:dh T) {i j:Nat} {e:Ex} (g:GdE T i e j) (hj:j<T.length) (ht:memT T (j+1)=true):GdE T i (mem1 T (j+1) e) (j+1+1):=by
 simp only [memT,aas,aau] at ht;have hp:=peek_lt (T:=T) (j:=j+1) (by omega);have w1:=wA_s hj;have w2:=wA_s hp.1;have:=g.w;rw [mem1,hp.2];refine ⟨by have:=g.lt;omega,by omega,jV (ok.2 _ (aB hp.1)) qY qZ (by simp) (by simp) (by simp) (by simp;exact g.g),?_⟩;simp only [dM,iT,cj.dm,bq.ic];omega
def gd_idx {i j m:Nat} {e x:Ex} (g:GdE T i e j) (hj:j<T.length) (b:GdE T (j+1) x m) (hm:m<T.length):GdE T i (idx2 e x) (m+1):=by
 have w1:=wA_s hj;have w2:=wA_s hm;obtain ⟨a1,a2,a3,a4⟩:=g;obtain ⟨b1,b2,b3,b4⟩:=b;refine ⟨by omega,hm,jV (by simp) qY qZ (by simp) (by simp) (by simp) (by simp;exact ⟨a3,b3⟩),?_⟩;simp only [idx2,dM,iT,cj.dm,bq.ic,aaA];omega
theorem chL_ok (ok:dh T) {i:Nat} {rc:Nat→Rr Ex} (hrc:∀ j,i<j→j≤T.length→okR T (GdE T j) (rc j)):∀ (f:Nat) (e:Ex) (j:Nat),GdE T i e j→okR T (GdE T i) (chL T rc f e j)
 |0,e,j,h=>h
 |f+1,e,j,h=>by
  rw [chL];split
  ·rename_i o1;split
   ·split
    ·exact chL_ok ok hrc f _ _ (gd_mem ok h (bW o1) (by assumption))
    ·exact bW o1
   ·exact bW o1
  ·split
   ·rename_i o1;have hj:=bW o1;have h2:=hrc (j+1) (by have:=h.lt;omega) (by omega);split
    ·rename_i e2;rw [e2] at h2;exact h2
    ·rename_i x m e2;rw [e2] at h2;split
     ·rename_i o2;exact chL_ok ok hrc f _ _ (gd_idx h hj h2 (bW o2))
     ·exact h2.le
   ·exact h
def l_chain (h:LG G T) (i:Nat) (hi:i≤T.length) (ih:LtIH G T (20*(T.length - i)+2)):RdL G T 550 [] i vE (GdE T i):=by
 have h6:=h.ok.1;have hc:∀ j,∃ r:Rr Ex,i<j→j≤T.length→okR T (GdE T j) r∧∀ B L K,aA prog G 442 [.ptr B.length 0] (rL B L K T j) (fun o s=>(o,s)=rdR vE B L K T r):=fun j=>by
  by_cases hj:i<j∧j≤T.length
  ·obtain ⟨r,g,h1⟩:=ih.cond j hj.2 (by omega);exact ⟨r,fun _ _=>⟨g,h1⟩⟩
  ·exact ⟨.er 0 0 0,fun a b=>absurd ⟨a,b⟩ hj⟩
 obtain ⟨rc,hrc⟩:=Classical.axiomOfChoice hc;obtain ⟨r0,g,h1⟩:=ih.atom i hi (by omega);cases r0 with
 |er c q m=>
  exact ⟨.er c q m,g,fun B L K=>by
   refine aA.iG func550 rfl ntmps550 (by simp) fun _ ag=>?_;simp (disch:=omega) only [go_sem,seval,cX ag,wr,PZ (h1 _ _ _)];(repeat' first|apply cq.l|refine dU.i ?_)<;>try subst ag
   rfl⟩
 |ok e j=>
 have hw:=fun s st=>c_par_word (G:=G) s st;refine ⟨chL T rc (T.length+1) e j,chL_ok h.ok (fun j a b=>(hrc j a b).1) _ _ _ g,fun B L K=>?_⟩;generalize hr:chL T rc (T.length+1) e j=r;refine aA.iG func550 rfl ntmps550 (by simp) fun _ ag=>?_;simp (disch:=omega) only [go_sem,seval,cX ag,wr,PZ (h1 _ _ _)];(repeat' apply cq.l)<;>try subst ag
 refine AW.lpS (B:=B) (L:=L) (K:=K) (z0:=bI T i) rfl (fun x:Nat×Ex×Nat=>[(0,.ptr B.length 0),(2,.ptr (B.length+(L.length+1)) 0),(3,.ptr (B.length+(L.length+1+1)) 0)]) (fun x=>bI T x.2.2) (fun x=>[.cells zE1,.cells (x.2.1.enc.map .d)]) (fun _=>K)
  (fun x=>chL T rc x.1 x.2.1 x.2.2=r∧GdE T i x.2.1 x.2.2∧T.length<x.1+x.2.2) (fun x=>x.1) (T.length+1,e,j) [.cells zE0,.cells (e.enc.map .d)] ⟨rfl,by simp (disch:=first|omega|(simp only [go_sem,aan,aar];try omega)) only [go_sem,seval]⟩ (by simp only [aaB,aaI,EO,iM];rfl) ⟨hr,g,by have:=g.lt;simp only;omega⟩ ?_
 clear g h1 hr e j;rintro ⟨f,e,j⟩ ⟨p1,p2,p3⟩;simp only at p1 p2 p3;have p4:=p2.le;cases f with
 |zero=>omega
 |succ f=>
 rw [chL] at p1;by_cases o1:bU T j [46]=true
 ·rw [if_pos o1] at p1;have hj:=bW o1;have w1:=wA_s hj;refine Wk.go fun _ ag=>?_;simp (disch:=omega) only [go_sem,seval,cX ag,wr,o1,bC (hw _ _)];(repeat' first|apply cq.l|apply bg.i|refine cE.i fun hc=>?_|apply aZ.i|refine dU.i ?_)<;>try subst ag
  all_goals first|exact ⟨h,by omega⟩|(rw [←p1];simp [memT, *,rdR_er];done)|skip
  have ht:memT T (j+1)=true:=by simp_all [memT]
  rw [if_pos (by assumption),if_pos ht] at p1;refine cB.i ⟨(f,mem1 T (j+1) e,j+1+1),[.cells zE1,.cells [.d (.int .i64 3),.d (.str (ez T (j+1)).text),.d (.int .i64 0),.d (.bool false),.d (.int .i64 0),.d (.str []),.bh,.bh,.d (.sl [e.enc]),.bh]],⟨by simp (disch:=first|omega|(simp only [go_sem,aan,aar];try omega)) only [go_sem,seval,aas,aau]<;>omega,by rw [mem1,mk_enc];rfl,⟨p1,gd_mem h.ok p2 hj ht,by simp only;omega⟩,by simp only;omega⟩⟩
 rw [if_neg o1] at p1;by_cases o2:bU T j [91]=true
 ·rw [if_pos o2] at p1;have hj:=bW o2;obtain ⟨g2,h2⟩:=hrc (j+1) (by have:=p2.lt;omega) (by omega);cases e2:rc (j+1) with
  |er c q m=>
   rw [e2] at p1 h2
   subst p1
   refine Wk.go fun _ ag=>?_;simp (disch:=omega) only [go_sem,seval,cX ag,wr,o1,o2,PZ (h2 _ _ _)];(repeat' first|apply cq.l|apply aZ.i|refine dU.i ?_)<;>try subst ag
   all_goals first|exact ⟨h,by omega⟩|rfl
  |ok x m=>
   rw [e2] at p1 h2 g2
   simp only at p1
   have g3:=g2.le
   by_cases o3:bU T m [93]=true
   ·rw [if_pos o3] at p1
    have hm:=bW o3
    refine Wk.go fun _ ag=>?_;simp (disch:=omega) only [go_sem,seval,cX ag,wr,o1,o2,o3,PZ (h2 _ _ _)];(repeat' first|apply cq.l|apply aZ.i)<;>try subst ag
    all_goals first|exact ⟨h,by omega⟩|skip
    refine cB.i ⟨(f,idx2 e x,m+1),[.cells zE1,.cells [.d (.int .i64 4),.d (.str []),.d (.int .i64 0),.d (.bool false),.d (.int .i64 0),.d (.str []),.bh,.bh,.d (.sl [e.enc,x.enc]),.bh]],⟨by simp (disch:=first|omega|(simp only [go_sem,aan,aar];try omega)) only [go_sem,seval,aas,aau]<;>omega,by rw [idx2,mk_enc];rfl,⟨p1,gd_idx p2 hj g2 hm,by have:=g2.lt;simp only;omega⟩,by simp only;omega⟩⟩
   ·rw [if_neg o3] at p1
    subst p1
    refine Wk.go fun _ ag=>?_;simp (disch:=omega) only [go_sem,seval,cX ag,wr,o1,o2,o3,PZ (h2 _ _ _)];(repeat' first|apply cq.l|apply aZ.i|refine dU.i ?_)<;>try subst ag
    all_goals first|exact ⟨h,by omega⟩|rfl
 ·rw [if_neg o2] at p1;subst p1;refine Wk.go fun _ ag=>?_;simp (disch:=omega) only [go_sem,seval,cX ag,wr,o1,o2];(repeat' first|apply cq.l|apply aZ.i|refine dU.i ?_)<;>try subst ag
  all_goals first|exact ⟨h,by omega⟩|rfl
