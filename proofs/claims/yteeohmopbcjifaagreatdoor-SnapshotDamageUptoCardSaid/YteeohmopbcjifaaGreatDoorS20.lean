import Derived.Test.YteeohmopbcjifaaGreatDoorS19
set_option linter.unusedSimpArgs false
set_option linter.unusedVariables false
set_option maxHeartbeats 8000000
set_option maxRecDepth 20000
namespace Go.Proofs.YteeohmopbcjifaaGreatDoor
open Tryz
open Go.Abs
attribute [local irreducible] AW OX cG GQ bK bO bz aY aa
variable {G:World→Nat→Prop}
def Cw (G:World→Nat→Prop) (n:Nat) (g:FuncId) (r:List V) (cs:List D) (off:Nat) (f:tD):Prop:=∀ (A:List aJ) (T:List (Nat×Nat×Nat)) (fs:List tD),fs.length≤n→aa prog G g (pt A:: .ep cs off::r) (cS A T fs) (fun o s=>o= .ret (.cF [])∧s=cS A T (fs++[f]))
theorem Lx {n:Nat} {g:FuncId} {r:List V} {cs:List D} {off:Nat} {f:tD} {A:List aJ} {T:List (Nat×Nat×Nat)} {fs:List tD} {K Kp:V→St→Prop} (h:Cw G n g r cs off f) (hp:fs.length≤n):
  dQ prog G false g (pt A:: .ep cs off::r) (cS A T fs) K Kp=@cq (K (.cF []) (cS A T (fs++[f]))) ⟨dQ prog G false g (pt A:: .ep cs off::r) (cS A T fs) K Kp⟩:=Ck (h A T fs hp)
section
variable {cs:List D} {off:Nat} {n:Int} {s:cx} {b:Bool}
theorem aax (hc:cs[off]?=some (int n)):Cw G 2000000 32 [] cs off (Ta n):=fun A T fs hl=>c_int A T fs hl hc
theorem w_str (hc:cs[off]?=some (.str s)):Cw G 2000000 31 [] cs off (aaw s):=fun A T fs hl=>c_str A T fs hl hc
theorem w_flag (hc:cs[off]?=some (.bool b)):Cw G 2000000 60 [] cs off (fFlag b):=fun A T fs hl=>c_flag A T fs hl hc
theorem w_dig (hc:cs[off]?=some (.int .u64 n)):Cw G 2000000 158 [] cs off (fDig n):=fun A T fs hl=>c_digest A T fs hl hc
end
theorem stS (A:List aJ) (T:List (Nat×Nat×Nat)) (fs gs:List tD):(⟨(cS A T fs).aj++[cB (T.length+1) gs],(cS A T fs).toks++[cT gs]⟩:St)=cS (nA A T fs) (nT T fs) gs:=by simp [cS,nA,nT]
theorem c_clo_str (x:cx):Cw G 1048576 121 [] [D.str x] 0 (aaw x):=by
 intro A T fs hl
 have h:=c_str (G:=G) A T fs (by omega) (cs:=[D.str x]) (off:=0) rfl
 refine aa.Co func121 rfl ntmps121 (by simp) fun _ ag=>?_
 simp (disch:=first|omega|exact ⟨by kernel_rfl⟩|(simp only [go_sem,aaN];try omega)) only [go_sem,seval,cX ag,wr,Ck h];(repeat' apply cq.l)<;>try subst ag
 refine endS0 ?_ ?_<;>first|rfl|exact ⟨rfl,rfl⟩
theorem c_clo_one (x:Int):Cw G 1048576 157 [] [int x] 0 (Ta x):=by
 intro A T fs hl
 have h:=c_int (G:=G) A T fs (by omega) (cs:=[int x]) (off:=0) rfl
 refine aa.Co func157 rfl ntmps157 (by simp) fun _ ag=>?_
 simp (disch:=first|omega|exact ⟨by kernel_rfl⟩|(simp only [go_sem,aaN];try omega)) only [go_sem,seval,cX ag,wr,Ck h];(repeat' apply cq.l)<;>try subst ag
 refine endS0 ?_ ?_<;>first|rfl|exact ⟨rfl,rfl⟩
theorem c_list_str (l:List cx) (hcode:∀ x∈l,Cw G 1048576 121 [] [D.str x] 0 (aaw x)) (hll:l.length≤1048576) {cs:List D} {off:Nat} (hc:cs[off]?=some (.sl (bt l))):Cw G 2000000 120 [.jE 121 []] cs off (l5 (l.map aaw)):=by
 intro A T fs hl
 have hi:=aag (G:=G) A T fs
 have hd:=aas (G:=G) A T fs (l.map aaw) hl
 rw [pt_eq A] at hi hd ⊢
 refine aa.Co func120 rfl ntmps120 (by simp) fun _ ag=>?_
 simp (disch:=first|omega|exact ⟨by kernel_rfl⟩|(simp only [go_sem,aaN];try omega)) only [go_sem,seval,cX ag,wr,Ck hi,hc];(repeat' apply cq.l)<;>try subst ag
 refine AW.zU (fun i:Nat=>[(0,.ptr A.length 0),(1,.ep cs off),(2,.jE 121 []),(6,pt (nA A T fs)),(50,ai ↑l.length),(51,ai ↑i)]) (fun i=>[cB (T.length+1) ((l.take i).map aaw)]) (fun i=>[cT ((l.take i).map aaw)])
  (fun i=>i≤l.length) (fun i=>l.length - i) 0 ⟨by simp [cS,nA,nT],by simp only [go_sem,seval]⟩ (by simp) ?_
 intro i hi
 rw [stS]
 have hcall:=fun h:i<l.length=>hcode _ (aB h) (nA A T fs) (nT T fs) ((l.take i).map aaw) (by simp;omega)
 by_cases hil:i<l.length
 ·have hcall:=hcall hil
  have hs:(l.take (i+1)).map aaw=(l.take i).map aaw++[aaw (l.getD i default)]:=by rw [aaq hil,abm];rfl
  refine Wk.go fun _ ag=>?_;simp (disch:=first|omega|exact ⟨by kernel_rfl⟩|(simp only [go_sem,aaN];try omega)) only [go_sem,seval,cX ag,wr,hc,Ck hcall];(repeat' first|apply cq.l|refine cE.i fun hc=>?_)<;>try subst ag
  exact Pr.i ⟨i+1,nxS hs (by simp only [go_sem,seval]) (by simp [okW,pt,nA,V.within,V.within.all]) (by omega) (by omega)⟩
 ·obtain rfl:i=l.length:=by omega
  rw [aaY]
  refine Wk.go fun _ ag=>?_;simp (disch:=first|omega|exact ⟨by kernel_rfl⟩|(simp only [go_sem,aaN];try omega)) only [go_sem,seval,cX ag,wr,Ck hd];(repeat' first|apply cq.l|refine cE.i fun hc=>?_)<;>try subst ag
  exact Tu.o (endS rfl ⟨rfl,rfl⟩)
theorem c_list_one (l:List Int) (hcode:∀ x∈l,Cw G 1048576 157 [] [int x] 0 (Ta x)) (hll:l.length≤1048576) {cs:List D} {off:Nat} (hc:cs[off]?=some (.sl (encIs l))):Cw G 2000000 156 [.jE 157 []] cs off (l5 (l.map Ta)):=by
 intro A T fs hl
 have hi:=aag (G:=G) A T fs
 have hd:=aas (G:=G) A T fs (l.map Ta) hl
 rw [pt_eq A] at hi hd ⊢
 refine aa.Co func156 rfl ntmps156 (by simp) fun _ ag=>?_
 simp (disch:=first|omega|exact ⟨by kernel_rfl⟩|(simp only [go_sem,aaN];try omega)) only [go_sem,seval,cX ag,wr,Ck hi,hc];(repeat' apply cq.l)<;>try subst ag
 refine AW.zU (fun i:Nat=>[(0,.ptr A.length 0),(1,.ep cs off),(2,.jE 157 []),(6,pt (nA A T fs)),(50,ai ↑l.length),(51,ai ↑i)]) (fun i=>[cB (T.length+1) ((l.take i).map Ta)]) (fun i=>[cT ((l.take i).map Ta)])
  (fun i=>i≤l.length) (fun i=>l.length - i) 0 ⟨by simp [cS,nA,nT],by simp only [go_sem,seval]⟩ (by simp) ?_
 intro i hi
 rw [stS]
 have hcall:=fun h:i<l.length=>hcode _ (aB h) (nA A T fs) (nT T fs) ((l.take i).map Ta) (by simp;omega)
 by_cases hil:i<l.length
 ·have hcall:=hcall hil
  have hs:(l.take (i+1)).map Ta=(l.take i).map Ta++[Ta (l.getD i default)]:=by rw [aaq hil,abm];rfl
  refine Wk.go fun _ ag=>?_;simp (disch:=first|omega|exact ⟨by kernel_rfl⟩|(simp only [go_sem,aaN];try omega)) only [go_sem,seval,cX ag,wr,hc,Ck hcall];(repeat' first|apply cq.l|refine cE.i fun hc=>?_)<;>try subst ag
  exact Pr.i ⟨i+1,nxS hs (by simp only [go_sem,seval]) (by simp [okW,pt,nA,V.within,V.within.all]) (by omega) (by omega)⟩
 ·obtain rfl:i=l.length:=by omega
  rw [aaY]
  refine Wk.go fun _ ag=>?_;simp (disch:=first|omega|exact ⟨by kernel_rfl⟩|(simp only [go_sem,aaN];try omega)) only [go_sem,seval,cX ag,wr,Ck hd];(repeat' first|apply cq.l|refine cE.i fun hc=>?_)<;>try subst ag
  exact Tu.o (endS rfl ⟨rfl,rfl⟩)
theorem c_strs (l:List cx) (hll:l.length≤1048576) {cs:List D} {off:Nat} (hc:cs[off]?=some (.sl (bt l))):Cw G 2000000 85 [] cs off (fStrs l):=by
 intro A T fs hl
 have h:=c_list_str (G:=G) l (fun x hx=>c_clo_str x) hll hc A T fs hl
 refine aa.Co func85 rfl ntmps85 (by simp) fun _ ag=>?_
 simp (disch:=first|omega|exact ⟨by kernel_rfl⟩|(simp only [go_sem,aaN];try omega)) only [go_sem,seval,cX ag,wr,Ck h];(repeat' apply cq.l)<;>try subst ag
 refine endS0 ?_ ?_<;>first|rfl|exact ⟨rfl,rfl⟩
theorem c_ints (l:List Int) (hll:l.length≤1048576) {cs:List D} {off:Nat} (hc:cs[off]?=some (.sl (encIs l))):Cw G 2000000 125 [] cs off (fInts l):=by
 intro A T fs hl
 have h:=c_list_one (G:=G) l (fun x hx=>c_clo_one x) hll hc A T fs hl
 refine aa.Co func125 rfl ntmps125 (by simp) fun _ ag=>?_
 simp (disch:=first|omega|exact ⟨by kernel_rfl⟩|(simp only [go_sem,aaN];try omega)) only [go_sem,seval,cX ag,wr,Ck h];(repeat' apply cq.l)<;>try subst ag
 refine endS0 ?_ ?_<;>first|rfl|exact ⟨rfl,rfl⟩
theorem c_list_Val (l:List aX) (hcode:∀ x∈l,Cw G 1048576 155 [] x.enc 0 (frVal x)) (hll:l.length≤1048576) {cs:List D} {off:Nat} (hc:cs[off]?=some (.sl (l.map aX.enc))):Cw G 2000000 154 [.jE 155 []] cs off (l5 (l.map frVal)):=by
 intro A T fs hl
 have hi:=aag (G:=G) A T fs
 have hd:=aas (G:=G) A T fs (l.map frVal) hl
 rw [pt_eq A] at hi hd ⊢
 refine aa.Co func154 rfl ntmps154 (by simp) fun _ ag=>?_
 simp (disch:=first|omega|exact ⟨by kernel_rfl⟩|(simp only [go_sem,aaN];try omega)) only [go_sem,seval,cX ag,wr,Ck hi,hc];(repeat' apply cq.l)<;>try subst ag
 refine AW.zU (fun i:Nat=>[(0,.ptr A.length 0),(1,.ep cs off),(2,.jE 155 []),(6,pt (nA A T fs)),(61,ai ↑l.length),(62,ai ↑i)]) (fun i=>[cB (T.length+1) ((l.take i).map frVal)]) (fun i=>[cT ((l.take i).map frVal)])
  (fun i=>i≤l.length) (fun i=>l.length - i) 0 ⟨by simp [cS,nA,nT],by simp only [go_sem,seval]⟩ (by simp) ?_
 intro i hi
 rw [stS]
 have hcall:=fun h:i<l.length=>hcode _ (aB h) (nA A T fs) (nT T fs) ((l.take i).map frVal) (by simp;omega)
 by_cases hil:i<l.length
 ·have hcall:=hcall hil
  have hs:(l.take (i+1)).map frVal=(l.take i).map frVal++[frVal (l.getD i default)]:=by rw [aaq hil,abm];rfl
  refine Wk.go fun _ ag=>?_;simp (disch:=first|omega|exact ⟨by kernel_rfl⟩|(simp only [go_sem,aaN];try omega)) only [go_sem,seval,cX ag,wr,hc,Ck hcall];(repeat' first|apply cq.l|refine cE.i fun hc=>?_)<;>try subst ag
  exact Pr.i ⟨i+1,nxS hs (by simp only [go_sem,seval]) (by simp [okW,pt,nA,V.within,V.within.all]) (by omega) (by omega)⟩
 ·obtain rfl:i=l.length:=by omega
  rw [aaY]
  refine Wk.go fun _ ag=>?_;simp (disch:=first|omega|exact ⟨by kernel_rfl⟩|(simp only [go_sem,aaN];try omega)) only [go_sem,seval,cX ag,wr,Ck hd];(repeat' first|apply cq.l|refine cE.i fun hc=>?_)<;>try subst ag
  exact Tu.o (endS rfl ⟨rfl,rfl⟩)
theorem c_Val (x:aX) (g:gU x) {cs:List D} {off:Nat} (h:(cs.drop off).take 6=x.enc):Cw G 1048576 122 [] cs off (frVal x):=by
 induction x using aX.ind generalizing cs off with
 |_ x ih=>
 intro A T fs hl
 obtain ⟨h1,h2,h3,h4,h5⟩:=(dX x).1 g
 refine aa.ep1 6 h ?_
 have hd:=fun gs=>aas (G:=G) A T fs gs (by omega)
 have hi:∀ y∈x.list,Cw G 1048576 155 [] y.enc 0 (frVal y):=by
  intro y hy A T fs hl
  have h:=ih y hy (h5 y hy) (cs:=y.enc) (off:=0) (Vw y) A T fs hl
  refine aa.Co func155 rfl ntmps155 (by simp) fun _ ag=>?_
  simp (disch:=first|omega|exact ⟨by kernel_rfl⟩|(simp only [go_sem,aaN];try omega)) only [go_sem,seval,cX ag,wr,Ck h];(repeat' apply cq.l)<;>try subst ag
  refine endS0 ?_ ?_<;>first|rfl|exact ⟨rfl,rfl⟩
 refine aa.Co func122 rfl ntmps122 (by simp) fun _ ag=>?_
 simp (disch:=first|omega|exact ⟨by kernel_rfl⟩|(simp only [go_sem,aaN];try omega)) only [go_sem,seval,cX ag,wr,Ck (aag A T fs),Lx (aax (YR x)),Lx (w_flag (YS x)),Lx (aax (YT x)),Lx (w_str (YU x)),Lx (c_list_Val x.list hi h2 (YV x)),Lx (c_strs x.keys h3 (YW x)),Ck (hd _)];(repeat' apply cq.l)<;>try subst ag
 exact endS rfl ⟨rfl,by rw [frVal_eq]⟩
theorem c_list_Ex (l:List Ex) (hcode:∀ x∈l,Cw G 1048576 124 [] x.enc 0 (frEx x)) (hll:l.length≤1048576) {cs:List D} {off:Nat} (hc:cs[off]?=some (.sl (l.map Ex.enc))):Cw G 2000000 123 [.jE 124 []] cs off (l5 (l.map frEx)):=by
 intro A T fs hl
 have hi:=aag (G:=G) A T fs
 have hd:=aas (G:=G) A T fs (l.map frEx) hl
 rw [pt_eq A] at hi hd ⊢
 refine aa.Co func123 rfl ntmps123 (by simp) fun _ ag=>?_
 simp (disch:=first|omega|exact ⟨by kernel_rfl⟩|(simp only [go_sem,aaN];try omega)) only [go_sem,seval,cX ag,wr,Ck hi,hc];(repeat' apply cq.l)<;>try subst ag
 refine AW.zU (fun i:Nat=>[(0,.ptr A.length 0),(1,.ep cs off),(2,.jE 124 []),(6,pt (nA A T fs)),(61,ai ↑l.length),(62,ai ↑i)]) (fun i=>[cB (T.length+1) ((l.take i).map frEx)]) (fun i=>[cT ((l.take i).map frEx)])
  (fun i=>i≤l.length) (fun i=>l.length - i) 0 ⟨by simp [cS,nA,nT],by simp only [go_sem,seval]⟩ (by simp) ?_
 intro i hi
 rw [stS]
 have hcall:=fun h:i<l.length=>hcode _ (aB h) (nA A T fs) (nT T fs) ((l.take i).map frEx) (by simp;omega)
 by_cases hil:i<l.length
 ·have hcall:=hcall hil
  have hs:(l.take (i+1)).map frEx=(l.take i).map frEx++[frEx (l.getD i default)]:=by rw [aaq hil,abm];rfl
  refine Wk.go fun _ ag=>?_;simp (disch:=first|omega|exact ⟨by kernel_rfl⟩|(simp only [go_sem,aaN];try omega)) only [go_sem,seval,cX ag,wr,hc,Ck hcall];(repeat' first|apply cq.l|refine cE.i fun hc=>?_)<;>try subst ag
  exact Pr.i ⟨i+1,nxS hs (by simp only [go_sem,seval]) (by simp [okW,pt,nA,V.within,V.within.all]) (by omega) (by omega)⟩
 ·obtain rfl:i=l.length:=by omega
  rw [aaY]
  refine Wk.go fun _ ag=>?_;simp (disch:=first|omega|exact ⟨by kernel_rfl⟩|(simp only [go_sem,aaN];try omega)) only [go_sem,seval,cX ag,wr,Ck hd];(repeat' first|apply cq.l|refine cE.i fun hc=>?_)<;>try subst ag
  exact Tu.o (endS rfl ⟨rfl,rfl⟩)
theorem c_Ex (x:Ex) (g:j0 x) {cs:List D} {off:Nat} (h:(cs.drop off).take 10=x.enc):Cw G 1048576 86 [] cs off (frEx x):=by
 induction x using Ex.ind generalizing cs off with
 |_ x ih=>
 intro A T fs hl
 obtain ⟨h1,h2,h3,h4,h5,h6⟩:=(gq x).1 g
 refine aa.ep1 10 h ?_
 have hd:=fun gs=>aas (G:=G) A T fs gs (by omega)
 have hi:∀ y∈x.args,Cw G 1048576 124 [] y.enc 0 (frEx y):=by
  intro y hy A T fs hl
  have h:=ih y hy (h6 y hy) (cs:=y.enc) (off:=0) (Ew y) A T fs hl
  refine aa.Co func124 rfl ntmps124 (by simp) fun _ ag=>?_
  simp (disch:=first|omega|exact ⟨by kernel_rfl⟩|(simp only [go_sem,aaN];try omega)) only [go_sem,seval,cX ag,wr,Ck h];(repeat' apply cq.l)<;>try subst ag
  refine endS0 ?_ ?_<;>first|rfl|exact ⟨rfl,rfl⟩
 refine aa.Co func86 rfl ntmps86 (by simp) fun _ ag=>?_
 simp (disch:=first|omega|exact ⟨by kernel_rfl⟩|(simp only [go_sem,aaN];try omega)) only [go_sem,seval,cX ag,wr,Ck (aag A T fs),Lx (aax (YX x)),Lx (w_str (YY x)),Lx (c_Val x.value h2 (Ev x)),Lx (c_list_Ex x.args hi h3 (YZ x)),Lx (c_strs x.keys h4 (Y0 x)),Ck (hd _)];(repeat' apply cq.l)<;>try subst ag
 exact endS rfl ⟨rfl,by rw [frEx_eq]⟩
theorem c_Vr (x:Vr) (g:gVr x) {cs:List D} {off:Nat} (h:(cs.drop off).take 7=x.enc):Cw G 1048576 89 [] cs off (frVr x):=by
 intro A T fs hl
 refine aa.ep1 7 h ?_
 have hd:=fun gs=>aas (G:=G) A T fs gs (by omega)
 refine aa.Co func89 rfl ntmps89 (by simp) fun _ ag=>?_
 simp (disch:=first|omega|exact ⟨by kernel_rfl⟩|(simp only [go_sem,aaN];try omega)) only [go_sem,seval,cX ag,wr,Ck (aag A T fs),Lx (w_str (Vrg0 x)),Lx (c_Val x.value g.value.fit (Vrs1_6 x)),Ck (hd _)];(repeat' apply cq.l)<;>try subst ag
 exact endS rfl ⟨rfl,rfl⟩
theorem c_clo_Vr (x:Vr) (g:gVr x):Cw G 1048576 88 [] x.enc 0 (frVr x):=by
 intro A T fs hl
 have h:=c_Vr (G:=G) x g (cs:=x.enc) (off:=0) (Vrw x) A T fs hl
 refine aa.Co func88 rfl ntmps88 (by simp) fun _ ag=>?_
 simp (disch:=first|omega|exact ⟨by kernel_rfl⟩|(simp only [go_sem,aaN];try omega)) only [go_sem,seval,cX ag,wr,Ck h];(repeat' apply cq.l)<;>try subst ag
 refine endS0 ?_ ?_<;>first|rfl|exact ⟨rfl,rfl⟩
theorem c_list_Vr (l:List Vr) (hcode:∀ x∈l,Cw G 1048576 88 [] x.enc 0 (frVr x)) (hll:l.length≤1048576) {cs:List D} {off:Nat} (hc:cs[off]?=some (.sl (l.map Vr.enc))):Cw G 2000000 87 [.jE 88 []] cs off (l5 (l.map frVr)):=by
 intro A T fs hl
 have hi:=aag (G:=G) A T fs
 have hd:=aas (G:=G) A T fs (l.map frVr) hl
 rw [pt_eq A] at hi hd ⊢
 refine aa.Co func87 rfl ntmps87 (by simp) fun _ ag=>?_
 simp (disch:=first|omega|exact ⟨by kernel_rfl⟩|(simp only [go_sem,aaN];try omega)) only [go_sem,seval,cX ag,wr,Ck hi,hc];(repeat' apply cq.l)<;>try subst ag
 refine AW.zU (fun i:Nat=>[(0,.ptr A.length 0),(1,.ep cs off),(2,.jE 88 []),(6,pt (nA A T fs)),(50,ai ↑l.length),(51,ai ↑i)]) (fun i=>[cB (T.length+1) ((l.take i).map frVr)]) (fun i=>[cT ((l.take i).map frVr)])
  (fun i=>i≤l.length) (fun i=>l.length - i) 0 ⟨by simp [cS,nA,nT],by simp only [go_sem,seval]⟩ (by simp) ?_
 intro i hi
 rw [stS]
 have hcall:=fun h:i<l.length=>hcode _ (aB h) (nA A T fs) (nT T fs) ((l.take i).map frVr) (by simp;omega)
 by_cases hil:i<l.length
 ·have hcall:=hcall hil
  have hs:(l.take (i+1)).map frVr=(l.take i).map frVr++[frVr (l.getD i default)]:=by rw [aaq hil,abm];rfl
  refine Wk.go fun _ ag=>?_;simp (disch:=first|omega|exact ⟨by kernel_rfl⟩|(simp only [go_sem,aaN];try omega)) only [go_sem,seval,cX ag,wr,hc,Ck hcall];(repeat' first|apply cq.l|refine cE.i fun hc=>?_)<;>try subst ag
  exact Pr.i ⟨i+1,nxS hs (by simp only [go_sem,seval]) (by simp [okW,pt,nA,V.within,V.within.all]) (by omega) (by omega)⟩
 ·obtain rfl:i=l.length:=by omega
  rw [aaY]
  refine Wk.go fun _ ag=>?_;simp (disch:=first|omega|exact ⟨by kernel_rfl⟩|(simp only [go_sem,aaN];try omega)) only [go_sem,seval,cX ag,wr,Ck hd];(repeat' first|apply cq.l|refine cE.i fun hc=>?_)<;>try subst ag
  exact Tu.o (endS rfl ⟨rfl,rfl⟩)
theorem c_Tmg (x:Tmg) {cs:List D} {off:Nat} (h:(cs.drop off).take 2=x.enc):Cw G 1048576 37 [] cs off (frTmg x):=by
 intro A T fs hl
 refine aa.ep1 2 h ?_
 have hd:=fun gs=>aas (G:=G) A T fs gs (by omega)
 refine aa.Co func37 rfl ntmps37 (by simp) fun _ ag=>?_
 simp (disch:=first|omega|exact ⟨by kernel_rfl⟩|(simp only [go_sem,aaN];try omega)) only [go_sem,seval,cX ag,wr,Ck (aag A T fs),Lx (w_str (Tmgg0 x)),Lx (aax (Tmgg1 x)),Ck (hd _)];(repeat' apply cq.l)<;>try subst ag
 exact endS rfl ⟨rfl,rfl⟩
theorem c_clo_Tmg (x:Tmg):Cw G 1048576 36 [] x.enc 0 (frTmg x):=by
 intro A T fs hl
 have h:=c_Tmg (G:=G) x (cs:=x.enc) (off:=0) (Tmgw x) A T fs hl
 refine aa.Co func36 rfl ntmps36 (by simp) fun _ ag=>?_
 simp (disch:=first|omega|exact ⟨by kernel_rfl⟩|(simp only [go_sem,aaN];try omega)) only [go_sem,seval,cX ag,wr,Ck h];(repeat' apply cq.l)<;>try subst ag
 refine endS0 ?_ ?_<;>first|rfl|exact ⟨rfl,rfl⟩
theorem c_list_Tmg (l:List Tmg) (hcode:∀ x∈l,Cw G 1048576 36 [] x.enc 0 (frTmg x)) (hll:l.length≤1048576) {cs:List D} {off:Nat} (hc:cs[off]?=some (.sl (l.map Tmg.enc))):Cw G 2000000 35 [.jE 36 []] cs off (l5 (l.map frTmg)):=by
 intro A T fs hl
 have hi:=aag (G:=G) A T fs
 have hd:=aas (G:=G) A T fs (l.map frTmg) hl
 rw [pt_eq A] at hi hd ⊢
 refine aa.Co func35 rfl ntmps35 (by simp) fun _ ag=>?_
 simp (disch:=first|omega|exact ⟨by kernel_rfl⟩|(simp only [go_sem,aaN];try omega)) only [go_sem,seval,cX ag,wr,Ck hi,hc];(repeat' apply cq.l)<;>try subst ag
 refine AW.zU (fun i:Nat=>[(0,.ptr A.length 0),(1,.ep cs off),(2,.jE 36 []),(6,pt (nA A T fs)),(50,ai ↑l.length),(51,ai ↑i)]) (fun i=>[cB (T.length+1) ((l.take i).map frTmg)]) (fun i=>[cT ((l.take i).map frTmg)])
  (fun i=>i≤l.length) (fun i=>l.length - i) 0 ⟨by simp [cS,nA,nT],by simp only [go_sem,seval]⟩ (by simp) ?_
 intro i hi
 rw [stS]
 have hcall:=fun h:i<l.length=>hcode _ (aB h) (nA A T fs) (nT T fs) ((l.take i).map frTmg) (by simp;omega)
 by_cases hil:i<l.length
 ·have hcall:=hcall hil
  have hs:(l.take (i+1)).map frTmg=(l.take i).map frTmg++[frTmg (l.getD i default)]:=by rw [aaq hil,abm];rfl
  refine Wk.go fun _ ag=>?_;simp (disch:=first|omega|exact ⟨by kernel_rfl⟩|(simp only [go_sem,aaN];try omega)) only [go_sem,seval,cX ag,wr,hc,Ck hcall];(repeat' first|apply cq.l|refine cE.i fun hc=>?_)<;>try subst ag
  exact Pr.i ⟨i+1,nxS hs (by simp only [go_sem,seval]) (by simp [okW,pt,nA,V.within,V.within.all]) (by omega) (by omega)⟩
 ·obtain rfl:i=l.length:=by omega
  rw [aaY]
  refine Wk.go fun _ ag=>?_;simp (disch:=first|omega|exact ⟨by kernel_rfl⟩|(simp only [go_sem,aaN];try omega)) only [go_sem,seval,cX ag,wr,Ck hd];(repeat' first|apply cq.l|refine cE.i fun hc=>?_)<;>try subst ag
  exact Tu.o (endS rfl ⟨rfl,rfl⟩)
theorem c_Otp (x:Otp) {cs:List D} {off:Nat} (h:(cs.drop off).take 3=x.enc):Cw G 1048576 128 [] cs off (frOtp x):=by
 intro A T fs hl
 refine aa.ep1 3 h ?_
 have hd:=fun gs=>aas (G:=G) A T fs gs (by omega)
 refine aa.Co func128 rfl ntmps128 (by simp) fun _ ag=>?_
 simp (disch:=first|omega|exact ⟨by kernel_rfl⟩|(simp only [go_sem,aaN];try omega)) only [go_sem,seval,cX ag,wr,Ck (aag A T fs),Lx (w_str (Otpg0 x)),Lx (w_dig (Otpg1 x)),Lx (aax (Otpg2 x)),Ck (hd _)];(repeat' apply cq.l)<;>try subst ag
 exact endS rfl ⟨rfl,rfl⟩
theorem c_clo_Otp (x:Otp):Cw G 1048576 127 [] x.enc 0 (frOtp x):=by
 intro A T fs hl
 have h:=c_Otp (G:=G) x (cs:=x.enc) (off:=0) (Otpw x) A T fs hl
 refine aa.Co func127 rfl ntmps127 (by simp) fun _ ag=>?_
 simp (disch:=first|omega|exact ⟨by kernel_rfl⟩|(simp only [go_sem,aaN];try omega)) only [go_sem,seval,cX ag,wr,Ck h];(repeat' apply cq.l)<;>try subst ag
 refine endS0 ?_ ?_<;>first|rfl|exact ⟨rfl,rfl⟩
theorem c_list_Otp (l:List Otp) (hcode:∀ x∈l,Cw G 1048576 127 [] x.enc 0 (frOtp x)) (hll:l.length≤1048576) {cs:List D} {off:Nat} (hc:cs[off]?=some (.sl (l.map Otp.enc))):Cw G 2000000 126 [.jE 127 []] cs off (l5 (l.map frOtp)):=by
 intro A T fs hl
 have hi:=aag (G:=G) A T fs
 have hd:=aas (G:=G) A T fs (l.map frOtp) hl
 rw [pt_eq A] at hi hd ⊢
 refine aa.Co func126 rfl ntmps126 (by simp) fun _ ag=>?_
 simp (disch:=first|omega|exact ⟨by kernel_rfl⟩|(simp only [go_sem,aaN];try omega)) only [go_sem,seval,cX ag,wr,Ck hi,hc];(repeat' apply cq.l)<;>try subst ag
 refine AW.zU (fun i:Nat=>[(0,.ptr A.length 0),(1,.ep cs off),(2,.jE 127 []),(6,pt (nA A T fs)),(50,ai ↑l.length),(51,ai ↑i)]) (fun i=>[cB (T.length+1) ((l.take i).map frOtp)]) (fun i=>[cT ((l.take i).map frOtp)])
  (fun i=>i≤l.length) (fun i=>l.length - i) 0 ⟨by simp [cS,nA,nT],by simp only [go_sem,seval]⟩ (by simp) ?_
 intro i hi
 rw [stS]
 have hcall:=fun h:i<l.length=>hcode _ (aB h) (nA A T fs) (nT T fs) ((l.take i).map frOtp) (by simp;omega)
 by_cases hil:i<l.length
 ·have hcall:=hcall hil
  have hs:(l.take (i+1)).map frOtp=(l.take i).map frOtp++[frOtp (l.getD i default)]:=by rw [aaq hil,abm];rfl
  refine Wk.go fun _ ag=>?_;simp (disch:=first|omega|exact ⟨by kernel_rfl⟩|(simp only [go_sem,aaN];try omega)) only [go_sem,seval,cX ag,wr,hc,Ck hcall];(repeat' first|apply cq.l|refine cE.i fun hc=>?_)<;>try subst ag
  exact Pr.i ⟨i+1,nxS hs (by simp only [go_sem,seval]) (by simp [okW,pt,nA,V.within,V.within.all]) (by omega) (by omega)⟩
 ·obtain rfl:i=l.length:=by omega
  rw [aaY]
  refine Wk.go fun _ ag=>?_;simp (disch:=first|omega|exact ⟨by kernel_rfl⟩|(simp only [go_sem,aaN];try omega)) only [go_sem,seval,cX ag,wr,Ck hd];(repeat' first|apply cq.l|refine cE.i fun hc=>?_)<;>try subst ag
  exact Tu.o (endS rfl ⟨rfl,rfl⟩)
theorem c_Tsr (x:Tsr) {cs:List D} {off:Nat} (h:(cs.drop off).take 3=x.enc):Cw G 1048576 101 [] cs off (frTsr x):=by
 intro A T fs hl
 refine aa.ep1 3 h ?_
 have hd:=fun gs=>aas (G:=G) A T fs gs (by omega)
 refine aa.Co func101 rfl ntmps101 (by simp) fun _ ag=>?_
 simp (disch:=first|omega|exact ⟨by kernel_rfl⟩|(simp only [go_sem,aaN];try omega)) only [go_sem,seval,cX ag,wr,Ck (aag A T fs),Lx (w_str (Tsrg0 x)),Lx (aax (Tsrg1 x)),Lx (aax (Tsrg2 x)),Ck (hd _)];(repeat' apply cq.l)<;>try subst ag
 exact endS rfl ⟨rfl,rfl⟩
theorem c_clo_Tsr (x:Tsr):Cw G 1048576 100 [] x.enc 0 (frTsr x):=by
 intro A T fs hl
 have h:=c_Tsr (G:=G) x (cs:=x.enc) (off:=0) (Tsrw x) A T fs hl
 refine aa.Co func100 rfl ntmps100 (by simp) fun _ ag=>?_
 simp (disch:=first|omega|exact ⟨by kernel_rfl⟩|(simp only [go_sem,aaN];try omega)) only [go_sem,seval,cX ag,wr,Ck h];(repeat' apply cq.l)<;>try subst ag
 refine endS0 ?_ ?_<;>first|rfl|exact ⟨rfl,rfl⟩
theorem c_list_Tsr (l:List Tsr) (hcode:∀ x∈l,Cw G 1048576 100 [] x.enc 0 (frTsr x)) (hll:l.length≤1048576) {cs:List D} {off:Nat} (hc:cs[off]?=some (.sl (l.map Tsr.enc))):Cw G 2000000 99 [.jE 100 []] cs off (l5 (l.map frTsr)):=by
 intro A T fs hl
 have hi:=aag (G:=G) A T fs
 have hd:=aas (G:=G) A T fs (l.map frTsr) hl
 rw [pt_eq A] at hi hd ⊢
 refine aa.Co func99 rfl ntmps99 (by simp) fun _ ag=>?_
 simp (disch:=first|omega|exact ⟨by kernel_rfl⟩|(simp only [go_sem,aaN];try omega)) only [go_sem,seval,cX ag,wr,Ck hi,hc];(repeat' apply cq.l)<;>try subst ag
 refine AW.zU (fun i:Nat=>[(0,.ptr A.length 0),(1,.ep cs off),(2,.jE 100 []),(6,pt (nA A T fs)),(50,ai ↑l.length),(51,ai ↑i)]) (fun i=>[cB (T.length+1) ((l.take i).map frTsr)]) (fun i=>[cT ((l.take i).map frTsr)])
  (fun i=>i≤l.length) (fun i=>l.length - i) 0 ⟨by simp [cS,nA,nT],by simp only [go_sem,seval]⟩ (by simp) ?_
 intro i hi
 rw [stS]
 have hcall:=fun h:i<l.length=>hcode _ (aB h) (nA A T fs) (nT T fs) ((l.take i).map frTsr) (by simp;omega)
 by_cases hil:i<l.length
 ·have hcall:=hcall hil
  have hs:(l.take (i+1)).map frTsr=(l.take i).map frTsr++[frTsr (l.getD i default)]:=by rw [aaq hil,abm];rfl
  refine Wk.go fun _ ag=>?_;simp (disch:=first|omega|exact ⟨by kernel_rfl⟩|(simp only [go_sem,aaN];try omega)) only [go_sem,seval,cX ag,wr,hc,Ck hcall];(repeat' first|apply cq.l|refine cE.i fun hc=>?_)<;>try subst ag
  exact Pr.i ⟨i+1,nxS hs (by simp only [go_sem,seval]) (by simp [okW,pt,nA,V.within,V.within.all]) (by omega) (by omega)⟩
 ·obtain rfl:i=l.length:=by omega
  rw [aaY]
  refine Wk.go fun _ ag=>?_;simp (disch:=first|omega|exact ⟨by kernel_rfl⟩|(simp only [go_sem,aaN];try omega)) only [go_sem,seval,cX ag,wr,Ck hd];(repeat' first|apply cq.l|refine cE.i fun hc=>?_)<;>try subst ag
  exact Tu.o (endS rfl ⟨rfl,rfl⟩)
theorem c_outs (l:List Otp) (hll:l.length≤1048576) {cs:List D} {off:Nat} (hc:cs[off]?=some (.sl (l.map Otp.enc))):Cw G 2000000 98 [] cs off (l5 (l.map frOtp)):=by
 intro A T fs hl
 have h:=c_list_Otp (G:=G) l (fun x hx=>c_clo_Otp x) hll hc A T fs hl
 refine aa.Co func98 rfl ntmps98 (by simp) fun _ ag=>?_
 simp (disch:=first|omega|exact ⟨by kernel_rfl⟩|(simp only [go_sem,aaN];try omega)) only [go_sem,seval,cX ag,wr,Ck h];(repeat' apply cq.l)<;>try subst ag
 refine endS0 ?_ ?_<;>first|rfl|exact ⟨rfl,rfl⟩
theorem c_Org (x:Org) {cs:List D} {off:Nat} (h:(cs.drop off).take 3=x.enc):Cw G 1048576 33 [] cs off (frOrg x):=by
 intro A T fs hl
 refine aa.ep1 3 h ?_
 have hd:=fun gs=>aas (G:=G) A T fs gs (by omega)
 refine aa.Co func33 rfl ntmps33 (by simp) fun _ ag=>?_
 simp (disch:=first|omega|exact ⟨by kernel_rfl⟩|(simp only [go_sem,aaN];try omega)) only [go_sem,seval,cX ag,wr,Ck (aag A T fs),Lx (w_str (Orgg0 x)),Lx (w_str (Orgg1 x)),Lx (w_flag (Orgg2 x)),Ck (hd _)];(repeat' apply cq.l)<;>try subst ag
 exact endS rfl ⟨rfl,rfl⟩
theorem c_Rsl (x:Rsl) (g:gRsl x) {cs:List D} {off:Nat} (h:(cs.drop off).take 6=x.enc):Cw G 1048576 68 [] cs off (frRsl x):=by
 intro A T fs hl
 refine aa.ep1 6 h ?_
 have hd:=fun gs=>aas (G:=G) A T fs gs (by omega)
 refine aa.Co func68 rfl ntmps68 (by simp) fun _ ag=>?_
 simp (disch:=first|omega|exact ⟨by kernel_rfl⟩|(simp only [go_sem,aaN];try omega)) only [go_sem,seval,cX ag,wr,Ck (aag A T fs),Lx (aax (Rslg0 x)),Lx (aax (Rslg1 x)),Lx (c_outs x.aaF g.aaF.1 (Rslg2 x)),Lx (c_outs x.aak g.aak.1 (Rslg3 x)),Lx (c_list_Tsr x.tests (fun y hy=>c_clo_Tsr y) g.tests.1 (Rslg4 x)),Lx (w_str (Rslg5 x)),Ck (hd _)];(repeat' apply cq.l)<;>try subst ag
 exact endS rfl ⟨rfl,rfl⟩
theorem c_Stp (x:Stp) {cs:List D} {off:Nat} (h:(cs.drop off).take 4=x.enc):Cw G 1048576 92 [] cs off (frStp x):=by
 intro A T fs hl
 refine aa.ep1 4 h ?_
 have hd:=fun gs=>aas (G:=G) A T fs gs (by omega)
 refine aa.Co func92 rfl ntmps92 (by simp) fun _ ag=>?_
 simp (disch:=first|omega|exact ⟨by kernel_rfl⟩|(simp only [go_sem,aaN];try omega)) only [go_sem,seval,cX ag,wr,Ck (aag A T fs),Lx (aax (Stpg0 x)),Lx (w_str (Stpg1 x)),Lx (w_str (Stpg2 x)),Lx (aax (Stpg3 x)),Ck (hd _)];(repeat' apply cq.l)<;>try subst ag
 exact endS rfl ⟨rfl,rfl⟩
theorem c_clo_Stp (x:Stp):Cw G 1048576 91 [] x.enc 0 (frStp x):=by
 intro A T fs hl
 have h:=c_Stp (G:=G) x (cs:=x.enc) (off:=0) (Stpw x) A T fs hl
 refine aa.Co func91 rfl ntmps91 (by simp) fun _ ag=>?_
 simp (disch:=first|omega|exact ⟨by kernel_rfl⟩|(simp only [go_sem,aaN];try omega)) only [go_sem,seval,cX ag,wr,Ck h];(repeat' apply cq.l)<;>try subst ag
 refine endS0 ?_ ?_<;>first|rfl|exact ⟨rfl,rfl⟩
theorem c_list_Stp (l:List Stp) (hcode:∀ x∈l,Cw G 1048576 91 [] x.enc 0 (frStp x)) (hll:l.length≤1048576) {cs:List D} {off:Nat} (hc:cs[off]?=some (.sl (l.map Stp.enc))):Cw G 2000000 90 [.jE 91 []] cs off (l5 (l.map frStp)):=by
 intro A T fs hl
 have hi:=aag (G:=G) A T fs
 have hd:=aas (G:=G) A T fs (l.map frStp) hl
 rw [pt_eq A] at hi hd ⊢
 refine aa.Co func90 rfl ntmps90 (by simp) fun _ ag=>?_
 simp (disch:=first|omega|exact ⟨by kernel_rfl⟩|(simp only [go_sem,aaN];try omega)) only [go_sem,seval,cX ag,wr,Ck hi,hc];(repeat' apply cq.l)<;>try subst ag
 refine AW.zU (fun i:Nat=>[(0,.ptr A.length 0),(1,.ep cs off),(2,.jE 91 []),(6,pt (nA A T fs)),(50,ai ↑l.length),(51,ai ↑i)]) (fun i=>[cB (T.length+1) ((l.take i).map frStp)]) (fun i=>[cT ((l.take i).map frStp)])
  (fun i=>i≤l.length) (fun i=>l.length - i) 0 ⟨by simp [cS,nA,nT],by simp only [go_sem,seval]⟩ (by simp) ?_
 intro i hi
 rw [stS]
 have hcall:=fun h:i<l.length=>hcode _ (aB h) (nA A T fs) (nT T fs) ((l.take i).map frStp) (by simp;omega)
 by_cases hil:i<l.length
 ·have hcall:=hcall hil
  have hs:(l.take (i+1)).map frStp=(l.take i).map frStp++[frStp (l.getD i default)]:=by rw [aaq hil,abm];rfl
  refine Wk.go fun _ ag=>?_;simp (disch:=first|omega|exact ⟨by kernel_rfl⟩|(simp only [go_sem,aaN];try omega)) only [go_sem,seval,cX ag,wr,hc,Ck hcall];(repeat' first|apply cq.l|refine cE.i fun hc=>?_)<;>try subst ag
  exact Pr.i ⟨i+1,nxS hs (by simp only [go_sem,seval]) (by simp [okW,pt,nA,V.within,V.within.all]) (by omega) (by omega)⟩
 ·obtain rfl:i=l.length:=by omega
  rw [aaY]
  refine Wk.go fun _ ag=>?_;simp (disch:=first|omega|exact ⟨by kernel_rfl⟩|(simp only [go_sem,aaN];try omega)) only [go_sem,seval,cX ag,wr,Ck hd];(repeat' first|apply cq.l|refine cE.i fun hc=>?_)<;>try subst ag
  exact Tu.o (endS rfl ⟨rfl,rfl⟩)
theorem c_Rty (x:Rty) (g:gRty x) {cs:List D} {off:Nat} (h:(cs.drop off).take 4=x.enc):Cw G 1048576 93 [] cs off (frRty x):=by
 intro A T fs hl
 refine aa.ep1 4 h ?_
 have hd:=fun gs=>aas (G:=G) A T fs gs (by omega)
 refine aa.Co func93 rfl ntmps93 (by simp) fun _ ag=>?_
 simp (disch:=first|omega|exact ⟨by kernel_rfl⟩|(simp only [go_sem,aaN];try omega)) only [go_sem,seval,cX ag,wr,Ck (aag A T fs),Lx (aax (Rtyg0 x)),Lx (c_ints x.classes g.classes.1 (Rtyg1 x)),Lx (aax (Rtyg2 x)),Lx (aax (Rtyg3 x)),Ck (hd _)];(repeat' apply cq.l)<;>try subst ag
 exact endS rfl ⟨rfl,rfl⟩
theorem c_Csh (x:Csh) (g:gCsh x) {cs:List D} {off:Nat} (h:(cs.drop off).take 3=x.enc):Cw G 1048576 96 [] cs off (frCsh x):=by
 intro A T fs hl
 refine aa.ep1 3 h ?_
 have hd:=fun gs=>aas (G:=G) A T fs gs (by omega)
 refine aa.Co func96 rfl ntmps96 (by simp) fun _ ag=>?_
 simp (disch:=first|omega|exact ⟨by kernel_rfl⟩|(simp only [go_sem,aaN];try omega)) only [go_sem,seval,cX ag,wr,Ck (aag A T fs),Lx (w_str (Cshg0 x)),Lx (c_strs x.restore g.restore.1 (Cshg1 x)),Lx (c_strs x.files g.files.1 (Cshg2 x)),Ck (hd _)];(repeat' apply cq.l)<;>try subst ag
 exact endS rfl ⟨rfl,rfl⟩
theorem c_clo_Csh (x:Csh) (g:gCsh x):Cw G 1048576 95 [] x.enc 0 (frCsh x):=by
 intro A T fs hl
 have h:=c_Csh (G:=G) x g (cs:=x.enc) (off:=0) (Cshw x) A T fs hl
 refine aa.Co func95 rfl ntmps95 (by simp) fun _ ag=>?_
 simp (disch:=first|omega|exact ⟨by kernel_rfl⟩|(simp only [go_sem,aaN];try omega)) only [go_sem,seval,cX ag,wr,Ck h];(repeat' apply cq.l)<;>try subst ag
 refine endS0 ?_ ?_<;>first|rfl|exact ⟨rfl,rfl⟩
theorem c_list_Csh (l:List Csh) (hcode:∀ x∈l,Cw G 1048576 95 [] x.enc 0 (frCsh x)) (hll:l.length≤1048576) {cs:List D} {off:Nat} (hc:cs[off]?=some (.sl (l.map Csh.enc))):Cw G 2000000 94 [.jE 95 []] cs off (l5 (l.map frCsh)):=by
 intro A T fs hl
 have hi:=aag (G:=G) A T fs
 have hd:=aas (G:=G) A T fs (l.map frCsh) hl
 rw [pt_eq A] at hi hd ⊢
 refine aa.Co func94 rfl ntmps94 (by simp) fun _ ag=>?_
 simp (disch:=first|omega|exact ⟨by kernel_rfl⟩|(simp only [go_sem,aaN];try omega)) only [go_sem,seval,cX ag,wr,Ck hi,hc];(repeat' apply cq.l)<;>try subst ag
 refine AW.zU (fun i:Nat=>[(0,.ptr A.length 0),(1,.ep cs off),(2,.jE 95 []),(6,pt (nA A T fs)),(50,ai ↑l.length),(51,ai ↑i)]) (fun i=>[cB (T.length+1) ((l.take i).map frCsh)]) (fun i=>[cT ((l.take i).map frCsh)])
  (fun i=>i≤l.length) (fun i=>l.length - i) 0 ⟨by simp [cS,nA,nT],by simp only [go_sem,seval]⟩ (by simp) ?_
 intro i hi
 rw [stS]
 have hcall:=fun h:i<l.length=>hcode _ (aB h) (nA A T fs) (nT T fs) ((l.take i).map frCsh) (by simp;omega)
 by_cases hil:i<l.length
 ·have hcall:=hcall hil
  have hs:(l.take (i+1)).map frCsh=(l.take i).map frCsh++[frCsh (l.getD i default)]:=by rw [aaq hil,abm];rfl
  refine Wk.go fun _ ag=>?_;simp (disch:=first|omega|exact ⟨by kernel_rfl⟩|(simp only [go_sem,aaN];try omega)) only [go_sem,seval,cX ag,wr,hc,Ck hcall];(repeat' first|apply cq.l|refine cE.i fun hc=>?_)<;>try subst ag
  exact Pr.i ⟨i+1,nxS hs (by simp only [go_sem,seval]) (by simp [okW,pt,nA,V.within,V.within.all]) (by omega) (by omega)⟩
 ·obtain rfl:i=l.length:=by omega
  rw [aaY]
  refine Wk.go fun _ ag=>?_;simp (disch:=first|omega|exact ⟨by kernel_rfl⟩|(simp only [go_sem,aaN];try omega)) only [go_sem,seval,cX ag,wr,Ck hd];(repeat' first|apply cq.l|refine cE.i fun hc=>?_)<;>try subst ag
  exact Tu.o (endS rfl ⟨rfl,rfl⟩)
theorem c_Gsp (x:Gsp) (g:gGsp x) {cs:List D} {off:Nat} (h:(cs.drop off).take 3=x.enc):Cw G 1048576 97 [] cs off (frGsp x):=by
 intro A T fs hl
 refine aa.ep1 3 h ?_
 have hd:=fun gs=>aas (G:=G) A T fs gs (by omega)
 refine aa.Co func97 rfl ntmps97 (by simp) fun _ ag=>?_
 simp (disch:=first|omega|exact ⟨by kernel_rfl⟩|(simp only [go_sem,aaN];try omega)) only [go_sem,seval,cX ag,wr,Ck (aag A T fs),Lx (aax (Gspg0 x)),Lx (c_strs x.aaj g.aaj.1 (Gspg1 x)),Lx (aax (Gspg2 x)),Ck (hd _)];(repeat' apply cq.l)<;>try subst ag
 exact endS rfl ⟨rfl,rfl⟩
theorem c_Jb (x:Jb) (g:gJb x) {cs:List D} {off:Nat} (h:(cs.drop off).take 39=x.enc):Cw G 1048576 63 [] cs off (frJb x):=by
 intro A T fs hl
 refine aa.ep1 39 h ?_
 have hd:=fun gs=>aas (G:=G) A T fs gs (by omega)
 refine aa.Co func63 rfl ntmps63 (by simp) fun _ ag=>?_
 simp (disch:=first|omega|exact ⟨by kernel_rfl⟩|(simp only [go_sem,aaN];try omega)) only [go_sem,seval,cX ag,wr,Ck (aag A T fs),Lx (w_str (Jbg0 x)),Lx (c_strs x.aae g.aae.1 (Jbg1 x)),Lx (c_Ex x.when g.when.1 (Jbs2_10 x)),Lx (c_list_Vr x.vars (fun y hy=>c_clo_Vr y (g.vars.2 y hy)) g.vars.1 (Jbg12 x)),Lx (c_list_Stp x.steps (fun y hy=>c_clo_Stp y) g.steps.1 (Jbg13 x)),Lx (c_strs x.labels g.labels.1 (Jbg14 x)),Lx (w_str (Jbg15 x)),Lx (aax (Jbg16 x)),Lx (aax (Jbg17 x)),Lx (aax (Jbg18 x)),Lx (aax (Jbg19 x)),Lx (c_Rty x.retry g.retry (Jbs20_4 x)),Lx (c_strs x.aaF g.aaF.1 (Jbg24 x)),Lx (c_strs x.uses g.uses.1 (Jbg25 x)),Lx (c_strs x.aak g.aak.1 (Jbg26 x)),Lx (c_list_Csh x.caches (fun y hy=>c_clo_Csh y (g.caches.2 y hy)) g.caches.1 (Jbg27 x)),Lx (c_strs x.secrets g.secrets.1 (Jbg28 x)),Lx (w_str (Jbg29 x)),Lx (w_flag (Jbg30 x)),Lx (c_Gsp x.gate g.gate (Jbs31_3 x)),Lx (c_strs x.tests g.tests.1 (Jbg34 x)),Lx (aax (Jbg35 x)),Lx (aax (Jbg36 x)),Lx (w_flag (Jbg37 x)),Lx (w_flag (Jbg38 x)),Ck (hd _)];(repeat' apply cq.l)<;>try subst ag
 exact endS rfl ⟨rfl,rfl⟩
theorem c_clo_Jb (x:Jb) (g:gJb x):Cw G 1048576 62 [] x.enc 0 (frJb x):=by
 intro A T fs hl
 have h:=c_Jb (G:=G) x g (cs:=x.enc) (off:=0) (Jbw x) A T fs hl
 refine aa.Co func62 rfl ntmps62 (by simp) fun _ ag=>?_
 simp (disch:=first|omega|exact ⟨by kernel_rfl⟩|(simp only [go_sem,aaN];try omega)) only [go_sem,seval,cX ag,wr,Ck h];(repeat' apply cq.l)<;>try subst ag
 refine endS0 ?_ ?_<;>first|rfl|exact ⟨rfl,rfl⟩
theorem c_list_Jb (l:List Jb) (hcode:∀ x∈l,Cw G 1048576 62 [] x.enc 0 (frJb x)) (hll:l.length≤1048576) {cs:List D} {off:Nat} (hc:cs[off]?=some (.sl (l.map Jb.enc))):Cw G 2000000 61 [.jE 62 []] cs off (l5 (l.map frJb)):=by
 intro A T fs hl
 have hi:=aag (G:=G) A T fs
 have hd:=aas (G:=G) A T fs (l.map frJb) hl
 rw [pt_eq A] at hi hd ⊢
 refine aa.Co func61 rfl ntmps61 (by simp) fun _ ag=>?_
 simp (disch:=first|omega|exact ⟨by kernel_rfl⟩|(simp only [go_sem,aaN];try omega)) only [go_sem,seval,cX ag,wr,Ck hi,hc];(repeat' apply cq.l)<;>try subst ag
 refine AW.zU (fun i:Nat=>[(0,.ptr A.length 0),(1,.ep cs off),(2,.jE 62 []),(6,pt (nA A T fs)),(50,ai ↑l.length),(51,ai ↑i)]) (fun i=>[cB (T.length+1) ((l.take i).map frJb)]) (fun i=>[cT ((l.take i).map frJb)])
  (fun i=>i≤l.length) (fun i=>l.length - i) 0 ⟨by simp [cS,nA,nT],by simp only [go_sem,seval]⟩ (by simp) ?_
 intro i hi
 rw [stS]
 have hcall:=fun h:i<l.length=>hcode _ (aB h) (nA A T fs) (nT T fs) ((l.take i).map frJb) (by simp;omega)
 by_cases hil:i<l.length
 ·have hcall:=hcall hil
  have hs:(l.take (i+1)).map frJb=(l.take i).map frJb++[frJb (l.getD i default)]:=by rw [aaq hil,abm];rfl
  refine Wk.go fun _ ag=>?_;simp (disch:=first|omega|exact ⟨by kernel_rfl⟩|(simp only [go_sem,aaN];try omega)) only [go_sem,seval,cX ag,wr,hc,Ck hcall];(repeat' first|apply cq.l|refine cE.i fun hc=>?_)<;>try subst ag
  exact Pr.i ⟨i+1,nxS hs (by simp only [go_sem,seval]) (by simp [okW,pt,nA,V.within,V.within.all]) (by omega) (by omega)⟩
 ·obtain rfl:i=l.length:=by omega
  rw [aaY]
  refine Wk.go fun _ ag=>?_;simp (disch:=first|omega|exact ⟨by kernel_rfl⟩|(simp only [go_sem,aaN];try omega)) only [go_sem,seval,cX ag,wr,Ck hd];(repeat' first|apply cq.l|refine cE.i fun hc=>?_)<;>try subst ag
  exact Tu.o (endS rfl ⟨rfl,rfl⟩)
theorem c_Pln (x:Pln) (g:gPln x) {cs:List D} {off:Nat} (h:(cs.drop off).take 2=x.enc):Cw G 1048576 34 [] cs off (frPln x):=by
 intro A T fs hl
 refine aa.ep1 2 h ?_
 have hd:=fun gs=>aas (G:=G) A T fs gs (by omega)
 refine aa.Co func34 rfl ntmps34 (by simp) fun _ ag=>?_
 simp (disch:=first|omega|exact ⟨by kernel_rfl⟩|(simp only [go_sem,aaN];try omega)) only [go_sem,seval,cX ag,wr,Ck (aag A T fs),Lx (w_str (Plng0 x)),Lx (c_list_Jb x.jobs (fun y hy=>c_clo_Jb y (g.jobs.2 y hy)) g.jobs.1 (Plng1 x)),Ck (hd _)];(repeat' apply cq.l)<;>try subst ag
 exact endS rfl ⟨rfl,rfl⟩
theorem c_Atm (x:Atm) {cs:List D} {off:Nat} (h:(cs.drop off).take 7=x.enc):Cw G 1048576 66 [] cs off (frAtm x):=by
 intro A T fs hl
 refine aa.ep1 7 h ?_
 have hd:=fun gs=>aas (G:=G) A T fs gs (by omega)
 refine aa.Co func66 rfl ntmps66 (by simp) fun _ ag=>?_
 simp (disch:=first|omega|exact ⟨by kernel_rfl⟩|(simp only [go_sem,aaN];try omega)) only [go_sem,seval,cX ag,wr,Ck (aag A T fs),Lx (aax (Atmg0 x)),Lx (aax (Atmg1 x)),Lx (w_str (Atmg2 x)),Lx (aax (Atmg3 x)),Lx (aax (Atmg4 x)),Lx (aax (Atmg5 x)),Lx (aax (Atmg6 x)),Ck (hd _)];(repeat' apply cq.l)<;>try subst ag
 exact endS rfl ⟨rfl,rfl⟩
theorem c_clo_Atm (x:Atm):Cw G 1048576 65 [] x.enc 0 (frAtm x):=by
 intro A T fs hl
 have h:=c_Atm (G:=G) x (cs:=x.enc) (off:=0) (Atmw x) A T fs hl
 refine aa.Co func65 rfl ntmps65 (by simp) fun _ ag=>?_
 simp (disch:=first|omega|exact ⟨by kernel_rfl⟩|(simp only [go_sem,aaN];try omega)) only [go_sem,seval,cX ag,wr,Ck h];(repeat' apply cq.l)<;>try subst ag
 refine endS0 ?_ ?_<;>first|rfl|exact ⟨rfl,rfl⟩
theorem c_list_Atm (l:List Atm) (hcode:∀ x∈l,Cw G 1048576 65 [] x.enc 0 (frAtm x)) (hll:l.length≤1048576) {cs:List D} {off:Nat} (hc:cs[off]?=some (.sl (l.map Atm.enc))):Cw G 2000000 64 [.jE 65 []] cs off (l5 (l.map frAtm)):=by
 intro A T fs hl
 have hi:=aag (G:=G) A T fs
 have hd:=aas (G:=G) A T fs (l.map frAtm) hl
 rw [pt_eq A] at hi hd ⊢
 refine aa.Co func64 rfl ntmps64 (by simp) fun _ ag=>?_
 simp (disch:=first|omega|exact ⟨by kernel_rfl⟩|(simp only [go_sem,aaN];try omega)) only [go_sem,seval,cX ag,wr,Ck hi,hc];(repeat' apply cq.l)<;>try subst ag
 refine AW.zU (fun i:Nat=>[(0,.ptr A.length 0),(1,.ep cs off),(2,.jE 65 []),(6,pt (nA A T fs)),(50,ai ↑l.length),(51,ai ↑i)]) (fun i=>[cB (T.length+1) ((l.take i).map frAtm)]) (fun i=>[cT ((l.take i).map frAtm)])
  (fun i=>i≤l.length) (fun i=>l.length - i) 0 ⟨by simp [cS,nA,nT],by simp only [go_sem,seval]⟩ (by simp) ?_
 intro i hi
 rw [stS]
 have hcall:=fun h:i<l.length=>hcode _ (aB h) (nA A T fs) (nT T fs) ((l.take i).map frAtm) (by simp;omega)
 by_cases hil:i<l.length
 ·have hcall:=hcall hil
  have hs:(l.take (i+1)).map frAtm=(l.take i).map frAtm++[frAtm (l.getD i default)]:=by rw [aaq hil,abm];rfl
  refine Wk.go fun _ ag=>?_;simp (disch:=first|omega|exact ⟨by kernel_rfl⟩|(simp only [go_sem,aaN];try omega)) only [go_sem,seval,cX ag,wr,hc,Ck hcall];(repeat' first|apply cq.l|refine cE.i fun hc=>?_)<;>try subst ag
  exact Pr.i ⟨i+1,nxS hs (by simp only [go_sem,seval]) (by simp [okW,pt,nA,V.within,V.within.all]) (by omega) (by omega)⟩
 ·obtain rfl:i=l.length:=by omega
  rw [aaY]
  refine Wk.go fun _ ag=>?_;simp (disch:=first|omega|exact ⟨by kernel_rfl⟩|(simp only [go_sem,aaN];try omega)) only [go_sem,seval,cX ag,wr,Ck hd];(repeat' first|apply cq.l|refine cE.i fun hc=>?_)<;>try subst ag
  exact Tu.o (endS rfl ⟨rfl,rfl⟩)
theorem c_Gte (x:Gte) (g:gGte x) {cs:List D} {off:Nat} (h:(cs.drop off).take 6=x.enc):Cw G 1048576 67 [] cs off (frGte x):=by
 intro A T fs hl
 refine aa.ep1 6 h ?_
 have hd:=fun gs=>aas (G:=G) A T fs gs (by omega)
 refine aa.Co func67 rfl ntmps67 (by simp) fun _ ag=>?_
 simp (disch:=first|omega|exact ⟨by kernel_rfl⟩|(simp only [go_sem,aaN];try omega)) only [go_sem,seval,cX ag,wr,Ck (aag A T fs),Lx (c_Gsp x.spec g.spec (Gtes0_3 x)),Lx (aax (Gteg3 x)),Lx (c_strs x.yes g.yes.1 (Gteg4 x)),Lx (aax (Gteg5 x)),Ck (hd _)];(repeat' apply cq.l)<;>try subst ag
 exact endS rfl ⟨rfl,rfl⟩
theorem c_Jst (x:Jst) (g:gJst x) {cs:List D} {off:Nat} (h:(cs.drop off).take 16=x.enc):Cw G 1048576 40 [] cs off (frJst x):=by
 intro A T fs hl
 refine aa.ep1 16 h ?_
 have hd:=fun gs=>aas (G:=G) A T fs gs (by omega)
 refine aa.Co func40 rfl ntmps40 (by simp) fun _ ag=>?_
 simp (disch:=first|omega|exact ⟨by kernel_rfl⟩|(simp only [go_sem,aaN];try omega)) only [go_sem,seval,cX ag,wr,Ck (aag A T fs),Lx (w_str (Jstg0 x)),Lx (aax (Jstg1 x)),Lx (aax (Jstg2 x)),Lx (c_list_Atm x.attempts (fun y hy=>c_clo_Atm y) g.attempts.1 (Jstg3 x)),Lx (c_Gte x.gate g.gate (Jsts4_6 x)),Lx (c_Rsl x.result g.result (Jsts10_6 x)),Ck (hd _)];(repeat' apply cq.l)<;>try subst ag
 exact endS rfl ⟨rfl,rfl⟩
theorem c_clo_Jst (x:Jst) (g:gJst x):Cw G 1048576 39 [] x.enc 0 (frJst x):=by
 intro A T fs hl
 have h:=c_Jst (G:=G) x g (cs:=x.enc) (off:=0) (Jstw x) A T fs hl
 refine aa.Co func39 rfl ntmps39 (by simp) fun _ ag=>?_
 simp (disch:=first|omega|exact ⟨by kernel_rfl⟩|(simp only [go_sem,aaN];try omega)) only [go_sem,seval,cX ag,wr,Ck h];(repeat' apply cq.l)<;>try subst ag
 refine endS0 ?_ ?_<;>first|rfl|exact ⟨rfl,rfl⟩
theorem c_list_Jst (l:List Jst) (hcode:∀ x∈l,Cw G 1048576 39 [] x.enc 0 (frJst x)) (hll:l.length≤1048576) {cs:List D} {off:Nat} (hc:cs[off]?=some (.sl (l.map Jst.enc))):Cw G 2000000 38 [.jE 39 []] cs off (l5 (l.map frJst)):=by
 intro A T fs hl
 have hi:=aag (G:=G) A T fs
 have hd:=aas (G:=G) A T fs (l.map frJst) hl
 rw [pt_eq A] at hi hd ⊢
 refine aa.Co func38 rfl ntmps38 (by simp) fun _ ag=>?_
 simp (disch:=first|omega|exact ⟨by kernel_rfl⟩|(simp only [go_sem,aaN];try omega)) only [go_sem,seval,cX ag,wr,Ck hi,hc];(repeat' apply cq.l)<;>try subst ag
 refine AW.zU (fun i:Nat=>[(0,.ptr A.length 0),(1,.ep cs off),(2,.jE 39 []),(6,pt (nA A T fs)),(50,ai ↑l.length),(51,ai ↑i)]) (fun i=>[cB (T.length+1) ((l.take i).map frJst)]) (fun i=>[cT ((l.take i).map frJst)])
  (fun i=>i≤l.length) (fun i=>l.length - i) 0 ⟨by simp [cS,nA,nT],by simp only [go_sem,seval]⟩ (by simp) ?_
 intro i hi
 rw [stS]
 have hcall:=fun h:i<l.length=>hcode _ (aB h) (nA A T fs) (nT T fs) ((l.take i).map frJst) (by simp;omega)
 by_cases hil:i<l.length
 ·have hcall:=hcall hil
  have hs:(l.take (i+1)).map frJst=(l.take i).map frJst++[frJst (l.getD i default)]:=by rw [aaq hil,abm];rfl
  refine Wk.go fun _ ag=>?_;simp (disch:=first|omega|exact ⟨by kernel_rfl⟩|(simp only [go_sem,aaN];try omega)) only [go_sem,seval,cX ag,wr,hc,Ck hcall];(repeat' first|apply cq.l|refine cE.i fun hc=>?_)<;>try subst ag
  exact Pr.i ⟨i+1,nxS hs (by simp only [go_sem,seval]) (by simp [okW,pt,nA,V.within,V.within.all]) (by omega) (by omega)⟩
 ·obtain rfl:i=l.length:=by omega
  rw [aaY]
  refine Wk.go fun _ ag=>?_;simp (disch:=first|omega|exact ⟨by kernel_rfl⟩|(simp only [go_sem,aaN];try omega)) only [go_sem,seval,cX ag,wr,Ck hd];(repeat' first|apply cq.l|refine cE.i fun hc=>?_)<;>try subst ag
  exact Tu.o (endS rfl ⟨rfl,rfl⟩)
theorem c_Rn (x:Rn) (g:gRn x) {cs:List D} {off:Nat} (h:(cs.drop off).take 12=x.enc):Cw G 1048576 21 [] cs off (aan x):=by
 intro A T fs hl
 refine aa.ep1 12 h ?_
 have hd:=fun gs=>aas (G:=G) A T fs gs (by omega)
 refine aa.Co func21 rfl ntmps21 (by simp) fun _ ag=>?_
 simp (disch:=first|omega|exact ⟨by kernel_rfl⟩|(simp only [go_sem,aaN];try omega)) only [go_sem,seval,cX ag,wr,Ck (aag A T fs),Lx (w_str (Rng0 x)),Lx (aax (Rng1 x)),Lx (c_Org x.origin (Rns2_3 x)),Lx (aax (Rng5 x)),Lx (aax (Rng6 x)),Lx (c_Pln x.plan g.plan (Rns7_2 x)),Lx (c_list_Tmg x.times (fun y hy=>c_clo_Tmg y) g.times.1 (Rng9 x)),Lx (aax (Rng10 x)),Lx (c_list_Jst x.jobs (fun y hy=>c_clo_Jst y (g.jobs.2 y hy)) g.jobs.1 (Rng11 x)),Ck (hd _)];(repeat' apply cq.l)<;>try subst ag
 exact endS rfl ⟨rfl,rfl⟩
theorem c_form (r:Rn) (g:gRn r):b8 G 13 [vRn r] (vFld (aan r)):=by
 intro st
 refine aa.body func13 rfl ntmps13 (by simp) ?_
 refine AW.aal fun K hK=>?_
 refine Wk.go fun _ ag=>?_;simp (disch:=first|omega|exact ⟨by kernel_rfl⟩|(simp only [go_sem,aaN];try omega)) only [go_sem,seval,cX ag];(repeat' apply cq.l)<;>try subst ag
 refine Pr.i (hK _ _ ?_)
 refine AW.shut (M:=[]) (L:=[.cells [ai 0,ai 0,.d (.str []),.bh]]) (ds:=r.enc) (K:=st.toks) (st':=⟨st.aj++[.cells [ai 0,ai 0,.d (.str []),.bh]],st.toks⟩) [(1,.ep r.enc 0),(2,.ptr st.aj.length 0)] (by simp) (by simp) (aaP _) (by simp [aJ.within,V.within.all,V.within]) ?_ ?_
 ·intro x hx
  simp only [aby,List.not_mem_nil,or_false] at hx
  rcases hx with rfl|rfl
  ·exact .inr (.inr (.inl ⟨0,by simp only [go_sem,seval],rfl⟩))
  ·exact .inr (.inr (.inr ⟨0,0,by simp only [go_sem,seval],by simp⟩))
 refine AW.aal fun K hK=>?_
 refine Wk.go fun _ ag=>?_;simp (disch:=first|omega|exact ⟨by kernel_rfl⟩|(simp only [go_sem,aaN];try omega)) only [go_sem,seval,cX ag];(repeat' apply cq.l)<;>try subst ag
 refine Pr.i (hK _ _ ?_)
 refine AW.token' (st.aj.length+1) 0 48 4 (cs:=[.bh,vb false,vb false]) (by simp) rfl (by decide) (st':=⟨(st.aj++[.cells [ai 0,ai 0,.d (.str []),.bh]])++[cB st.toks.length []],st.toks++[cT []]⟩) (by simp) ?_
 have h:=c_Rn (G:=G) r g (cs:=r.enc) (off:=0) (Rnw r) (st.aj++[.cells [ai 0,ai 0,.d (.str []),.bh]]) st.toks [] (by simp)
 unfold pt cS at h
 simp only [aaQ,aaM,aaV,aaX,aa4,aa8] at h ⊢
 refine Wk.go fun _ ag=>?_;simp (disch:=first|omega|exact ⟨by kernel_rfl⟩|(simp only [go_sem,aaN];try omega)) only [go_sem,seval,cX ag,Ck h,vFld_within];(repeat' first|apply cq.l|refine aQ.i ⟨?_,rfl⟩)<;>try subst ag
 rfl
abbrev rcB (fs:List tD):aJ:= .cells [.d (.sl (fs.map tD.enc)),vb true,vb false]
theorem r_next0 (B M:List aJ) (K:List (Nat×Nat×Nat)) (ps:List tD) (hl:ps.length≤1048576) (h0:0<ps.length):aa prog G 59 [.ptr B.length 0,ai (ps.getD 0 default).kind] ⟨B++rcB ps::M,K⟩
  (fun o s=>(o,s)=(.ret (vFld (ps.getD 0 default)),⟨B++rcB (ps.drop 1)::M,K⟩)):=by
 refine aa.iG func59 rfl ntmps59 (by simp) fun _ ag=>?_
 simp (disch:=omega) only [go_sem,seval,cX ag,wr];(repeat' first|apply cq.l|refine cE.i fun hc=>?_|refine dU.i ?_)<;>try subst ag
 all_goals rfl
theorem r_next (B M:List aJ) (K:List (Nat×Nat×Nat)) (f:tD) (fs:List tD) (hl:fs.length≤1000000) (k:Int) (hk:f.kind=k):aa prog G 59 [.ptr B.length 0,ai k] ⟨B++rcB (f::fs)::M,K⟩
  (fun o s=>o= .ret (vFld f)∧s=⟨B++rcB fs::M,K⟩):=by
 subst hk
 exact (r_next0 (G:=G) B M K (f::fs) (by simp only [aaM];omega) (by simp)).mono fun o s h=>by cases h;exact ⟨rfl,rfl⟩
theorem fxF1 (f:tD):fX (some (1,1,false)) (vFld f)=some (ai f.int):=by
 rw [vFld,tD.aP];rfl
theorem fxF2 (f:tD):fX (some (2,1,false)) (vFld f)=some (vs f.str):=by
 rw [vFld,tD.aP];rfl
theorem fxF3 (f:tD):fX (some (3,1,false)) (vFld f)=some (.d (.sl (f.list.map tD.enc))):=by
 rw [vFld,tD.aP];rfl
theorem tk_app {A B Z:List aJ} {n:Nat} (h:A=B++Z) (hn:B.length=n):A.take n=B:=by subst h hn;simp
def rS (B:List aJ) (tcs:List V) (L:List aJ) (fs:List tD) (K:List (Nat×Nat×Nat)):St:=⟨B++ .cells tcs::(L++[rcB fs]),K⟩
theorem r_str (B L:List aJ) (K:List (Nat×Nat×Nat)) (tcs:List V) (off:Nat) (f:tD) (fs:List tD) (hl:fs.length≤1000000) (hk:f.kind=1) (ho:off+1≤tcs.length) (hw:V.within.all (B.length+(L.length+2)) K.length (splice tcs off [vs f.str])=true):
  aa prog G 31 [.ptr (B.length+(L.length+1)) 0,.ptr B.length off] (rS B tcs L (f::fs) K) (fun o s=>o= .ret (.cF [])∧s=rS B (splice tcs off [vs f.str]) L fs K):=by
 have h:=r_next (G:=G) (B++ .cells tcs::L) [] K f fs hl 1 hk
 unfold rS
 simp only [aaQ,aaM,aaX,aa4] at h
 refine aa.Co func31 rfl ntmps31 (by simp) fun _ ag=>?_
 simp only [go_sem,seval,cX ag,wr,Ck h,fxF2,ho];(repeat' apply cq.l)<;>try subst ag
 refine NA (K:=K) (T:=K) (B:=B) (L:=L) (M:=[]) (.cells (splice tcs off [vs f.str])) (rcB fs) rfl ⟨⟨?_,?_,?_,?_,?_⟩,rfl,rfl,rfl⟩ ⟨rfl,rfl⟩
 all_goals first|exact hw|rfl|skip
 ·refine tk_app (Z:=[]) ?_ ?_
  ·simp [splice]
  ·simp
 all_goals simp
theorem r_int (B L:List aJ) (K:List (Nat×Nat×Nat)) (tcs:List V) (off:Nat) (f:tD) (fs:List tD) (hl:fs.length≤1000000) (hk:f.kind=0) (ho:off+1≤tcs.length) (hw:V.within.all (B.length+(L.length+2)) K.length (splice tcs off [ai f.int])=true):
  aa prog G 32 [.ptr (B.length+(L.length+1)) 0,.ptr B.length off] (rS B tcs L (f::fs) K) (fun o s=>o= .ret (.cF [])∧s=rS B (splice tcs off [ai f.int]) L fs K):=by
 have h:=r_next (G:=G) (B++ .cells tcs::L) [] K f fs hl 0 hk
 unfold rS
 simp only [aaQ,aaM,aaX,aa4] at h
 refine aa.Co func32 rfl ntmps32 (by simp) fun _ ag=>?_
 simp only [go_sem,seval,cX ag,wr,Ck h,fxF1,ho];(repeat' apply cq.l)<;>try subst ag
 refine NA (K:=K) (T:=K) (B:=B) (L:=L) (M:=[]) (.cells (splice tcs off [ai f.int])) (rcB fs) rfl ⟨⟨?_,?_,?_,?_,?_⟩,rfl,rfl,rfl⟩ ⟨rfl,rfl⟩
 all_goals first|exact hw|rfl|skip
 ·refine tk_app (Z:=[]) ?_ ?_
  ·simp [splice]
  ·simp
 all_goals simp
theorem r_int2 (B:List aJ) (K:List (Nat×Nat×Nat)) (n:Int) (f:tD) (fs:List tD) (hl:fs.length≤1000000) (hk:f.kind=0):
  aa prog G 32 [.ptr B.length 0,.ptr (B.length+1) 0] ⟨B++[rcB (f::fs),.cells [ai n]],K⟩ (fun o s=>o= .ret (.cF [])∧s=⟨B++[rcB fs,.cells [ai f.int]],K⟩):=by
 have h:=r_next (G:=G) B [.cells [ai n]] K f fs hl 0 hk
 refine aa.Co func32 rfl ntmps32 (by simp) fun _ ag=>?_
 simp only [go_sem,seval,cX ag,wr,Ck h,fxF1];(repeat' apply cq.l)<;>try subst ag
 refine NA (K:=K) (T:=K) (B:=B) (L:=[]) (M:=[]) (rcB fs) (.cells [ai f.int]) rfl ⟨⟨?_,?_,?_,?_,?_⟩,rfl,rfl,rfl⟩ ⟨rfl,rfl⟩
 all_goals first|rfl|(rw [aa0 (by simp)];simp [splice];done)|(simp;done)
theorem spl1 (tcs:List V) (off:Nat) (v:V):splice tcs off [v]=tcs.take off++v::tcs.drop (off+1):=by simp [splice]
theorem tk_fb (B L:List aJ) (tcs:List V) (off:Nat) (v:V) (x y:aJ):List.take (B.length+(L.length+(([]:List aJ).length+1)+1)) (B++ .cells (tcs.take off++v::tcs.drop (off+1))::(L++[x,y]))=B++ .cells (splice tcs off [v])::(L++x::[]):=by
 refine tk_app (Z:=[y]) ?_ ?_
 ·simp [splice]
 ·simp
theorem r_flag (B L:List aJ) (K:List (Nat×Nat×Nat)) (tcs:List V) (off:Nat) (f:tD) (fs:List tD) (b0 b:Bool) (hl:fs.length≤1000000) (hk:f.kind=0) (hf:f.int=if b then 1 else 0) (h0:tcs[off]?=some (vb b0)) (ho:off+1≤tcs.length) (hw:V.within.all (B.length+(L.length+2)) K.length (splice tcs off [vb b])=true):
  aa prog G 60 [.ptr (B.length+(L.length+1)) 0,.ptr B.length off] (rS B tcs L (f::fs) K) (fun o s=>o= .ret (.cF [])∧s=rS B (splice tcs off [vb b]) L fs K):=by
 have h:=fun n=>r_int2 (G:=G) (B++ .cells tcs::L) K n f fs hl hk
 have e:∀ a b:Nat,a+(b+1)+1=a+(b+1+1):=fun _ _=>rfl
 unfold rS
 simp only [aaQ,aaM,aaX,aa4,hf,e] at h
 cases b0<;>cases b
 all_goals
  simp only [abh,reduceIte] at h
  refine aa.Co func60 rfl ntmps60 (by simp) fun _ ag=>?_
  simp only [go_sem,seval,cX ag,wr,Ck (h _),h0,ho];(repeat' apply cq.l)<;>try subst ag
 all_goals
  refine Tv (NA (K:=K) (T:=K) (B:=B) (L:=L) (M:=[]) (.cells (splice tcs off [vb _])) (rcB fs) rfl ⟨⟨?_,?_,?_,?_,?_⟩,rfl,rfl,rfl⟩ ⟨rfl,rfl⟩)
  all_goals first|exact hw|rfl|skip
  ·exact tk_fb _ _ _ _ _ _ _
  all_goals simp
theorem r_inner0 (B:List aJ) (K:List (Nat×Nat×Nat)) (f:tD) (fs:List tD) (hl:fs.length≤1000000) (hk:f.kind=2):
  aa prog G 30 [.ptr B.length 0] ⟨B++[rcB (f::fs)],K⟩ (fun o s=>o= .ret (.ptr (B.length+1) 0)∧s=⟨B++[rcB fs,rcB f.list],K⟩):=by
 have h:=r_next (G:=G) B [.cells [.bh,vb true,vb false]] K f fs hl 2 hk
 refine aa.startN func30 rfl ntmps30 (by simp) fun _ ag=>?_
 simp only [go_sem,seval,cX ag,wr,Ck h,fxF3];(repeat' apply cq.l)<;>try subst ag
 exact retN (l:=[.ptr (B.length+1) 0]) (v:= .ptr (B.length+1) 0) ⟨by simp,by simp⟩ (fun b X hB=>PT (B:=B) (L:=[]) (M:=[rcB f.list]) (z:=rcB fs) rfl rfl b X hB) ⟨rfl,rfl,by simp [V.within]⟩ ⟨rfl,rfl⟩
theorem r_inner (B L:List aJ) (K:List (Nat×Nat×Nat)) (tcs:List V) (f:tD) (fs:List tD) (hl:fs.length≤1000000) (hk:f.kind=2):
  aa prog G 30 [.ptr (B.length+(L.length+1)) 0] (rS B tcs L (f::fs) K) (fun o s=>o= .ret (.ptr (B.length+(L.length+2)) 0)∧s=rS B tcs (L++[rcB fs]) f.list K):=by
 have h:=r_inner0 (G:=G) (B++ .cells tcs::L) K f fs hl hk
 unfold rS
 simpa [ab6] using h
theorem r_done0 (B:List aJ) (K:List (Nat×Nat×Nat)) (fs:List tD):
  aa prog G 41 [.ptr B.length 0,.ptr (B.length+1) 0] ⟨B++[rcB fs,rcB []],K⟩ (fun o s=>o= .ret (.cF [])∧s=⟨B++[rcB fs,rcB []],K⟩):=by
 refine aa.Co func41 rfl ntmps41 (by simp) fun _ ag=>?_
 simp only [go_sem,seval,cX ag,wr];(repeat' apply cq.l)<;>try subst ag
 refine NA (K:=K) (T:=K) (B:=B) (L:=[]) (M:=[]) (rcB fs) (rcB []) rfl ⟨⟨?_,?_,?_,?_,?_⟩,rfl,rfl,rfl⟩ ⟨rfl,rfl⟩
 all_goals first|rfl|(rw [aa0 (by simp)];simp [splice];done)|(simp;done)
theorem r_done (B L:List aJ) (K:List (Nat×Nat×Nat)) (tcs:List V) (fs:List tD):
  aa prog G 41 [.ptr (B.length+(L.length+1)) 0,.ptr (B.length+(L.length+2)) 0] (rS B tcs (L++[rcB fs]) [] K) (fun o s=>o= .ret (.cF [])∧s=rS B tcs (L++[rcB fs]) [] K):=by
 have h:=r_done0 (G:=G) (B++ .cells tcs::L) K fs
 unfold rS
 simpa [ab6] using h
theorem endR {P:Program} {fn:Func} {R:Out→St→Prop} {fr:Fr} {B L:List aJ} {tcs tcs':List V} {fs fs' gs:List tD} {K T:List (Nat×Nat×Nat)} (hr:fn.results= #[]) (hT:T.take K.length=K) (hw:V.within.all (B.length+(L.length+2)) T.length tcs'=true) (h:R (.ret (.cF [])) (rS B tcs' L fs' T)):
  @qc ⟨nM P fn (rS B tcs L fs K) R⟩ .normal fr (rS B tcs' (L++[rcB fs']) gs T):=by
 have hTl:K.length≤T.length:=by have:=congrArg List.length hT;simp at this;omega
 unfold rS at*
 refine Tv (NA (K:=K) (T:=T) (B:=B) (L:=L) (M:=[]) (.cells tcs') (rcB fs') rfl ⟨⟨?_,?_,hTl,?_,?_⟩,(by rw [hr];rfl:eT P fr _ fn.results.toList=some []),rfl,rfl⟩ h)
 ·refine tk_app (Z:=[rcB gs]) ?_ ?_
  ·simp
  ·simp
 ·simp
 ·exact hw
 ·rfl
theorem endR0 {P:Program} {fn:Func} {R:Out→St→Prop} {fr:Fr} {B L:List aJ} {tcs tcs':List V} {fs fs' gs:List tD} {K T:List (Nat×Nat×Nat)} (hr:fn.results= #[]) (hT:T.take K.length=K) (hw:V.within.all (B.length+(L.length+2)) T.length tcs'=true) (h:R (.ret (.cF [])) ⟨B++ .cells tcs'::(L++[rcB fs']),T⟩):
  @qc ⟨nM P fn ⟨B++ .cells tcs::(L++[rcB fs]),K⟩ R⟩ .normal fr ⟨B++ .cells tcs'::(L++[rcB fs',rcB gs]),T⟩:=by
 have:=endR (P:=P) (fn:=fn) (R:=R) (fr:=fr) (B:=B) (L:=L) (tcs:=tcs) (tcs':=tcs') (fs:=fs) (fs':=fs') (gs:=gs) (K:=K) (T:=T) hr hT hw h
 unfold rS at this
 simpa using this
theorem AW.once {P:Program} {n:NDs} {aC:St} {body:Code} {Q:AX→Fr→St→Prop} {fr:Fr} {st:St} (h:AW P G n aC body (bz (fun _ _=>False) Q) fr st):AW P G n aC (.loop body) Q fr st:=
 AW.loop (fun f s=>f=fr∧s=st) (fun _ _=>0) ⟨rfl,rfl⟩ (by
  rintro _ _ ⟨rfl,rfl⟩
  exact h.mono fun e fr' st' hq=>by cases e<;>(unfold bz at hq ⊢;first|exact hq|exact absurd hq id))
theorem eo_makeSlice {P:Program} {d ty pos af gd} {fr:Fr} {st:St} (t:TypeId) (l c:Operand):evalOp P ⟨d,.makeSlice t l c,ty,pos,af,gd⟩ fr st=evalMake P t (ev fr l) (ev fr c) st:=(rfl)
theorem ent_makeSlice (t l c):bP (.makeSlice t l c)=false:=(rfl)
theorem mk_eq {P:Program} {t e sz by_:Nat} (h:mU P t=some (e,sz,by_)) (hz:(dy P e).isSome=true) (h2:0<sz) (st:St):evalMake P t (ai 0) (ai 0) st=some (.own st.toks.length [],{ st with toks:=st.toks++[(e,sz,0)] }):=by
 unfold evalMake
 simp [h,hz,h2,ff,maxLen]
theorem r_list_tm (B L:List aJ) (K:List (Nat×Nat×Nat)) (tcs:List V) (off:Nat) (f:tD) (fs:List tD) (hl:fs.length≤1000000) (hk:f.kind=2) (hf:f.list=[]) (ho:off+1≤tcs.length) (hw:V.within.all (B.length+(L.length+2)) (K.length+1) (splice tcs off [.own K.length []])=true):
  aa prog G 35 [.ptr (B.length+(L.length+1)) 0,.ptr B.length off,.jE 36 []] (rS B tcs L (f::fs) K) (fun o s=>o= .ret (.cF [])∧s=rS B (splice tcs off [.own K.length []]) L fs (K++[(112,2,0)])):=by
 have hi:=r_inner (G:=G) B L K tcs f fs hl hk
 have hd:=r_done (G:=G) B L (K++[(112,2,0)]) (splice tcs off [.own K.length []]) fs
 rw [hf] at hi
 refine aa.Co func35 rfl ntmps35 (by simp) fun _ ag=>?_
 unfold rS at*
 simp only [spl1,aaX,aa4,aa8] at hd
 simp only [go_sem,seval,cX ag,wr,Ck hi,ho,ent_makeSlice,eo_makeSlice,mk_eq (P:=prog) (t:=38) (e:=112) (sz:=2) (by_:=24) (by kernel_rfl) (by kernel_rfl) (by decide)];(repeat' apply cq.l)<;>try subst ag
 refine AW.once ?_
 refine Wk.go fun _ ag=>?_;simp only [go_sem,seval,cX ag,wr,Ck hd];(repeat' apply cq.l)<;>try subst ag
 rw [←spl1]
 refine Tu.o (endR0 rfl ?_ ?_ ⟨rfl,rfl⟩)
 ·simp
 ·simpa using hw
theorem r_list_js (B L:List aJ) (K:List (Nat×Nat×Nat)) (tcs:List V) (off:Nat) (f:tD) (fs:List tD) (hl:fs.length≤1000000) (hk:f.kind=2) (hf:f.list=[]) (ho:off+1≤tcs.length) (hw:V.within.all (B.length+(L.length+2)) (K.length+1) (splice tcs off [.own K.length []])=true):
  aa prog G 38 [.ptr (B.length+(L.length+1)) 0,.ptr B.length off,.jE 39 []] (rS B tcs L (f::fs) K) (fun o s=>o= .ret (.cF [])∧s=rS B (splice tcs off [.own K.length []]) L fs (K++[(67,16,0)])):=by
 have hi:=r_inner (G:=G) B L K tcs f fs hl hk
 have hd:=r_done (G:=G) B L (K++[(67,16,0)]) (splice tcs off [.own K.length []]) fs
 rw [hf] at hi
 refine aa.Co func38 rfl ntmps38 (by simp) fun _ ag=>?_
 unfold rS at*
 simp only [spl1,aaX,aa4,aa8] at hd
 simp only [go_sem,seval,cX ag,wr,Ck hi,ho,ent_makeSlice,eo_makeSlice,mk_eq (P:=prog) (t:=39) (e:=67) (sz:=16) (by_:=240) (by kernel_rfl) (by kernel_rfl) (by decide)];(repeat' apply cq.l)<;>try subst ag
 refine AW.once ?_
 refine Wk.go fun _ ag=>?_;simp only [go_sem,seval,cX ag,wr,Ck hd];(repeat' apply cq.l)<;>try subst ag
 rw [←spl1]
 refine Tu.o (endR0 rfl ?_ ?_ ⟨rfl,rfl⟩)
 ·simp
 ·simpa using hw
theorem r_list_jb (B L:List aJ) (K:List (Nat×Nat×Nat)) (tcs:List V) (off:Nat) (f:tD) (fs:List tD) (hl:fs.length≤1000000) (hk:f.kind=2) (hf:f.list=[]) (ho:off+1≤tcs.length) (hw:V.within.all (B.length+(L.length+2)) (K.length+1) (splice tcs off [.own K.length []])=true):
  aa prog G 61 [.ptr (B.length+(L.length+1)) 0,.ptr B.length off,.jE 62 []] (rS B tcs L (f::fs) K) (fun o s=>o= .ret (.cF [])∧s=rS B (splice tcs off [.own K.length []]) L fs (K++[(94,39,0)])):=by
 have hi:=r_inner (G:=G) B L K tcs f fs hl hk
 have hd:=r_done (G:=G) B L (K++[(94,39,0)]) (splice tcs off [.own K.length []]) fs
 rw [hf] at hi
 refine aa.Co func61 rfl ntmps61 (by simp) fun _ ag=>?_
 unfold rS at*
 simp only [spl1,aaX,aa4,aa8] at hd
 simp only [go_sem,seval,cX ag,wr,Ck hi,ho,ent_makeSlice,eo_makeSlice,mk_eq (P:=prog) (t:=35) (e:=94) (sz:=39) (by_:=600) (by kernel_rfl) (by kernel_rfl) (by decide)];(repeat' apply cq.l)<;>try subst ag
 refine AW.once ?_
 refine Wk.go fun _ ag=>?_;simp only [go_sem,seval,cX ag,wr,Ck hd];(repeat' apply cq.l)<;>try subst ag
 rw [←spl1]
 refine Tu.o (endR0 rfl ?_ ?_ ⟨rfl,rfl⟩)
 ·simp
 ·simpa using hw
abbrev cs12 (i:cx) (n:Int) (p r:cx) (f:Bool) (t c:Int) (pn:cx) (j ti:V) (ca:Int) (jo:V):List V:=[vs i,ai n,vs p,vs r,vb f,ai t,ai c,vs pn,j,ti,ai ca,jo]
theorem len1 (B L:List aJ) (x:aJ):B.length+((L++[x]).length+1)=B.length+(L.length+2):=by simp
theorem r_origin (B L:List aJ) (K:List (Nat×Nat×Nat)) (i:cx) (n:Int) (x:Org) (fs:List tD) (hl:fs.length≤1000000):
  aa prog G 33 [.ptr (B.length+(L.length+1)) 0,.ptr B.length 2] (rS B (cs12 i n [] [] false 0 0 [] .bh .bh 0 .bh) L (frOrg x::fs) K)
   (fun o s=>o= .ret (.cF [])∧s=rS B (cs12 i n x.aar x.ref x.fork 0 0 [] .bh .bh 0 .bh) L fs K):=by
 have hi:=r_inner (G:=G) B L K (cs12 i n [] [] false 0 0 [] .bh .bh 0 .bh) (frOrg x) fs hl rfl
 have h1:aa prog G 31 [.ptr (B.length+(L.length+2)) 0,.ptr B.length 2] (rS B (cs12 i n [] [] false 0 0 [] .bh .bh 0 .bh) (L++[rcB fs]) (frOrg x).list K) (fun o s=>o= .ret (.cF [])∧s=rS B (cs12 i n x.aar [] false 0 0 [] .bh .bh 0 .bh) (L++[rcB fs]) [aaw x.ref,fFlag x.fork] K):=by
  have h:=r_str (G:=G) B (L++[rcB fs]) K (cs12 i n [] [] false 0 0 [] .bh .bh 0 .bh) 2 (aaw x.aar) [aaw x.ref,fFlag x.fork] (by simp) rfl (by simp) rfl
  rw [len1] at h
  exact h
 have h2:aa prog G 31 [.ptr (B.length+(L.length+2)) 0,.ptr B.length 3] (rS B (cs12 i n x.aar [] false 0 0 [] .bh .bh 0 .bh) (L++[rcB fs]) [aaw x.ref,fFlag x.fork] K) (fun o s=>o= .ret (.cF [])∧s=rS B (cs12 i n x.aar x.ref false 0 0 [] .bh .bh 0 .bh) (L++[rcB fs]) [fFlag x.fork] K):=by
  have h:=r_str (G:=G) B (L++[rcB fs]) K (cs12 i n x.aar [] false 0 0 [] .bh .bh 0 .bh) 3 (aaw x.ref) [fFlag x.fork] (by simp) rfl (by simp) rfl
  rw [len1] at h
  exact h
 have h3:aa prog G 60 [.ptr (B.length+(L.length+2)) 0,.ptr B.length 4] (rS B (cs12 i n x.aar x.ref false 0 0 [] .bh .bh 0 .bh) (L++[rcB fs]) [fFlag x.fork] K) (fun o s=>o= .ret (.cF [])∧s=rS B (cs12 i n x.aar x.ref x.fork 0 0 [] .bh .bh 0 .bh) (L++[rcB fs]) [] K):=by
  have h:=r_flag (G:=G) B (L++[rcB fs]) K (cs12 i n x.aar x.ref false 0 0 [] .bh .bh 0 .bh) 4 (fFlag x.fork) [] false x.fork (by simp) rfl rfl rfl (by simp) rfl
  rw [len1] at h
  exact h
 have hd:=r_done (G:=G) B L K (cs12 i n x.aar x.ref x.fork 0 0 [] .bh .bh 0 .bh) fs
 refine aa.Co func33 rfl ntmps33 (by simp) fun _ ag=>?_
 simp only [go_sem,seval,cX ag,wr,Ck hi,Ck h1,Ck h2,Ck h3,Ck hd];(repeat' apply cq.l)<;>try subst ag
 refine endR rfl ?_ rfl ⟨rfl,rfl⟩
 simp
theorem r_plan (B L:List aJ) (K:List (Nat×Nat×Nat)) (i:cx) (n:Int) (p r:cx) (fk:Bool) (t c:Int) (x:Pln) (hx:x.jobs=[]) (fs:List tD) (hl:fs.length≤1000000):
  aa prog G 34 [.ptr (B.length+(L.length+1)) 0,.ptr B.length 7] (rS B (cs12 i n p r fk t c [] .bh .bh 0 .bh) L (frPln x::fs) K)
   (fun o s=>o= .ret (.cF [])∧s=rS B (cs12 i n p r fk t c x.name (.own K.length []) .bh 0 .bh) L fs (K++[(94,39,0)])):=by
 have hi:=r_inner (G:=G) B L K (cs12 i n p r fk t c [] .bh .bh 0 .bh) (frPln x) fs hl rfl
 have h1:aa prog G 31 [.ptr (B.length+(L.length+2)) 0,.ptr B.length 7] (rS B (cs12 i n p r fk t c [] .bh .bh 0 .bh) (L++[rcB fs]) (frPln x).list K) (fun o s=>o= .ret (.cF [])∧s=rS B (cs12 i n p r fk t c x.name .bh .bh 0 .bh) (L++[rcB fs]) [l5 (x.jobs.map frJb)] K):=by
  have h:=r_str (G:=G) B (L++[rcB fs]) K (cs12 i n p r fk t c [] .bh .bh 0 .bh) 7 (aaw x.name) [l5 (x.jobs.map frJb)] (by simp) rfl (by simp) rfl
  rw [len1] at h
  exact h
 have h2:aa prog G 61 [.ptr (B.length+(L.length+2)) 0,.ptr B.length 8,.jE 62 []] (rS B (cs12 i n p r fk t c x.name .bh .bh 0 .bh) (L++[rcB fs]) [l5 (x.jobs.map frJb)] K) (fun o s=>o= .ret (.cF [])∧s=rS B (cs12 i n p r fk t c x.name (.own K.length []) .bh 0 .bh) (L++[rcB fs]) [] (K++[(94,39,0)])):=by
  have h:=r_list_jb (G:=G) B (L++[rcB fs]) K (cs12 i n p r fk t c x.name .bh .bh 0 .bh) 8 (l5 (x.jobs.map frJb)) [] (by simp) rfl (by rw [hx];rfl) (by simp) (by simp [splice,V.within.all,V.within]<;>omega)
  rw [len1] at h
  exact h
 have hd:=r_done (G:=G) B L (K++[(94,39,0)]) (cs12 i n p r fk t c x.name (.own K.length []) .bh 0 .bh) fs
 refine aa.Co func34 rfl ntmps34 (by simp) fun _ ag=>?_
 simp only [go_sem,seval,cX ag,wr,Ck hi,Ck h1,Ck h2,Ck hd];(repeat' apply cq.l)<;>try subst ag
 refine endR rfl ?_ ?_ ⟨rfl,rfl⟩
 ·simp
 ·simp [V.within.all,V.within]
theorem r_innerX (B:List aJ) (K:List (Nat×Nat×Nat)) (tcs:List V) (f:tD) (fs:List tD) (hl:fs.length≤1000000) (hk:f.kind=2):
  aa prog G 30 [.ptr B.length 0] ⟨B++[rcB (f::fs),.cells tcs],K⟩ (fun o s=>o= .ret (.ptr (B.length+2) 0)∧s=rS (B++[rcB fs]) tcs [] f.list K):=by
 have h:=r_next (G:=G) B [.cells tcs,.cells [.bh,vb true,vb false]] K f fs hl 2 hk
 have e:rS (B++[rcB fs]) tcs [] f.list K=⟨B++[rcB fs,.cells tcs,rcB f.list],K⟩:=by simp [rS]
 rw [e]
 refine aa.startN func30 rfl ntmps30 (by simp) fun _ ag=>?_
 simp only [go_sem,seval,cX ag,wr,Ck h,fxF3];(repeat' apply cq.l)<;>try subst ag
 refine retN (l:=[.ptr (B.length+2) 0]) (v:= .ptr (B.length+2) 0) ⟨by simp,by simp⟩ (fun b X hB=>?_) ⟨rfl,rfl,by simp [V.within]⟩ ⟨rfl,rfl⟩
 by_cases h1:b<B.length
 ·exact .inl (by rw [aaU h1] at hB ⊢;exact hB)
 ·rw [aaO (by omega)] at hB ⊢
  match hb:b - B.length,hB with
  |0,hB=>cases hB;exact .inr rfl
  |1,hB=>cases hB;exact .inl rfl
  |2,hB=>cases hB;exact .inr rfl
theorem r_doneX (B:List aJ) (K:List (Nat×Nat×Nat)) (tcs:List V) (hw:V.within.all (B.length+3) K.length tcs=true):
  aa prog G 41 [.ptr B.length 0,.ptr (B.length+2) 0] (rS (B++[rcB []]) tcs [] [] K) (fun o s=>o= .ret (.cF [])∧s=rS (B++[rcB []]) tcs [] [] K):=by
 have e:rS (B++[rcB []]) tcs [] [] K=⟨B++[rcB [],.cells tcs,rcB []],K⟩:=by simp [rS]
 rw [e]
 refine aa.Co func41 rfl ntmps41 (by simp) fun _ ag=>?_
 simp only [go_sem,seval,cX ag,wr];(repeat' apply cq.l)<;>try subst ag
 refine NA (K:=K) (T:=K) (B:=B) (L:=[]) (M:=[rcB []]) (rcB []) (.cells tcs) rfl ⟨⟨?_,?_,?_,?_,?_⟩,rfl,rfl,rfl⟩ ⟨rfl,rfl⟩
 ·refine tk_app (Z:=[]) ?_ ?_
  ·simp
  ·simp
 ·simp
 ·exact aaP _
 ·rfl
 ·exact hw
theorem len2 (B:List aJ) (x:aJ):(B++[x]).length+(([]:List aJ).length+1)=B.length+2:=by simp
theorem len3 (B:List aJ) (x:aJ):(B++[x]).length=B.length+1:=by simp
def cR (x:Rn) (k:Nat) (n:Nat):List V:=match n with
 |0=>cs12 [] 0 [] [] false 0 0 [] .bh .bh 0 .bh
 |1=>cs12 x.id 0 [] [] false 0 0 [] .bh .bh 0 .bh
 |2=>cs12 x.id x.number [] [] false 0 0 [] .bh .bh 0 .bh
 |3=>cs12 x.id x.number x.origin.aar x.origin.ref x.origin.fork 0 0 [] .bh .bh 0 .bh
 |4=>cs12 x.id x.number x.origin.aar x.origin.ref x.origin.fork x.trust 0 [] .bh .bh 0 .bh
 |5=>cs12 x.id x.number x.origin.aar x.origin.ref x.origin.fork x.trust x.created [] .bh .bh 0 .bh
 |6=>cs12 x.id x.number x.origin.aar x.origin.ref x.origin.fork x.trust x.created x.plan.name (.own k []) .bh 0 .bh
 |7=>cs12 x.id x.number x.origin.aar x.origin.ref x.origin.fork x.trust x.created x.plan.name (.own k []) (.own (k+1) []) 0 .bh
 |8=>cs12 x.id x.number x.origin.aar x.origin.ref x.origin.fork x.trust x.created x.plan.name (.own k []) (.own (k+1) []) x.cancel .bh
 |_=>cs12 x.id x.number x.origin.aar x.origin.ref x.origin.fork x.trust x.created x.plan.name (.own k []) (.own (k+1) []) x.cancel (.own (k+2) [])
def kR (K:List (Nat×Nat×Nat)) (n:Nat):List (Nat×Nat×Nat):=K++[(94,39,0),(112,2,0),(67,16,0)].take n
theorem r_run (B:List aJ) (K:List (Nat×Nat×Nat)) (x:Rn) (h1:x.plan.jobs=[]) (h2:x.times=[]) (h3:x.jobs=[]):
  aa prog G 21 [.ptr B.length 0,.ptr (B.length+1) 0] ⟨B++[rcB [aan x],.cells (cR x K.length 0)],K⟩
   (fun o s=>o= .ret (.cF [])∧s=⟨B++[rcB [],.cells (cR x K.length 9)],kR K 3⟩):=by
 have hi:=r_innerX (G:=G) B K (cR x K.length 0) (aan x) [] (by simp) rfl
 have c0:aa prog G 31 [.ptr (B.length+2) 0,.ptr (B.length+1) 0] (rS (B++[rcB []]) (cR x K.length 0) [] (aan x).list K) (fun o s=>o= .ret (.cF [])∧s=rS (B++[rcB []]) (cR x K.length 1) [] ((aan x).list.drop 1) K):=by
  have h:=r_str (G:=G) (B++[rcB []]) [] K (cR x K.length 0) 0 (aaw x.id) ((aan x).list.drop 1) (by simp [aan,l5,tD.list]) rfl (by simp [cR]) (by simp [cR,kR,splice,V.within.all,V.within]<;>omega)
  rw [len2,len3] at h
  exact h
 have c1:aa prog G 32 [.ptr (B.length+2) 0,.ptr (B.length+1) 1] (rS (B++[rcB []]) (cR x K.length 1) [] ((aan x).list.drop 1) K) (fun o s=>o= .ret (.cF [])∧s=rS (B++[rcB []]) (cR x K.length 2) [] ((aan x).list.drop 2) K):=by
  have h:=r_int (G:=G) (B++[rcB []]) [] K (cR x K.length 1) 1 (Ta x.number) ((aan x).list.drop 2) (by simp [aan,l5,tD.list]) rfl (by simp [cR]) (by simp [cR,kR,splice,V.within.all,V.within]<;>omega)
  rw [len2,len3] at h
  exact h
 have c2:aa prog G 33 [.ptr (B.length+2) 0,.ptr (B.length+1) 2] (rS (B++[rcB []]) (cR x K.length 2) [] ((aan x).list.drop 2) K) (fun o s=>o= .ret (.cF [])∧s=rS (B++[rcB []]) (cR x K.length 3) [] ((aan x).list.drop 3) K):=by
  have h:=r_origin (G:=G) (B++[rcB []]) [] K x.id x.number x.origin ((aan x).list.drop 3) (by simp [aan,l5,tD.list])
  rw [len2,len3] at h
  exact h
 have c3:aa prog G 32 [.ptr (B.length+2) 0,.ptr (B.length+1) 5] (rS (B++[rcB []]) (cR x K.length 3) [] ((aan x).list.drop 3) K) (fun o s=>o= .ret (.cF [])∧s=rS (B++[rcB []]) (cR x K.length 4) [] ((aan x).list.drop 4) K):=by
  have h:=r_int (G:=G) (B++[rcB []]) [] K (cR x K.length 3) 5 (Ta x.trust) ((aan x).list.drop 4) (by simp [aan,l5,tD.list]) rfl (by simp [cR]) (by simp [cR,kR,splice,V.within.all,V.within]<;>omega)
  rw [len2,len3] at h
  exact h
 have c4:aa prog G 32 [.ptr (B.length+2) 0,.ptr (B.length+1) 6] (rS (B++[rcB []]) (cR x K.length 4) [] ((aan x).list.drop 4) K) (fun o s=>o= .ret (.cF [])∧s=rS (B++[rcB []]) (cR x K.length 5) [] ((aan x).list.drop 5) K):=by
  have h:=r_int (G:=G) (B++[rcB []]) [] K (cR x K.length 4) 6 (Ta x.created) ((aan x).list.drop 5) (by simp [aan,l5,tD.list]) rfl (by simp [cR]) (by simp [cR,kR,splice,V.within.all,V.within]<;>omega)
  rw [len2,len3] at h
  exact h
 have c5:aa prog G 34 [.ptr (B.length+2) 0,.ptr (B.length+1) 7] (rS (B++[rcB []]) (cR x K.length 5) [] ((aan x).list.drop 5) K) (fun o s=>o= .ret (.cF [])∧s=rS (B++[rcB []]) (cR x K.length 6) [] ((aan x).list.drop 6) (kR K 1)):=by
  have h:=r_plan (G:=G) (B++[rcB []]) [] K x.id x.number x.origin.aar x.origin.ref x.origin.fork x.trust x.created x.plan h1 ((aan x).list.drop 6) (by simp [aan,l5,tD.list])
  rw [len2,len3] at h
  exact h
 have c6:aa prog G 35 [.ptr (B.length+2) 0,.ptr (B.length+1) 9,.jE 36 []] (rS (B++[rcB []]) (cR x K.length 6) [] ((aan x).list.drop 6) (kR K 1)) (fun o s=>o= .ret (.cF [])∧s=rS (B++[rcB []]) (cR x K.length 7) [] ((aan x).list.drop 7) (kR K 2)):=by
  have h:=r_list_tm (G:=G) (B++[rcB []]) [] (kR K 1) (cR x K.length 6) 9 (l5 (x.times.map frTmg)) ((aan x).list.drop 7) (by simp [aan,l5,tD.list]) rfl (by rw [h2];rfl) (by simp [cR]) (by simp [cR,kR,splice,V.within.all,V.within]<;>omega)
  rw [len2,len3] at h
  rw [show (kR K 1).length=K.length+1 by simp [kR],show kR K 1++[_]=kR K 2 by simp [kR]] at h
  exact h
 have c7:aa prog G 32 [.ptr (B.length+2) 0,.ptr (B.length+1) 10] (rS (B++[rcB []]) (cR x K.length 7) [] ((aan x).list.drop 7) (kR K 2)) (fun o s=>o= .ret (.cF [])∧s=rS (B++[rcB []]) (cR x K.length 8) [] ((aan x).list.drop 8) (kR K 2)):=by
  have h:=r_int (G:=G) (B++[rcB []]) [] (kR K 2) (cR x K.length 7) 10 (Ta x.cancel) ((aan x).list.drop 8) (by simp [aan,l5,tD.list]) rfl (by simp [cR]) (by simp [cR,kR,splice,V.within.all,V.within]<;>omega)
  rw [len2,len3] at h
  exact h
 have c8:aa prog G 38 [.ptr (B.length+2) 0,.ptr (B.length+1) 11,.jE 39 []] (rS (B++[rcB []]) (cR x K.length 8) [] ((aan x).list.drop 8) (kR K 2)) (fun o s=>o= .ret (.cF [])∧s=rS (B++[rcB []]) (cR x K.length 9) [] [] (kR K 3)):=by
  have h:=r_list_js (G:=G) (B++[rcB []]) [] (kR K 2) (cR x K.length 8) 11 (l5 (x.jobs.map frJst)) [] (by simp [aan,l5,tD.list]) rfl (by rw [h3];rfl) (by simp [cR]) (by simp [cR,kR,splice,V.within.all,V.within]<;>omega)
  rw [len2,len3] at h
  rw [show (kR K 2).length=K.length+2 by simp [kR],show kR K 2++[_]=kR K 3 by simp [kR]] at h
  exact h
 have hd:=r_doneX (G:=G) B (kR K 3) (cR x K.length 9) (by simp [cR,kR,V.within.all,V.within])
 refine aa.Co func21 rfl ntmps21 (by simp) fun _ ag=>?_
 simp only [go_sem,seval,cX ag,wr,Ck hi,Ck c0,Ck c1,Ck c2,Ck c3,Ck c4,Ck c5,Ck c6,Ck c7,Ck c8,Ck hd];(repeat' apply cq.l)<;>try subst ag
 have e:∀ tcs T,rS (B++[rcB []]) tcs [] [] T=⟨B++[rcB [],.cells tcs,rcB []],T⟩:=fun _ _=>by simp [rS]
 rw [e]
 refine Tv (NA (K:=K) (T:=kR K 3) (B:=B) (L:=[]) (M:=[]) (rcB []) (.cells (cR x K.length 9)) rfl ⟨⟨?_,?_,?_,?_,?_⟩,rfl,rfl,rfl⟩ ⟨rfl,rfl⟩)
 ·refine tk_app (Z:=[rcB []]) ?_ ?_
  ·simp
  ·simp
 ·exact aa0 (aaP _)
 ·simp [kR]
 ·rfl
 ·simp [aJ.within,cR,kR,V.within.all,V.within]
