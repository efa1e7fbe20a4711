import Derived.Test.YteeohmopbcjifaaGreatDoorS21
set_option linter.unusedSimpArgs false
set_option linter.unusedVariables false
set_option maxHeartbeats 8000000
set_option maxRecDepth 20000
namespace Go.Proofs.YteeohmopbcjifaaGreatDoor
open Tryz
open Go.Abs
attribute [local irreducible] AW OX cG GQ bK bO bz aY aa
variable {G:World→Nat→Prop}
theorem h_both (B:List aJ) (K:List (Nat×Nat×Nat)) (R:List aJ) (a b:Ty) (k:Int):aa prog G 216 [ai k,.ptr B.length 0,.ptr (B.length+1) 0] ⟨B++(.cells (a.enc.map .d):: .cells (b.enc.map .d)::R),K⟩
  (fun o s=>o= .ret (vb (tyC a (tS k)&&tyC b (tS k)))∧s=⟨B++(.cells (a.enc.map .d):: .cells (b.enc.map .d)::R),K⟩):=by
 have ok:=h_of (G:=G) k
 have ca:=h_compatible (G:=G) a (tS k)
 have cb:=h_compatible (G:=G) b (tS k)
 cases h1:tyC a (tS k)<;>cases h2:tyC b (tS k)<;>rw [h1] at ca<;>rw [h2] at cb
 all_goals
  refine aa.start func216 rfl ntmps216 (by simp) fun _ ag=>?_
  simp (disch:=first|exact ⟨by kernel_rfl⟩|omega) only [go_sem,seval,cX ag,wd,bC (ok _),bC (ca _),bC (cb _)];(repeat' first|apply cq.l|refine aQ.i ⟨?_,rfl⟩)<;>try subst ag
  all_goals first|rfl|skip
def sgD (l:List Ty):List D:=[.sl (l.map Ty.enc)]
def vSg (s:List (List Ty)×Ty):V:= .cF [.d (.sl (s.1.map sgD)),vTy s.2]
theorem h_signatures (nm:cx):b8 G 213 [vs nm] (vSg (sigF nm)):=by
 intro st
 have o0:=h_of (G:=G) 0
 have o1:=h_of (G:=G) 1
 have o2:=h_of (G:=G) 2
 have o3:=h_of (G:=G) 3
 have o4:=h_of (G:=G) 4
 have n5:=h_nested (G:=G) 5 (tS 0)
 have n6:=h_nested (G:=G) 6 (tS 0)
 have n54:=h_nested (G:=G) 5 (tS 4)
 refine aa.body func213 rfl ntmps213 (by simp) ?_
 refine AW.aal fun K hK=>?_
 refine Wk.go fun _ ag=>?_;simp (disch:=omega) only [go_sem,seval,cX ag];(repeat' apply cq.l)<;>try subst ag
 refine Pr.i (hK _ _ ?_)
 refine AW.aal fun K2 hK2=>?_
 refine Wk.go fun _ ag=>?_;simp (disch:=omega) only [go_sem,seval,cX ag,bC (o0 _),bC (o2 _),bC (o3 _),bC (o4 _)];(repeat' apply cq.l)<;>try subst ag
 refine Pr.i (hK2 _ _ ?_)
 refine AW.aal fun K3 hK3=>?_
 refine AW.regA (P:=prog) mx 6 3 9 [(0,9),(1,9),(2,9),(3,9),(4,9),(5,9)] 168 (by kernel_rfl) (by kernel_rfl) (by decide) (by kernel_rfl) fun _ ag=>?_
 simp (disch:=omega) only [go_sem,seval,cX ag,bC (n5 _),bC (n6 _),bC (n54 _)];(repeat' apply cq.l)<;>try subst ag
 refine qc.i (QA.i ?_ [15,16,17,18,19,20] (by kernel_rfl) ?_ (KT (hK3 _ _ ?_)))
 ·refine exE_l (by kernel_rfl) (exE_c ?_ (exE_l (by kernel_rfl) (exE_c ?_ (exE_l (by kernel_rfl) (exE_c ?_ exE_nil)))))
  ·exact aaB.i n5 (by rfl) call219 (by rfl) (by rfl) (by simp (disch:=omega) only [go_sem,seval];try exact rfl) (by simp (disch:=omega) only [go_sem,seval];try exact rfl)
  ·exact aaB.i n6 (by rfl) call219 (by rfl) (by rfl) (by simp (disch:=omega) only [go_sem,seval];try exact rfl) (by simp (disch:=omega) only [go_sem,seval];try exact rfl)
  ·exact aaB.i n54 (by rfl) call219 (by rfl) (by rfl) (by simp (disch:=omega) only [go_sem,seval];try exact rfl) (by simp (disch:=omega) only [go_sem,seval];try exact rfl)
 ·refine inA_c ?_ (inA_c ?_ (inA_c ?_ (inA_c ?_ (inA_c ?_ (inA_c ?_ inA_n)))))
  all_goals simp (disch:=omega) only [go_sem,seval]
  all_goals try exact rfl
 clear hK hK2 hK3
 refine AW.prune (jO [(0,vs nm),(2,.bh),(3,.ptr st.aj.length 0),(4,.ptr (st.aj.length+1) 0),(5,.ptr (st.aj.length+2) 0),(6,.ptr (st.aj.length+3) 0),(7,.ptr (st.aj.length+4) 0),(8,.ptr (st.aj.length+5) 0),(9,.ptr (st.aj.length+6) 0),(10,.ptr (st.aj.length+7) 0)]) (eG (by simp (disch:=omega) only [go_sem,seval])) ?_
 refine AW.aal fun K4 hK4=>?_
 refine AW.aal fun K5 hK5=>?_
 refine Wk.go fun _ ag=>?_;simp (disch:=omega) only [go_sem,seval,cX ag];(repeat' apply cq.l)<;>try subst ag
 refine Pr.i (hK5 _ _ ?_)
 clear hK5
 refine AW.blockN ?_
 by_cases h1:nm=[108,101,110]
 ·subst h1
  refine AW.aal fun K6 hK6=>?_
  refine Wk.go fun _ ag=>?_;simp (disch:=omega) only [go_sem,seval,cX ag];(repeat' apply cq.l)<;>try subst ag
  refine Pr.i (hK6 _ _ ?_)
  refine AW.condT (by simp (disch:=omega) only [go_sem,seval];try exact rfl) ?_
  refine Wk.go fun _ ag=>?_;simp (disch:=first|exact ⟨by kernel_rfl⟩|omega) only [go_sem,seval,cX ag,wd];(repeat' first|apply cq.l|refine aQ.i ⟨?_,rfl⟩)<;>try subst ag
  rfl
 refine AW.aal fun K6 hK6=>?_
 refine Wk.go fun _ ag=>?_;simp (disch:=omega) only [go_sem,seval,cX ag,h1];(repeat' apply cq.l)<;>try subst ag
 refine Pr.i (hK6 _ _ ?_)
 refine AW.condF (by simp (disch:=omega) only [go_sem,seval,h1];try exact rfl) ?_
 clear hK6
 by_cases h2:nm=[99,111,110,116,97,105,110,115]
 ·subst h2
  refine AW.aal fun K7 hK7=>?_
  refine Wk.go fun _ ag=>?_;simp (disch:=omega) only [go_sem,seval,cX ag];(repeat' apply cq.l)<;>try subst ag
  refine Pr.i (hK7 _ _ ?_)
  refine AW.condT (by simp (disch:=omega) only [go_sem,seval];try exact rfl) ?_
  refine Wk.go fun _ ag=>?_;simp (disch:=first|exact ⟨by kernel_rfl⟩|omega) only [go_sem,seval,cX ag,wd];(repeat' first|apply cq.l|refine aQ.i ⟨?_,rfl⟩)<;>try subst ag
  rfl
 refine AW.aal fun K7 hK7=>?_
 refine Wk.go fun _ ag=>?_;simp (disch:=omega) only [go_sem,seval,cX ag,h2];(repeat' apply cq.l)<;>try subst ag
 refine Pr.i (hK7 _ _ ?_)
 refine AW.condF (by simp (disch:=omega) only [go_sem,seval,h2];try exact rfl) ?_
 clear hK7
 by_cases h3:nm=[106,111,105,110]
 ·subst h3
  refine AW.aal fun K8 hK8=>?_
  refine Wk.go fun _ ag=>?_;simp (disch:=omega) only [go_sem,seval,cX ag];(repeat' apply cq.l)<;>try subst ag
  refine Pr.i (hK8 _ _ ?_)
  refine AW.condT (by simp (disch:=omega) only [go_sem,seval];try exact rfl) ?_
  refine Wk.go fun _ ag=>?_;simp (disch:=first|exact ⟨by kernel_rfl⟩|omega) only [go_sem,seval,cX ag,wd];(repeat' first|apply cq.l|refine aQ.i ⟨?_,rfl⟩)<;>try subst ag
  rfl
 refine AW.aal fun K8 hK8=>?_
 refine Wk.go fun _ ag=>?_;simp (disch:=omega) only [go_sem,seval,cX ag,h3];(repeat' apply cq.l)<;>try subst ag
 refine Pr.i (hK8 _ _ ?_)
 refine AW.condF (by simp (disch:=omega) only [go_sem,seval,h3];try exact rfl) ?_
 clear hK8
 by_cases h4:nm=[115,116,114,105,110,103]
 ·subst h4
  refine AW.aal fun K9 hK9=>?_
  refine Wk.go fun _ ag=>?_;simp (disch:=omega) only [go_sem,seval,cX ag];(repeat' apply cq.l)<;>try subst ag
  refine Pr.i (hK9 _ _ ?_)
  refine AW.condT (by simp (disch:=omega) only [go_sem,seval];try exact rfl) ?_
  refine Wk.go fun _ ag=>?_;simp (disch:=first|exact ⟨by kernel_rfl⟩|omega) only [go_sem,seval,cX ag,wd,bC (o1 _)];(repeat' first|apply cq.l|refine aQ.i ⟨?_,rfl⟩)<;>try subst ag
  rfl
 refine AW.aal fun K9 hK9=>?_
 refine Wk.go fun _ ag=>?_;simp (disch:=omega) only [go_sem,seval,cX ag,h4];(repeat' apply cq.l)<;>try subst ag
 refine Pr.i (hK9 _ _ ?_)
 refine AW.condF (by simp (disch:=omega) only [go_sem,seval,h4];try exact rfl) ?_
 clear hK9
 by_cases h5:nm=[108,111,119,101,114]
 ·subst h5
  refine AW.aal fun K10 hK10=>?_
  refine Wk.go fun _ ag=>?_;simp (disch:=omega) only [go_sem,seval,cX ag];(repeat' apply cq.l)<;>try subst ag
  refine Pr.i (hK10 _ _ ?_)
  refine AW.condT (by simp (disch:=omega) only [go_sem,seval];try exact rfl) ?_
  refine Wk.go fun _ ag=>?_;simp (disch:=first|exact ⟨by kernel_rfl⟩|omega) only [go_sem,seval,cX ag,wd];(repeat' first|apply cq.l|refine aQ.i ⟨?_,rfl⟩)<;>try subst ag
  rfl
 by_cases h6:nm=[117,112,112,101,114]
 ·subst h6
  refine AW.aal fun K10 hK10=>?_
  refine Wk.go fun _ ag=>?_;simp (disch:=omega) only [go_sem,seval,cX ag];(repeat' first|apply cq.l|refine cE.i fun hc=>?_)<;>try subst ag
  refine Pr.i (hK10 _ _ ?_)
  refine AW.condT (by simp (disch:=omega) only [go_sem,seval];try exact rfl) ?_
  refine Wk.go fun _ ag=>?_;simp (disch:=first|exact ⟨by kernel_rfl⟩|omega) only [go_sem,seval,cX ag,wd];(repeat' first|apply cq.l|refine aQ.i ⟨?_,rfl⟩)<;>try subst ag
  rfl
 refine AW.aal fun K10 hK10=>?_
 refine Wk.go fun _ ag=>?_;simp (disch:=omega) only [go_sem,seval,cX ag,h5,h6];(repeat' apply cq.l)<;>try subst ag
 refine Pr.i (hK10 _ _ ?_)
 refine AW.condF (by simp (disch:=omega) only [go_sem,seval,h5,h6];try exact rfl) ?_
 clear hK10
 by_cases h7:nm=[115,112,108,105,116]
 ·subst h7
  refine AW.aal fun K12 hK12=>?_
  refine Wk.go fun _ ag=>?_;simp (disch:=omega) only [go_sem,seval,cX ag];(repeat' apply cq.l)<;>try subst ag
  refine Pr.i (hK12 _ _ ?_)
  refine AW.condT (by simp (disch:=omega) only [go_sem,seval];try exact rfl) ?_
  refine Wk.go fun _ ag=>?_;simp (disch:=first|exact ⟨by kernel_rfl⟩|omega) only [go_sem,seval,cX ag,wd];(repeat' first|apply cq.l|refine aQ.i ⟨?_,rfl⟩)<;>try subst ag
  rfl
 refine AW.aal fun K12 hK12=>?_
 refine Wk.go fun _ ag=>?_;simp (disch:=omega) only [go_sem,seval,cX ag,h7];(repeat' apply cq.l)<;>try subst ag
 refine Pr.i (hK12 _ _ ?_)
 refine AW.condF (by simp (disch:=omega) only [go_sem,seval,h7];try exact rfl) ?_
 clear hK12
 by_cases h8:nm=[115,116,97,114,116,115,119,105,116,104]
 ·subst h8
  refine AW.aal fun K13 hK13=>?_
  refine Wk.go fun _ ag=>?_;simp (disch:=omega) only [go_sem,seval,cX ag];(repeat' apply cq.l)<;>try subst ag
  refine Pr.i (hK13 _ _ ?_)
  refine AW.condT (by simp (disch:=omega) only [go_sem,seval];try exact rfl) ?_
  refine Wk.go fun _ ag=>?_;simp (disch:=first|exact ⟨by kernel_rfl⟩|omega) only [go_sem,seval,cX ag,wd];(repeat' first|apply cq.l|refine aQ.i ⟨?_,rfl⟩)<;>try subst ag
  rfl
 by_cases h9:nm=[101,110,100,115,119,105,116,104]
 ·subst h9
  refine AW.aal fun K13 hK13=>?_
  refine Wk.go fun _ ag=>?_;simp (disch:=omega) only [go_sem,seval,cX ag];(repeat' first|apply cq.l|refine cE.i fun hc=>?_)<;>try subst ag
  refine Pr.i (hK13 _ _ ?_)
  refine AW.condT (by simp (disch:=omega) only [go_sem,seval];try exact rfl) ?_
  refine Wk.go fun _ ag=>?_;simp (disch:=first|exact ⟨by kernel_rfl⟩|omega) only [go_sem,seval,cX ag,wd];(repeat' first|apply cq.l|refine aQ.i ⟨?_,rfl⟩)<;>try subst ag
  rfl
 refine AW.aal fun K13 hK13=>?_
 refine Wk.go fun _ ag=>?_;simp (disch:=omega) only [go_sem,seval,cX ag,h8,h9];(repeat' apply cq.l)<;>try subst ag
 refine Pr.i (hK13 _ _ ?_)
 refine AW.condF (by simp (disch:=omega) only [go_sem,seval,h8,h9];try exact rfl) ?_
 clear hK13
 by_cases h10:nm=[105,110,116]
 ·subst h10
  refine AW.aal fun K15 hK15=>?_
  refine Wk.go fun _ ag=>?_;simp (disch:=omega) only [go_sem,seval,cX ag];(repeat' apply cq.l)<;>try subst ag
  refine Pr.i (hK15 _ _ ?_)
  refine AW.condT (by simp (disch:=omega) only [go_sem,seval];try exact rfl) ?_
  refine Wk.go fun _ ag=>?_;simp (disch:=first|exact ⟨by kernel_rfl⟩|omega) only [go_sem,seval,cX ag,wd];(repeat' first|apply cq.l|refine aQ.i ⟨?_,rfl⟩)<;>try subst ag
  rfl
 refine AW.aal fun K15 hK15=>?_
 refine Wk.go fun _ ag=>?_;simp (disch:=omega) only [go_sem,seval,cX ag,h10];(repeat' apply cq.l)<;>try subst ag
 refine Pr.i (hK15 _ _ ?_)
 refine AW.condF (by simp (disch:=omega) only [go_sem,seval,h10];try exact rfl) ?_
 clear hK15
 by_cases h11:nm=[100,101,102,97,117,108,116]
 ·subst h11
  refine AW.aal fun K16 hK16=>?_
  refine Wk.go fun _ ag=>?_;simp (disch:=omega) only [go_sem,seval,cX ag];(repeat' apply cq.l)<;>try subst ag
  refine Pr.i (hK16 _ _ ?_)
  refine AW.condT (by simp (disch:=omega) only [go_sem,seval];try exact rfl) ?_
  refine Wk.go fun _ ag=>?_;simp (disch:=first|exact ⟨by kernel_rfl⟩|omega) only [go_sem,seval,cX ag,wd];(repeat' first|apply cq.l|refine aQ.i ⟨?_,rfl⟩)<;>try subst ag
  rfl
 refine AW.aal fun K16 hK16=>?_
 refine Wk.go fun _ ag=>?_;simp (disch:=omega) only [go_sem,seval,cX ag,h11];(repeat' apply cq.l)<;>try subst ag
 refine Pr.i (hK16 _ _ ?_)
 refine AW.condF (by simp (disch:=omega) only [go_sem,seval,h11];try exact rfl) ?_
 clear hK16
 by_cases h12:nm=[107,101,121,115]
 ·subst h12
  refine AW.aal fun K17 hK17=>?_
  refine Wk.go fun _ ag=>?_;simp (disch:=omega) only [go_sem,seval,cX ag];(repeat' apply cq.l)<;>try subst ag
  refine Pr.i (hK17 _ _ ?_)
  refine AW.condT (by simp (disch:=omega) only [go_sem,seval];try exact rfl) ?_
  refine Wk.go fun _ ag=>?_;simp (disch:=first|exact ⟨by kernel_rfl⟩|omega) only [go_sem,seval,cX ag,wd];(repeat' first|apply cq.l|refine aQ.i ⟨?_,rfl⟩)<;>try subst ag
  rfl
 refine AW.aal fun K17 hK17=>?_
 refine Wk.go fun _ ag=>?_;simp (disch:=omega) only [go_sem,seval,cX ag,h12];(repeat' apply cq.l)<;>try subst ag
 refine Pr.i (hK17 _ _ ?_)
 refine AW.condF (by simp (disch:=omega) only [go_sem,seval,h12];try exact rfl) ?_
 clear hK17
 refine Wk.go fun _ ag=>?_;simp (disch:=omega) only [go_sem,seval,cX ag];(repeat' apply cq.l)<;>try subst ag
 refine Pr.i (hK4 _ _ ?_)
 refine Wk.go fun _ ag=>?_;simp (disch:=first|exact ⟨by kernel_rfl⟩|omega) only [go_sem,seval,cX ag,wd];(repeat' first|apply cq.l|refine aQ.i ⟨?_,rfl⟩)<;>try subst ag
 simp only [sigF,sLen,sContains,sJoin,sString,sLower,sUpper,sSplit,sStarts,sEnds,sInt,sDefault,sKeys,vSg,h1,h2,h3,h4,h5,h6,h7,h8,h9,h10,h11,h12,or_self,if_false]
 rfl
theorem h_binary (op:cx) (a b:Ty) (ha:aai a) (hb:aai b):b8 G 185 [vs op,vTy a,vTy b] (trV (binF op a b)):=by
 intro st
 have b2:=h_both (G:=G) st.aj st.toks [.cells [ai 0,.bh]] a b 2
 have b3:=h_both (G:=G) st.aj st.toks [.cells [ai 0,.bh]] a b 3
 have la:=h_loose (G:=G) a
 have lb:=h_loose (G:=G) b
 have k3:=h_common (G:=G) a b 3
 have k4:=h_common (G:=G) a b 4
 have o2:=h_of (G:=G) 2
 have o3:=h_of (G:=G) 3
 have hs:=h_sum (G:=G) a b ha hb
 refine aa.body func185 rfl ntmps185 (by simp) ?_
 refine AW.aal fun K1 hK1=>?_
 refine Wk.go fun _ ag=>?_;simp (disch:=omega) only [go_sem,seval,cX ag];(repeat' apply cq.l)<;>try subst ag
 refine Pr.i (hK1 _ _ ?_)
 refine AW.aal fun K2 hK2=>?_
 refine Wk.go fun _ ag=>?_;simp (disch:=omega) only [go_sem,seval,cX ag];(repeat' apply cq.l)<;>try subst ag
 refine Pr.i (hK2 _ _ ?_)
 clear hK1 hK2
 refine AW.aal fun K4 hK4=>?_
 refine AW.aal fun K5 hK5=>?_
 refine Wk.go fun _ ag=>?_;simp (disch:=omega) only [go_sem,seval,cX ag];(repeat' apply cq.l)<;>try subst ag
 refine Pr.i (hK5 _ _ ?_)
 clear hK5
 refine AW.blockN ?_
 by_cases g0:op=[38,38]∨op=[124,124]
 ·rcases g0 with rfl|rfl
  all_goals
   have n10:¬ ([124,124]:cx)=[38,38]:=by decide
   refine AW.aal fun K6 hK6=>?_
   refine Wk.go fun _ ag=>?_;simp (disch:=omega) only [go_sem,seval,cX ag,n10];(repeat' apply cq.l)<;>try subst ag
   refine Pr.i (hK6 _ _ ?_)
   refine AW.condT (by simp (disch:=omega) only [go_sem,seval,n10];try exact rfl) ?_
   cases hx:(tyC a (tS 2)&&tyC b (tS 2))<;>rw [hx] at b2
   ·refine Wk.go fun _ ag=>?_;simp (disch:=omega) only [go_sem,seval,cX ag,bC b2];(repeat' apply cq.l)<;>try subst ag
    refine Pr.i (hK4 _ _ ?_)
    refine Wk.go fun _ ag=>?_;simp (disch:=omega) only [go_sem,seval,cX ag];(repeat' first|apply cq.l|refine aQ.i ⟨?_,rfl⟩)<;>try subst ag
    refine Pu ?_
    simp [binF,hx]
   ·refine Wk.go fun _ ag=>?_;simp (disch:=omega) only [go_sem,seval,cX ag,bC b2,bC (o2 _)];(repeat' first|apply cq.l|refine aQ.i ⟨?_,rfl⟩)<;>try subst ag
    refine aao ?_
    simp [binF,hx]
 have ⟨g00,g01⟩:¬ op=[38,38]∧¬ op=[124,124]:=by simpa using g0
 refine AW.aal fun K6 hK6=>?_
 refine Wk.go fun _ ag=>?_;simp (disch:=omega) only [go_sem,seval,cX ag,g00,g01];(repeat' apply cq.l)<;>try subst ag
 refine Pr.i (hK6 _ _ ?_)
 refine AW.condF (by simp (disch:=omega) only [go_sem,seval,g00,g01];try exact rfl) ?_
 clear hK6
 by_cases g1:op=[61,61]∨op=[33,61]
 ·rcases g1 with rfl|rfl
  all_goals
   have n10:¬ ([33,61]:cx)=[61,61]:=by decide
   refine AW.aal fun K7 hK7=>?_
   refine Wk.go fun _ ag=>?_;simp (disch:=omega) only [go_sem,seval,cX ag,n10];(repeat' apply cq.l)<;>try subst ag
   refine Pr.i (hK7 _ _ ?_)
   refine AW.condT (by simp (disch:=omega) only [go_sem,seval,n10];try exact rfl) ?_
   refine Wk.go fun _ ag=>?_;simp (disch:=omega) only [go_sem,seval,cX ag,bC (o2 _)];(repeat' first|apply cq.l|refine aQ.i ⟨?_,rfl⟩)<;>try subst ag
   refine aao ?_
   simp [binF]
 have ⟨g10,g11⟩:¬ op=[61,61]∧¬ op=[33,61]:=by simpa using g1
 refine AW.aal fun K7 hK7=>?_
 refine Wk.go fun _ ag=>?_;simp (disch:=omega) only [go_sem,seval,cX ag,g10,g11];(repeat' apply cq.l)<;>try subst ag
 refine Pr.i (hK7 _ _ ?_)
 refine AW.condF (by simp (disch:=omega) only [go_sem,seval,g10,g11];try exact rfl) ?_
 clear hK7
 by_cases g2:op=[60]∨op=[60,61]∨op=[62]∨op=[62,61]
 ·rcases g2 with rfl|rfl|rfl|rfl
  all_goals
   have n10:¬ ([60,61]:cx)=[60]:=by decide
   have n20:¬ ([62]:cx)=[60]:=by decide
   have n21:¬ ([62]:cx)=[60,61]:=by decide
   have n30:¬ ([62,61]:cx)=[60]:=by decide
   have n31:¬ ([62,61]:cx)=[60,61]:=by decide
   have n32:¬ ([62,61]:cx)=[62]:=by decide
   refine AW.aal fun K8 hK8=>?_
   refine Wk.go fun _ ag=>?_;simp (disch:=omega) only [go_sem,seval,cX ag,n10,n20,n21,n30,n31,n32];(repeat' apply cq.l)<;>try subst ag
   refine Pr.i (hK8 _ _ ?_)
   refine AW.condT (by simp (disch:=omega) only [go_sem,seval,n10,n20,n21,n30,n31,n32];try exact rfl) ?_
   refine AW.prune (jO [(4,.ptr st.aj.length 0),(5,.ptr (st.aj.length+1) 0),(6,.ptr (st.aj.length+2) 0),(7,ai 0)]) (eG (by simp (disch:=omega) only [go_sem,seval])) ?_
   have e:(tyL a=true∧tyL b=true)∨(tyL a=true∧tyL b=false∨tyL a=false)∧(tyK a b 3=true∨tyK a b 3=false∧(tyK a b 4=true∨tyK a b 4=false)):=by cases tyL a<;>cases tyL b<;>cases tyK a b 3<;>cases tyK a b 4<;>simp
   rcases e with ⟨e1,e2⟩|⟨⟨e1,e2⟩|e1,e3|⟨e3,e4|e4⟩⟩
   ·rw [e1] at la;rw [e2] at lb
    refine Wk.go fun _ ag=>?_;simp (disch:=omega) only [go_sem,seval,cX ag,bC (la _),bC (lb _),bC (k3 _),bC (k4 _),bC (o2 _)];(repeat' first|apply cq.l|refine aQ.i ⟨?_,rfl⟩)<;>try subst ag
    refine aao ?_
    simp [binF,e1,e2]
   ·rw [e1] at la;rw [e2] at lb;rw [e3] at k3
    refine Wk.go fun _ ag=>?_;simp (disch:=omega) only [go_sem,seval,cX ag,bC (la _),bC (lb _),bC (k3 _),bC (k4 _),bC (o2 _)];(repeat' first|apply cq.l|refine aQ.i ⟨?_,rfl⟩)<;>try subst ag
    refine aao ?_
    simp [binF,e1,e2,e3]
   ·rw [e1] at la;rw [e2] at lb;rw [e3] at k3;rw [e4] at k4
    refine Wk.go fun _ ag=>?_;simp (disch:=omega) only [go_sem,seval,cX ag,bC (la _),bC (lb _),bC (k3 _),bC (k4 _),bC (o2 _)];(repeat' first|apply cq.l|refine aQ.i ⟨?_,rfl⟩)<;>try subst ag
    refine aao ?_
    simp [binF,e1,e2,e3,e4]
   ·rw [e1] at la;rw [e2] at lb;rw [e3] at k3;rw [e4] at k4
    refine Wk.go fun _ ag=>?_;simp (disch:=omega) only [go_sem,seval,cX ag,bC (la _),bC (lb _),bC (k3 _),bC (k4 _),bC (o2 _)];(repeat' apply cq.l)<;>try subst ag
    refine Pr.i (hK4 _ _ ?_)
    refine Wk.go fun _ ag=>?_;simp (disch:=omega) only [go_sem,seval,cX ag];(repeat' first|apply cq.l|refine aQ.i ⟨?_,rfl⟩)<;>try subst ag
    refine Pu ?_
    simp [binF,e1,e2,e3,e4]
   ·rw [e1] at la;rw [e3] at k3
    refine Wk.go fun _ ag=>?_;simp (disch:=omega) only [go_sem,seval,cX ag,bC (la _),bC (lb _),bC (k3 _),bC (k4 _),bC (o2 _)];(repeat' first|apply cq.l|refine aQ.i ⟨?_,rfl⟩)<;>try subst ag
    refine aao ?_
    simp [binF,e1,e3]
   ·rw [e1] at la;rw [e3] at k3;rw [e4] at k4
    refine Wk.go fun _ ag=>?_;simp (disch:=omega) only [go_sem,seval,cX ag,bC (la _),bC (lb _),bC (k3 _),bC (k4 _),bC (o2 _)];(repeat' first|apply cq.l|refine aQ.i ⟨?_,rfl⟩)<;>try subst ag
    refine aao ?_
    simp [binF,e1,e3,e4]
   ·rw [e1] at la;rw [e3] at k3;rw [e4] at k4
    refine Wk.go fun _ ag=>?_;simp (disch:=omega) only [go_sem,seval,cX ag,bC (la _),bC (lb _),bC (k3 _),bC (k4 _),bC (o2 _)];(repeat' apply cq.l)<;>try subst ag
    refine Pr.i (hK4 _ _ ?_)
    refine Wk.go fun _ ag=>?_;simp (disch:=omega) only [go_sem,seval,cX ag];(repeat' first|apply cq.l|refine aQ.i ⟨?_,rfl⟩)<;>try subst ag
    refine Pu ?_
    simp [binF,e1,e3,e4]
 have ⟨g20,g21,g22,g23⟩:¬ op=[60]∧¬ op=[60,61]∧¬ op=[62]∧¬ op=[62,61]:=by simpa using g2
 refine AW.aal fun K8 hK8=>?_
 refine Wk.go fun _ ag=>?_;simp (disch:=omega) only [go_sem,seval,cX ag,g20,g21,g22,g23];(repeat' apply cq.l)<;>try subst ag
 refine Pr.i (hK8 _ _ ?_)
 refine AW.condF (by simp (disch:=omega) only [go_sem,seval,g20,g21,g22,g23];try exact rfl) ?_
 clear hK8
 by_cases g3:op=[45]∨op=[42]∨op=[47]∨op=[37]
 ·rcases g3 with rfl|rfl|rfl|rfl
  all_goals
   have n10:¬ ([42]:cx)=[45]:=by decide
   have n20:¬ ([47]:cx)=[45]:=by decide
   have n21:¬ ([47]:cx)=[42]:=by decide
   have n30:¬ ([37]:cx)=[45]:=by decide
   have n31:¬ ([37]:cx)=[42]:=by decide
   have n32:¬ ([37]:cx)=[47]:=by decide
   refine AW.aal fun K9 hK9=>?_
   refine Wk.go fun _ ag=>?_;simp (disch:=omega) only [go_sem,seval,cX ag,n10,n20,n21,n30,n31,n32];(repeat' apply cq.l)<;>try subst ag
   refine Pr.i (hK9 _ _ ?_)
   refine AW.condT (by simp (disch:=omega) only [go_sem,seval,n10,n20,n21,n30,n31,n32];try exact rfl) ?_
   cases hx:(tyC a (tS 3)&&tyC b (tS 3))<;>rw [hx] at b3
   ·refine Wk.go fun _ ag=>?_;simp (disch:=omega) only [go_sem,seval,cX ag,bC b3];(repeat' apply cq.l)<;>try subst ag
    refine Pr.i (hK4 _ _ ?_)
    refine Wk.go fun _ ag=>?_;simp (disch:=omega) only [go_sem,seval,cX ag];(repeat' first|apply cq.l|refine aQ.i ⟨?_,rfl⟩)<;>try subst ag
    refine Pu ?_
    simp [binF,hx]
   ·refine Wk.go fun _ ag=>?_;simp (disch:=omega) only [go_sem,seval,cX ag,bC b3,bC (o3 _)];(repeat' first|apply cq.l|refine aQ.i ⟨?_,rfl⟩)<;>try subst ag
    refine aao ?_
    simp [binF,hx]
 have ⟨g30,g31,g32,g33⟩:¬ op=[45]∧¬ op=[42]∧¬ op=[47]∧¬ op=[37]:=by simpa using g3
 refine AW.aal fun K9 hK9=>?_
 refine Wk.go fun _ ag=>?_;simp (disch:=omega) only [go_sem,seval,cX ag,g30,g31,g32,g33];(repeat' apply cq.l)<;>try subst ag
 refine Pr.i (hK9 _ _ ?_)
 refine AW.condF (by simp (disch:=omega) only [go_sem,seval,g30,g31,g32,g33];try exact rfl) ?_
 clear hK9
 by_cases g4:op=[43]
 ·subst g4
  refine AW.aal fun K10 hK10=>?_
  refine Wk.go fun _ ag=>?_;simp (disch:=omega) only [go_sem,seval,cX ag];(repeat' apply cq.l)<;>try subst ag
  refine Pr.i (hK10 _ _ ?_)
  refine AW.condT (by simp (disch:=omega) only [go_sem,seval];try exact rfl) ?_
  cases hr:sumF a b<;>rw [hr,trV] at hs
  ·refine Wk.go fun _ ag=>?_;simp (disch:=omega) only [go_sem,seval,cX ag,bC (hs _)];(repeat' first|apply cq.l|refine aQ.i ⟨?_,rfl⟩)<;>try subst ag
   refine aao ?_
   simp [binF,hr]
  ·refine Wk.go fun _ ag=>?_;simp (disch:=omega) only [go_sem,seval,cX ag,bC (hs _)];(repeat' first|apply cq.l|refine aQ.i ⟨?_,rfl⟩)<;>try subst ag
   rw [show binF [43] a b= .err _ from (by simp [binF,hr];rfl)]
   rfl
 have g40:=g4
 refine AW.aal fun K10 hK10=>?_
 refine Wk.go fun _ ag=>?_;simp (disch:=omega) only [go_sem,seval,cX ag,g40];(repeat' apply cq.l)<;>try subst ag
 refine Pr.i (hK10 _ _ ?_)
 refine AW.condF (by simp (disch:=omega) only [go_sem,seval,g40];try exact rfl) ?_
 clear hK10
 refine Wk.go fun _ ag=>?_;simp (disch:=omega) only [go_sem,seval,cX ag];(repeat' apply cq.l)<;>try subst ag
 refine Pr.i (hK4 _ _ ?_)
 refine Wk.go fun _ ag=>?_;simp (disch:=omega) only [go_sem,seval,cX ag];(repeat' first|apply cq.l|refine aQ.i ⟨?_,rfl⟩)<;>try subst ag
 refine Pu ?_
 simp [binF,g00,g01,g10,g11,g20,g21,g22,g23,g30,g31,g32,g33,g40]
structure EW (n:Nat) (e:Ex):Prop where
 oL:dc n e=0
 fit:j0 e
 wB:bq e≤1099511627776
theorem EW.node {n:Nat} {e:Ex} (h:EW n e):xe e n:=B3 (xd h.oL).1
theorem EW.arg {n:Nat} {e x:Ex} (h:EW n e) (hx:x∈e.args):EW (n+1) x:=
 ⟨(xd h.oL).2 x hx,((gq e).1 h.fit).2.2.2.2.2 x hx,by have:=h.wB;have:=nV hx;rw [iq] at*;omega⟩
theorem tcF_eq (env:List Dc) (e:Ex):tcF env e=if e.kind=5 then
   if (sigF e.name).1=[] then .err 10 else if e.args.length≠((sigF e.name).1.getD 0 []).length then .err 1
   else match tcF.tcL env e.args with
    | .err c=> .err c
    | .ok ts=>altF e.name (sigF e.name).2 ts (sigF e.name).1
  else match tcF.tcL env e.args with
   | .err c=> .err c
   | .ok ts=>nodeF e.kind e.name e.value env ts:=by cases e;rw [tcF];rfl
def tlPre (ts:List Ty):TL→TL
 | .err c=> .err c
 | .ok r=> .ok (ts++r)
theorem tcL_at (env:List Dc) (l:List Ex) (i:Nat):tcF.tcL env (l.drop i)=if i<l.length then (match tcF env (l.getD i default) with
  | .err c=> .err c
  | .ok t=>tlPre [t] (tcF.tcL env (l.drop (i+1)))) else .ok []:=by
 by_cases h:i<l.length
 ·rw [abb h,if_pos h,getD_eq h,tcF.tcL]
  cases tcF env l[i] with
  |err c=>rfl
  |ok t=>simp only;cases tcF.tcL env (l.drop (i+1))<;>rfl
 ·rw [abi (by omega),if_neg h,tcF.tcL]
theorem tcL_len (env:List Dc):∀ (l:List Ex) (ts:List Ty),tcF.tcL env l= .ok ts→ts.length=l.length
 |[],ts,h=>by rw [tcF.tcL] at h;cases h;rfl
 |e::r,ts,h=>by
  rw [tcF.tcL] at h
  split at h
  ·cases h
  ·split at h
   ·cases h
   ·rename_i t ht ts' hts
    cases h
    simp [tcL_len env r ts' hts]
theorem tcL_ok {env:List Dc} {p:Ty→Prop}:∀ (l:List Ex) (ts:List Ty),tcF.tcL env l= .ok ts→(∀ x∈l,∀ t,tcF env x= .ok t→p t)→∀ t∈ts,p t
 |[],ts,h,_=>by rw [tcF.tcL] at h;cases h;simp
 |e::r,ts,h,hp=>by
  rw [tcF.tcL] at h
  split at h
  ·cases h
  ·split at h
   ·cases h
   ·rename_i t ht _ ts' hts
    cases h
    intro u hu
    rcases aby.1 hu with rfl|hu
    ·exact hp e (by simp) _ ht
    ·exact tcL_ok r ts' hts (fun x hx=>hp x (by simp [hx])) u hu
theorem tcL_err {env:List Dc}:∀ (l:List Ex) (c:Int),tcF.tcL env l= .err c→(∀ x∈l,∀ c,tcF env x= .err c→c≠0)→c≠0
 |[],c,h,_=>by rw [tcF.tcL] at h;cases h
 |e::r,c,h,hp=>by
  rw [tcF.tcL] at h
  split at h
  ·rename_i c' hc;cases h;exact hp e (by simp) _ hc
  ·split at h
   ·rename_i c' hc;cases h;exact tcL_err r _ hc fun x hx=>hp x (by simp [hx])
   ·cases h
theorem dclF_err {env:List Dc} {nm:cx} {c:Int} (h:dclF env nm= .err c):c≠0:=by
 induction env with
 |nil=>rw [dclF] at h;cases h;decide
 |cons d r ih=>rw [dclF] at h;split at h;cases h;exact ih h
theorem dclF_ok {env:List Dc} {nm:cx} {t:Ty} (he:∀ d∈env,aai d.2) (h:dclF env nm= .ok t):aai t:=by
 induction env with
 |nil=>rw [dclF] at h;cases h
 |cons d r ih=>
  rw [dclF] at h;split at h
  ·cases h;exact he d (by simp)
  ·exact ih (fun x hx=>he x (by simp [hx])) h
theorem altF_err {nm:cx} {t:Ty} {ts:List Ty} {c:Int}:∀ l,altF nm t ts l= .err c→c≠0
 |[],h=>by rw [altF] at h;cases h;decide
 |w::r,h=>by
  rw [altF] at h
  split at h
  ·exact altF_err r h
  ·split at h
   ·cases h
   ·split at h<;>cases h
theorem altF_ok {nm:cx} {t u:Ty} {ts:List Ty} (ht:aai t) (hts:∀ i,aai (ts.getD i default)):∀ l,altF nm t ts l= .ok u→aai u
 |[],h=>by rw [altF] at h;cases h
 |w::r,h=>by
  rw [altF] at h
  split at h
  ·exact altF_ok ht hts r h
  ·split at h
   ·cases h;exact ht
   ·split at h<;>cases h<;>exact hts _
theorem tyOK_default:aai (default:Ty):=by
 have:(default:Ty)= .mk default []:=rfl
 rw [this];exact aav (k:=default) (by decide)
theorem tyOK_getD {ts:List Ty} (h:∀ t∈ts,aai t) (i:Nat):aai (ts.getD i default):=by
 by_cases hi:i<ts.length
 ·exact h _ (aB hi)
 ·rw [aaK,List.getElem?_eq_none (by omega)];exact tyOK_default
theorem tyOK_e0 {t:Ty} (h:aai t):aai t.e0:=by
 by_cases hn:t.elem=[]
 ·rw [Ty.e0,hn];exact tyOK_default
 ·exact (tyOK_ne h hn).2.2
theorem sigF_ok (nm:cx):aai (sigF nm).2:=by
 have h0:aai (tS 0):=aav (by decide)
 have h2:aai (tS 2):=aav (by decide)
 have h3:aai (tS 3):=aav (by decide)
 have h4:aai (tS 4):=aav (by decide)
 have h5:aai (tyS1 5 (tS 4)):=tyOK_S1 (by decide) h4
 unfold sigF
 repeat' split
 all_goals assumption
theorem nodeF_err {k:Int} {nm:cx} {v:aX} {env:List Dc} {ts:List Ty} {c:Int} (h:nodeF k nm v env ts= .err c):c≠0:=by
 unfold nodeF at h
 simp only at h
 repeat' split at h
 all_goals first|cases h|skip
 all_goals first|(exact dclF_err h)|skip
 ·unfold memF at h;repeat' split at h
  all_goals first|cases h|skip
  all_goals decide
 ·unfold idxF at h;simp only at h;repeat' split at h
  all_goals first|cases h|skip
  all_goals decide
 ·unfold unF at h;simp only at h;repeat' split at h
  all_goals first|cases h|skip
  all_goals decide
 ·unfold binF at h;simp only at h;repeat' split at h
  all_goals first|cases h|skip
  all_goals first|decide|skip
  unfold sumF at h;repeat' split at h
  all_goals first|cases h|skip
  all_goals decide
 ·decide
 ·unfold gathF at h;simp only at h;repeat' split at h
  all_goals first|cases h|skip
  all_goals decide
 ·unfold gathF at h;simp only at h;repeat' split at h
  all_goals first|cases h|skip
  all_goals decide
theorem unF_ok {op:cx} {t u:Ty} (h:unF op t= .ok u):aai u:=by
 unfold unF at h;simp only at h;repeat' split at h
 all_goals first|(cases h;exact aav (by decide))|cases h
theorem gathF_ok {k:Int} {ts:List Ty} {u:Ty} (h:gathF k ts= .ok u):aai u:=by
 unfold gathF at h;simp only at h
 split at h
 ·cases h
 ·rename_i hv;cases h;exact tyV_OK 1 _ (by simpa using hv)
theorem sumF_ok {a b u:Ty} (h:sumF a b= .ok u):aai u:=by
 have h3:aai (tS 3):=aav (by decide)
 have h4:aai (tS 4):=aav (by decide)
 have h5:aai (tyS1 5 (aaD (elF a) (elF b))):=tyOK_S1 (by decide) (tyOK_Join _ _)
 have h6:aai (tS 0):=aav (by decide)
 have h7:aai (tS 7):=aav (by decide)
 unfold sumF at h
 by_cases e0:a.kind=0∨b.kind=0<;>simp only [e0,if_true,if_false] at h<;>repeat' split at h
 all_goals first|(cases h;assumption)|cases h
theorem binF_ok {op:cx} {a b u:Ty} (h:binF op a b= .ok u):aai u:=by
 have h2:aai (tS 2):=aav (by decide)
 have h3:aai (tS 3):=aav (by decide)
 unfold binF at h;simp only at h
 repeat' split at h
 all_goals first|exact sumF_ok h|(cases h;assumption)|cases h
theorem nodeF_ok {k:Int} {nm:cx} {v:aX} {env:List Dc} {ts:List Ty} {t:Ty} (he:∀ d∈env,aai d.2) (hts:∀ i,aai (ts.getD i default)) (h:nodeF k nm v env ts= .ok t):aai t:=by
 unfold nodeF at h
 simp only at h
 repeat' split at h
 all_goals first|(exact gathF_ok h)|(exact binF_ok h)|(exact unF_ok h)|(exact dclF_ok he h)|(cases h;exact tyOK_Of v)|(cases h;exact tyOK_Join _ _)|(cases h;done)|skip
 ·unfold memF at h;repeat' split at h
  all_goals first|cases h|skip
  ·exact hts 0
  ·exact tyOK_e0 (hts 0)
 ·unfold idxF at h;simp only at h;repeat' split at h
  all_goals first|cases h|skip
  ·exact tyOK_e0 (hts 0)
  ·exact hts 0
theorem tcF_err {env:List Dc}:∀ (e:Ex) (c:Int),tcF env e= .err c→c≠0:=by
 intro e
 induction e using Ex.ind with
 |h e ih=>
  intro c h
  rw [tcF_eq] at h
  split at h
  ·split at h
   ·cases h;decide
   ·split at h
    ·cases h;decide
    ·split at h
     ·rename_i hc;cases h;exact tcL_err e.args _ hc ih
     ·exact altF_err _ h
  ·split at h
   ·rename_i hc;cases h;exact tcL_err e.args _ hc ih
   ·exact nodeF_err h
theorem tcF_ok {env:List Dc} (he:∀ d∈env,aai d.2):∀ (e:Ex) (t:Ty),tcF env e= .ok t→aai t:=by
 intro e
 induction e using Ex.ind with
 |h e ih=>
  intro t h
  rw [tcF_eq] at h
  split at h
  ·split at h
   ·cases h
   ·split at h
    ·cases h
    ·split at h
     ·cases h
     ·rename_i ts hc;exact altF_ok (sigF_ok _) (tyOK_getD (tcL_ok e.args ts hc ih)) _ h
  ·split at h
   ·cases h
   ·rename_i ts hc;exact nodeF_ok he (tyOK_getD (tcL_ok e.args ts hc ih)) h
abbrev vExs (l:List Ex):V:= .d (.sl (l.map Ex.enc))
def tlV:TL→V
 | .ok ts=> .cF [vTys ts,ai 0]
 | .err c=> .cF [.d (.sl []),ai c]
theorem ty_one (t:Ty):(t.enc.all D.one)=true:=by rw [Ty.aP];rfl
theorem h_all (env:List Dc) (l:List Ex) (hl:l.length≤1048576) (ih:∀ x∈l,b8 G 144 [vE x,vDcs env] (trV (tcF env x))):b8 G 180 [vExs l,vDcs env] (tlV (tcF.tcL env l)):=by
 intro st
 refine aa.start func180 rfl ntmps180 (by simp) fun _ ag=>?_
 simp only [go_sem,seval,cX ag];all_goals (try subst ag)
 refine AW.zU (fun x:Nat×List Ty=>[(1,vDcs env),(6,lz st.toks.length (x.2.map Ty.enc)),(11,vExs l),(12,ai ↑l.length),(13,ai ↑x.1)]) (fun _=>[]) (fun x=>k9 168 2 (x.2.map Ty.enc))
  (fun x=>x.1≤l.length∧x.2.length=x.1∧tcF.tcL env l=tlPre x.2 (tcF.tcL env (l.drop x.1))) (fun x=>l.length - x.1) (0,[]) ⟨by simp [k9],by simp only [go_sem,seval,aba,lz]⟩ ⟨by simp,rfl,by simp only [abr];cases tcF.tcL env l<;>rfl⟩ ?_
 rintro ⟨i,ts⟩ ⟨g1,g2,g3⟩
 simp only at g1 g2 g3
 rw [tcL_at] at g3
 by_cases hil:i<l.length
 ·rw [if_pos hil] at g3
  have hx:=ih _ (aB hil)
  generalize hq:tcF env (l.getD i default)=r at hx g3
  have hne:=fun c=>tcF_err (env:=env) (l.getD i default) c
  rw [hq] at hne
  cases r with
  |err c=>
   rw [trV] at hx
   have:=hne c rfl
   refine Wk.go fun _ ag=>?_;simp (disch:=first|exact ⟨by kernel_rfl⟩|omega) only [go_sem,seval,cX ag,wd,bC (hx _),this];(repeat' first|apply cq.l|refine cE.i fun hc=>?_|refine aQ.i ⟨?_,rfl⟩)<;>try subst ag
   rw [g3];rfl
  |ok t=>
   rw [trV] at hx
   have hts:ts.length≤1048576:=by omega
   refine Wk.go fun _ ag=>?_;simp (disch:=first|omega|exact ⟨by kernel_rfl⟩|(simp only [go_sem,aaN];try omega)) only [go_sem,seval,cX ag,wd,bC (hx _),ty_one];(repeat' first|apply cq.l|refine cE.i fun hc=>?_)<;>try subst ag
   refine Pr.i ⟨(i+1,ts++[t]),⟨by simp only [go_sem,seval,abm,aa5,aba]<;>omega,?_,?_⟩⟩
   ·refine ⟨by simp only;omega,by simp [g2],?_⟩
    rw [g3]
    cases tcF.tcL env (l.drop (i+1))<;>simp [tlPre]
   ·simp only;omega
 ·rw [if_neg hil] at g3
  refine Wk.go fun _ ag=>?_;simp (disch:=first|exact ⟨by kernel_rfl⟩|omega) only [go_sem,seval,cX ag,wd];(repeat' first|apply cq.l|refine cE.i fun hc=>?_|refine aQ.i ⟨?_,rfl⟩)<;>try subst ag
  rw [g3,tlPre,aa7];rfl
theorem rowsLen_sg (l:List (List Ty)):cr 1 (l.map sgD)=true:=ZJ sgD 1 (fun _=>rfl) l
theorem sg_get (l:List Ty):(sgD l)[0]?=some (.sl (l.map Ty.enc)):=(rfl)
theorem sgD_len (l:List Ty):(sgD l).length=1:=(rfl)
theorem sigF_len (nm:cx):∀ w∈(sigF nm).1,w.length=((sigF nm).1.getD 0 []).length:=by
 unfold sigF
 repeat' split
 all_goals simp
theorem sigF_num (nm:cx):(sigF nm).1.length≤4:=by
 unfold sigF
 repeat' split
 all_goals decide
theorem sigF_def:(sigF sDefault).1=[[tS 0,tS 0]]:=by rfl
theorem altF_at (nm:cx) (t:Ty) (ts:List Ty) (l:List (List Ty)) (i:Nat):altF nm t ts (l.drop i)=if i<l.length then (if suitF ts 0 (l.getD i default)=false then altF nm t ts (l.drop (i+1)) else if nm≠sDefault then .ok t else if (ts.getD 0 default).kind=1 then .ok (ts.getD 1 default) else .ok (ts.getD 0 default)) else .err 9:=by
 by_cases h:i<l.length
 ·rw [abb h,if_pos h,getD_eq h,altF]
 ·rw [abi (by omega),if_neg h,altF]
theorem h_call (env:List Dc) {n:Nat} (e:Ex) (he:EW n e) (h5:e.kind=5) (ha:b8 G 180 [vExs e.args,vDcs env] (tlV (tcF.tcL env e.args))):b8 G 179 [vE e,vDcs env] (trV (tcF env e)):=by
 intro st
 have hs:=h_signatures (G:=G) e.name
 have hN:=he.node.len
 have hlen:=sigF_len e.name
 have hnum:=sigF_num e.name
 have hdef:e.name=sDefault→(sigF e.name).1=[[tS 0,tS 0]]:=fun h=>by rw [h];exact sigF_def
 rw [tcF_eq,if_pos h5]
 generalize sigF e.name=S at*
 obtain ⟨alts,t0⟩:=S
 simp only at hlen hdef hnum ⊢
 rw [vSg] at hs
 by_cases h0:alts=[]
 ·subst h0
  refine aa.start func179 rfl ntmps179 (by simp) fun _ ag=>?_
  simp (disch:=first|exact ⟨by kernel_rfl⟩|omega) only [go_sem,seval,cX ag,wd,bC (hs _),aba];(repeat' first|apply cq.l|refine aQ.i ⟨?_,rfl⟩)<;>try subst ag
  all_goals first|rfl|skip
 rw [if_neg h0]
 have h0l:alts.length≠0:=fun h=>h0 (abw.1 h)
 have hw:∀ i,i<alts.length→(alts.getD i default).length=(alts.getD 0 []).length:=fun i hi=>hlen _ (aB hi)
 generalize hL0:(alts.getD 0 []).length=L0 at*
 have h00:(alts.getD 0 default).length=L0:=hw 0 (by omega)
 by_cases hn:e.args.length≠L0
 ·rw [if_pos hn]
  refine aa.start func179 rfl ntmps179 (by simp) fun _ ag=>?_
  simp (disch:=first|exact ⟨by kernel_rfl⟩|omega) only [go_sem,seval,cX ag,wd,bC (hs _),h0l,h00,hn,rowsLen_sg,sg_get,sgD_len];(repeat' first|apply cq.l|refine cE.i fun hc=>?_|refine aQ.i ⟨?_,rfl⟩)<;>try subst ag
  exact Pu rfl
 rw [if_neg hn]
 have hn':e.args.length=L0:=Classical.not_not.1 hn
 cases hq:tcF.tcL env e.args with
 |err c=>
  have hc0:=tcL_err e.args c hq fun x _ c hx=>tcF_err x c hx
  rw [hq,tlV] at ha
  refine aa.start func179 rfl ntmps179 (by simp) fun _ ag=>?_
  simp (disch:=first|exact ⟨by kernel_rfl⟩|omega) only [go_sem,seval,cX ag,wd,bC (hs _),bC (ha _),h0l,h00,hn',hc0,rowsLen_sg,sg_get,sgD_len];(repeat' first|apply cq.l|refine cE.i fun hc=>?_|refine aQ.i ⟨?_,rfl⟩)<;>try subst ag
  exact Pu rfl
 |ok ts=>
  have hts:=tcL_len env e.args ts hq
  rw [hq,tlV] at ha
  refine aa.start func179 rfl ntmps179 (by simp) fun _ ag=>?_
  simp (disch:=first|exact ⟨by kernel_rfl⟩|omega) only [go_sem,seval,cX ag,wd,bC (hs _),bC (ha _),h0l,h00,hn',rowsLen_sg,sg_get,sgD_len];(repeat' first|apply cq.l|refine cE.i fun hc=>?_)<;>try subst ag
  simp only
  refine AW.zU (fun i:Nat=>[(2,.ptr st.aj.length 0),(4,.ptr (st.aj.length+1) 0),(7,.ptr (st.aj.length+2) 0),(8,vTys ts),(42,.d (.sl (alts.map sgD))),(43,ai ↑alts.length),(44,ai ↑i)])
   (fun i=>[.cells (e.enc.map .d),.cells [ai 0,.bh],.cells (t0.enc.map .d)]) (fun _=>[]) (fun i=>i≤alts.length∧altF e.name t0 ts (alts.drop i)=altF e.name t0 ts alts) (fun i=>alts.length - i) 0 ⟨by simp,by simp only [go_sem,seval]⟩ (by simp) ?_
  intro i ⟨hi,g⟩
  rw [altF_at] at g
  by_cases hil:i<alts.length
  ·rw [if_pos hil] at g
   have hsu:=h_suits (G:=G) ts (alts.getD i default) (by rw [hw i hil];omega) (by omega)
   cases hb:suitF ts 0 (alts.getD i default) with
   |false=>
    rw [hb] at hsu
    rw [if_pos hb] at g
    refine Wk.go fun _ ag=>?_;simp (disch:=first|exact ⟨by kernel_rfl⟩|omega) only [go_sem,seval,cX ag,wd,bC (hsu _),rowsLen_sg,sg_get,sgD_len];(repeat' first|apply cq.l|refine cE.i fun hc=>?_)<;>try subst ag
    refine Pr.i ⟨i+1,⟨by simp (disch:=omega) only [go_sem,seval]<;>omega,?_,?_⟩⟩
    ·exact ⟨by omega,g⟩
    ·omega
   |true=>
    rw [hb] at hsu
    rw [if_neg (by rw [hb];simp)] at g
    by_cases hd:e.name=[100,101,102,97,117,108,116]
    ·rw [if_neg (show ¬ e.name≠sDefault from fun h=>h hd)] at g
     have h2:1<ts.length:=by
      have:=hdef hd
      rw [this] at hL0
      simp at hL0;omega
     refine Wk.go fun _ ag=>?_;simp (disch:=first|exact ⟨by kernel_rfl⟩|omega) only [go_sem,seval,cX ag,wd,bC (hsu _),hd,rowsLen_sg,sg_get,sgD_len];(repeat' first|apply cq.l|apply bg.i|refine cE.i fun hc=>?_|refine aQ.i ⟨?_,rfl⟩)<;>try subst ag
     ·exact absurd rfl (by assumption)
     ·rename_i hc;rw [if_pos (by simpa using hc)] at g;exact aao g.symm
     ·rename_i hc;rw [if_neg (by simpa using hc)] at g;exact aao g.symm
    ·rw [if_pos (show e.name≠sDefault from hd)] at g
     refine Wk.go fun _ ag=>?_;simp (disch:=first|exact ⟨by kernel_rfl⟩|omega) only [go_sem,seval,cX ag,wd,bC (hsu _),hd,rowsLen_sg,sg_get,sgD_len];(repeat' first|apply cq.l|apply bg.i|refine cE.i fun hc=>?_|refine aQ.i ⟨?_,rfl⟩)<;>try subst ag
     all_goals first|exact aao g.symm|(rename_i hc;exact absurd hd hc)|(exfalso;apply_assumption;exact hd)|(exfalso;apply_assumption;assumption)
  ·rw [if_neg hil] at g
   refine Wk.go fun _ ag=>?_;simp (disch:=first|exact ⟨by kernel_rfl⟩|omega) only [go_sem,seval,cX ag,wd];(repeat' first|apply cq.l|refine cE.i fun hc=>?_|refine aQ.i ⟨?_,rfl⟩)<;>try subst ag
   exact Pu g.symm
theorem h_find (env:List Dc) (hl:env.length≤1048576) (hE:∀ d∈env,aai d.2):∀ (e:Ex) (n:Nat),EW n e→b8 G 144 [vE e,vDcs env] (trV (tcF env e)):=by
 intro e
 induction e using Ex.ind with
 |h e ih=>
 intro n he st
 have hN:=he.node
 have ha:=h_all env e.args (by have:=hN.len;omega) (fun x hx=>ih x hx _ (he.arg hx))
 by_cases h5:e.kind=5
 ·have hc:=h_call env e he h5 ha
  cases hr:tcF env e with
  |ok t=>
   rw [hr,trV] at hc
   refine aa.start func144 rfl ntmps144 (by simp) fun _ ag=>?_
   simp (disch:=first|exact ⟨by kernel_rfl⟩|omega) only [go_sem,seval,cX ag,wd,bC (hc _),h5];(repeat' first|apply cq.l|refine aQ.i ⟨?_,rfl⟩)<;>try subst ag
   rfl
  |err c=>
   rw [hr,trV] at hc
   refine aa.start func144 rfl ntmps144 (by simp) fun _ ag=>?_
   simp (disch:=first|exact ⟨by kernel_rfl⟩|omega) only [go_sem,seval,cX ag,wd,bC (hc _),h5];(repeat' first|apply cq.l|refine aQ.i ⟨?_,rfl⟩)<;>try subst ag
   rfl
 rw [tcF_eq,if_neg h5]
 cases hq:tcF.tcL env e.args with
 |err c=>
  have hc0:=tcL_err e.args c hq fun x _ c hx=>tcF_err x c hx
  rw [hq,tlV] at ha
  refine aa.start func144 rfl ntmps144 (by simp) fun _ ag=>?_
  simp (disch:=first|exact ⟨by kernel_rfl⟩|omega) only [go_sem,seval,cX ag,wd,bC (ha _),h5,hc0];(repeat' first|apply cq.l|refine cE.i fun hc=>?_|refine aQ.i ⟨?_,rfl⟩)<;>try subst ag
  exact Pu rfl
 |ok ts=>
 have hts:=tcL_len env e.args ts hq
 have hok:∀ i,aai (ts.getD i default):=tyOK_getD (tcL_ok e.args ts hq fun x _ t ht=>tcF_ok hE x t ht)
 rw [hq,tlV] at ha
 have hA:=hN.Pa
 have hk1:=hN.k1
 have hk2:=hN.k2
 have hv:=t_Of (G:=G) e.value ((gq e).1 he.fit).2.1 (by have:=he.wB;rw [iq] at this;omega)
 simp only
 have hk:e.kind=1∨e.kind=2∨e.kind=3∨e.kind=4∨e.kind=6∨e.kind=7∨e.kind=8∨e.kind=9∨e.kind=10:=by omega
 rcases hk with hk|hk|hk|hk|hk|hk|hk|hk|hk<;>rw [hk]
 ·refine aa.start func144 rfl ntmps144 (by simp) fun _ ag=>?_
  simp (disch:=first|exact ⟨by kernel_rfl⟩|omega) only [go_sem,seval,cX ag,wd,bC (ha _),bC (hv _),hk];(repeat' first|apply cq.l|refine aQ.i ⟨?_,rfl⟩)<;>try subst ag
  rfl
 ·have hr:=h_declared (G:=G) env (by omega) e.name
  cases hx:dclF env e.name<;>rw [hx,trV] at hr
  all_goals
   refine aa.start func144 rfl ntmps144 (by simp) fun _ ag=>?_
   simp (disch:=first|exact ⟨by kernel_rfl⟩|omega) only [go_sem,seval,cX ag,wd,bC (ha _),bC (hr _),hk];(repeat' first|apply cq.l|refine aQ.i ⟨?_,rfl⟩)<;>try subst ag
   rw [show nodeF 2 e.name e.value env ts=dclF env e.name from rfl,hx];rfl
 ·have ht:ts.length=1:=by rw [hts];exact hA.2.1 (.inl hk)
  have hr:=h_member (G:=G) (ts.getD 0 default) (hok 0)
  cases hx:memF (ts.getD 0 default)<;>rw [hx,trV] at hr
  all_goals
   refine aa.start func144 rfl ntmps144 (by simp) fun _ ag=>?_
   simp (disch:=first|exact ⟨by kernel_rfl⟩|omega) only [go_sem,seval,cX ag,wd,bC (ha _),bC (hr _),hk];(repeat' first|apply cq.l|refine aQ.i ⟨?_,rfl⟩)<;>try subst ag
   rw [show nodeF 3 e.name e.value env ts=memF (ts.getD 0 default) from rfl,hx];rfl
 ·have ht:ts.length=2:=by rw [hts];exact hA.2.2.1 (.inl hk)
  have hr:=h_index (G:=G) (ts.getD 0 default) (ts.getD 1 default) (hok 0)
  cases hx:idxF (ts.getD 0 default) (ts.getD 1 default)<;>rw [hx,trV] at hr
  all_goals
   refine aa.start func144 rfl ntmps144 (by simp) fun _ ag=>?_
   simp (disch:=first|exact ⟨by kernel_rfl⟩|omega) only [go_sem,seval,cX ag,wd,bC (ha _),bC (hr _),hk];(repeat' first|apply cq.l|refine aQ.i ⟨?_,rfl⟩)<;>try subst ag
   rw [show nodeF 4 e.name e.value env ts=idxF (ts.getD 0 default) (ts.getD 1 default) from rfl,hx];rfl
 ·have ht:ts.length=1:=by rw [hts];exact hA.2.1 (.inr hk)
  have hr:=h_unary (G:=G) e.name (ts.getD 0 default)
  cases hx:unF e.name (ts.getD 0 default)<;>rw [hx,trV] at hr
  all_goals
   refine aa.start func144 rfl ntmps144 (by simp) fun _ ag=>?_
   simp (disch:=first|exact ⟨by kernel_rfl⟩|omega) only [go_sem,seval,cX ag,wd,bC (ha _),bC (hr _),hk];(repeat' first|apply cq.l|refine aQ.i ⟨?_,rfl⟩)<;>try subst ag
   rw [show nodeF 6 e.name e.value env ts=unF e.name (ts.getD 0 default) from rfl,hx];rfl
 ·have ht:ts.length=2:=by rw [hts];exact hA.2.2.1 (.inr hk)
  have hr:=h_binary (G:=G) e.name (ts.getD 0 default) (ts.getD 1 default) (hok 0) (hok 1)
  cases hx:binF e.name (ts.getD 0 default) (ts.getD 1 default)<;>rw [hx,trV] at hr
  all_goals
   refine aa.start func144 rfl ntmps144 (by simp) fun _ ag=>?_
   simp (disch:=first|exact ⟨by kernel_rfl⟩|omega) only [go_sem,seval,cX ag,wd,bC (ha _),bC (hr _),hk];(repeat' first|apply cq.l|refine aQ.i ⟨?_,rfl⟩)<;>try subst ag
   rw [show nodeF 7 e.name e.value env ts=binF e.name (ts.getD 0 default) (ts.getD 1 default) from rfl,hx];rfl
 ·have ht:ts.length=3:=by rw [hts];exact hA.2.2.2.1 hk
  have o2:=h_of (G:=G) 2
  have cc:=h_compatible (G:=G) (ts.getD 0 default) (tS 2)
  have hj:=t_Join (G:=G) (ts.getD 1 default) (ts.getD 2 default)
  cases hx:tyC (ts.getD 0 default) (tS 2)<;>rw [hx] at cc
  all_goals
   refine aa.start func144 rfl ntmps144 (by simp) fun _ ag=>?_
   simp (disch:=first|exact ⟨by kernel_rfl⟩|omega) only [go_sem,seval,cX ag,wd,bC (ha _),bC (o2 _),bC (cc _),bC (hj _),hk];(repeat' first|apply cq.l|refine aQ.i ⟨?_,rfl⟩)<;>try subst ag
   rw [show nodeF 8 e.name e.value env ts=if tyC (ts.getD 0 default) (tS 2)=true then .ok (aaD (ts.getD 1 default) (ts.getD 2 default)) else .err 9 from rfl,hx]
   first|rfl|exact Pu rfl
 ·have hr:=h_gathered (G:=G) 5 ts (by have:=hN.len;omega)
  cases hx:gathF 5 ts<;>rw [hx,trV] at hr
  all_goals
   refine aa.start func144 rfl ntmps144 (by simp) fun _ ag=>?_
   simp (disch:=first|exact ⟨by kernel_rfl⟩|omega) only [go_sem,seval,cX ag,wd,bC (ha _),bC (hr _),hk];(repeat' first|apply cq.l|refine aQ.i ⟨?_,rfl⟩)<;>try subst ag
   rw [show nodeF 9 e.name e.value env ts=gathF 5 ts from rfl,hx];rfl
 ·have hr:=h_gathered (G:=G) 6 ts (by have:=hN.len;omega)
  cases hx:gathF 6 ts<;>rw [hx,trV] at hr
  all_goals
   refine aa.start func144 rfl ntmps144 (by simp) fun _ ag=>?_
   simp (disch:=first|exact ⟨by kernel_rfl⟩|omega) only [go_sem,seval,cX ag,wd,bC (ha _),bC (hr _),hk];(repeat' first|apply cq.l|refine aQ.i ⟨?_,rfl⟩)<;>try subst ag
   rw [show nodeF 10 e.name e.value env ts=gathF 6 ts from rfl,hx];rfl
theorem envF_at (seen:List cx) (l:List Dc) (i:Nat):envF seen (l.drop i)=if i<l.length then (if aaH (l.getD i default).1=false then 1 else if tyV 1 (l.getD i default).2≠0 then tyV 1 (l.getD i default).2 else if seen.contains (l.getD i default).1 then 7 else envF (seen++[(l.getD i default).1]) (l.drop (i+1))) else 0:=by
 by_cases h:i<l.length
 ·rw [abb h,if_pos h,getD_eq h,envF]
 ·rw [abi (by omega),if_neg h,envF]
theorem h_plain (s:cx) (hs:s.length≤1048576):b8 G 74 [.agg [ai 2,vs s,ai 0,vb false,ai 0,vs [],.d (.sl []),.d (.sl []),.d (.sl []),.d (.sl [])]] (ai (if aaH s then 0 else 1)):=by
 have h:b8 G 74 [.agg [ai 2,vs s,ai 0,vb false,ai 0,vs [],.d (.sl []),.d (.sl []),.d (.sl []),.d (.sl [])]] (ai (dW (Qk s))):=
  mL (Qk s) (TC hs) (by rw [Qk,dM,iT];simp [cj.dm,bq.er];omega)
 rw [FQ] at h
 exact h
theorem h_Env (env:List Dc) (hl:env.length≤1099511627776) (hn:∀ d∈env,d.1.length≤1048576):b8 G 143 [vDcs env] (ai (denvF env)):=by
 intro st
 rw [denvF]
 by_cases h0:1024<env.length
 ·rw [if_pos h0]
  refine aa.start func143 rfl ntmps143 (by simp) fun _ ag=>?_
  simp (disch:=omega) only [go_sem,seval,cX ag,h0];(repeat' first|apply cq.l|refine cE.i fun hc=>?_|refine aQ.i ⟨?_,rfl⟩)<;>try subst ag
  all_goals first|rfl|(exfalso;omega)|skip
 rw [if_neg h0]
 refine aa.start func143 rfl ntmps143 (by simp) fun _ ag=>?_
 simp (disch:=omega) only [go_sem,seval,cX ag,JD];(repeat' refine cE.i fun hc=>?_)<;>try subst ag
 refine AW.zU (fun x:List cx×Nat=>[(3,.mp st.aj.length),(11,vDcs env),(12,ai ↑env.length),(13,ai ↑x.2)]) (fun x=>[.mp .str x.2 (fm x.1)]) (fun _=>[])
  (fun x=>x.2≤env.length∧envF x.1 (env.drop x.2)=envF [] env) (fun x=>env.length - x.2) ([],0) (by simp only [go_sem,seval,P2]<;>omega) ⟨by simp,rfl⟩ ?_
 rintro ⟨l,i⟩ ⟨g1,g2⟩
 simp only at g1 g2
 rw [envF_at] at g2
 rw [←g2]
 by_cases hi:i<env.length
 ·have a1:=hn _ (aB hi)
  have hp:=h_plain (G:=G) (env.getD i default).1 a1
  have hv:=t_Valid (G:=G) (env.getD i default).2
  cases hc:l.contains (env.getD i default).1
  ·refine Wk.go fun _ ag=>?_;simp (disch:=omega) only [go_sem,seval,cX ag,JD,JE,P4 hc,bC (hp _),bC (hv _)];(repeat' first|apply cq.l|apply bg.i|refine cE.i fun hc=>?_|refine aQ.i ⟨?_,rfl⟩)<;>try subst ag
   all_goals first|(refine bA ?_;grind)|skip
   refine Pr.i ⟨(l++[(env.getD i default).1],i+1),⟨by simp (disch:=omega) only [go_sem,seval,P3]<;>omega,?_,?_⟩⟩
   ·exact ⟨by simp only;omega,by grind⟩
   ·simp only;omega
  ·refine Wk.go fun _ ag=>?_;simp (disch:=omega) only [go_sem,seval,cX ag,JD,JE,TD hc,bC (hp _),bC (hv _)];(repeat' first|apply cq.l|apply bg.i|refine cE.i fun hc=>?_|refine aQ.i ⟨?_,rfl⟩)<;>try subst ag
   all_goals (refine bA ?_;grind)
 ·refine Wk.go fun _ ag=>?_;simp (disch:=omega) only [go_sem,seval,cX ag];(repeat' first|apply cq.l|refine cE.i fun hc=>?_|refine aQ.i ⟨?_,rfl⟩)<;>try subst ag
  rw [if_neg hi]
theorem denvF_len {env:List Dc} (h:denvF env=0):env.length≤1024:=by
 rw [denvF] at h;split at h
 ·cases h
 ·omega
theorem envF_ok:∀ (seen:List cx) (env:List Dc),envF seen env=0→∀ d∈env,aai d.2
 |_,[],_=>by simp
 |seen,d::r,h=>by
  rw [envF] at h
  split at h
  ·cases h
  ·split at h
   ·rename_i hv;exact absurd h hv
   ·rename_i hv
    split at h
    ·cases h
    ·intro x hx
     rcases aby.1 hx with rfl|hx
     ·exact tyV_OK 1 _ (by simpa using hv)
     ·exact envF_ok _ r h x hx
theorem h_Expr (e:Ex) (env:List Dc) (hl:env.length≤1099511627776) (hn:∀ d∈env,d.1.length≤1048576) (fe:j0 e) (ie:ot e) (hb:bq e≤1099511627776):b8 G 112 [vE e,vDcs env] (trV (exprF e env)):=by
 intro st
 have h1:=h_Env (G:=G) env hl hn
 have h2:=mL (G:=G) e ⟨fe,ie⟩ hb
 rw [exprF]
 by_cases e1:denvF env=0
 ·rw [if_neg (by simp [e1])]
  rw [e1] at h1
  by_cases e2:dW e=0
  ·rw [if_neg (by simp [e2])]
   rw [e2] at h2
   have hck:dc 1 e=0:=by
    have h1:=e2
    rw [dW] at h1;split at h1
    ·omega
    ·exact h1
   have hl':=denvF_len e1
   have hE:∀ d∈env,aai d.2:=by
    rw [denvF,if_neg (by omega)] at e1
    exact envF_ok [] env e1
   have hf:=h_find (G:=G) env (by omega) hE e 1 ⟨hck,fe,hb⟩
   have o7:=h_of (G:=G) 7
   cases hr:tcF env e with
   |err c=>
    have hc0:=tcF_err e c hr
    rw [hr,trV] at hf
    refine aa.start func112 rfl ntmps112 (by simp) fun _ ag=>?_
    simp (disch:=first|exact ⟨by kernel_rfl⟩|omega) only [go_sem,seval,cX ag,wd,bC (h1 _),bC (h2 _),bC (hf _),hc0];(repeat' first|apply cq.l|refine cE.i fun hc=>?_|refine aQ.i ⟨?_,rfl⟩)<;>try subst ag
    exact Pu rfl
   |ok t=>
    rw [hr,trV] at hf
    have hj:=t_Join (G:=G) t (tS 7)
    refine aa.start func112 rfl ntmps112 (by simp) fun _ ag=>?_
    simp (disch:=first|exact ⟨by kernel_rfl⟩|omega) only [go_sem,seval,cX ag,wd,bC (h1 _),bC (h2 _),bC (hf _),bC (o7 _),bC (hj _)];(repeat' first|apply cq.l|refine aQ.i ⟨?_,rfl⟩)<;>try subst ag
    rfl
  ·rw [if_pos e2]
   refine aa.start func112 rfl ntmps112 (by simp) fun _ ag=>?_
   simp (disch:=first|exact ⟨by kernel_rfl⟩|omega) only [go_sem,seval,cX ag,wd,bC (h1 _),bC (h2 _),e2];(repeat' first|apply cq.l|refine cE.i fun hc=>?_|refine aQ.i ⟨?_,rfl⟩)<;>try subst ag
   exact Pu rfl
 ·rw [if_pos e1]
  refine aa.start func112 rfl ntmps112 (by simp) fun _ ag=>?_
  simp (disch:=first|exact ⟨by kernel_rfl⟩|omega) only [go_sem,seval,cX ag,wd,bC (h1 _),e1];(repeat' first|apply cq.l|refine cE.i fun hc=>?_|refine aQ.i ⟨?_,rfl⟩)<;>try subst ag
  exact Pu rfl
