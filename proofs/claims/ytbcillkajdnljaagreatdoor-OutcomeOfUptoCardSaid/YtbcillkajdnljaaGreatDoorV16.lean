import Derived.Test.YtbcillkajdnljaaGreatDoorV15
set_option linter.all false
section
set_option maxHeartbeats 8000000
set_option maxRecDepth 20000
namespace Go.Proofs.YtbcillkajdnljaaGreatDoor
open Tryz
open Go.Abs
attribute [local irreducible] AW OX GQ bK bO bz aY aA
variable {G:World→Nat→Prop}
structure EW (n:Nat) (e:Ex):Prop where
 oL:dc n e=0
 fit:j0 e
 bulk:bq e≤1099511627776
def EW.node {n:Nat} {e:Ex} (h:EW n e):xe e n:=B3 (xd h.oL).1
def EW.arg {n:Nat} {e x:Ex} (h:EW n e) (hx:x∈e.args):EW (n+1) x:=
 ⟨(xd h.oL).2 x hx,((gq e).1 h.fit).2.2.2.2.2 x hx,by have:=h.bulk;have:=nV hx;rw [iq] at*;omega⟩
theorem tcF_eq (env:List Dc) (e:Ex):tcF env e=if e.kind=5 then
   if (sigF e.name).1=[] then .err 10 else if e.args.length≠((sigF e.name).1.getD 0 []).length then .err 1
   else match tcF.tcL env e.args with
    | .err c=> .err c
    | .ok ts=>altF e.name (sigF e.name).2 ts (sigF e.name).1
  else match tcF.tcL env e.args with
   | .err c=> .err c
   | .ok ts=>nodeF e.kind e.name e.value env ts:=by cases e;rw [tcF];rfl
def tlPre (ts:List Ty):TL→TL
 | .err c=> .err c
 | .ok r=> .ok (ts++r)
theorem tcL_at (env:List Dc) (l:List Ex) (i:Nat):tcF.tcL env (l.drop i)=if i<l.length then (match tcF env (l.getD i default) with
  | .err c=> .err c
  | .ok t=>tlPre [t] (tcF.tcL env (l.drop (i+1)))) else .ok []:=by
 by_cases h:i<l.length
 ·rw [aaT h,if_pos h,getD_eq h,tcF.tcL]
  cases tcF env l[i] with
  |err c=>rfl
  |ok t=>simp only;cases tcF.tcL env (l.drop (i+1))<;>rfl
 ·rw [aa0 (by omega),if_neg h,tcF.tcL]
theorem tcL_len (env:List Dc):∀ (l:List Ex) (ts:List Ty),tcF.tcL env l= .ok ts→ts.length=l.length
 |[],ts,h=>by rw [tcF.tcL] at h;cases h;rfl
 |e::r,ts,h=>by
  rw [tcF.tcL] at h;split at h
  ·cases h
  ·split at h
   ·cases h
   ·rename_i t ht ts' hts;cases h;simp [tcL_len env r ts' hts]
theorem tcL_ok {env:List Dc} {p:Ty→Prop}:∀ (l:List Ex) (ts:List Ty),tcF.tcL env l= .ok ts→(∀ x∈l,∀ t,tcF env x= .ok t→p t)→∀ t∈ts,p t
 |[],ts,h,_=>by rw [tcF.tcL] at h;cases h;simp
 |e::r,ts,h,hp=>by
  rw [tcF.tcL] at h;split at h
  ·cases h
  ·split at h
   ·cases h
   ·rename_i t ht _ ts' hts;cases h;intro u hu;rcases abc.1 hu with rfl|hu
    ·exact hp e (by simp) _ ht
    ·exact tcL_ok r ts' hts (fun x hx=>hp x (by simp [hx])) u hu
theorem tcL_err {env:List Dc}:∀ (l:List Ex) (c:Int),tcF.tcL env l= .err c→(∀ x∈l,∀ c,tcF env x= .err c→c≠0)→c≠0
 |[],c,h,_=>by rw [tcF.tcL] at h;cases h
 |e::r,c,h,hp=>by
  rw [tcF.tcL] at h;split at h
  ·rename_i c' hc;cases h;exact hp e (by simp) _ hc
  ·split at h
   ·rename_i c' hc;cases h;exact tcL_err r _ hc fun x hx=>hp x (by simp [hx])
   ·cases h
def dclF_err {env:List Dc} {nm:aF} {c:Int} (h:dclF env nm= .err c):c≠0:=by
 induction env with
 |nil=>rw [dclF] at h;cases h;decide
 |cons d r ih=>rw [dclF] at h;split at h;cases h;exact ih h
def dclF_ok {env:List Dc} {nm:aF} {t:Ty} (he:∀ d∈env,pS d.2) (h:dclF env nm= .ok t):pS t:=by
 induction env with
 |nil=>rw [dclF] at h;cases h
 |cons d r ih=>
  rw [dclF] at h;split at h
  ·cases h;exact he d (by simp)
  ·exact ih (fun x hx=>he x (by simp [hx])) h
theorem altF_err {nm:aF} {t:Ty} {ts:List Ty} {c:Int}:∀ l,altF nm t ts l= .err c→c≠0
 |[],h=>by rw [altF] at h;cases h;decide
 |w::r,h=>by
  rw [altF] at h;split at h
  ·exact altF_err r h
  ·split at h
   ·cases h
   ·split at h<;>cases h
theorem altF_ok {nm:aF} {t u:Ty} {ts:List Ty} (ht:pS t) (hts:∀ i,pS (ts.getD i default)):∀ l,altF nm t ts l= .ok u→pS u
 |[],h=>by rw [altF] at h;cases h
 |w::r,h=>by
  rw [altF] at h;split at h
  ·exact altF_ok ht hts r h
  ·split at h
   ·cases h;exact ht
   ·split at h<;>cases h<;>exact hts _
def tyOK_default:pS (default:Ty):=by
 have:(default:Ty)= .mk default []:=rfl;rw [this];exact xS (k:=default) (by decide)
def tyOK_getD {ts:List Ty} (h:∀ t∈ts,pS t) (i:Nat):pS (ts.getD i default):=by
 by_cases hi:i<ts.length
 ·exact h _ (aB hi)
 ·rw [aam,List.getElem?_eq_none (by omega)];exact tyOK_default
def tyOK_e0 {t:Ty} (h:pS t):pS t.e0:=by
 by_cases hn:t.elem=[]
 ·rw [Ty.e0,hn];exact tyOK_default
 ·exact (tyOK_ne h hn).2.2
def sigF_ok (nm:aF):pS (sigF nm).2:=by
 have h0:pS (cx 0):=xS (by decide);have h2:pS (cx 2):=xS (by decide);have h3:pS (cx 3):=xS (by decide);have h4:pS (cx 4):=xS (by decide);have h5:pS (tyS1 5 (cx 4)):=tyOK_S1 (by decide) h4;unfold sigF
 repeat' split
 all_goals assumption
def nodeF_err {k:Int} {nm:aF} {v:aX} {env:List Dc} {ts:List Ty} {c:Int} (h:nodeF k nm v env ts= .err c):c≠0:=by
 unfold nodeF at h;simp only at h
 repeat' split at h
 all_goals first|cases h|skip
 all_goals first|(exact dclF_err h)|skip
 ·unfold memF at h;repeat' split at h
  all_goals first|cases h|skip
  all_goals decide
 ·unfold idxF at h;simp only at h;repeat' split at h
  all_goals first|cases h|skip
  all_goals decide
 ·unfold unF at h;simp only at h;repeat' split at h
  all_goals first|cases h|skip
  all_goals decide
 ·unfold binF at h;simp only at h;repeat' split at h
  all_goals first|cases h|skip
  all_goals first|decide|skip
  unfold sumF at h;repeat' split at h
  all_goals first|cases h|skip
  all_goals decide
 ·decide
 ·unfold gathF at h;simp only at h;repeat' split at h
  all_goals first|cases h|skip
  all_goals decide
 ·unfold gathF at h;simp only at h;repeat' split at h
  all_goals first|cases h|skip
  all_goals decide
def unF_ok {op:aF} {t u:Ty} (h:unF op t= .ok u):pS u:=by
 unfold unF at h;simp only at h;repeat' split at h
 all_goals first|(cases h;exact xS (by decide))|cases h
def gathF_ok {k:Int} {ts:List Ty} {u:Ty} (h:gathF k ts= .ok u):pS u:=by
 unfold gathF at h;simp only at h;split at h
 ·cases h
 ·rename_i hv;cases h;exact tyV_OK 1 _ (by simpa using hv)
def sumF_ok {a b u:Ty} (h:sumF a b= .ok u):pS u:=by
 have h3:pS (cx 3):=xS (by decide);have h4:pS (cx 4):=xS (by decide);have h5:pS (tyS1 5 (yS (elF a) (elF b))):=tyOK_S1 (by decide) (tyOK_Join _ _);have h6:pS (cx 0):=xS (by decide);have h7:pS (cx 7):=xS (by decide);unfold sumF at h;by_cases e0:a.kind=0∨b.kind=0<;>simp only [e0,if_true,if_false] at h<;>repeat' split at h
 all_goals first|(cases h;assumption)|cases h
def binF_ok {op:aF} {a b u:Ty} (h:binF op a b= .ok u):pS u:=by
 have h2:pS (cx 2):=xS (by decide);have h3:pS (cx 3):=xS (by decide);unfold binF at h;simp only at h
 repeat' split at h
 all_goals first|exact sumF_ok h|(cases h;assumption)|cases h
def nodeF_ok {k:Int} {nm:aF} {v:aX} {env:List Dc} {ts:List Ty} {t:Ty} (he:∀ d∈env,pS d.2) (hts:∀ i,pS (ts.getD i default)) (h:nodeF k nm v env ts= .ok t):pS t:=by
 unfold nodeF at h;simp only at h
 repeat' split at h
 all_goals first|(exact gathF_ok h)|(exact binF_ok h)|(exact unF_ok h)|(exact dclF_ok he h)|(cases h;exact tyOK_Of v)|(cases h;exact tyOK_Join _ _)|(cases h;done)|skip
 ·unfold memF at h;repeat' split at h
  all_goals first|cases h|skip
  ·exact hts 0
  ·exact tyOK_e0 (hts 0)
 ·unfold idxF at h;simp only at h;repeat' split at h
  all_goals first|cases h|skip
  ·exact tyOK_e0 (hts 0)
  ·exact hts 0
def tcF_err {env:List Dc}:∀ (e:Ex) (c:Int),tcF env e= .err c→c≠0:=by
 intro e;induction e using Ex.ind with
 |h e ih=>
  intro c h
  rw [tcF_eq] at h
  split at h
  ·split at h
   ·cases h;decide
   ·split at h
    ·cases h;decide
    ·split at h
     ·rename_i hc;cases h;exact tcL_err e.args _ hc ih
     ·exact altF_err _ h
  ·split at h
   ·rename_i hc;cases h;exact tcL_err e.args _ hc ih
   ·exact nodeF_err h
def tcF_ok {env:List Dc} (he:∀ d∈env,pS d.2):∀ (e:Ex) (t:Ty),tcF env e= .ok t→pS t:=by
 intro e;induction e using Ex.ind with
 |h e ih=>
  intro t h
  rw [tcF_eq] at h
  split at h
  ·split at h
   ·cases h
   ·split at h
    ·cases h
    ·split at h
     ·cases h
     ·rename_i ts hc;exact altF_ok (sigF_ok _) (tyOK_getD (tcL_ok e.args ts hc ih)) _ h
  ·split at h
   ·cases h
   ·rename_i ts hc;exact nodeF_ok he (tyOK_getD (tcL_ok e.args ts hc ih)) h
abbrev vExs (l:List Ex):V:= .d (.sl (l.map Ex.enc))
def tlV:TL→V
 | .ok ts=> .cF [vTys ts,ai 0]
 | .err c=> .cF [.d (.sl []),ai c]
def ty_one (t:Ty):(t.enc.all D.one)=true:=by rw [Ty.aP];rfl
def h_all (env:List Dc) (l:List Ex) (hl:l.length≤1048576) (ih:∀ x∈l,b8 G 202 [vE x,vDcs env] (trV (tcF env x))):b8 G 281 [vExs l,vDcs env] (tlV (tcF.tcL env l)):=by
 intro st;refine aA.start func281 rfl ntmps281 (by simp) fun _ ag=>?_;simp only [go_sem,seval,cX ag];all_goals (try subst ag)
 refine AW.zU (fun x:Nat×List Ty=>[(1,vDcs env),(6,lz st.toks.length (x.2.map Ty.enc)),(11,vExs l),(12,ai ↑l.length),(13,ai ↑x.1)]) (fun _=>[]) (fun x=>k9 176 2 (x.2.map Ty.enc))
  (fun x=>x.1≤l.length∧x.2.length=x.1∧tcF.tcL env l=tlPre x.2 (tcF.tcL env (l.drop x.1))) (fun x=>l.length - x.1) (0,[]) ⟨by simp [k9],by simp only [go_sem,seval,aaI,lz]⟩ ⟨by simp,rfl,by simp only [aa5];cases tcF.tcL env l<;>rfl⟩ ?_
 rintro ⟨i,ts⟩ ⟨g1,g2,g3⟩;simp only at g1 g2 g3;rw [tcL_at] at g3;by_cases hil:i<l.length
 ·rw [if_pos hil] at g3;have hx:=ih _ (aB hil);generalize hq:tcF env (l.getD i default)=r at hx g3;have hne:=fun c=>tcF_err (env:=env) (l.getD i default) c;rw [hq] at hne;cases r with
  |err c=>
   rw [trV] at hx
   have:=hne c rfl
   refine Wk.go fun _ ag=>?_;simp (disch:=first|exact ⟨by kernel_rfl⟩|omega) only [go_sem,seval,cX ag,wd,bC (hx _),this];(repeat' first|apply cq.l|refine cE.i fun hc=>?_|refine aQ.i ⟨?_,rfl⟩)<;>try subst ag
   rw [g3];rfl
  |ok t=>
   rw [trV] at hx
   have hts:ts.length≤1048576:=by omega
   refine Wk.go fun _ ag=>?_;simp (disch:=first|omega|exact ⟨by kernel_rfl⟩|(simp only [go_sem,aan];try omega)) only [go_sem,seval,cX ag,wd,bC (hx _),ty_one];(repeat' first|apply cq.l|refine cE.i fun hc=>?_)<;>try subst ag
   refine cB.i ⟨(i+1,ts++[t]),⟨by simp only [go_sem,seval,aaQ,aaB,aaI]<;>omega,?_,?_⟩⟩
   ·refine ⟨by simp only;omega,by simp [g2],?_⟩
    rw [g3]
    cases tcF.tcL env (l.drop (i+1))<;>simp [tlPre]
   ·simp only;omega
 ·rw [if_neg hil] at g3;refine Wk.go fun _ ag=>?_;simp (disch:=first|exact ⟨by kernel_rfl⟩|omega) only [go_sem,seval,cX ag,wd];(repeat' first|apply cq.l|refine cE.i fun hc=>?_|refine aQ.i ⟨?_,rfl⟩)<;>try subst ag
  rw [g3,tlPre,aaM];rfl
def rowsLen_sg (l:List (List Ty)):cr 1 (l.map sgD)=true:=ZJ sgD 1 (fun _=>rfl) l
def sg_get (l:List Ty):(sgD l)[0]?=some (.sl (l.map Ty.enc)):=(rfl)
def sgD_len (l:List Ty):(sgD l).length=1:=(rfl)
def sigF_len (nm:aF):∀ w∈(sigF nm).1,w.length=((sigF nm).1.getD 0 []).length:=by
 unfold sigF
 repeat' split
 all_goals simp
def sigF_num (nm:aF):(sigF nm).1.length≤4:=by
 unfold sigF
 repeat' split
 all_goals decide
def sigF_def:(sigF sDefault).1=[[cx 0,cx 0]]:=by rfl
def altF_at (nm:aF) (t:Ty) (ts:List Ty) (l:List (List Ty)) (i:Nat):altF nm t ts (l.drop i)=if i<l.length then (if suitF ts 0 (l.getD i default)=false then altF nm t ts (l.drop (i+1)) else if nm≠sDefault then .ok t else if (ts.getD 0 default).kind=1 then .ok (ts.getD 1 default) else .ok (ts.getD 0 default)) else .err 9:=by
 by_cases h:i<l.length
 ·rw [aaT h,if_pos h,getD_eq h,altF]
 ·rw [aa0 (by omega),if_neg h,altF]
def h_call (env:List Dc) {n:Nat} (e:Ex) (he:EW n e) (h5:e.kind=5) (ha:b8 G 281 [vExs e.args,vDcs env] (tlV (tcF.tcL env e.args))):b8 G 280 [vE e,vDcs env] (trV (tcF env e)):=by
 intro st;have hs:=h_signatures (G:=G) e.name;have hN:=he.node.len;have hlen:=sigF_len e.name;have hnum:=sigF_num e.name;have hdef:e.name=sDefault→(sigF e.name).1=[[cx 0,cx 0]]:=fun h=>by rw [h];exact sigF_def
 rw [tcF_eq,if_pos h5];generalize sigF e.name=S at*;obtain ⟨alts,t0⟩:=S;simp only at hlen hdef hnum ⊢;rw [vSg] at hs;by_cases h0:alts=[]
 ·subst h0;refine aA.start func280 rfl ntmps280 (by simp) fun _ ag=>?_;simp (disch:=first|exact ⟨by kernel_rfl⟩|omega) only [go_sem,seval,cX ag,wd,bC (hs _),aaI];(repeat' first|apply cq.l|refine aQ.i ⟨?_,rfl⟩)<;>try subst ag
  all_goals first|rfl|skip
 rw [if_neg h0];have h0l:alts.length≠0:=fun h=>h0 (aba.1 h);have hw:∀ i,i<alts.length→(alts.getD i default).length=(alts.getD 0 []).length:=fun i hi=>hlen _ (aB hi);generalize hL0:(alts.getD 0 []).length=L0 at*;have h00:(alts.getD 0 default).length=L0:=hw 0 (by omega);by_cases hn:e.args.length≠L0
 ·rw [if_pos hn];refine aA.start func280 rfl ntmps280 (by simp) fun _ ag=>?_;simp (disch:=first|exact ⟨by kernel_rfl⟩|omega) only [go_sem,seval,cX ag,wd,bC (hs _),h0l,h00,hn,rowsLen_sg,sg_get,sgD_len];(repeat' first|apply cq.l|refine cE.i fun hc=>?_|refine aQ.i ⟨?_,rfl⟩)<;>try subst ag
  exact e7 rfl
 rw [if_neg hn];have hn':e.args.length=L0:=Classical.not_not.1 hn;cases hq:tcF.tcL env e.args with
 |err c=>
  have hc0:=tcL_err e.args c hq fun x _ c hx=>tcF_err x c hx
  rw [hq,tlV] at ha
  refine aA.start func280 rfl ntmps280 (by simp) fun _ ag=>?_
  simp (disch:=first|exact ⟨by kernel_rfl⟩|omega) only [go_sem,seval,cX ag,wd,bC (hs _),bC (ha _),h0l,h00,hn',hc0,rowsLen_sg,sg_get,sgD_len];(repeat' first|apply cq.l|refine cE.i fun hc=>?_|refine aQ.i ⟨?_,rfl⟩)<;>try subst ag
  exact e7 rfl
 |ok ts=>
  have hts:=tcL_len env e.args ts hq
  rw [hq,tlV] at ha
  refine aA.start func280 rfl ntmps280 (by simp) fun _ ag=>?_
  simp (disch:=first|exact ⟨by kernel_rfl⟩|omega) only [go_sem,seval,cX ag,wd,bC (hs _),bC (ha _),h0l,h00,hn',rowsLen_sg,sg_get,sgD_len];(repeat' first|apply cq.l|refine cE.i fun hc=>?_)<;>try subst ag
  simp only
  refine AW.zU (fun i:Nat=>[(2,.ptr st.aj.length 0),(4,.ptr (st.aj.length+1) 0),(7,.ptr (st.aj.length+2) 0),(8,vTys ts),(42,.d (.sl (alts.map sgD))),(43,ai ↑alts.length),(44,ai ↑i)])
   (fun i=>[.cells (e.enc.map .d),.cells [ai 0,.bh],.cells (t0.enc.map .d)]) (fun _=>[]) (fun i=>i≤alts.length∧altF e.name t0 ts (alts.drop i)=altF e.name t0 ts alts) (fun i=>alts.length - i) 0 ⟨by simp,by simp only [go_sem,seval]⟩ (by simp) ?_
  intro i ⟨hi,g⟩
  rw [altF_at] at g
  by_cases hil:i<alts.length
  ·rw [if_pos hil] at g
   have hsu:=h_suits (G:=G) ts (alts.getD i default) (by rw [hw i hil];omega) (by omega)
   cases hb:suitF ts 0 (alts.getD i default) with
   |false=>
    rw [hb] at hsu
    rw [if_pos hb] at g
    refine Wk.go fun _ ag=>?_;simp (disch:=first|exact ⟨by kernel_rfl⟩|omega) only [go_sem,seval,cX ag,wd,bC (hsu _),rowsLen_sg,sg_get,sgD_len];(repeat' first|apply cq.l|refine cE.i fun hc=>?_)<;>try subst ag
    refine cB.i ⟨i+1,⟨by simp (disch:=omega) only [go_sem,seval]<;>omega,?_,?_⟩⟩
    ·exact ⟨by omega,g⟩
    ·omega
   |true=>
    rw [hb] at hsu
    rw [if_neg (by rw [hb];simp)] at g
    by_cases hd:e.name=[100,101,102,97,117,108,116]
    ·rw [if_neg (show ¬ e.name≠sDefault from fun h=>h hd)] at g
     have h2:1<ts.length:=by
      have:=hdef hd;rw [this] at hL0;simp at hL0;omega
     refine Wk.go fun _ ag=>?_;simp (disch:=first|exact ⟨by kernel_rfl⟩|omega) only [go_sem,seval,cX ag,wd,bC (hsu _),hd,rowsLen_sg,sg_get,sgD_len];(repeat' first|apply cq.l|apply bg.i|refine cE.i fun hc=>?_|refine aQ.i ⟨?_,rfl⟩)<;>try subst ag
     ·exact absurd rfl (by assumption)
     ·rename_i hc;rw [if_pos (by simpa using hc)] at g;exact tD g.symm
     ·rename_i hc;rw [if_neg (by simpa using hc)] at g;exact tD g.symm
    ·rw [if_pos (show e.name≠sDefault from hd)] at g
     refine Wk.go fun _ ag=>?_;simp (disch:=first|exact ⟨by kernel_rfl⟩|omega) only [go_sem,seval,cX ag,wd,bC (hsu _),hd,rowsLen_sg,sg_get,sgD_len];(repeat' first|apply cq.l|apply bg.i|refine cE.i fun hc=>?_|refine aQ.i ⟨?_,rfl⟩)<;>try subst ag
     all_goals first|exact tD g.symm|(rename_i hc;exact absurd hd hc)|(exfalso;apply_assumption;exact hd)|(exfalso;apply_assumption;assumption)
  ·rw [if_neg hil] at g
   refine Wk.go fun _ ag=>?_;simp (disch:=first|exact ⟨by kernel_rfl⟩|omega) only [go_sem,seval,cX ag,wd];(repeat' first|apply cq.l|refine cE.i fun hc=>?_|refine aQ.i ⟨?_,rfl⟩)<;>try subst ag
   exact e7 g.symm
def h_find (env:List Dc) (hl:env.length≤1048576) (hE:∀ d∈env,pS d.2):∀ (e:Ex) (n:Nat),EW n e→b8 G 202 [vE e,vDcs env] (trV (tcF env e)):=by
 intro e;induction e using Ex.ind with
 |h e ih=>
 intro n he st;have hN:=he.node;have ha:=h_all env e.args (by have:=hN.len;omega) (fun x hx=>ih x hx _ (he.arg hx));by_cases h5:e.kind=5
 ·have hc:=h_call env e he h5 ha;cases hr:tcF env e with
  |ok t=>
   rw [hr,trV] at hc
   refine aA.start func202 rfl ntmps202 (by simp) fun _ ag=>?_
   simp (disch:=first|exact ⟨by kernel_rfl⟩|omega) only [go_sem,seval,cX ag,wd,bC (hc _),h5];(repeat' first|apply cq.l|refine aQ.i ⟨?_,rfl⟩)<;>try subst ag
   rfl
  |err c=>
   rw [hr,trV] at hc
   refine aA.start func202 rfl ntmps202 (by simp) fun _ ag=>?_
   simp (disch:=first|exact ⟨by kernel_rfl⟩|omega) only [go_sem,seval,cX ag,wd,bC (hc _),h5];(repeat' first|apply cq.l|refine aQ.i ⟨?_,rfl⟩)<;>try subst ag
   rfl
 rw [tcF_eq,if_neg h5];cases hq:tcF.tcL env e.args with
 |err c=>
  have hc0:=tcL_err e.args c hq fun x _ c hx=>tcF_err x c hx
  rw [hq,tlV] at ha
  refine aA.start func202 rfl ntmps202 (by simp) fun _ ag=>?_
  simp (disch:=first|exact ⟨by kernel_rfl⟩|omega) only [go_sem,seval,cX ag,wd,bC (ha _),h5,hc0];(repeat' first|apply cq.l|refine cE.i fun hc=>?_|refine aQ.i ⟨?_,rfl⟩)<;>try subst ag
  exact e7 rfl
 |ok ts=>
 have hts:=tcL_len env e.args ts hq;have hok:∀ i,pS (ts.getD i default):=tyOK_getD (tcL_ok e.args ts hq fun x _ t ht=>tcF_ok hE x t ht);rw [hq,tlV] at ha;have hA:=hN.Pa;have hk1:=hN.k1;have hk2:=hN.k2;have hv:=t_Of (G:=G) e.value ((gq e).1 he.fit).2.1 (by have:=he.bulk;rw [iq] at this;omega);simp only;have hk:e.kind=1∨e.kind=2∨e.kind=3∨e.kind=4∨e.kind=6∨e.kind=7∨e.kind=8∨e.kind=9∨e.kind=10:=by omega
 rcases hk with hk|hk|hk|hk|hk|hk|hk|hk|hk<;>rw [hk]
 ·refine aA.start func202 rfl ntmps202 (by simp) fun _ ag=>?_;simp (disch:=first|exact ⟨by kernel_rfl⟩|omega) only [go_sem,seval,cX ag,wd,bC (ha _),bC (hv _),hk];(repeat' first|apply cq.l|refine aQ.i ⟨?_,rfl⟩)<;>try subst ag
  rfl
 ·have hr:=h_declared (G:=G) env (by omega) e.name;cases hx:dclF env e.name<;>rw [hx,trV] at hr
  all_goals
   refine aA.start func202 rfl ntmps202 (by simp) fun _ ag=>?_
   simp (disch:=first|exact ⟨by kernel_rfl⟩|omega) only [go_sem,seval,cX ag,wd,bC (ha _),bC (hr _),hk];(repeat' first|apply cq.l|refine aQ.i ⟨?_,rfl⟩)<;>try subst ag
   rw [show nodeF 2 e.name e.value env ts=dclF env e.name from rfl,hx];rfl
 ·have ht:ts.length=1:=by rw [hts];exact hA.2.1 (.inl hk)
  have hr:=h_member (G:=G) (ts.getD 0 default) (hok 0);cases hx:memF (ts.getD 0 default)<;>rw [hx,trV] at hr
  all_goals
   refine aA.start func202 rfl ntmps202 (by simp) fun _ ag=>?_
   simp (disch:=first|exact ⟨by kernel_rfl⟩|omega) only [go_sem,seval,cX ag,wd,bC (ha _),bC (hr _),hk];(repeat' first|apply cq.l|refine aQ.i ⟨?_,rfl⟩)<;>try subst ag
   rw [show nodeF 3 e.name e.value env ts=memF (ts.getD 0 default) from rfl,hx];rfl
 ·have ht:ts.length=2:=by rw [hts];exact hA.2.2.1 (.inl hk)
  have hr:=h_index (G:=G) (ts.getD 0 default) (ts.getD 1 default) (hok 0);cases hx:idxF (ts.getD 0 default) (ts.getD 1 default)<;>rw [hx,trV] at hr
  all_goals
   refine aA.start func202 rfl ntmps202 (by simp) fun _ ag=>?_
   simp (disch:=first|exact ⟨by kernel_rfl⟩|omega) only [go_sem,seval,cX ag,wd,bC (ha _),bC (hr _),hk];(repeat' first|apply cq.l|refine aQ.i ⟨?_,rfl⟩)<;>try subst ag
   rw [show nodeF 4 e.name e.value env ts=idxF (ts.getD 0 default) (ts.getD 1 default) from rfl,hx];rfl
 ·have ht:ts.length=1:=by rw [hts];exact hA.2.1 (.inr hk)
  have hr:=h_unary (G:=G) e.name (ts.getD 0 default);cases hx:unF e.name (ts.getD 0 default)<;>rw [hx,trV] at hr
  all_goals
   refine aA.start func202 rfl ntmps202 (by simp) fun _ ag=>?_
   simp (disch:=first|exact ⟨by kernel_rfl⟩|omega) only [go_sem,seval,cX ag,wd,bC (ha _),bC (hr _),hk];(repeat' first|apply cq.l|refine aQ.i ⟨?_,rfl⟩)<;>try subst ag
   rw [show nodeF 6 e.name e.value env ts=unF e.name (ts.getD 0 default) from rfl,hx];rfl
 ·have ht:ts.length=2:=by rw [hts];exact hA.2.2.1 (.inr hk)
  have hr:=h_binary (G:=G) e.name (ts.getD 0 default) (ts.getD 1 default) (hok 0) (hok 1);cases hx:binF e.name (ts.getD 0 default) (ts.getD 1 default)<;>rw [hx,trV] at hr
  all_goals
   refine aA.start func202 rfl ntmps202 (by simp) fun _ ag=>?_
   simp (disch:=first|exact ⟨by kernel_rfl⟩|omega) only [go_sem,seval,cX ag,wd,bC (ha _),bC (hr _),hk];(repeat' first|apply cq.l|refine aQ.i ⟨?_,rfl⟩)<;>try subst ag
   rw [show nodeF 7 e.name e.value env ts=binF e.name (ts.getD 0 default) (ts.getD 1 default) from rfl,hx];rfl
 ·have ht:ts.length=3:=by rw [hts];exact hA.2.2.2.1 hk
  have o2:=h_of (G:=G) 2;have cc:=Pu (G:=G) (ts.getD 0 default) (cx 2);have hj:=t_Join (G:=G) (ts.getD 1 default) (ts.getD 2 default);cases hx:tyC (ts.getD 0 default) (cx 2)<;>rw [hx] at cc
  all_goals
   refine aA.start func202 rfl ntmps202 (by simp) fun _ ag=>?_
   simp (disch:=first|exact ⟨by kernel_rfl⟩|omega) only [go_sem,seval,cX ag,wd,bC (ha _),bC (o2 _),bC (cc _),bC (hj _),hk];(repeat' first|apply cq.l|refine aQ.i ⟨?_,rfl⟩)<;>try subst ag
   rw [show nodeF 8 e.name e.value env ts=if tyC (ts.getD 0 default) (cx 2)=true then .ok (yS (ts.getD 1 default) (ts.getD 2 default)) else .err 9 from rfl,hx]
   first|rfl|exact e7 rfl
 ·have hr:=h_gathered (G:=G) 5 ts (by have:=hN.len;omega);cases hx:gathF 5 ts<;>rw [hx,trV] at hr
  all_goals
   refine aA.start func202 rfl ntmps202 (by simp) fun _ ag=>?_
   simp (disch:=first|exact ⟨by kernel_rfl⟩|omega) only [go_sem,seval,cX ag,wd,bC (ha _),bC (hr _),hk];(repeat' first|apply cq.l|refine aQ.i ⟨?_,rfl⟩)<;>try subst ag
   rw [show nodeF 9 e.name e.value env ts=gathF 5 ts from rfl,hx];rfl
 ·have hr:=h_gathered (G:=G) 6 ts (by have:=hN.len;omega);cases hx:gathF 6 ts<;>rw [hx,trV] at hr
  all_goals
   refine aA.start func202 rfl ntmps202 (by simp) fun _ ag=>?_
   simp (disch:=first|exact ⟨by kernel_rfl⟩|omega) only [go_sem,seval,cX ag,wd,bC (ha _),bC (hr _),hk];(repeat' first|apply cq.l|refine aQ.i ⟨?_,rfl⟩)<;>try subst ag
   rw [show nodeF 10 e.name e.value env ts=gathF 6 ts from rfl,hx];rfl
def envF_at (seen:List aF) (l:List Dc) (i:Nat):envF seen (l.drop i)=if i<l.length then (if isPlain (l.getD i default).1=false then 1 else if tyV 1 (l.getD i default).2≠0 then tyV 1 (l.getD i default).2 else if seen.contains (l.getD i default).1 then 7 else envF (seen++[(l.getD i default).1]) (l.drop (i+1))) else 0:=by
 by_cases h:i<l.length
 ·rw [aaT h,if_pos h,getD_eq h,envF]
 ·rw [aa0 (by omega),if_neg h,envF]
def h_plain (s:aF) (hs:s.length≤1048576):b8 G 85 [.agg [ai 2,vs s,ai 0,vb false,ai 0,vs [],.d (.sl []),.d (.sl []),.d (.sl []),.d (.sl [])]] (ai (if isPlain s then 0 else 1)):=by
 have h:b8 G 85 [.agg [ai 2,vs s,ai 0,vb false,ai 0,vs [],.d (.sl []),.d (.sl []),.d (.sl []),.d (.sl [])]] (ai (dW (Qk s))):=
  mL (Qk s) (TC hs) (by rw [Qk,dM,iT];simp [cj.dm,bq.ic];omega)
 rw [FQ] at h;exact h
def h_Env (env:List Dc) (hl:env.length≤1099511627776) (hn:∀ d∈env,d.1.length≤1048576):b8 G 201 [vDcs env] (ai (denvF env)):=by
 intro st;rw [denvF];by_cases h0:1024<env.length
 ·rw [if_pos h0];refine aA.start func201 rfl ntmps201 (by simp) fun _ ag=>?_;simp (disch:=omega) only [go_sem,seval,cX ag,h0];(repeat' first|apply cq.l|refine cE.i fun hc=>?_|refine aQ.i ⟨?_,rfl⟩)<;>try subst ag
  all_goals first|rfl|(exfalso;omega)|skip
 rw [if_neg h0];refine aA.start func201 rfl ntmps201 (by simp) fun _ ag=>?_;simp (disch:=omega) only [go_sem,seval,cX ag,JD];(repeat' refine cE.i fun hc=>?_)<;>try subst ag
 refine AW.zU (fun x:List aF×Nat=>[(3,.mp st.aj.length),(11,vDcs env),(12,ai ↑env.length),(13,ai ↑x.2)]) (fun x=>[.mp .str x.2 (fm x.1)]) (fun _=>[])
  (fun x=>x.2≤env.length∧envF x.1 (env.drop x.2)=envF [] env) (fun x=>env.length - x.2) ([],0) (by simp only [go_sem,seval,P2]<;>omega) ⟨by simp,rfl⟩ ?_
 rintro ⟨l,i⟩ ⟨g1,g2⟩;simp only at g1 g2;rw [envF_at] at g2;rw [←g2];by_cases hi:i<env.length
 ·have a1:=hn _ (aB hi);have hp:=h_plain (G:=G) (env.getD i default).1 a1;have hv:=t_Valid (G:=G) (env.getD i default).2;cases hc:l.contains (env.getD i default).1
  ·refine Wk.go fun _ ag=>?_;simp (disch:=omega) only [go_sem,seval,cX ag,JD,JE,P4 hc,bC (hp _),bC (hv _)];(repeat' first|apply cq.l|apply bg.i|refine cE.i fun hc=>?_|refine aQ.i ⟨?_,rfl⟩)<;>try subst ag
   all_goals first|(refine bA ?_;grind)|skip
   refine cB.i ⟨(l++[(env.getD i default).1],i+1),⟨by simp (disch:=omega) only [go_sem,seval,P3]<;>omega,?_,?_⟩⟩
   ·exact ⟨by simp only;omega,by grind⟩
   ·simp only;omega
  ·refine Wk.go fun _ ag=>?_;simp (disch:=omega) only [go_sem,seval,cX ag,JD,JE,TD hc,bC (hp _),bC (hv _)];(repeat' first|apply cq.l|apply bg.i|refine cE.i fun hc=>?_|refine aQ.i ⟨?_,rfl⟩)<;>try subst ag
   all_goals (refine bA ?_;grind)
 ·refine Wk.go fun _ ag=>?_;simp (disch:=omega) only [go_sem,seval,cX ag];(repeat' first|apply cq.l|refine cE.i fun hc=>?_|refine aQ.i ⟨?_,rfl⟩)<;>try subst ag
  rw [if_neg hi]
def denvF_len {env:List Dc} (h:denvF env=0):env.length≤1024:=by
 rw [denvF] at h;split at h
 ·cases h
 ·omega
theorem envF_ok:∀ (seen:List aF) (env:List Dc),envF seen env=0→∀ d∈env,pS d.2
 |_,[],_=>by simp
 |seen,d::r,h=>by
  rw [envF] at h;split at h
  ·cases h
  ·split at h
   ·rename_i hv;exact absurd h hv
   ·rename_i hv;split at h
    ·cases h
    ·intro x hx;rcases abc.1 hx with rfl|hx
     ·exact tyV_OK 1 _ (by simpa using hv)
     ·exact envF_ok _ r h x hx
def h_Expr (e:Ex) (env:List Dc) (hl:env.length≤1099511627776) (hn:∀ d∈env,d.1.length≤1048576) (fe:j0 e) (ie:ot e) (hb:bq e≤1099511627776):b8 G 136 [vE e,vDcs env] (trV (exprF e env)):=by
 intro st;have h1:=h_Env (G:=G) env hl hn;have h2:=mL (G:=G) e ⟨fe,ie⟩ hb;rw [exprF];by_cases e1:denvF env=0
 ·rw [if_neg (by simp [e1])];rw [e1] at h1;by_cases e2:dW e=0
  ·rw [if_neg (by simp [e2])];rw [e2] at h2;have hck:dc 1 e=0:=by
    have h1:=e2;rw [dW] at h1;split at h1
    ·omega
    ·exact h1
   have hl':=denvF_len e1;have hE:∀ d∈env,pS d.2:=by
    rw [denvF,if_neg (by omega)] at e1;exact envF_ok [] env e1
   have hf:=h_find (G:=G) env (by omega) hE e 1 ⟨hck,fe,hb⟩;have o7:=h_of (G:=G) 7;cases hr:tcF env e with
   |err c=>
    have hc0:=tcF_err e c hr
    rw [hr,trV] at hf
    refine aA.start func136 rfl ntmps136 (by simp) fun _ ag=>?_
    simp (disch:=first|exact ⟨by kernel_rfl⟩|omega) only [go_sem,seval,cX ag,wd,bC (h1 _),bC (h2 _),bC (hf _),hc0];(repeat' first|apply cq.l|refine cE.i fun hc=>?_|refine aQ.i ⟨?_,rfl⟩)<;>try subst ag
    exact e7 rfl
   |ok t=>
    rw [hr,trV] at hf
    have hj:=t_Join (G:=G) t (cx 7)
    refine aA.start func136 rfl ntmps136 (by simp) fun _ ag=>?_
    simp (disch:=first|exact ⟨by kernel_rfl⟩|omega) only [go_sem,seval,cX ag,wd,bC (h1 _),bC (h2 _),bC (hf _),bC (o7 _),bC (hj _)];(repeat' first|apply cq.l|refine aQ.i ⟨?_,rfl⟩)<;>try subst ag
    rfl
  ·rw [if_pos e2];refine aA.start func136 rfl ntmps136 (by simp) fun _ ag=>?_;simp (disch:=first|exact ⟨by kernel_rfl⟩|omega) only [go_sem,seval,cX ag,wd,bC (h1 _),bC (h2 _),e2];(repeat' first|apply cq.l|refine cE.i fun hc=>?_|refine aQ.i ⟨?_,rfl⟩)<;>try subst ag
   exact e7 rfl
 ·rw [if_pos e1];refine aA.start func136 rfl ntmps136 (by simp) fun _ ag=>?_;simp (disch:=first|exact ⟨by kernel_rfl⟩|omega) only [go_sem,seval,cX ag,wd,bC (h1 _),e1];(repeat' first|apply cq.l|refine cE.i fun hc=>?_|refine aQ.i ⟨?_,rfl⟩)<;>try subst ag
  exact e7 rfl
end Go.Proofs.YtbcillkajdnljaaGreatDoor
end
section
namespace Go.Abs
open Go.RowKit
section
variable {P:Program} {G:World→Nat→Prop} {n:NDs} {aC:St} {Q:AX→Fr→St→Prop} {c c':Ctx} {w:World}
def evalAppend_any {t:TypeId} {s x v:V} {X:List ec} {K:List (Nat×Nat×Nat)} {st':St} (h:fu P t s x ⟨X,K⟩=some (v,st')):st'.aj=X∧∀ Y,fu P t s x ⟨Y,K⟩=some (v,⟨Y,st'.toks⟩):=by
 unfold fu at h ⊢;split at h
 ·rename_i e sz by_ xs h1 h2;simp only [h1,h2];split at h
  ·rename_i hc;simp only [if_pos hc];split at h
   ·split at h
    ·rename_i hd;simp only [if_pos hd];split at h
     ·rename_i he;simp only [aal,aaq] at h;obtain ⟨rfl,rfl⟩:=h;exact ⟨rfl,fun Y=>by simp [he]⟩
     ·rename_i he;simp only [aal,aaq] at h;obtain ⟨rfl,rfl⟩:=h;exact ⟨rfl,fun Y=>by simp [he]⟩
    ·cases h
   ·split at h
    ·rename_i hd;simp only [if_pos hd];split at h
     ·rename_i he;simp only [aal,aaq] at h;obtain ⟨rfl,rfl⟩:=h;exact ⟨rfl,fun Y=>by simp only at hd;simp [he,hd]⟩
     ·rename_i he;simp only [aal,aaq] at h;obtain ⟨rfl,rfl⟩:=h;exact ⟨rfl,fun Y=>by simp only at hd;simp [he,hd]⟩
    ·cases h
   ·cases h
  ·cases h
 ·cases h
def evalB_any {ts:List TypeId} {zs:List V} {v:V} {X:List ec} {K:List (Nat×Nat×Nat)} {st':St} (h:dP P .append ts zs ⟨X,K⟩=some (v,st')):st'.aj=X∧∀ Y,dP P .append ts zs ⟨Y,K⟩=some (v,⟨Y,st'.toks⟩):=by
 match ts,zs,h with
 |[t,t'],[s,x],h=>
  simp only [dP] at h ⊢
  by_cases e:t=t'
  ·simp only [if_pos e] at h ⊢;exact evalAppend_any h
  ·simp only [if_neg e] at h ⊢
   unfold oB at h ⊢
   split at h
   ·split at h
    ·rename_i hc
     obtain ⟨h1,h2⟩:=evalAppend_any h
     exact ⟨h1,fun Y=>by simp only [if_pos hc];exact h2 Y⟩
    ·cases h
   ·cases h
 |[],_,h=>simp [dP] at h
 |[_],_,h=>simp [dP] at h
 |_::_::_::_,_,h=>simp [dP] at h
 |[_,_],[],h=>simp [dP] at h
 |[_,_],[_],h=>simp [dP] at h
 |[_,_],_::_::_::_,h=>simp [dP] at h
def isApp:Op→Bool
 | .call { callee:= .builtin .append,.. }=>true
 |_=>false
def evalOp_app {o:Oper} {fr:Fr} {X:List ec} {K:List (Nat×Nat×Nat)} {v:V} {st':St} (hop:isApp o.op=true) (h:evalOp P o fr ⟨X,K⟩=some (v,st')):st'.aj=X∧∀ Y,evalOp P o fr ⟨Y,K⟩=some (v,⟨Y,st'.toks⟩):=by
 obtain ⟨d,op,ty,pos,af,gu⟩:=o;simp only at hop;unfold isApp at hop;split at hop
 ·simp only [evalOp] at h ⊢;exact evalB_any h
 ·cases hop
def app_any {all:Array Oper} {o:Oper} {fr:Fr} {X:List ec} {K:List (Nat×Nat×Nat)} {st':St} {v:V} (h:cL P G n all o fr ⟨X,K⟩ v st') (hop:isApp o.op=true) (hg:o.guard=none):st'.aj=X∧∀ Y,cL P G n all o fr ⟨Y,K⟩ v ⟨Y,st'.toks⟩:=by
 cases h with
 |op _ _ h1 h2 h3=>
  obtain ⟨a,b⟩:=evalOp_app hop h2
  exact ⟨a,fun Y=> .op _ _ h1 (b Y) h3⟩
 |skip h1 h2=>simp [goes,hg] at h1
 |call _ _ g cap x args ats _ hop'=>rw [hop'] at hop;cases hop
def isLoad:Op→Bool
 | .load _ _=>true
 |_=>false
def evalLoad_toks {t:TypeId} {x:V} {X:List ec} {K K':List (Nat×Nat×Nat)}:bn P t x ⟨X,K⟩=bn P t x ⟨X,K'⟩:=by
 unfold bn;rfl
def load_any {all:Array Oper} {o:Oper} {fr:Fr} {X:List ec} {K:List (Nat×Nat×Nat)} {st':St} {v:V} (h:cL P G n all o fr ⟨X,K⟩ v st') (hop:isLoad o.op=true):∀ K',cL P G n all o fr ⟨X,K'⟩ v ⟨X,K'⟩∧∀ B,cL P G n all o fr ⟨X++[B],K'⟩ v ⟨X++[B],K'⟩:=by
 intro K';obtain ⟨d,op,ty,pos,af,gu⟩:=o;simp only at hop;unfold isLoad at hop;split at hop
 ·cases h with
  |op _ _ h1 h2 h3=>
   simp only [evalOp] at h2
   obtain ⟨q1,q2⟩:=jj h2
   rw [evalLoad_toks (K':=K')] at q2
   refine ⟨.op _ _ h1 (by simp only [evalOp];rw [q2];rfl) h3,fun B=> .op _ _ h1 (by simp only [evalOp];rw [uy (st:=⟨X,K'⟩) B q2];rfl) h3⟩
  |skip h1 h2=>exact ⟨.skip h1 h2,fun B=> .skip h1 h2⟩
  |call _ _ g cap x args ats _ hop'=>cases hop'
 ·cases hop
def yF (A:List Nat) (l:List Oper):List Oper:=l.mapIdx fun i o=>if i∈A then { o with after:=o.after++(A.filter (fun j=>decide (j<i))).toArray.map fun j=>⟨j,.chain⟩ } else o
variable {A:List Nat}
def chainL_len (l:List Oper):(yF A l).length=l.length:=by simp [yF]
def chainL_get {i:Nat} {l:List Oper}:(yF A l)[i]?=(l[i]?).map fun o=>if i∈A then { o with after:=o.after++(A.filter (fun j=>decide (j<i))).toArray.map fun j=>⟨j,.chain⟩ } else o:=by
 simp only [yF,List.getElem?_mapIdx]
def chainL_out {i:Nat} {l:List Oper} (h:¬ i∈A):(yF A l)[i]?=l[i]?:=by
 rw [chainL_get];cases l[i]?<;>simp [h]
def chainL_dst {i:Nat} {l:List Oper}:((yF A l)[i]?).bind Oper.dst=(l[i]?).bind Oper.dst:=by
 rw [chainL_get];cases l[i]? with
 |none=>rfl
 |some o=>simp only [aaJ,abB];split<;>rfl
def chainL_wrt {l:List Oper} (t:Nat):iO (yF A l) t=iO l t:=by
 have e:∀ l:List Oper,iO l t=(l.map Oper.dst).findIdx? (·==some t):=fun l=>by rw [iO,List.findIdx?_map];rfl
 have h:(yF A l).map Oper.dst=l.map Oper.dst:=by
  apply List.ext_getElem?;intro i;rw [aaV,aaV];rw [chainL_get];cases l[i]? with
  |none=>rfl
  |some o=>simp only [aaJ];split<;>rfl
 rw [e,e,h]
def valOf_chainL {l:List Oper} (fr0:Fr) (vs:Nat→V) (L:Nat→Bool):valOf (yF A l) fr0 vs L=valOf l fr0 vs L:=by
 funext t;simp only [valOf,chainL_wrt]
def chainL_all {l:List Oper} (j:Nat):(((yF A l).toArray)[j]?).bind Oper.dst=((l.toArray)[j]?).bind Oper.dst:=by simpa using chainL_dst
def ready_chainL {l:List Oper} {L:Array Bool} (h:∀ i∈A,L.getD i true=true):Region.ready .any (yF A l).toArray L=Region.ready .any l.toArray L:=by
 unfold Region.ready;simp only [aaW,chainL_len];refine List.filter_congr fun i hi=>?_;by_cases hA:i∈A
 ·rw [h i hA];simp
 ·have:(yF A l).toArray[i]?=l.toArray[i]?:=by simpa using chainL_out hA
  rw [this]
def wpOp_chainL {l:List Oper} {i:Nat} (hA:¬ i∈A) {R:Exit→Act→World→Prop} {K:Act→World→Prop} {a:Act} {w:World}:wpOp P (yF A l).toArray R i K a w=wpOp P l.toArray R i K a w:=by
 have e:(yF A l).toArray[i]?=l.toArray[i]?:=by simpa using chainL_out hA
 have y:yielded (yF A l).toArray a.tmps=yielded l.toArray a.tmps:=by
  funext g;unfold yielded;rw [show ((yF A l).toArray[g]?).bind (fun x=>x.dst)=(l.toArray[g]?).bind (fun x=>x.dst) from chainL_all g]
 unfold wpOp;rw [e,y]
def wpAny_chainL {l:List Oper} {R:Exit→Act→World→Prop}:∀ (fuel:Nat) (L:Array Bool) (a:Act) (w:World),(∀ i∈A,L.getD i true=true)→wpAny P .any (yF A l).toArray R fuel L a w→wpAny P .any l.toArray R fuel L a w:=by
 intro fuel;induction fuel with
 |zero=>
  intro L a w h hw
  simp only [wpAny,ready_chainL h] at hw ⊢
  exact hw
 |succ fuel ih=>
  intro L a w h hw
  simp only [wpAny,ready_chainL h] at hw ⊢
  refine ⟨hw.1,fun i hi=>?_⟩
  have h0:=(mem_ready.1 hi).1
  have hA:¬ i∈A:=fun hh=>by rw [h i hh] at h0;cases h0
  have h1:=hw.2 i hi
  rw [wpOp_chainL hA] at h1
  refine wpOp_mono (fun a w hK=>ih _ a w (fun j h2=>?_) hK) h1
  have hij:i≠j:=by rintro rfl;exact hA h2
  rw [getD_set_ne true hij]
  exact h j h2
def okAW (A:List Nat) (pa iw ia:Nat) (cs:List Nat) (e:TypeId) (l:List Oper):Bool:=
 let b:=masks l []
 let F9 (i j:Nat):Bool:=(b.getD j 0).testBit i
 decide (iw<ia)&&decide (ia<pa)&&decide (pa≤l.length)&&A.all (fun i=>decide (i<pa))&&A.contains iw&&A.contains ia&&l.zipIdx.all fun (o,j)=>
  (o.after.all fun e=> !Region.binds .any e||decide (e.on<j))&& (match o.dst with|none=>true|some d=>iO l d==some j)&&
  ((o.looksAt l.toArray).all fun t=>match iO l t with|none=>true|some i=>i==j||(decide (i<j)&&F9 i j)||(decide (j<i)&&F9 j i))&&
  if j∈A then
   if j=ia then (match o.op with| .alloc e'=>e'==e|_=>false)&&o.guard.isNone
   else if j=iw then isApp o.op&&o.guard.isNone
   else (isLoad o.op&&decide (j<ia))||cs.contains j
  else bp [] j o==0||(decide (pa≤j)&&A.all fun i=>F9 i j)
structure FactAW (A:List Nat) (pa iw ia:Nat) (cs:List Nat) (e:TypeId) (l:List Oper) (j:Nat) (o:Oper):Prop where
 Um:∀ e∈o.after,Region.binds .any e=true→e.on<j
 dst:∀ d,o.dst=some d→iO l d=some j
 look:∀ t∈o.looksAt l.toArray,∀ i,iO l t=some i→i=j∨(i<j∧rz l i j)∨(j<i∧rz l j i)
 al:j=ia→o.op= .alloc e∧o.guard=none
 ap:j=iw→isApp o.op=true∧o.guard=none
 rd:j∈A→j≠ia→j≠iw→(isLoad o.op=true∧j<ia)∨j∈cs
 out:¬ j∈A→bp [] j o=0∨(pa≤j∧∀ i∈A,rz l i j)
def okAW_facts {pa iw ia:Nat} {cs:List Nat} {e:TypeId} {l:List Oper} (h:okAW A pa iw ia cs e l=true):(iw<ia∧ia<pa∧pa≤l.length∧(∀ i∈A,i<pa)∧iw∈A∧ia∈A)∧∀ j o,l[j]?=some o→FactAW A pa iw ia cs e l j o:=by
 have hb:∀ i j,((masks l []).getD j 0).testBit i=true→rz l i j:=nX l l [] (by simp) (by simp);unfold okAW at h;simp only [aas,aau] at h;obtain ⟨⟨⟨⟨⟨⟨hA,hB⟩,hC⟩,hD⟩,hE⟩,hF⟩,h⟩:=h;have hE:iw∈A:=by simpa using hE
 have hF:ia∈A:=by simpa using hF
 refine ⟨⟨hA,hB,hC,fun i hi=>by simpa using aaE.1 hD i hi,hE,hF⟩,fun j o ho=>?_⟩;have h2:=aaE.1 h (o,j) (aa9.2 ho);simp only [aas] at h2;obtain ⟨⟨⟨h3,h3'⟩,h5⟩,h4⟩:=h2;refine ⟨fun e he hbe=>?_,fun d hd=>?_,fun t ht i hi=>?_,fun g=>?_,fun g=>?_,fun g1 g2 g3=>?_,fun g=>?_⟩
 ·have:=Array.all_eq_true_iff_forall_mem.1 h3 e he;simpa [hbe] using this
 ·rw [hd] at h3';simpa using h3'
 ·have h8:=aaE.1 h5 t ht;rw [hi] at h8;simp only [aas,aaU,beq_iff_eq,aau] at h8;rcases h8 with (h|h)|h
  ·exact .inl h
  ·exact .inr (.inl ⟨h.1,hb _ _ h.2⟩)
  ·exact .inr (.inr ⟨h.1,hb _ _ h.2⟩)
 ·rw [if_pos (g▸hF),if_pos g] at h4;simp only [aas,Option.isNone_iff_eq_none] at h4;refine ⟨?_,h4.2⟩;have h5:=h4.1;split at h5
  ·rename_i hop;rw [hop];simpa using h5
  ·cases h5
 ·rw [if_pos (g▸hE),if_neg (by omega),if_pos g] at h4;simp only [aas,Option.isNone_iff_eq_none] at h4;exact h4
 ·rw [if_pos g1,if_neg g2,if_neg g3] at h4;simp only [aaU,aas,aau] at h4;exact h4.imp id fun h=>by simpa using h
 ·rw [if_neg g] at h4;simp only [aaU,aas,aau,beq_iff_eq,aaE] at h4;exact h4.imp id fun h=>⟨h.1,fun i hi=>hb _ _ (h.2 i hi)⟩
def AW.drawnW (hm:P.follows .mixedOrders=true) {id:Nat} {l:List Oper} (A:List Nat) (pa iw ia:Nat) (cs:List Nat) (e:TypeId) {fr:Fr} {st:St} (hok:fM (yF A l) [] [] (yF A l).length=true) (hA:okAW A pa iw ia cs e l=true)
  (h:OT P G n l.toArray l fr st fun fr' st'=>(∀ j∈cs,yN P G n l fr' j)∧Q .normal fr' st'):AW P G n aC (.region id l.toArray true) Q fr st:=by
 obtain ⟨vs,ss,fr',st',htr,hE,hQ⟩:=h
 have htr:=htr.chain (all':=(yF A l).toArray) chainL_all (yF A l) (chainL_len (A:=A) l) fun i o o' ho ho'=>by
  rw [chainL_get,ho] at ho';simp only [aaJ,aal] at ho';subst ho';split<;>exact ⟨rfl,rfl,rfl,rfl⟩
 obtain ⟨R,h2,h3⟩:=runE (P:=P) (G:=G) (n:=n) hok htr (fun p hp=>by cases hp)
 rw [valOf_chainL] at h2
 clear htr
 generalize hW:(fun i=>vs.getD i .aU)=W at R h2
 generalize hS:(fun i=>(st::ss).getD i default)=S at R
 have hS0:S 0=st:=by rw [←hS];rfl
 have hSe:st'=S (yF A l).length:=by rw [h3,←hS]
 clear hW hS h3
 obtain ⟨⟨hp0,hp1,hp2,hpA,hiw,hia⟩,F⟩:=okAW_facts hA
 have hlen:=chainL_len (A:=A) l
 have stepL:∀ {o o':Oper} {f:Fr} {s s':St} {v:V},o'.dst=o.dst→o'.op=o.op→o'.type=o.type→o'.guard=o.guard→cL P G n (yF A l).toArray o f s v s'→cL P G n l.toArray o' f s v s':=fun e1 e2 e3 e4 hs=>
  hs.all (fun j=>(chainL_all j).symm) e1 e2 e3 e4
 have MA:∀ i,i<l.length→∃ o o',l[i]?=some o∧(yF A l)[i]?=some o'∧o.dst=o'.dst∧o.op=o'.op∧o.type=o'.type∧o.guard=o'.guard:=fun i hi=>by
  refine ⟨l[i],_,by simp [hi],by rw [chainL_get,aaw hi];rfl,?_⟩;split<;>exact ⟨rfl,rfl,rfl,rfl⟩
 have stepR:∀ {i:Nat} {o:Oper},l[i]?=some o→cL P G n l.toArray o (valOf l fr W (fun k=>decide (k<i))) (S i) (W i) (S (i+1)):=fun {i o} ho=>by
  have hi:=(aao.1 ho).1;obtain ⟨o1,o2,g1,g2,g3,g4,g5,g6⟩:=MA i hi;rw [ho] at g1;cases g1;have:=R.step i o2 (by omega) g2;rw [valOf_chainL] at this;exact stepL g3 g4 g5 g6 this
 have kindR:∀ {i:Nat} {o:Oper},l[i]?=some o→i<pa→i≠ia→i≠iw→bp [] i o≠2:=fun {i o} ho g1 g2 g3=>by
  by_cases hi:i∈A
  ·rcases (F i o ho).rd hi g2 g3 with h|h
   ·obtain ⟨h,_⟩:=h;obtain ⟨d,op,ty,pos,af,gu⟩:=o;simp only at h;unfold isLoad at h;split at h
    ·simp [bp,eu]
    ·cases h
   ·obtain ⟨d,args,ats,ty,pos,after,g,xs,hlm,_⟩:=(hE i h).ex;rw [ho] at hlm;cases hlm;simp [bp,eu]
  ·rcases (F i o ho).out hi with h|⟨h,_⟩<;>omega
 have stillR:∀ a b,a≤b→b≤pa→(∀ i,a≤i→i<b→i≠ia∧i≠iw)→S b=S a:=fun a b hab hb hn=>by
  refine oJ R hab (by omega) fun i o' g1 g2 ho hk=>?_;obtain ⟨o1,o2,q1,q2,q3,q4,q5,q6⟩:=MA i (by omega);rw [q2] at ho;cases ho;refine kindR q1 (by omega) (hn i g1 g2).1 (hn i g1 g2).2 ?_;unfold bp at hk ⊢;rw [q4];exact hk
 obtain ⟨ow,_,gw,_⟩:=MA iw (by omega)
 obtain ⟨oa,_,ga,_⟩:=MA ia (by omega)
 obtain ⟨aw1,aw2⟩:=(F iw ow gw).ap rfl
 obtain ⟨aa1,aa2⟩:=(F ia oa ga).al rfl
 obtain ⟨X,K⟩:=st
 have hSw:S iw=⟨X,K⟩:=by rw [stillR 0 iw (aaK _) (by omega) fun i _ h=>⟨by omega,by omega⟩,hS0]
 have happ:=stepR gw
 rw [hSw] at happ
 obtain ⟨hb1,hb2⟩:=app_any happ aw1 aw2
 generalize hK':(S (iw+1)).toks=K' at hb2
 have hSw1:S (iw+1)=⟨X,K'⟩:=by rw [←hK',←hb1]
 have hSa:S ia=⟨X,K'⟩:=by rw [stillR (iw+1) ia (by omega) (by omega) fun i _ h=>⟨by omega,by omega⟩,hSw1]
 have hal:=stepR ga
 rw [hSa] at hal
 obtain ⟨zs,hz1,hz2,hz3,hz4⟩:=alloc_step hal aa1 aa2
 generalize hB:v8 P e zs=B at hz3
 have hSpa:S pa=⟨X++[B],K'⟩:=by rw [stillR (ia+1) pa (by omega) (by omega) fun i _ h=>⟨by omega,by omega⟩,hz3]
 let T:Bool→Bool→St:=fun a w=>⟨if a then X++[B] else X,if w then K' else K⟩
 have quiet:∀ {j:Nat} {o:Oper},l[j]?=some o→bp [] j o=0→∀ s,cL P G n l.toArray o (valOf l fr W (fun k=>decide (k<j))) s (W j) s:=fun {j o} ho h s=>by
  have hst:=stepR ho;have hq:eu o.op=true:=by
   unfold bp at h;split at h
   ·simp at h
   ·split at h
    ·assumption
    ·split at h<;>simp at h
  exact (hst.quiet hq).2 _
 have uni:∀ {j:Nat} {o:Oper},l[j]?=some o→j∈A→j≠ia→j≠iw→∀ a w,cL P G n l.toArray o (valOf l fr W (fun k=>decide (k<j))) (T a w) (W j) (T a w):=fun {j o} ho g1 g2 g3 a w=>by
  have hst:=stepR ho;have g1:=g1;rcases (F j o ho).rd g1 g2 g3 with h|h
  ·obtain ⟨h,hlo⟩:=h
   ·have hX:∃ K0,S j=⟨X,K0⟩:=by
     by_cases hji:j≤iw
     ·exact ⟨K,by rw [stillR 0 j (aaK _) (by omega) fun i _ h=>⟨by omega,by omega⟩,hS0]⟩
     ·exact ⟨K',by rw [stillR (iw+1) j (by omega) (by omega) fun i _ h=>⟨by omega,by omega⟩,hSw1]⟩
    obtain ⟨K0,hX⟩:=hX;rw [hX] at hst;have:=load_any hst h (if w then K' else K);cases a
    ·exact this.1
    ·exact this.2 B
  ·obtain ⟨d,args,ats,ty,pos,after,g,xs,hlm,hcall,hd,hb,hx,hAc⟩:=(hE j h).ex;rw [hlm] at ho;cases ho;have hw:iO l d=some j:=(F j _ hlm).dst d rfl;have hv:fr' d=W j:=by
    rw [h2];unfold valOf;simp only [hw,if_true]
   refine cL.call _ _ g [] (.func g) args ats rfl rfl rfl hcall hd ?_;have hargs:args.toList.map (fun o=>(ev (valOf l fr W (fun k=>decide (k<j))) o).share)=xs:=by
    rw [←hx];refine abQ fun o ho=>?_;have hb':=aaE.1 hb o ho;cases o with
    |tmp t=>
     have:valOf l fr W (fun k=>decide (k<j)) t=fr' t:=by
      rw [h2];unfold valOf;unfold P7 at hb';simp only at hb';cases hw:iO l t with
      |none=>rfl
      |some i=>
       rw [hw] at hb'
       have hj:i<j:=by simpa using hb'
       simp only [decide_eq_true hj,if_true]
     simp only [ev,this]
    |const c=>rfl
    |func f=>rfl
    |global g=>rfl
   rw [aaM,hargs,←hv];exact hAc _
 intro c0 c w a h0 he hc hg hf hs hd
 have hg0:G c0.w0 c0.base:=by rw [←he.w0,←he.base];exact hg
 have stage:∀ (fuel:Nat) (L:Array Bool) (a':Act) (w':World) (c':Ctx),Clo l L→(∀ j o,l[j]?=some o→L.getD j false=true→j∈A∨bp [] j o=0)→L.count false≤fuel→Ext c c'→bf c' w' (T (L.getD ia false) (L.getD iw false))→
   cC c' a'.tmps (valOf l fr W (fun i=>L.getD i false))→a'.tmps.size=n.sz→a'.defers=n.ds→wpAny P .any l.toArray (nW c0 n Q) fuel L a' w':=by
  intro fuel
  have fin:∀ (fuel:Nat) (L:Array Bool) (a':Act) (w':World) (c':Ctx),Clo l L→(∀ j o,l[j]?=some o→L.getD j false=true→j∈A∨bp [] j o=0)→(∀ j∈A,L.getD j false=true)→L.count false≤fuel→Ext c c'→bf c' w' (T (L.getD ia false) (L.getD iw false))→
    cC c' a'.tmps (valOf l fr W (fun i=>L.getD i false))→a'.tmps.size=n.sz→a'.defers=n.ds→wpAny P .any l.toArray (nW c0 n Q) fuel L a' w':=by
   intro fuel L a' w' c' I hlow hall hcnt hext hc' hf' hs' hd'
   have hLA':∀ i∈A,L.getD i true=true:=fun i g2=>by
    have h1:=hall i g2;have h5:i<L.size:=by rw [I.size];have:=hpA i g2;omega
    simp [h5] at h1 ⊢;exact h1
   rw [hall ia hia,hall iw hiw,show T true true=S pa from hSpa.symm] at hc'
   refine wpAny_chainL fuel L a' w' hLA' ?_
   refine kE (c0:=c0) R hg0 (.inl ⟨rfl,by rw [valOf_chainL,←h2,←hSe];exact hQ⟩) fuel L pa a' w' c' ⟨by rw [hlen];exact I.size,fun j o hj hLj e' he' hbe=>?_,fun j hj=> .inl ?_,by omega,fun i o hi hk=>?_⟩ hcnt (he.trans hext) hc'
    (by rw [valOf_chainL];exact hf') hs' hd'
   ·by_cases hAj:j∈A
    ·have hjl:j<l.length:=by have:=hpA j hAj;omega
     rw [chainL_get,aaw hjl] at hj
     simp only [aaJ,if_pos hAj,aal] at hj
     subst hj
     rcases Array.mem_append.1 he' with he'|he'
     ·exact I.closed j _ (aaw hjl) hLj e' he' hbe
     ·simp only [List.map_toArray,List.mem_toArray,abm,List.mem_filter,aau] at he'
      obtain ⟨j',⟨hj',_⟩,rfl⟩:=he'
      exact hall j' hj'
    ·rw [chainL_out hAj] at hj
     exact I.closed j o hj hLj e' he' hbe
   ·rw [hlen,←I.size]
    rcases abe j L.size with h2|h2
    ·exact h2
    ·simp [abn h2] at hj
   ·by_cases hAi:i∈A
    ·exact ⟨fun _=>hpA i hAi,fun _=>hall i hAi⟩
    ·rw [chainL_out hAi] at hi
     have hge:=((F i o hi).out hAi).resolve_left (by omega)
     refine ⟨fun hL=>?_,fun h=>by omega⟩
     rcases hlow i o hi hL with h|h
     ·exact absurd h hAi
     ·omega
  induction fuel with
  |zero=>
   intro L a' w' c' I hlow hcnt hext hc' hf' hs' hd'
   refine fin 0 L a' w' c' I hlow (fun i hi=>?_) hcnt hext hc' hf' hs' hd'
   have hi':i<L.size:=by rw [I.size];have:=hpA i hi;omega
   rcases Bool.eq_false_or_eq_true (L.getD i false) with hL|hL
   ·exact hL
   ·have:false∈L:=by simp [hi'] at hL;exact hL▸abH hi'
    have:=abJ.2 this
    omega
  |succ fuel ih=>
   intro L a' w' c' I hlow hcnt hext hc' hf' hs' hd'
   by_cases hall:∀ j∈A,L.getD j false=true
   ·exact fin (fuel+1) L a' w' c' I hlow hall hcnt hext hc' hf' hs' hd'
   refine ⟨fun hr=>?_,fun j hj=>?_⟩
   ·refine (hall fun i hi=>?_).elim
    have hall:∀ j,j<l.length→L.getD j false=true:=by
     intro j;induction j using Nat.strongRecOn with
     |ind j ihj=>
      intro hj
      cases hL:L.getD j false with
      |true=>rfl
      |false=>
       have hmem:j∈Region.ready .any l.toArray L:=by
        rw [mem_ready];have hjL:j<L.size:=by rw [I.size];exact hj
        refine ⟨by simp [hjL] at hL ⊢;exact hL,l[j],by simp [hj],fun e he hb=>?_⟩;have:=(F j l[j] (by simp [hj])).Um e he hb;exact ihj e.on this (by omega)
       rw [hr] at hmem
       cases hmem
    exact hall i (by have:=hpA i hi;omega)
   ·obtain ⟨h0',o,ho,hrd⟩:=mem_ready.1 hj
    have ho':l[j]?=some o:=by simpa using ho
    have Fj:=F j o ho'
    have hjL:j<L.size:=by rw [I.size];exact (aao.1 ho').1
    have hjf:L.getD j false=false:=by simp [hjL] at h0' ⊢;exact h0'
    have hGc:G c'.w0 c'.base:=by rw [hext.w0,hext.base];exact hg
    have hClo:Clo l (L.setIfInBounds j true):=by
     refine ⟨by simpa using I.size,fun i o' hi' hi e he hb=>?_⟩;by_cases hij:j=i
     ·subst hij;rw [ho'] at hi';cases hi';exact getD_set_true (hrd e he hb)
     ·rw [getD_set_ne false hij] at hi;exact getD_set_true (I.closed i o' hi' hi e he hb)
    have hjset:(L.setIfInBounds j true).getD j false=true:=by simp [hjL]
    have hcount:(L.setIfInBounds j true).count false≤fuel:=by
     have h1:(L.setIfInBounds j true).count false+1=L.count false:=by
      have hLj:L[j]=false:=by simp [hjL] at h0';exact h0'
      rw [Array.setIfInBounds,dif_pos hjL,Array.count_set];have:=abJ.2 (hLj▸abH hjL);simp [hLj];omega
     omega
    have hjA:j∈A∨bp [] j o=0:=by
     by_cases hjA:j∈A
     ·exact .inl hjA
     ·rcases Fj.out hjA with h|⟨_,h⟩
      ·exact .inr h
      ·exact (hall fun i g1=>I.F9 (h i g1) ⟨o,ho',hrd⟩).elim
    have hlow':∀ i o',l[i]?=some o'→(L.setIfInBounds j true).getD i false=true→i∈A∨bp [] i o'=0:=fun i o' hi' hi=>by
     by_cases hij:j=i
     ·subst hij;rw [ho'] at hi';cases hi';exact hjA
     ·rw [getD_set_ne false hij] at hi;exact hlow i o' hi' hi
    have hcong:∀ t∈o.looksAt l.toArray,valOf l fr W (fun k=>decide (k<j)) t=valOf l fr W (fun i=>L.getD i false) t:=fun t ht=>by
     unfold valOf;cases hw:iO l t with
     |none=>rfl
     |some i=>
      have:decide (i<j)=L.getD i false:=by
       rcases Fj.look t ht i hw with rfl|⟨h1,h2⟩|⟨h1,h2⟩
       ·rw [hjf];simp
       ·rw [I.F9 h2 ⟨o,ho',hrd⟩];simp [h1]
       ·cases hi:L.getD i false with
        |false=>simp;omega
        |true=>rw [I.KS h2 hi] at hjf;simp at hjf
      simp only [this]
    have hst:cL P G n l.toArray o (valOf l fr W (fun i=>L.getD i false)) (T (L.getD ia false) (L.getD iw false)) (W j) (T ((L.setIfInBounds j true).getD ia false) ((L.setIfInBounds j true).getD iw false)):=by
     by_cases ea:j=ia
     ·subst ea;rw [ga] at ho';cases ho';rw [hjset,getD_set_ne false (show j≠iw by omega),hjf];have:=step_alloc (P:=P) (G:=G) (n:=n) (all:=l.toArray) (fr:=valOf l fr W (fun i=>L.getD i false)) (st:=T false (L.getD iw false)) aa1 aa2 hz1 hz4;rw [hB] at this;rw [hz2];exact this
     ·by_cases ew:j=iw
      ·subst ew;rw [gw] at ho';cases ho';rw [hjset,getD_set_ne false (show j≠ia by omega),hjf];exact (hb2 _).congr hcong
      ·rw [getD_set_ne false ea,getD_set_ne false ew];by_cases hjA':j∈A
       ·exact (uni ho' hjA' ea ew _ _).congr hcong
       ·exact (quiet ho' (hjA.resolve_left hjA') _).congr hcong
    refine wH ho hc' hGc hf' hs' hd' hst fun c2 a2' w2 hext2 hc2 hf2 hs2 hd2=>?_
    rw [Bg I.size ho' Fj.dst] at hf2
    exact ih _ a2' w2 c2 hClo hlow' hcount (hext.trans hext2) hc2 hf2 hs2 hd2
 refine wp_region_any hm ?_
 have hrep:∀ i,(Array.replicate l.toArray.size false).getD i false=false:=fun i=>by
  rw [aap,abK];split<;>rfl
 refine stage _ _ a _ c ⟨by simp,fun j o _ hj=>?_⟩ (fun j o _ hj=>?_) ?_ (Ext.refl c) ?_ ?_ hs hd
 ·exact absurd hj (by rw [hrep];simp)
 ·exact absurd hj (by rw [hrep];simp)
 ·exact abj Array.count_le_size (by simp)
 ·rw [hrep,hrep]
  exact kF hc
 ·intro t
  have:=hf t
  unfold valOf
  cases iO l t with
  |none=>exact this
  |some i=>simp only [hrep];exact this
def QW (P:Program) (G:World→Nat→Prop) (n:NDs) (l:List Oper) (cs:List Nat) (Q:AX→Fr→St→Prop):AX→Fr→St→Prop:=fun x fr' st'=>(∀ j∈cs,yN P G n l fr' j)∧Q x fr' st'
def AW.regW (hm:P.follows .mixedOrders=true) {id:Nat} {l:List Oper} (A:List Nat) (pa iw ia:Nat) (cs:List Nat) (e:TypeId) {fr:Fr} {st:St} (hok:fM (yF A l) [] [] (yF A l).length=true) (hA:okAW A pa iw ia cs e l=true)
  (h:∀ Q',Q'=QW P G n l cs Q→RX P G n aC true [] l.toArray Q' (cJ P n l.toArray [] l fr st)):AW P G n aC (.region id l.toArray true) Q fr st:=
 AW.drawnW hm A pa iw ia cs e hok hA (RX.sound (aC:=aC) (res:=[]) (Q:=QW P G n l cs Q) (d:=true) (h _ rfl))
def QW.i1 {l:List Oper} {j:Nat} {x:AX} {fr':Fr} {st':St} (h:yN P G n l fr' j) (k:Q x fr' st'):QW P G n l [j] Q x fr' st':=⟨fun i hi=>by simp at hi;subst hi;exact h,k⟩
end
end Go.Abs
end
section
set_option maxHeartbeats 8000000
set_option maxRecDepth 20000
namespace Go.Proofs.YtbcillkajdnljaaGreatDoor
open Tryz
open Go.Abs
attribute [local irreducible] AW OX GQ bK bO bz aY aA
variable {G:World→Nat→Prop}
def truD (s:aF) (b:Bool):List D:=[.str s,int 1,.bool b,int 0,.str [],.sl [],.sl []]
def cn_truth (s:aF) (b:Bool):b8 G 199 [vs s,vb b] (.agg ((truD s b).map .d)):=by
 intro st;refine aA.start func199 rfl ntmps199 (by simp) fun _ ag=>?_;simp only [go_sem,seval,cX ag,truD];(repeat' first|apply cq.l|refine aQ.i ⟨?_,rfl⟩)<;>try subst ag
 all_goals rfl
def cn_sum0:b8 G 198 [.d (.sl [])] (.agg [vb false,vb false,vb false,vb true]):=by
 intro st;refine aA.start func198 rfl ntmps198 (by simp) fun _ ag=>?_;simp only [go_sem,seval,cX ag];all_goals (try subst ag)
 refine AW.zU (fun _:Unit=>[(2,.ptr st.aj.length 0),(3,.ptr (st.aj.length+1) 0),(7,.d (.sl [])),(8,ai 0),(9,ai 0)]) (fun _=>[.cells [vb false,vb false,vb false,vb false],.cells [vb false,vb false,vb false,vb true]]) (fun _=>[]) (fun _=>True) (fun _=>0) () ⟨by simp,by simp only [go_sem,seval]⟩ trivial ?_;intro _ _;refine Wk.go fun _ ag=>?_;simp only [go_sem,seval,cX ag];(repeat' first|apply cq.l|refine aQ.i ⟨?_,rfl⟩)<;>try subst ag
 all_goals rfl
def cRows:List (List D):=[truD sAlways true,truD sCancelled false,truD sFailure false,truD sSkipped false,truD sSuccess true]
def cn_Env0:b8 G 135 [.d (.sl []),.d (.sl [])] (.d (.sl cRows)):=by
 intro st;have hs:=cn_sum0 (G:=G);have t1:=cn_truth (G:=G) sAlways true;have t2:=cn_truth (G:=G) sCancelled false;have t3:=cn_truth (G:=G) sFailure false;have t4:=cn_truth (G:=G) sSkipped false;have t5:=cn_truth (G:=G) sSuccess true;simp only [sAlways,sCancelled,sFailure,sSkipped,sSuccess,truD,aaB,aaI] at t1 t2 t3 t4 t5;refine aA.start func135 rfl ntmps135 (by simp) fun _ ag=>?_;simp (disch:=first|exact ⟨by kernel_rfl⟩|omega) only [go_sem,seval,cX ag,wd,bC (hs _),bC (t1 _),bC (t2 _),bC (t3 _),bC (t4 _),bC (t5 _)];(repeat' apply cq.l)<;>try subst ag
 refine AW.zU (fun _:Unit=>[(6,.d (.sl cRows)),(25,.d (.sl [])),(26,ai 0),(27,ai 0)]) (fun _=>[.cells [vb false,vb false,vb false,vb true]]) (fun _=>[]) (fun _=>True) (fun _=>0) () ⟨by simp,by simp only [go_sem,seval,cRows,truD,sAlways,sCancelled,sFailure,sSkipped,sSuccess]⟩ trivial ?_;intro _ _;refine Wk.go fun _ ag=>?_;simp only [go_sem,seval,cX ag];(repeat' first|apply cq.l|refine aQ.i ⟨?_,rfl⟩)<;>try subst ag
 all_goals rfl
def exprF_err {e:Ex} {env:List Dc} {c:Int} (h:exprF e env= .err c):c≠0:=by
 unfold exprF at h;split at h
 ·rename_i h1;cases h;exact h1
 ·split at h
  ·rename_i h1;cases h;exact h1
  ·split at h
   ·rename_i h1;cases h;exact tcF_err e _ h1
   ·cases h
def dc_one (d:Dc):((dcD d).all D.one)=true:=by rw [dcD,Ty.aP];rfl
def app_dc (B:List ec) (K:List (Nat×Nat×Nat)) (x l:List Dc) (h:0<x.length) (hx:x.length≤1048576) (hl:l.length≤1048576):
  jt (some 3) true true 179 3 48 (l.map dcD) (lz K.length (x.map dcD)) ⟨B,K++k9 179 3 (x.map dcD)⟩=some (lz K.length ((x++l).map dcD),⟨B,K++k9 179 3 ((x++l).map dcD)⟩):=by
 cases l with
 |nil=>
  have hm:maxLen=9223372036854775807:=by decide
  cases x with
  |nil=>simp at h
  |cons a r=>
   simp only [aav] at hx
   simp [jt,lz,k9,rS,hm]
   omega
 |cons a r=>
  simp only [aav] at hl
  rw [CZ _ _ _ _ _ _ _ (by omega) (by simp) (by simp;omega) (by simp;omega),aaQ]
def app_cn (i:Nat) (s:aF) (hs:xI.take (i+1)=xI.take i++[(s,cx 2)]) (h0:0<i) (h5:i≤5) (B:List ec) (K:List (Nat×Nat×Nat)):
  jt (some 3) true true 179 3 48 [[D.str s,D.int .i64 2,D.sl []]] (lz K.length ((xI.take i).map dcD)) ⟨B,K++k9 179 3 ((xI.take i).map dcD)⟩=some (lz K.length ((xI.take (i+1)).map dcD),⟨B,K++k9 179 3 ((xI.take (i+1)).map dcD)⟩):=by
 rw [hs]
 exact app_dc B K (xI.take i) [(s,cx 2)] (by simp [xI];omega) (by simp;omega) (by simp)
def app_cn0 (B:List ec) (K:List (Nat×Nat×Nat)):
  Bt prog (some (179,3,48)) (some (D.sl [[D.str sAlways,D.int .i64 2,D.sl []]])) .bh ⟨B,K⟩=some (lz K.length ((xI.take 1).map dcD),⟨B,K++k9 179 3 ((xI.take 1).map dcD)⟩):=by
 have hz:dy prog 179=some 3:=by kernel_rfl
 rw [oK,hz]
 rfl
def cn_Check (e:Ex) (l:List Dc) (hl:l.length≤1048576) (hn:∀ d∈l,d.1.length≤1048576) (fe:j0 e) (ie:ot e) (hb:bq e≤1099511627776):b8 G 87 [vE e,vDcs l] (ai (condF e l)):=by
 intro st;have hx:=h_Expr (G:=G) e (xI++l) (by simp [xI];omega) (by
  intro d hd;rcases abo.1 hd with h|h
  ·simp [xI] at h;rcases h with rfl|rfl|rfl|rfl|rfl<;>decide
  ·exact hn d h) fe ie hb
 rw [show vDcs (xI++l)= .d (.sl (xI.map dcD++l.map dcD)) from by simp] at hx;have h0:=cn_Env0 (G:=G);refine aA.start func87 rfl ntmps87 (by simp) fun _ ag=>?_;simp only [go_sem,seval,cX ag,bC (h0 _)];(repeat' apply cq.l)<;>try subst ag
 refine AW.zU (fun i:Nat=>[(1,vDcs l),(2,.ptr st.aj.length 0),(5,lz st.toks.length ((xI.take i).map dcD)),(10,.d (.sl cRows)),(11,ai 5),(12,ai ↑i)]) (fun _=>[.cells (e.enc.map .d)]) (fun i=>k9 179 3 ((xI.take i).map dcD)) (fun i=>i≤5) (fun i=>5 - i) 0 ⟨by simp [k9],by simp only [go_sem,seval,List.take_zero,aaI,lz,cRows,aav,aaA];first|done|rfl⟩ (by simp) ?_;intro i hi;by_cases h5:i=5
 ·subst h5;refine Wk.go fun _ ag=>?_;simp only [go_sem,seval,cX ag];(repeat' apply cq.l)<;>try subst ag
  rw [show List.take 5 xI=xI from rfl];have ha:=app_dc (st.aj++[.cells (e.enc.map .d)]) st.toks xI l (by decide) (by decide) hl;cases hr:exprF e (xI++l) with
  |err c=>
   rw [hr,trV] at hx
   refine AW.regW (P:=prog) mx [0,3,4,8] 9 3 8 [4] 176 (by kernel_rfl) (by kernel_rfl) fun _ ag=>?_
   simp only [go_sem,seval,cX ag,bC (hx _),ha,rows_Dc];(repeat' apply cq.l)<;>try subst ag
   refine qc.i (QW.i1 ?_ ?_)
   ·exact yN.i hx (by rfl) call136 (by rfl) (by rfl) (by simp only [go_sem,seval];try exact rfl) (by simp only [go_sem,seval];try exact rfl)
   refine kQ fun _ ag=>?_
   have hc0:=exprF_err hr
   have hF:condF e l=c:=by rw [condF,hr]
   simp (disch:=omega) only [go_sem,seval,cX ag,hc0];(repeat' first|apply cq.l|refine cE.i fun hc=>?_|refine aQ.i ⟨?_,rfl⟩)<;>try subst ag
   all_goals (refine bA ?_;grind)
  |ok t=>
   rw [hr,trV] at hx
   refine AW.regW (P:=prog) mx [0,3,4,8] 9 3 8 [4] 176 (by kernel_rfl) (by kernel_rfl) fun _ ag=>?_
   simp only [go_sem,seval,cX ag,bC (hx _),ha,rows_Dc];(repeat' apply cq.l)<;>try subst ag
   refine qc.i (QW.i1 ?_ ?_)
   ·exact yN.i hx (by rfl) call136 (by rfl) (by rfl) (by simp only [go_sem,seval];try exact rfl) (by simp only [go_sem,seval];try exact rfl)
   refine kQ fun _ ag=>?_
   have hF:condF e l=if t.kind=2∨t.kind=0∨t.kind=7 then 0 else 9:=by rw [condF,hr]
   simp (disch:=omega) only [go_sem,seval,cX ag];(repeat' first|apply cq.l|apply bg.i|refine cE.i fun hc=>?_|refine aQ.i ⟨?_,rfl⟩)<;>try subst ag
   all_goals (refine bA ?_;grind)
 have h4:i=0∨i=1∨i=2∨i=3∨i=4:=by omega
 rcases h4 with rfl|rfl|rfl|rfl|rfl
 ·have az:=fun B=>app_cn0 B st.toks;refine Wk.go fun _ ag=>?_;simp only [go_sem,seval,cX ag,cRows,truD,az];(repeat' apply cq.l)<;>try subst ag
  refine cB.i ⟨1,⟨by simp only [go_sem,seval,cRows,truD]<;>omega,?_,?_⟩⟩
  all_goals omega
 ·have az:=fun B=>app_cn 1 sCancelled rfl (by omega) (by omega) B st.toks;refine Wk.go fun _ ag=>?_;simp only [go_sem,seval,cX ag,cRows,truD,az];(repeat' apply cq.l)<;>try subst ag
  refine cB.i ⟨2,⟨by simp only [go_sem,seval,cRows,truD]<;>omega,?_,?_⟩⟩
  all_goals omega
 ·have az:=fun B=>app_cn 2 sFailure rfl (by omega) (by omega) B st.toks;refine Wk.go fun _ ag=>?_;simp only [go_sem,seval,cX ag,cRows,truD,az];(repeat' apply cq.l)<;>try subst ag
  refine cB.i ⟨3,⟨by simp only [go_sem,seval,cRows,truD]<;>omega,?_,?_⟩⟩
  all_goals omega
 ·have az:=fun B=>app_cn 3 sSkipped rfl (by omega) (by omega) B st.toks;refine Wk.go fun _ ag=>?_;simp only [go_sem,seval,cX ag,cRows,truD,az];(repeat' apply cq.l)<;>try subst ag
  refine cB.i ⟨4,⟨by simp only [go_sem,seval,cRows,truD]<;>omega,?_,?_⟩⟩
  all_goals omega
 ·have az:=fun B=>app_cn 4 sSuccess rfl (by omega) (by omega) B st.toks;refine Wk.go fun _ ag=>?_;simp only [go_sem,seval,cX ag,cRows,truD,az];(repeat' apply cq.l)<;>try subst ag
  refine cB.i ⟨5,⟨by simp only [go_sem,seval,cRows,truD]<;>omega,?_,?_⟩⟩
  all_goals omega
def venvF (seen:List aF):List Vr→Int
 |[]=>0
 |d::r=>if isPlain d.name=false then 1 else if fk d.value≠0 then fk d.value else if seen.contains d.name then 7 else venvF (seen++[d.name]) r
def evalEnvF (l:List Vr):Int:=if 1024<l.length then 3 else venvF [] l
def venvF_at (seen:List aF) (l:List Vr) (i:Nat):venvF seen (l.drop i)=if i<l.length then (if isPlain (l.getD i default).name=false then 1 else if fk (l.getD i default).value≠0 then fk (l.getD i default).value else if seen.contains (l.getD i default).name then 7 else venvF (seen++[(l.getD i default).name]) (l.drop (i+1))) else 0:=by
 by_cases h:i<l.length
 ·rw [aaT h,if_pos h,getD_eq h,venvF]
 ·rw [aa0 (by omega),if_neg h,venvF]
def ev_Env (env:List Vr) (hl:env.length≤1099511627776) (hn:∀ d∈env,d.name.length≤1048576∧gU d.value∧cj d.value≤1099511627776):b8 G 84 [.d (.sl (env.map Vr.enc))] (ai (evalEnvF env)):=by
 intro st;rw [evalEnvF];by_cases h0:1024<env.length
 ·rw [if_pos h0];refine aA.start func84 rfl ntmps84 (by simp) fun _ ag=>?_;simp (disch:=omega) only [go_sem,seval,cX ag,h0];(repeat' first|apply cq.l|refine cE.i fun hc=>?_|refine aQ.i ⟨?_,rfl⟩)<;>try subst ag
  all_goals first|rfl|(exfalso;omega)|skip
 rw [if_neg h0];refine aA.start func84 rfl ntmps84 (by simp) fun _ ag=>?_;simp (disch:=omega) only [go_sem,seval,cX ag,JD];(repeat' refine cE.i fun hc=>?_)<;>try subst ag
 refine AW.zU (fun x:List aF×Nat=>[(3,.mp st.aj.length),(11,.d (.sl (env.map Vr.enc))),(12,ai ↑env.length),(13,ai ↑x.2)]) (fun x=>[.mp .str x.2 (fm x.1)]) (fun _=>[])
  (fun x=>x.2≤env.length∧venvF x.1 (env.drop x.2)=venvF [] env) (fun x=>env.length - x.2) ([],0) (by simp only [go_sem,seval,P2]<;>omega) ⟨by simp,rfl⟩ ?_
 rintro ⟨l,i⟩ ⟨g1,g2⟩;simp only at g1 g2;rw [venvF_at] at g2;rw [←g2];by_cases hi:i<env.length
 ·obtain ⟨a1,a2,a3⟩:=hn _ (aB hi);have hp:=h_plain (G:=G) (env.getD i default).name a1;have hv:=qJ (G:=G) (env.getD i default).value a2 a3;cases hc:l.contains (env.getD i default).name
  ·refine Wk.go fun _ ag=>?_;simp (disch:=omega) only [go_sem,seval,cX ag,JD,JE,P4 hc,bC (hp _),bC (hv _)];(repeat' first|apply cq.l|apply bg.i|refine cE.i fun hc=>?_|refine aQ.i ⟨?_,rfl⟩)<;>try subst ag
   all_goals first|(refine bA ?_;grind)|skip
   refine cB.i ⟨(l++[(env.getD i default).name],i+1),⟨by simp (disch:=omega) only [go_sem,seval,P3]<;>omega,?_,?_⟩⟩
   ·exact ⟨by simp only;omega,by grind⟩
   ·simp only;omega
  ·refine Wk.go fun _ ag=>?_;simp (disch:=omega) only [go_sem,seval,cX ag,JD,JE,TD hc,bC (hp _),bC (hv _)];(repeat' first|apply cq.l|apply bg.i|refine cE.i fun hc=>?_|refine aQ.i ⟨?_,rfl⟩)<;>try subst ag
   all_goals (refine bA ?_;grind)
 ·refine Wk.go fun _ ag=>?_;simp (disch:=omega) only [go_sem,seval,cX ag];(repeat' first|apply cq.l|refine cE.i fun hc=>?_|refine aQ.i ⟨?_,rfl⟩)<;>try subst ag
  rw [if_neg hi]
abbrev vBs (s:aF):V:= .d (.sl (s.map fun b=>[D.int .u8 (b.toNat:Int)]))
def rowsLen_by (s:aF):cr 1 (s.map fun b=>[D.int .u8 (b.toNat:Int)])=true:=ZJ (fun b:UInt8=>[D.int .u8 (b.toNat:Int)]) 1 (fun _=>rfl) s
attribute [go_sem] rowsLen_by
def app_new {P:Program} (e sz by_:Nat) (B:List ec) (T:List (Nat×Nat×Nat)) (xs:List (List D)) (hz:dy P e=some sz) (h0:0<sz) (hx:dA sz xs=true) (h1:xs.length*by_≤140737488355328) (h2:xs.length≤9223372036854775807):
  Bt P (some (e,sz,by_)) (some (.sl xs)) (.own T.length []) ⟨B,T++[(e,sz,0)]⟩=some (.own T.length xs,⟨B,T++[(e,sz,xs.length)]⟩):=by
 have hm:maxLen=9223372036854775807:=by decide
 cases xs with
 |nil=>simp [Bt,hz,h0,dA,cr,rS]
 |cons x xs=> 
  simp only [Bt,hx,hz,h0,true_and,if_true]
  rw [if_pos ⟨by simp,by simp [cr],by simp only [aaA,aaL,rS];exact h1,by rw [hm];simpa using h2⟩]
  simp
def c_CloneS (l:List aF) (h0:l≠[]) (hl:l.length≤1099511627776) (st:St):aA prog G 140 [.d (.sl (bt l))] st
  (fun o s=>∃ cap,l.length≤cap∧cap≤maxLen∧o= .ret (.win st.aj.length l.length cap)∧s=⟨st.aj++[.tc 9 (winCs [] (bt l) (cap*1))],st.toks⟩):=by
 have hr:dA 1 (bt l)=true:=by simp [dA,bt,D.one]
 have hne:bt l≠[]:=by simpa [bt] using h0
 have hm:maxLen=9223372036854775807:=by decide
 refine aA.bodyN func140 rfl ntmps140 (by simp) ?_
 refine AW.oA fun K hK=>?_
 refine Wk.go fun _ ag=>?_;simp (disch:=omega) only [go_sem,seval,cX ag];(repeat' first|refine cq.l ?_|refine bg.i ?_ ?_|refine cE.i fun hc=>?_|refine aQ.i ⟨?_,rfl⟩|refine aZ.i ?_ ?_|refine cB.o ?_);all_goals (try subst ag)
 refine cB.i (hK _ _ ?_)
 refine AW.oA fun K2 hK2=>?_
 refine AW.oA fun K3 hK3=>?_
 refine AW.regL 1 (by rfl) (by simp (disch:=first|omega|(simp only [go_sem,aan,aar];try omega)) only [go_sem,seval];try exact rfl) fun K4 hK4=>OPW.nilEq (e:=9) (sz:=1) (by_:=16) (es:=bt l) (by rfl) (by rfl) (by simp (disch:=first|omega|(simp only [go_sem,aan,aar];try omega)) only [go_sem,seval]) (by simp (disch:=first|omega|(simp only [go_sem,aan,aar];try omega)) only [go_sem,seval]) fun b hb=>hK4 _ _ (OW.endR (by rfl) (KT (hK3 _ _ ?_)))
 obtain rfl:=hb hne
 refine Wk.go fun _ ag=>?_;simp (disch:=omega) only [go_sem,seval,cX ag];(repeat' first|refine cq.l ?_|refine bg.i ?_ ?_|refine cE.i fun hc=>?_|refine aQ.i ⟨?_,rfl⟩|refine aZ.i ?_ ?_|refine cB.o ?_);all_goals (try subst ag)
 refine cB.i (hK2 _ _ ?_)
 refine AW.oA fun K5 hK5=>?_
 refine AW.regL 0 (by rfl) (by rfl) fun K6 hK6=>OPW.mk0 (e:=9) (sz:=1) (by_:=16) (by rfl) (by rfl) (by simp (disch:=first|omega|(simp only [go_sem,aan,aar];try omega)) only [go_sem,seval]) (by kernel_rfl) (by decide) (hK6 _ _ ?_)
 refine OW.regL 1 (by rfl) (by simp (disch:=first|omega|(simp only [go_sem,aan,aar];try omega)) only [go_sem,seval];try exact rfl) fun K7 hK7=>OPW.jt (M:=[]) (K:=st.toks) (e:=9) (sz:=1) (by_:=16) (xs:=bt l) (by rfl) (by rfl) (by simp (disch:=first|omega|(simp only [go_sem,aan,aar];try omega)) only [go_sem,seval]) (by kernel_rfl) (by decide) (by simp) (aat _) rfl (by simp (disch:=first|omega|(simp only [go_sem,aan,aar];try omega)) only [go_sem,seval]) (by simp (disch:=first|omega|(simp only [go_sem,aan,aar];try omega)) only [go_sem,seval]) hr hne (by simp [rS];omega) (by simp [hm];omega) [] (by simp)
  fun cap hc1 hc2=>hK7 _ _ (OW.endR (by rfl) (KT (hK5 _ _ ?_)))
 refine Wk.go fun _ ag=>?_;simp (disch:=omega) only [go_sem,seval,cX ag];(repeat' first|refine cq.l ?_|refine bg.i ?_ ?_|refine cE.i fun hc=>?_|refine aQ.i ⟨?_,rfl⟩|refine aZ.i ?_ ?_|refine cB.o ?_);all_goals (try subst ag)
 have e:(bt l).length=l.length:=iP l
 refine retN (l:=[.win st.aj.length l.length cap]) (v:= .win st.aj.length l.length cap) ⟨by simp,by simp⟩ (fun b B hB=>?_) ⟨rfl,rfl,by simp [V.within]⟩ ⟨cap,by omega,hc2,rfl,rfl⟩
 by_cases h1:b<st.aj.length
 ·exact .inl (by simpa [aaz h1] using hB)
 ·refine .inr ?_
  simp only at hB
  rw [aay (by omega)] at hB
  have:=aaR hB
  simp only [abc,List.not_mem_nil,or_false] at this
  subst this
  exact winCs_all rfl
