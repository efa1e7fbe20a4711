/- A step of the proofs of the seat's theorems. -/
import Derived.Test.YthnoiikjfcnlhaaGreatDoorYA
import Derived.Test.YthnoiikjfcnlhaaGreatDoorY20
import Derived.Test.YthnoiikjfcnlhaaGreatDoorY22
import Derived.Test.YthnoiikjfcnlhaaGreatDoorY25
set_option linter.unusedSimpArgs false
set_option linter.unusedVariables false
set_option maxHeartbeats 8000000
set_option maxRecDepth 20000
namespace Go.Proofs.YthnoiikjfcnlhaaGreatDoor
open Go.Abs
attribute [local irreducible] AW OX cG GQ bK bO bz aY aa
variable {G:World→Nat→Prop}
abbrev bI (T:List Tk) (j:Nat):aJ:= .cells [jA T,ai ↑j]
abbrev j4 (j:Nat) (code:Int):V:= .d (.iface 181 (.agg [.int .i64 j,.int .i64 code]))
def fT (t:Tk):Bool:=if t.kind=1 then isName t.text else if t.kind=2 then fZ t.text else if t.kind=3 then decide (t.text.length≤4096) else decide (t.kind=4)
def ez (T:List Tk) (j:Nat):Tk:=if j<T.length then (if fT (T.getD j default) then T.getD j default else MZ) else MZ
theorem p8 (st:St) (b j:Nat) (T:List Tk) (code:Int) (hb:st.aj[b]?=some (bI T j)):aa Tryz.prog G 196 [.ptr b 0,ai code] st (fun o s=>o= .dw (j4 j code)∧s=st):=by
 refine aa.body Tryz.func196 rfl Tryz.ntmps196 (by simp) ?_
 (try refine Wk.aw fun _ ag=>?_);(repeat' (first|((first|refine Wk.hd ?_|refine Wk.i ?_);simp -implicitDefEqProofs only [go_sem,seval,hb])|first|refine Wk.o ?_|refine Wk.q ‹_› ?_));all_goals (repeat subst ag)
 exact aM (s1:=st) (by simp [St.cut]) (fun _ _ h=> .inl h) rfl ⟨rfl,rfl⟩
theorem xk (hg:GV G) (st:St) (b j:Nat) (T:List Tk) (hT:T.length≤1048576) (hx:∀ t∈T,t.text.length≤1048576) (hj:j≤2000000) (hb:st.aj[b]?=some (bI T j)):
  aa Tryz.prog G 193 [.ptr b 0] st (fun o s=>o= .ret (.agg ((ez T j).enc.map .d))∧s=st):=by
 have hbl:b<st.aj.length:=(aam.1 hb).1
 have hb2:∀ x,(st.aj++[x])[b]?=some (bI T j):=fun x=>by rw [aaw hbl];exact hb
 rw [ez]
 by_cases hlt:j<T.length
 ·rw [if_pos hlt]
  have hr:=Pj hg (T.getD j default).kind (T.getD j default).text (T.getD j default).at_ (hx _ (aB hlt))
  have hrt:fT (T.getD j default)=(if (T.getD j default).kind=1 then isName (T.getD j default).text else if (T.getD j default).kind=2 then fZ (T.getD j default).text else if (T.getD j default).kind=3 then decide ((T.getD j default).text.length≤4096) else decide ((T.getD j default).kind=4)):=rfl
  rw [←hrt] at hr
  refine aa.body Tryz.func193 rfl Tryz.ntmps193 (by simp) ?_
  (try refine Wk.aw fun _ ag=>?_);(repeat' (first|((first|refine Wk.hd ?_|refine Wk.i ?_);simp -implicitDefEqProofs (disch:=omega) only [go_sem,seval,hb2])|(refine ay (fun hc=>?_) (fun hc=>?_)<;>try omega)|refine ah (hr _) ?_|refine Wk.drawn mx (by kernel_rfl) ?_|refine Wk.ret fun _ _=>?_|(refine Wk.fin ‹_› ?_;refine ⟨?_,rfl⟩)|first|refine Wk.o ?_|refine Wk.q ‹_› ?_));all_goals (repeat subst ag)
  ·rw [if_pos ‹fT _=true›];rfl
  ·rw [if_neg (by rw [‹fT _=false›];simp)];rfl
 ·rw [if_neg hlt]
  refine aa.body Tryz.func193 rfl Tryz.ntmps193 (by simp) ?_
  (try refine Wk.aw fun _ ag=>?_);(repeat' (first|((first|refine Wk.hd ?_|refine Wk.i ?_);simp -implicitDefEqProofs (disch:=omega) only [go_sem,seval,hb2])|(refine ay (fun hc=>?_) (fun hc=>?_)<;>try omega)|refine Wk.drawn mx (by kernel_rfl) ?_|refine Wk.ret fun _ _=>?_|(refine Wk.fin ‹_› ?_;refine ⟨?_,rfl⟩)|first|refine Wk.o ?_|refine Wk.q ‹_› ?_));all_goals (repeat subst ag)
  all_goals rfl
def gL (T:List Tk) (j:Nat):Except Int Tk:=if T.length≤j then .error 4 else if (ez T j).kind=0 then .error 5 else .ok (ez T j)
theorem kN (hg:GV G) (st:St) (b j:Nat) (T:List Tk) (hT:T.length≤1048576) (hx:∀ t∈T,t.text.length≤1048576) (hj:j≤2000000) (hb:st.aj[b]?=some (bI T j)) (t:Tk) (h:gL T j= .ok t):
  aa Tryz.prog G 195 [.ptr b 0] st (fun o s=>o= .ret (.agg (t.enc.map .d))∧s=st):=by
 have hbl:b<st.aj.length:=(aam.1 hb).1
 have hb2:∀ x,(st.aj++[x])[b]?=some (bI T j):=fun x=>by rw [aaw hbl];exact hb
 have hp:=fun x=>xk (G:=G) hg ⟨st.aj++[x],st.toks⟩ b j T hT hx hj (hb2 x)
 rw [gL] at h
 by_cases h1:T.length≤j
 ·rw [if_pos h1] at h;cases h
 rw [if_neg h1] at h
 by_cases h2:(ez T j).kind=0
 ·rw [if_pos h2] at h;cases h
 rw [if_neg h2] at h
 cases h
 generalize ez T j=t at hp h2
 refine aa.body Tryz.func195 rfl Tryz.ntmps195 (by simp) ?_
 (try refine Wk.aw fun _ ag=>?_);(repeat' (first|((first|refine Wk.hd ?_|refine Wk.i ?_);simp -implicitDefEqProofs only [go_sem,seval,hb2])|(refine ay (fun hc=>?_) (fun hc=>?_)<;>try omega)|refine ah (hp _) ?_|refine Wk.drawn mx (by kernel_rfl) ?_|refine Wk.ret fun _ _=>?_|(refine Wk.fin ‹_› ?_;refine ⟨?_,rfl⟩)|first|refine Wk.o ?_|refine Wk.q ‹_› ?_));all_goals (repeat subst ag)
 all_goals rfl
theorem lH (hg:GV G) (st:St) (b j:Nat) (T:List Tk) (hT:T.length≤1048576) (hx:∀ t∈T,t.text.length≤1048576) (hj:j≤2000000) (hb:st.aj[b]?=some (bI T j)) (e:Int) (h:gL T j= .error e):
  aa Tryz.prog G 195 [.ptr b 0] st (fun o s=>o= .dw (j4 j e)∧s=st):=by
 have hbl:b<st.aj.length:=(aam.1 hb).1
 have hb2:∀ x,(st.aj++[x])[b]?=some (bI T j):=fun x=>by rw [aaw hbl];exact hb
 have hb3:∀ x y,(st.aj++[x,y])[b]?=some (bI T j):=fun x y=>by rw [aaw hbl];exact hb
 have hp:=fun x=>xk (G:=G) hg ⟨st.aj++[x],st.toks⟩ b j T hT hx hj (hb2 x)
 have hf2:=fun x c=>p8 (G:=G) ⟨st.aj++[x],st.toks⟩ b j T c (hb2 x)
 have hf3:=fun x y c=>p8 (G:=G) ⟨st.aj++[x,y],st.toks⟩ b j T c (hb3 x y)
 rw [gL] at h
 by_cases h1:T.length≤j
 ·rw [if_pos h1] at h;cases h
  refine aa.body Tryz.func195 rfl Tryz.ntmps195 (by simp) ?_
  (try refine Wk.aw fun _ ag=>?_);(repeat' (first|((first|refine Wk.hd ?_|refine Wk.i ?_);simp -implicitDefEqProofs only [go_sem,seval,hb2])|(refine ay (fun hc=>?_) (fun hc=>?_)<;>try omega)|refine cA (hf2 _ _) ?_|refine Wk.drawn mx (by kernel_rfl) ?_|first|refine Wk.o ?_|refine Wk.q ‹_› ?_));all_goals (repeat subst ag)
  all_goals exact aM (by simp [St.cut]) (fun _ _ h=> .inl h) rfl ⟨rfl,rfl⟩
 rw [if_neg h1] at h
 by_cases h2:(ez T j).kind=0
 ·rw [if_pos h2] at h;cases h
  generalize ez T j=t at hp h2
  refine aa.body Tryz.func195 rfl Tryz.ntmps195 (by simp) ?_
  (try refine Wk.aw fun _ ag=>?_);(repeat' (first|((first|refine Wk.hd ?_|refine Wk.i ?_);simp -implicitDefEqProofs only [go_sem,seval,hb2,h2])|(refine ay (fun hc=>?_) (fun hc=>?_)<;>try omega)|refine ah (hp _) ?_|refine cA (hf3 _ _ _) ?_|refine Wk.drawn mx (by kernel_rfl) ?_|first|refine Wk.o ?_|refine Wk.q ‹_› ?_));all_goals (repeat subst ag)
  all_goals exact aM (by simp [St.cut]) (fun _ _ h=> .inl h) rfl ⟨rfl,rfl⟩
 ·rw [if_neg h2] at h;cases h
def J5 (T:List Tk) (j:Nat) (s:az):Bool:=decide ((ez T j).kind=4)&&decide ((ez T j).text=s)
theorem Tf (hg:GV G) (st:St) (b j:Nat) (T:List Tk) (hT:T.length≤1048576) (hx:∀ t∈T,t.text.length≤1048576) (hj:j≤2000000) (hb:st.aj[b]?=some (bI T j)) (s:az):
  aa Tryz.prog G 194 [.ptr b 0,vs s] st (fun o s'=>o= .ret (vb (J5 T j s))∧s'=st):=by
 have hp:=xk (G:=G) hg st b j T hT hx hj hb
 rw [J5]
 generalize ez T j=t at hp
 refine aa.body Tryz.func194 rfl Tryz.ntmps194 (by simp) ?_
 (try refine Wk.aw fun _ ag=>?_);(repeat' (first|((first|refine Wk.hd ?_|refine Wk.i ?_);simp -implicitDefEqProofs only [go_sem,seval])|(refine ay (fun hc=>?_) (fun hc=>?_)<;>try omega)|refine ah (hp) ?_|refine Wk.ret fun _ _=>?_|(refine Wk.fin ‹_› ?_;refine ⟨?_,rfl⟩)|first|refine Wk.o ?_|refine Wk.q ‹_› ?_));all_goals (repeat subst ag)
 all_goals (refine aO ?_;simp only [aap,aal];simp_all)
theorem eK (hg:GV G) (st:St) (b j:Nat) (T:List Tk) (hT:T.length≤1048576) (hx:∀ t∈T,t.text.length≤1048576) (hj:j≤2000000) (hb:st.aj[b]?=some (bI T j)) (s:az) (h:J5 T j s=false):
  aa Tryz.prog G 184 [.ptr b 0,vs s] st (fun o s'=>o= .ret (vb false)∧s'=st):=by
 have hp:=Tf (G:=G) hg st b j T hT hx hj hb s
 rw [h] at hp
 refine aa.body Tryz.func184 rfl Tryz.ntmps184 (by simp) ?_
 (try refine Wk.aw fun _ ag=>?_);(repeat' (first|((first|refine Wk.hd ?_|refine Wk.i ?_);simp -implicitDefEqProofs only [go_sem,seval])|refine ah (hp) ?_|refine Wk.ret fun _ _=>?_|(refine Wk.fin ‹_› ?_;refine ⟨?_,rfl⟩)|first|refine Wk.o ?_|refine Wk.q ‹_› ?_));all_goals (repeat subst ag)
 all_goals rfl
theorem eL (hg:GV G) (st:St) (b j:Nat) (T:List Tk) (hT:T.length≤1048576) (hx:∀ t∈T,t.text.length≤1048576) (hj:j≤2000000) (hb:st.aj[b]?=some (bI T j)) (s:az) (h:J5 T j s=true):
  aa Tryz.prog G 184 [.ptr b 0,vs s] st (fun o s'=>o= .ret (vb true)∧s'=⟨st.aj.set b (bI T (j+1)),st.toks⟩):=by
 have hp:=Tf (G:=G) hg st b j T hT hx hj hb s
 have hbl:b<st.aj.length:=(aam.1 hb).1
 rw [h] at hp
 refine aa.body Tryz.func184 rfl Tryz.ntmps184 (by simp) ?_
 (try refine Wk.aw fun _ ag=>?_);(repeat' (first|((first|refine Wk.hd ?_|refine Wk.i ?_);simp -implicitDefEqProofs (disch:=omega) only [go_sem,seval,hb,splice])|refine ah (hp) ?_|first|refine Wk.o ?_|refine Wk.q ‹_› ?_));all_goals (repeat subst ag)
 refine aV st.toks.length (aan _) (s1:=⟨st.aj.set b (bI T (j+1)),st.toks⟩) (by simp only [St.cut,aa1,fy,aaP];first|done|rfl) (aR ?_) (by simp -implicitDefEqProofs (disch:=omega) only [go_sem,seval,bQ,Tryz.results184];first|done|exact rfl) rfl rfl ⟨rfl,rfl⟩
 simp [aJ.within,V.within,V.within.all]
theorem Jc {T:List Tk} {j:Nat} {s:az} (h:J5 T j s=true):gL T j= .ok (ez T j):=by
 simp only [J5,aap,aal] at h
 rw [gL]
 by_cases h1:T.length≤j
 ·rw [ez,if_neg (by omega)] at h;exact absurd h.1 (by decide)
 ·rw [if_neg h1,if_neg (by omega)]
theorem nh {T:List Tk} {j:Nat} {e:Int} (h:gL T j= .error e):e=bD T j:=by
 rw [gL] at h
 rw [bD]
 split at h
 ·cases h;rw [if_pos (by assumption)]
 ·rw [if_neg (by assumption)]
  split at h<;>cases h;rfl
theorem sZ {T:List Tk} {j:Nat} {t:Tk} (h:gL T j= .ok t):j<T.length:=by
 rw [gL] at h
 split at h
 ·cases h
 ·omega
theorem iQ (hg:GV G) (st:St) (b j:Nat) (T:List Tk) (hT:T.length≤1048576) (hx:∀ t∈T,t.text.length≤1048576) (hj:j≤2000000) (hb:st.aj[b]?=some (bI T j)) (s:az) (h:J5 T j s=true):
  aa Tryz.prog G 185 [.ptr b 0,vs s] st (fun o s'=>o= .ret (.cF [])∧s'=⟨st.aj.set b (bI T (j+1)),st.toks⟩):=by
 have hn:=kN (G:=G) hg st b j T hT hx hj hb _ (Jc h)
 have ha:=eL (G:=G) hg st b j T hT hx hj hb s h
 have hbl:b<st.aj.length:=(aam.1 hb).1
 refine aa.body Tryz.func185 rfl Tryz.ntmps185 (by simp) ?_
 (try refine Wk.aw fun _ ag=>?_);(repeat' (first|((first|refine Wk.hd ?_|refine Wk.i ?_);simp -implicitDefEqProofs only [go_sem,seval])|refine ah (hn) ?_|refine aW (ha) ?_|first|refine Wk.o ?_|refine Wk.q ‹_› ?_));all_goals (repeat subst ag)
 refine kH (aV st.toks.length (aan _) (s1:=⟨st.aj.set b (bI T (j+1)),st.toks⟩) (by simp [St.cut,fy]) (aR ?_) rfl rfl rfl ⟨rfl,rfl⟩)
 simp [aJ.within,V.within,V.within.all]
theorem iR (hg:GV G) (st:St) (b j:Nat) (T:List Tk) (hT:T.length≤1048576) (hx:∀ t∈T,t.text.length≤1048576) (hj:j≤2000000) (hb:st.aj[b]?=some (bI T j)) (s:az) (h:J5 T j s=false):
  aa Tryz.prog G 185 [.ptr b 0,vs s] st (fun o s'=>o= .dw (j4 j (bD T j))∧s'=st):=by
 have ha:=eK (G:=G) hg st b j T hT hx hj hb s h
 have hf:=p8 (G:=G) st b j T 5 hb
 cases hne:gL T j with
 |error e=>
  have hn:=lH (G:=G) hg st b j T hT hx hj hb e hne
  rw [←nh hne]
  refine aa.body Tryz.func185 rfl Tryz.ntmps185 (by simp) ?_
  (try refine Wk.aw fun _ ag=>?_);(repeat' (first|((first|refine Wk.hd ?_|refine Wk.i ?_);simp -implicitDefEqProofs only [go_sem,seval])|refine cA (hn) ?_|first|refine Wk.o ?_|refine Wk.q ‹_› ?_));all_goals (repeat subst ag)
  all_goals exact aM (s1:=st) (by simp [St.cut]) (fun _ _ h=> .inl h) rfl ⟨rfl,rfl⟩
 |ok t=>
  have hn:=kN (G:=G) hg st b j T hT hx hj hb t hne
  have hm:bD T j=5:=if_neg (by have:=sZ hne;omega)
  rw [hm]
  refine aa.body Tryz.func185 rfl Tryz.ntmps185 (by simp) ?_
  (try refine Wk.aw fun _ ag=>?_);(repeat' (first|((first|refine Wk.hd ?_|refine Wk.i ?_);simp -implicitDefEqProofs only [go_sem,seval])|refine ah (hn) ?_|refine ah (ha) ?_|refine cA (hf) ?_|first|refine Wk.o ?_|refine Wk.q ‹_› ?_));all_goals (repeat subst ag)
  all_goals exact aM (s1:=st) (by simp [St.cut]) (fun _ _ h=> .inl h) rfl ⟨rfl,rfl⟩
theorem cW (T:List Tk) (j:Nat) (s:az):J5 T j s=bU T j s:=by
 rw [J5,bU,ez]
 by_cases h:j<T.length
 ·rw [if_pos h,decide_eq_true h,abI,cg]
  by_cases hk:(T.getD j default).kind=4
  ·have:fT (T.getD j default)=true:=by rw [fT,if_neg (by omega),if_neg (by omega),if_neg (by omega),decide_eq_true hk]
   rw [if_pos this]
   generalize T.getD j default=t at*
   simp [hk]
  ·generalize T.getD j default=t at*
   by_cases hr:fT t=true
   ·rw [if_pos hr];simp [hk]
   ·rw [if_neg hr];simp [hk,MZ]
 ·rw [if_neg h,decide_eq_false h];simp [MZ]
def fh (T:List Tk):dF Ex→Out
 | .ok e _=> .ret (vE e)
 | .err rest c=> .dw (j4 (T.length - rest.length) c)
def kf (G:World→Nat→Prop) (T:List Tk) (f:FuncId) (args:List V) (j:Nat) (r:dF Ex):Prop:=
 ∀ B K b,B[b]?=some (bI T j)→aa Tryz.prog G f (.ptr b 0::args) ⟨B,K⟩ (fun o s=>o=fh T r∧s=⟨B.set b (bI T (T.length - (au r).length)),K⟩)
theorem fU {l m:List aJ} {b:Nat} {x:aJ} (h:l[b]?=some x):(l++m)[b]?=some x:=by rw [aaw (aam.1 h).1];exact h
theorem kg {l m:List aJ} {b:Nat} {x y:aJ} (h:l[b]?=some x):(l++m).set b y=l.set b y++m:=List.set_append_left _ _ (aam.1 h).1
theorem jU {l m:List aJ} {b:Nat} {x y z:aJ} (h:l[b]?=some x):(l.set b z++m).set b y=l.set b y++m:=by rw [kg (iA (y:=z) h),List.set_set]
structure ur (G:World→Nat→Prop) (T:List Tk) (f:Nat):Prop where
 cond:∀ i,i≤T.length→∀ r,pF f .cond (T.drop i)=some r→kf G T 171 [] i r
 op:∀ n,1≤n→n≤7→∀ i,i≤T.length→∀ r,pF f (.op n) (T.drop i)=some r→kf G T 183 [ai ↑n] i r
 un:∀ i,i≤T.length→∀ r,pF f .un (T.drop i)=some r→kf G T 192 [] i r
 chain:∀ i,i≤T.length→∀ r,aL (pF f .atom (T.drop i)) (fun e r2=>pF f (.chain e) r2)=some r→kf G T 210 [] i r
theorem Pk (hg:GV G) {T:List Tk} {f:Nat} (hT:T.length≤1048576) (hx:∀ t∈T,t.text.length≤1048576) (hf:ur G T f) (i:Nat) (hi:i≤T.length) (r:dF Ex) (h:pF (f+1) .cond (T.drop i)=some r):
  kf G T 171 [] i r:=by
 intro B K b hb
 have hbl:b<B.length:=(aam.1 hb).1
 have hs1:∀ m y,(B++m).set b y=B.set b y++m:=fun m y=>kg hb
 have hs2:∀ z m y,(B.set b z++m).set b y=B.set b y++m:=fun z m y=>jU hb
 have hg1:∀ m,(B++m)[b]?=some (bI T i):=fun m=>fU hb
 have hg2:∀ z m,(B.set b z++m)[b]?=some z:=fun z m=>fU (iA hb)
 have hl:∀ z,(B.set b z).length=B.length:=fun z=>aa1
 have hG:∀ (z:aJ) (m:List aJ) (k:Nat),(B.set b z++m)[B.length+k]?=m[k]?:=fun z m k=>by rw [aaq (by simp)];simp
 have hG0:∀ (z:aJ) (m:List aJ),(B.set b z++m)[B.length]?=m[0]?:=fun z m=>by rw [aaq (by simp)];simp
 have hS:∀ (z y:aJ) (m:List aJ) (k:Nat),(B.set b z++m).set (B.length+k) y=B.set b z++m.set k y:=fun z y m k=>by rw [aaC _ _ (by simp)];simp
 have hS0:∀ (z y:aJ) (m:List aJ),(B.set b z++m).set B.length y=B.set b z++m.set 0 y:=fun z y m=>by rw [aaC _ _ (by simp)];simp
 simp only [pF] at h
 have len:∀ j,j≤T.length→T.length - (T.drop j).length=j:=fun j hj=>by simp only [aai];omega
 rcases h1:pF f (.op 2) (T.drop i) with _|(⟨c,r1⟩|⟨r1,ec⟩)
 ·rw [h1] at h;simp [aL] at h
 ·have c1:=hf.op 2 (by omega) (by omega) i hi _ h1
  obtain ⟨j,hij,hj,d1,e1⟩:=fS h1 hi
  simp only [au] at d1 e1
  subst d1
  simp only [kf,fh,au,e1] at c1
  rw [h1] at h
  simp only [aL] at h
  cases hbq:bU T j [63]
  ·have hr:r= .ok c (T.drop j):=by
    by_cases hjl:j<T.length
    ·rw [bM hjl] at h
     simp only [dj hjl hbq,aay,if_false,aaf] at h
     rw [←h,bM hjl]
    ·rw [bk hjl] at h
     simp only [aaf] at h
     rw [←h,bk hjl]
   subst hr
   simp only [fh,au,e1]
   refine aa.body Tryz.func171 rfl Tryz.ntmps171 (by simp) ?_
   (try refine Wk.aw fun _ ag=>?_);(repeat' (first|((first|refine Wk.hd ?_|refine Wk.i ?_);simp -implicitDefEqProofs only [go_sem,seval,hs1,hs2,hl,hG,hG0,hS,hS0])|refine aW (c1 _ _ b (hg1 _)) ?_|refine ah (eK hg _ b j T hT hx (by omega) (by exact hg2 _ _) _ (by rw [cW];exact hbq)) ?_|first|refine Wk.o ?_|refine Wk.q ‹_› ?_));all_goals (repeat subst ag)
   refine aV (v:=vE c) K.length (aan _) (s1:=⟨B.set b (bI T j),K⟩) (by simp [St.cut]) (aR ?_) (by simp -implicitDefEqProofs only [go_sem,seval,bQ,bZ,Tryz.results171,hG,hG0];first|done|exact rfl) (by simp -implicitDefEqProofs only [go_sem,seval,eD];first|done|exact rfl) (by simp -implicitDefEqProofs only [go_sem,seval];first|done|exact rfl) ⟨rfl,rfl⟩
   simp [aJ.within,V.within,V.within.all]
  ·have hjl:=bW hbq
   rw [bM hjl] at h
   simp only [eH hbq,if_true] at h
   have ha:=fun m=>eL (G:=G) hg ⟨B.set b (bI T j)++m,K⟩ b j T hT hx (by omega) (by exact hg2 _ _) [63] (by rw [cW];exact hbq)
   have ha':∀ m,aa Tryz.prog G 184 [.ptr b 0,vs [63]] ⟨B.set b (bI T j)++m,K⟩ (fun o s'=>o= .ret (vb true)∧s'=⟨B.set b (bI T (j+1))++m,K⟩):=fun m=>by have:=ha m;simp only [hs2] at this;exact this
   rcases h2:pF f .cond (T.drop (j+1)) with _|(⟨a,r3⟩|⟨r3,e3⟩)
   ·rw [h2] at h;simp at h
   ·have c2:=hf.cond (j+1) (by omega) _ h2
    obtain ⟨k,hjk,hk,d2,e2⟩:=fS h2 (by omega)
    simp only [au] at d2 e2
    subst d2
    simp only [kf,fh,au,e2] at c2
    rw [h2] at h
    simp only at h
    rw [gp] at h
    have c2':∀ m,aa Tryz.prog G 171 [.ptr b 0] ⟨B.set b (bI T (j+1))++m,K⟩ (fun o s=>o= .ret (vE a)∧s=⟨B.set b (bI T k)++m,K⟩):=fun m=>by have:=c2 _ K b (hg2 _ m);simp only [hs2] at this;exact this
    cases hb2:bU T k [58]
    ·rw [hb2] at h
     simp only [aay,if_false,aaf] at h
     subst h
     have hx2:=fun m=>iR (G:=G) hg ⟨B.set b (bI T k)++m,K⟩ b k T hT hx (by omega) (by exact hg2 _ _) [58] (by rw [cW];exact hb2)
     simp only [fh,au,len k hk]
     refine aa.body Tryz.func171 rfl Tryz.ntmps171 (by simp) ?_
     (try refine Wk.aw fun _ ag=>?_);(repeat' (first|((first|refine Wk.hd ?_|refine Wk.i ?_);simp -implicitDefEqProofs only [go_sem,seval,hs1,hs2,hl,hG,hG0,hS,hS0])|refine aW (c1 _ _ b (hg1 _)) ?_|refine aW (ha' _) ?_|refine aW (c2' _) ?_|refine cA (hx2 _) ?_|first|refine Wk.o ?_|refine Wk.q ‹_› ?_));all_goals (repeat subst ag)
     refine aM (s1:=⟨B.set b (bI T k),K⟩) (by simp [St.cut]) (aR ?_) rfl ⟨rfl,rfl⟩
     simp [aJ.within,V.within,V.within.all]
    ·have hkl:=bW hb2
     rw [hb2] at h
     simp only [if_true] at h
     have hx2:=fun m=>iQ (G:=G) hg ⟨B.set b (bI T k)++m,K⟩ b k T hT hx (by omega) (by exact hg2 _ _) [58] (by rw [cW];exact hb2)
     have hx2':∀ m,aa Tryz.prog G 185 [.ptr b 0,vs [58]] ⟨B.set b (bI T k)++m,K⟩ (fun o s'=>o= .ret (.cF [])∧s'=⟨B.set b (bI T (k+1))++m,K⟩):=fun m=>by have:=hx2 m;simp only [hs2] at this;exact this
     rcases h3:pF f .cond (T.drop (k+1)) with _|(⟨d,r5⟩|⟨r5,e5⟩)
     ·rw [h3] at h;simp [aL] at h
     ·have c3:=hf.cond (k+1) (by omega) _ h3
      obtain ⟨m,hkm,hm,d3,e3⟩:=fS h3 (by omega)
      simp only [au] at d3 e3
      subst d3
      simp only [kf,fh,au,e3] at c3
      rw [h3] at h
      simp only [aL,aaf] at h
      subst h
      have c3':∀ m',aa Tryz.prog G 171 [.ptr b 0] ⟨B.set b (bI T (k+1))++m',K⟩ (fun o s=>o= .ret (vE d)∧s=⟨B.set b (bI T m)++m',K⟩):=fun m'=>by have:=c3 _ K b (hg2 _ m');simp only [hs2] at this;exact this
      simp only [fh,au,len m hm]
      refine aa.body Tryz.func171 rfl Tryz.ntmps171 (by simp) ?_
      (try refine Wk.aw fun _ ag=>?_);(repeat' (first|((first|refine Wk.hd ?_|refine Wk.i ?_);simp -implicitDefEqProofs only [go_sem,seval,hs1,hs2,hl,hG,hG0,hS,hS0])|refine aW (c1 _ _ b (hg1 _)) ?_|refine aW (ha' _) ?_|refine aW ((by first|exact c2' _|exact c3' _)) ?_|refine aW (hx2' _) ?_|first|refine Wk.o ?_|refine Wk.q ‹_› ?_));all_goals (repeat subst ag)
      refine aV (v:=vE (Ex.mk 8 [] ct [c,a,d] [])) K.length (aan _) (s1:=⟨B.set b (bI T m),K⟩) (by simp [St.cut]) (aR ?_) (by simp -implicitDefEqProofs only [go_sem,seval,bQ,bZ,Tryz.results171,hG,hG0];first|done|exact rfl) (by simp -implicitDefEqProofs only [go_sem,seval,eD];first|done|exact rfl) (by simp -implicitDefEqProofs only [go_sem,seval];first|done|exact rfl) ⟨rfl,rfl⟩
      simp [aJ.within,V.within,V.within.all]
     ·have c3:=hf.cond (k+1) (by omega) _ h3
      have he:=fJ h3
      rw [h3] at h
      simp only [aL,aaf] at h
      subst h
      simp only [kf,fh,au] at c3
      have c3':∀ m',aa Tryz.prog G 171 [.ptr b 0] ⟨B.set b (bI T (k+1))++m',K⟩ (fun o s=>o= .dw (j4 (T.length - r5.length) e5)∧s=⟨B.set b (bI T (T.length - r5.length))++m',K⟩):=fun m'=>by have:=c3 _ K b (hg2 _ m');simp only [hs2] at this;exact this
      simp only [fh,au]
      refine aa.body Tryz.func171 rfl Tryz.ntmps171 (by simp) ?_
      (try refine Wk.aw fun _ ag=>?_);(repeat' (first|((first|refine Wk.hd ?_|refine Wk.i ?_);simp -implicitDefEqProofs only [go_sem,seval,hs1,hs2,hl,hG,hG0,hS,hS0])|refine aW (c1 _ _ b (hg1 _)) ?_|refine aW (ha' _) ?_|refine aW (c2' _) ?_|refine cA (c3' _) ?_|refine aW (hx2' _) ?_|first|refine Wk.o ?_|refine Wk.q ‹_› ?_));all_goals (repeat subst ag)
      refine aM (s1:=⟨B.set b (bI T (T.length - r5.length)),K⟩) (by simp [St.cut]) (aR ?_) rfl ⟨rfl,rfl⟩
      simp [aJ.within,V.within,V.within.all]
   ·have c2:=hf.cond (j+1) (by omega) _ h2
    have he:=fJ h2
    rw [h2] at h
    simp only [aaf] at h
    subst h
    simp only [kf,fh,au] at c2
    have c2':∀ m,aa Tryz.prog G 171 [.ptr b 0] ⟨B.set b (bI T (j+1))++m,K⟩ (fun o s=>o= .dw (j4 (T.length - r3.length) e3)∧s=⟨B.set b (bI T (T.length - r3.length))++m,K⟩):=fun m=>by have:=c2 _ K b (hg2 _ m);simp only [hs2] at this;exact this
    simp only [fh,au]
    refine aa.body Tryz.func171 rfl Tryz.ntmps171 (by simp) ?_
    (try refine Wk.aw fun _ ag=>?_);(repeat' (first|((first|refine Wk.hd ?_|refine Wk.i ?_);simp -implicitDefEqProofs only [go_sem,seval,hs1,hs2,hl,hG,hG0,hS,hS0])|refine aW (c1 _ _ b (hg1 _)) ?_|refine aW (ha' _) ?_|refine cA (c2' _) ?_|first|refine Wk.o ?_|refine Wk.q ‹_› ?_));all_goals (repeat subst ag)
    refine aM (s1:=⟨B.set b (bI T (T.length - r3.length)),K⟩) (by simp [St.cut]) (aR ?_) rfl ⟨rfl,rfl⟩
    simp [aJ.within,V.within,V.within.all]
 ·have c1:=hf.op 2 (by omega) (by omega) i hi _ h1
  have he:=fJ h1
  rw [h1] at h
  simp only [aL,aaf] at h
  subst h
  simp only [kf,fh,au] at c1
  simp only [fh,au]
  refine aa.body Tryz.func171 rfl Tryz.ntmps171 (by simp) ?_
  (try refine Wk.aw fun _ ag=>?_);(repeat' (first|((first|refine Wk.hd ?_|refine Wk.i ?_);simp -implicitDefEqProofs only [go_sem,seval])|refine cA (c1 _ _ b (hg1 _)) ?_|first|refine Wk.o ?_|refine Wk.q ‹_› ?_));all_goals (repeat subst ag)
  refine aM (s1:=⟨B.set b (bI T (T.length - r1.length)),K⟩) (by rw [hs1];simp [St.cut]) (aR ?_) rfl ⟨rfl,rfl⟩
  simp [aJ.within,V.within,V.within.all]
theorem ni {T:List Tk} {i:Nat} {s:az} (h:bU T i s=true):(T.getD i default).text=s:=by
 have:=eH h
 simp only [cg,aap,aal] at this
 exact this.2
theorem Xq (hg:GV G) {T:List Tk} {f:Nat} (hT:T.length≤1048576) (hx:∀ t∈T,t.text.length≤1048576) (hf:ur G T f) (i:Nat) (hi:i≤T.length) (r:dF Ex) (h:pF (f+1) .un (T.drop i)=some r):
  kf G T 192 [] i r:=by
 intro B K b hb
 have hbl:b<B.length:=(aam.1 hb).1
 have hs1:∀ m y,(B++m).set b y=B.set b y++m:=fun m y=>kg hb
 have hs2:∀ z m y,(B.set b z++m).set b y=B.set b y++m:=fun z m y=>jU hb
 have hg1:∀ m,(B++m)[b]?=some (bI T i):=fun m=>fU hb
 have hg2:∀ z m,(B.set b z++m)[b]?=some z:=fun z m=>fU (iA hb)
 have hl:∀ z,(B.set b z).length=B.length:=fun z=>aa1
 have hG:∀ (z:aJ) (m:List aJ) (k:Nat),(B.set b z++m)[B.length+k]?=m[k]?:=fun z m k=>by rw [aaq (by simp)];simp
 have hG0:∀ (z:aJ) (m:List aJ),(B.set b z++m)[B.length]?=m[0]?:=fun z m=>by rw [aaq (by simp)];simp
 have hS:∀ (z y:aJ) (m:List aJ) (k:Nat),(B.set b z++m).set (B.length+k) y=B.set b z++m.set k y:=fun z y m k=>by rw [aaC _ _ (by simp)];simp
 have hS0:∀ (z y:aJ) (m:List aJ),(B.set b z++m).set B.length y=B.set b z++m.set 0 y:=fun z y m=>by rw [aaC _ _ (by simp)];simp
 simp only [pF] at h
 have len:∀ j,j≤T.length→T.length - (T.drop j).length=j:=fun j hj=>by simp only [aai];omega
 have at_:∀ s,bU T i s=true→∀ m,aa Tryz.prog G 184 [.ptr b 0,vs s] ⟨B++m,K⟩ (fun o s'=>o= .ret (vb true)∧s'=⟨B.set b (bI T (i+1))++m,K⟩):=fun s hs m=>by
  have:=eL (G:=G) hg ⟨B++m,K⟩ b i T hT hx (by omega) (hg1 m) s (by rw [cW];exact hs)
  simp only [hs1] at this;exact this
 have af_:∀ s,bU T i s=false→∀ m,aa Tryz.prog G 184 [.ptr b 0,vs s] ⟨B++m,K⟩ (fun o s'=>o= .ret (vb false)∧s'=⟨B++m,K⟩):=fun s hs m=>
  eK (G:=G) hg ⟨B++m,K⟩ b i T hT hx (by omega) (hg1 m) s (by rw [cW];exact hs)
 by_cases hb':(bU T i [33]||bU T i [45])=true
 ·have hil:i<T.length:=by
   rw [aaX] at hb'
   rcases hb' with hb'|hb'<;>exact bW hb'
  have hb2:(cg [33] (T.getD i default)||cg [45] (T.getD i default))=true:=by simpa [bU,hil] using hb'
  rw [bM hil] at h
  simp only [hb2,if_true] at h
  rcases h1:pF f .un (T.drop (i+1)) with _|(⟨c,r1⟩|⟨r1,ec⟩)
  ·rw [h1] at h;simp [aL] at h
  ·have c1:=hf.un (i+1) (by omega) _ h1
   obtain ⟨j,hij,hj,d1,e1⟩:=fS h1 (by omega)
   simp only [au] at d1 e1
   subst d1
   simp only [kf,fh,au,e1] at c1
   have c1':∀ m,aa Tryz.prog G 192 [.ptr b 0] ⟨B.set b (bI T (i+1))++m,K⟩ (fun o s=>o= .ret (vE c)∧s=⟨B.set b (bI T j)++m,K⟩):=fun m=>by have:=c1 _ K b (hg2 _ m);simp only [hs2] at this;exact this
   rw [h1] at h
   simp only [aL,aaf] at h
   subst h
   simp only [fh,au,len j hj]
   cases hb1:bU T i [33]
   ·rw [hb1,Bool.false_or] at hb'
    rw [ni hb']
    have a1:=af_ _ hb1
    have a2:=at_ _ hb'
    refine aa.body Tryz.func192 rfl Tryz.ntmps192 (by simp) ?_
    (try refine Wk.aw fun _ ag=>?_);(repeat' (first|((refine AW.Ga ?_);refine AW.rounds 2 ?_)|((first|refine Wk.hd ?_|refine Wk.i ?_);simp -implicitDefEqProofs only [go_sem,seval,hs1,hs2,hl,hG,hG0,hS,hS0])|refine ah (a1 _) ?_|refine aW (a2 _) ?_|refine aW (c1' _) ?_|first|refine Wk.o ?_|refine Wk.q ‹_› ?_|refine Wk.sk fun _ ag=>?_));all_goals (repeat subst ag)
    refine aV (v:=vE (Ex.mk 6 [45] ct [c] [])) K.length (aan _) (s1:=⟨B.set b (bI T j),K⟩) (by simp [St.cut]) (aR ?_) (by simp -implicitDefEqProofs only [go_sem,seval,bQ,bZ,Tryz.results192,hG,hG0];first|done|exact rfl) (by simp -implicitDefEqProofs only [go_sem,seval,eD];first|done|exact rfl) (by simp -implicitDefEqProofs only [go_sem,seval];first|done|exact rfl) ⟨rfl,rfl⟩
    simp [aJ.within,V.within,V.within.all]
   ·rw [ni hb1]
    have a1:=at_ _ hb1
    refine aa.body Tryz.func192 rfl Tryz.ntmps192 (by simp) ?_
    (try refine Wk.aw fun _ ag=>?_);(repeat' (first|((refine AW.Ga ?_);refine AW.rounds 1 ?_)|((first|refine Wk.hd ?_|refine Wk.i ?_);simp -implicitDefEqProofs only [go_sem,seval,hs1,hs2,hl,hG,hG0,hS,hS0])|refine aW (a1 _) ?_|refine aW (c1' _) ?_|first|refine Wk.o ?_|refine Wk.q ‹_› ?_|refine Wk.sk fun _ ag=>?_));all_goals (repeat subst ag)
    refine aV (v:=vE (Ex.mk 6 [33] ct [c] [])) K.length (aan _) (s1:=⟨B.set b (bI T j),K⟩) (by simp [St.cut]) (aR ?_) (by simp -implicitDefEqProofs only [go_sem,seval,bQ,bZ,Tryz.results192,hG,hG0];first|done|exact rfl) (by simp -implicitDefEqProofs only [go_sem,seval,eD];first|done|exact rfl) (by simp -implicitDefEqProofs only [go_sem,seval];first|done|exact rfl) ⟨rfl,rfl⟩
    simp [aJ.within,V.within,V.within.all]
  ·have c1:=hf.un (i+1) (by omega) _ h1
   rw [h1] at h
   simp only [aL,aaf] at h
   subst h
   simp only [kf,fh,au] at c1
   have c1':∀ m,aa Tryz.prog G 192 [.ptr b 0] ⟨B.set b (bI T (i+1))++m,K⟩ (fun o s=>o= .dw (j4 (T.length - r1.length) ec)∧s=⟨B.set b (bI T (T.length - r1.length))++m,K⟩):=fun m=>by have:=c1 _ K b (hg2 _ m);simp only [hs2] at this;exact this
   simp only [fh,au]
   cases hb1:bU T i [33]
   ·rw [hb1,Bool.false_or] at hb'
    have a1:=af_ _ hb1
    have a2:=at_ _ hb'
    refine aa.body Tryz.func192 rfl Tryz.ntmps192 (by simp) ?_
    (try refine Wk.aw fun _ ag=>?_);(repeat' (first|((refine AW.Ga ?_);refine AW.rounds 2 ?_)|((first|refine Wk.hd ?_|refine Wk.i ?_);simp -implicitDefEqProofs only [go_sem,seval,hs1,hs2,hl,hG,hG0,hS,hS0])|refine ah (a1 _) ?_|refine aW (a2 _) ?_|refine cA (c1' _) ?_|first|refine Wk.o ?_|refine Wk.q ‹_› ?_|refine Wk.sk fun _ ag=>?_));all_goals (repeat subst ag)
    refine aM (s1:=⟨B.set b (bI T (T.length - r1.length)),K⟩) (by simp [St.cut]) (aR ?_) rfl ⟨rfl,rfl⟩
    simp [aJ.within,V.within,V.within.all]
   ·have a1:=at_ _ hb1
    refine aa.body Tryz.func192 rfl Tryz.ntmps192 (by simp) ?_
    (try refine Wk.aw fun _ ag=>?_);(repeat' (first|((refine AW.Ga ?_);refine AW.rounds 1 ?_)|((first|refine Wk.hd ?_|refine Wk.i ?_);simp -implicitDefEqProofs only [go_sem,seval,hs1,hs2,hl,hG,hG0,hS,hS0])|refine aW (a1 _) ?_|refine cA (c1' _) ?_|first|refine Wk.o ?_|refine Wk.q ‹_› ?_|refine Wk.sk fun _ ag=>?_));all_goals (repeat subst ag)
    refine aM (s1:=⟨B.set b (bI T (T.length - r1.length)),K⟩) (by simp [St.cut]) (aR ?_) rfl ⟨rfl,rfl⟩
    simp [aJ.within,V.within,V.within.all]
 ·have hb':=aaM.2 hb'
  rw [abJ] at hb'
  have a1:=af_ _ hb'.1
  have a2:=af_ _ hb'.2
  have h':aL (pF f .atom (T.drop i)) (fun e r2=>pF f (.chain e) r2)=some r:=by
   by_cases hil:i<T.length
   ·rw [bM hil] at h
    simp only [dj hil hb'.1,dj hil hb'.2,Bool.or_self,aay,if_false] at h
    rw [←bM hil] at h
    exact h
   ·rw [bk hil] at h ⊢
    simp only at h
    cases f with
    |zero=>simp [pF] at h
    |succ f=>
     simp only [pF,aaf] at h ⊢
     subst h;rfl
  have c1:=hf.chain i hi _ h'
  cases r with
  |ok e rest=>
   simp only [kf,fh,au] at c1
   have c1':∀ m,aa Tryz.prog G 210 [.ptr b 0] ⟨B++m,K⟩ (fun o s=>o= .ret (vE e)∧s=⟨B.set b (bI T (T.length - rest.length))++m,K⟩):=fun m=>by have:=c1 _ K b (hg1 m);simp only [hs1] at this;exact this
   simp only [fh,au]
   refine aa.body Tryz.func192 rfl Tryz.ntmps192 (by simp) ?_
   (try refine Wk.aw fun _ ag=>?_);(repeat' (first|((refine AW.Ga ?_);refine AW.rounds 3 ?_)|((first|refine Wk.hd ?_|refine Wk.i ?_);simp -implicitDefEqProofs only [go_sem,seval,hs1,hs2,hl,hG,hG0,hS,hS0])|refine ah ((by first|exact a1 _|exact a2 _)) ?_|refine aW (c1' _) ?_|first|refine Wk.o ?_|refine Wk.q ‹_› ?_|refine Wk.sw fun _ ag=>?_|refine Wk.sk fun _ ag=>?_));all_goals (repeat subst ag)
   refine aV (v:=vE e) K.length (aan _) (s1:=⟨B.set b (bI T (T.length - rest.length)),K⟩) (by simp [St.cut]) (aR ?_) (by simp -implicitDefEqProofs only [go_sem,seval,bQ,bZ,Tryz.results192,hG,hG0];first|done|exact rfl) (by simp -implicitDefEqProofs only [go_sem,seval,eD];first|done|exact rfl) (by simp -implicitDefEqProofs only [go_sem,seval];first|done|exact rfl) ⟨rfl,rfl⟩
   simp [aJ.within,V.within,V.within.all]
  |err rest c=>
   simp only [kf,fh,au] at c1
   have c1':∀ m,aa Tryz.prog G 210 [.ptr b 0] ⟨B++m,K⟩ (fun o s=>o= .dw (j4 (T.length - rest.length) c)∧s=⟨B.set b (bI T (T.length - rest.length))++m,K⟩):=fun m=>by have:=c1 _ K b (hg1 m);simp only [hs1] at this;exact this
   simp only [fh,au]
   refine aa.body Tryz.func192 rfl Tryz.ntmps192 (by simp) ?_
   (try refine Wk.aw fun _ ag=>?_);(repeat' (first|((refine AW.Ga ?_);refine AW.rounds 3 ?_)|((first|refine Wk.hd ?_|refine Wk.i ?_);simp -implicitDefEqProofs only [go_sem,seval,hs1,hs2,hl,hG,hG0,hS,hS0])|refine ah ((by first|exact a1 _|exact a2 _)) ?_|refine cA (c1' _) ?_|first|refine Wk.o ?_|refine Wk.q ‹_› ?_|refine Wk.sw fun _ ag=>?_|refine Wk.sk fun _ ag=>?_));all_goals (repeat subst ag)
   refine aM (s1:=⟨B.set b (bI T (T.length - rest.length)),K⟩) (by simp [St.cut]) (aR ?_) rfl ⟨rfl,rfl⟩
   simp [aJ.within,V.within,V.within.all]
theorem og {l:List aJ} {b:Nat} {x:aJ} (h:l[b]?=some x):l.set b x=l:=by
 apply List.ext_getElem?
 intro i
 rw [List.getElem?_set]
 by_cases hi:b=i
 ·subst hi;rw [if_pos rfl,if_pos (aam.1 h).1,h]
 ·rw [if_neg hi]
theorem c_par_word (s:az):b8 G 188 [vs s] (vb (decide (s=gX)||decide (s=fY)||decide (s=jc))):=by
 intro st
 refine aa.body Tryz.func188 rfl Tryz.ntmps188 (by simp) ?_
 (try refine Wk.aw fun _ ag=>?_);(repeat' (first|((first|refine Wk.hd ?_|refine Wk.i ?_);simp -implicitDefEqProofs only [go_sem,seval])|(refine ay (fun hc=>?_) (fun hc=>?_)<;>try omega)|refine Wk.ret fun _ _=>?_|(refine Wk.fin ‹_› ?_;refine ⟨?_,rfl⟩)|first|refine Wk.o ?_|refine Wk.q ‹_› ?_));all_goals (repeat subst ag)
 all_goals (refine aO ?_;simp only [aaX,aal];simp_all [gX,fY,jc])
def L1 (T:List Tk):dF Ex→Out
 | .ok l _=> .ret (.d (.sl (l.args.map Ex.enc)))
 | .err rest c=> .dw (j4 (T.length - rest.length) c)
def Ny (G:World→Nat→Prop) (T:List Tk) (f:FuncId) (args:List V) (j:Nat) (r:dF Ex):Prop:=
 ∀ B K b,B[b]?=some (bI T j)→aa Tryz.prog G f (.ptr b 0::args) ⟨B,K⟩ (fun o s=>o=L1 T r∧s=⟨B.set b (bI T (T.length - (au r).length)),K⟩)
def Dr (f:Nat) (T:List Tk) (s:az) (j:Nat):Option (dF Ex):=
 if s=jc then some (.ok (lit ct) (T.drop j))
 else if s=gX∨s=fY then some (.ok (lit (.mk 1 (decide (s=gX)) 0 [] [] [])) (T.drop j))
 else if bU T j [40]=true then aL (pF f (.args [41]) (T.drop (j+1))) fun l r3=>some (.ok (.mk 5 s ct l.args []) r3)
 else some (.ok (.mk 2 s ct [] []) (T.drop j))
theorem Po (hg:GV G) {T:List Tk} {f:Nat} (hT:T.length≤1048576) (hx:∀ t∈T,t.text.length≤1048576)
  (hargs:∀ s,s≠[44]→∀ i,i≤T.length→∀ r,pF f (.args s) (T.drop i)=some r→Ny G T 237 [vs s] i r) (s:az) (i:Nat) (hi:i≤T.length) (r:dF Ex) (h:Dr f T s i=some r):
  kf G T 236 [vs s] i r:=by
 intro B K b hb
 have hbl:b<B.length:=(aam.1 hb).1
 have hs1:∀ m y,(B++m).set b y=B.set b y++m:=fun m y=>kg hb
 have hs2:∀ z m y,(B.set b z++m).set b y=B.set b y++m:=fun z m y=>jU hb
 have hg1:∀ m,(B++m)[b]?=some (bI T i):=fun m=>fU hb
 have hg2:∀ z m,(B.set b z++m)[b]?=some z:=fun z m=>fU (iA hb)
 have hl:∀ z,(B.set b z).length=B.length:=fun z=>aa1
 have hG:∀ (z:aJ) (m:List aJ) (k:Nat),(B.set b z++m)[B.length+k]?=m[k]?:=fun z m k=>by rw [aaq (by simp)];simp
 have hG0:∀ (z:aJ) (m:List aJ),(B.set b z++m)[B.length]?=m[0]?:=fun z m=>by rw [aaq (by simp)];simp
 have hS:∀ (z y:aJ) (m:List aJ) (k:Nat),(B.set b z++m).set (B.length+k) y=B.set b z++m.set k y:=fun z y m k=>by rw [aaC _ _ (by simp)];simp
 have hS0:∀ (z y:aJ) (m:List aJ),(B.set b z++m).set B.length y=B.set b z++m.set 0 y:=fun z y m=>by rw [aaC _ _ (by simp)];simp
 have len:∀ j,j≤T.length→T.length - (T.drop j).length=j:=fun j hj=>by simp only [aai];omega
 have hw:=c_par_word (G:=G) s
 rw [Dr] at h
 by_cases h1:s=jc
 ·rw [if_pos h1,aaf] at h
  subst h1 h
  have hlit:=jb (G:=G) ct
  simp only [fh,au,len i hi,og hb]
  refine aa.body Tryz.func236 rfl Tryz.ntmps236 (by simp) ?_
  (try refine Wk.aw fun _ ag=>?_);(repeat' (first|((first|refine Wk.hd ?_|refine Wk.i ?_);simp -implicitDefEqProofs only [go_sem,seval,hs1,hs2,hl,hG,hG0,hS,hS0,jc])|refine ah (hlit _) ?_|refine Wk.ret fun _ _=>?_|(refine Wk.fin ‹_› ?_;refine ⟨?_,rfl⟩)|first|refine Wk.o ?_|refine Wk.q ‹_› ?_));all_goals (repeat subst ag)
  all_goals rfl
 rw [if_neg h1] at h
 have nn:s=[110,117,108,108]→False:=h1
 by_cases h2:s=gX∨s=fY
 ·rw [if_pos h2,aaf] at h
  subst h
  have hw2:(decide (s=gX)||decide (s=fY)||decide (s=jc))=true:=by rcases h2 with h2|h2<;>simp [h2]
  rw [hw2] at hw
  have hlit:=jb (G:=G) (.mk 1 (decide (s=gX)) 0 [] [] [])
  simp only [fh,au,len i hi,og hb]
  refine aa.body Tryz.func236 rfl Tryz.ntmps236 (by simp) ?_
  (try refine Wk.aw fun _ ag=>?_);(repeat' (first|((first|refine Wk.hd ?_|refine Wk.i ?_);simp -implicitDefEqProofs only [go_sem,seval,hs1,hs2,hl,hG,hG0,hS,hS0])|(refine ay (fun hc=>?_) (fun hc=>?_)<;>try omega)|refine ah (hlit _) ?_|refine ah (hw _) ?_|refine Wk.ret fun _ _=>?_|(refine Wk.fin ‹_› ?_;refine ⟨?_,rfl⟩)|first|refine Wk.o ?_|refine Wk.q ‹_› ?_));all_goals (repeat subst ag)
  all_goals first|rfl|exact (nn (by assumption)).elim
 ·rw [if_neg h2] at h
  have hw2:(decide (s=gX)||decide (s=fY)||decide (s=jc))=false:=by
   simp only [abJ,aaG]
   exact ⟨⟨fun h=>h2 (.inl h),fun h=>h2 (.inr h)⟩,h1⟩
  rw [hw2] at hw
  have hnn:decide (s=[110,117,108,108])=false:=decide_eq_false nn
  cases hq:bU T i [40]
  ·rw [hq] at h
   simp only [aay,if_false,aaf] at h
   subst h
   have a1:∀ m,aa Tryz.prog G 184 [.ptr b 0,vs [40]] ⟨B++m,K⟩ (fun o s'=>o= .ret (vb false)∧s'=⟨B++m,K⟩):=fun m=>
    eK (G:=G) hg ⟨B++m,K⟩ b i T hT hx (by omega) (hg1 m) [40] (by rw [cW];exact hq)
   simp only [fh,au,len i hi,og hb]
   refine aa.body Tryz.func236 rfl Tryz.ntmps236 (by simp) ?_
   (try refine Wk.aw fun _ ag=>?_);(repeat' (first|((first|refine Wk.hd ?_|refine Wk.i ?_);simp -implicitDefEqProofs only [go_sem,seval,hs1,hs2,hl,hG,hG0,hS,hS0,hnn])|refine ah (hw _) ?_|refine ah (a1 _) ?_|refine Wk.ret fun _ _=>?_|(refine Wk.fin ‹_› ?_;refine ⟨?_,rfl⟩)|first|refine Wk.o ?_|refine Wk.q ‹_› ?_));all_goals (repeat subst ag)
   all_goals first|rfl|exact (nn (by assumption)).elim|skip
  ·rw [hq] at h
   simp only [if_true] at h
   have hil:=bW hq
   have a1:∀ m,aa Tryz.prog G 184 [.ptr b 0,vs [40]] ⟨B++m,K⟩ (fun o s'=>o= .ret (vb true)∧s'=⟨B.set b (bI T (i+1))++m,K⟩):=fun m=>by
    have:=eL (G:=G) hg ⟨B++m,K⟩ b i T hT hx (by omega) (hg1 m) [40] (by rw [cW];exact hq)
    simp only [hs1] at this;exact this
   rcases h3:pF f (.args [41]) (T.drop (i+1)) with _|(⟨l,r1⟩|⟨r1,ec⟩)
   ·rw [h3] at h;simp [aL] at h
   ·have c1:=hargs [41] (by decide) (i+1) (by omega) _ h3
    rw [h3] at h
    simp only [aL,aaf] at h
    subst h
    simp only [Ny,L1,au] at c1
    have c1':∀ m,aa Tryz.prog G 237 [.ptr b 0,vs [41]] ⟨B.set b (bI T (i+1))++m,K⟩ (fun o s=>o= .ret (.d (.sl (l.args.map Ex.enc)))∧s=⟨B.set b (bI T (T.length - r1.length))++m,K⟩):=fun m=>by have:=c1 _ K b (hg2 _ m);simp only [hs2] at this;exact this
    simp only [fh,au]
    have hve:vE (Ex.mk 5 s ct l.args [])=V.agg [V.d (D.int .i64 5),V.d (D.str s),V.d (D.int .i64 0),V.d (D.bool false),V.d (D.int .i64 0),V.d (D.str []),V.d (D.sl []),V.d (D.sl []),V.d (D.sl (l.args.map Ex.enc)),V.d (D.sl [])]:=by rw [vE,Ex.aP];rfl
    refine aa.body Tryz.func236 rfl Tryz.ntmps236 (by simp) ?_
    (try refine Wk.aw fun _ ag=>?_);(repeat' (first|((first|refine Wk.hd ?_|refine Wk.i ?_);simp -implicitDefEqProofs only [go_sem,seval,hs1,hs2,hl,hG,hG0,hS,hS0,hnn])|refine ah (hw _) ?_|refine aW (a1 _) ?_|refine aW (c1' _) ?_|first|refine Wk.o ?_|refine Wk.q ‹_› ?_));all_goals (repeat subst ag)
    all_goals first|exact (nn (by assumption)).elim|skip
    all_goals refine aV (v:=vE (Ex.mk 5 s ct l.args [])) K.length (aan _) (s1:=⟨B.set b (bI T (T.length - r1.length)),K⟩) (by simp [St.cut]) (aR ?_) (by simp -implicitDefEqProofs only [go_sem,seval,bQ,bZ,Tryz.results236,hG,hG0];first|done|exact rfl) (by rw [hve];simp -implicitDefEqProofs only [go_sem,seval,eD];first|done|exact rfl) (by simp -implicitDefEqProofs only [go_sem,seval];first|done|exact rfl) ⟨rfl,rfl⟩
    all_goals simp [aJ.within,V.within,V.within.all]
   ·have c1:=hargs [41] (by decide) (i+1) (by omega) _ h3
    rw [h3] at h
    simp only [aL,aaf] at h
    subst h
    simp only [Ny,L1,au] at c1
    have c1':∀ m,aa Tryz.prog G 237 [.ptr b 0,vs [41]] ⟨B.set b (bI T (i+1))++m,K⟩ (fun o s=>o= .dw (j4 (T.length - r1.length) ec)∧s=⟨B.set b (bI T (T.length - r1.length))++m,K⟩):=fun m=>by have:=c1 _ K b (hg2 _ m);simp only [hs2] at this;exact this
    simp only [fh,au]
    refine aa.body Tryz.func236 rfl Tryz.ntmps236 (by simp) ?_
    (try refine Wk.aw fun _ ag=>?_);(repeat' (first|((first|refine Wk.hd ?_|refine Wk.i ?_);simp -implicitDefEqProofs only [go_sem,seval,hs1,hs2,hl,hG,hG0,hS,hS0,hnn])|refine ah (hw _) ?_|refine aW (a1 _) ?_|refine cA (c1' _) ?_|first|refine Wk.o ?_|refine Wk.q ‹_› ?_));all_goals (repeat subst ag)
    all_goals first|exact (nn (by assumption)).elim|skip
    all_goals refine aM (s1:=⟨B.set b (bI T (T.length - r1.length)),K⟩) (by simp [St.cut]) (aR ?_) rfl ⟨rfl,rfl⟩
    all_goals simp [aJ.within,V.within,V.within.all]
abbrev Qh:List V:=[.d (.int .i64 0),.d (.str []),.d (.int .i64 0),.d (.bool false),.d (.int .i64 0),.d (.str []),.d (.sl []),.d (.sl []),.d (.sl []),.d (.sl [])]
end Go.Proofs.YthnoiikjfcnlhaaGreatDoor
