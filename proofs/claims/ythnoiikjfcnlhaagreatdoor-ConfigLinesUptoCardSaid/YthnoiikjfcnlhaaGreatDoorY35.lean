/- A step of the proofs of the seat's theorems. -/
import Derived.Test.YthnoiikjfcnlhaaGreatDoorYA
import Derived.Test.YthnoiikjfcnlhaaGreatDoorY17
import Derived.Test.YthnoiikjfcnlhaaGreatDoorY29
import Derived.Test.YthnoiikjfcnlhaaGreatDoorY34
set_option linter.unusedSimpArgs false
set_option linter.unusedVariables false
set_option maxHeartbeats 8000000
set_option maxRecDepth 20000
namespace Go.Proofs.YthnoiikjfcnlhaaGreatDoor
open Go.Abs
attribute [local irreducible] AW OX cG GQ bK bO bz aY aa
variable {G:World→Nat→Prop}
def Ue (B L:List aJ) (K:List (Nat×Nat×Nat)) (T:List Tk):RB→Out→St→Prop
 | .ok b rest,o,s=>o= .ret (vB b)∧s=rS B L K T (T.length - rest.length)
 | .err rest c,o,s=>∃ j,o= .dw (o6 ↑(T.length - rest.length) c)∧s=rS B L K T j
theorem lN {B L:List aJ} {K:List (Nat×Nat×Nat)} {T:List Tk} {i:Nat} {c:Int} (j:Nat) (h:i≤T.length):Ue B L K T (.err (T.drop i) c) (.dw (o6 ↑i c)) (rS B L K T j):=⟨j,by rw [kR h],rfl⟩
structure Yt where
 i:Nat
 a:List (az×Ex)
 l:List Bk
 f:Nat
theorem JN {T:List Tk} (hT:dh T) (g:GA G) (hw:Wt T≤1099511627776) (f:Nat) (ih:∀ f',f'<f+1→∀ i r,i≤T.length→bF f' .block (T.drop i)=some r→∀ B L K,aa Tryz.prog G 71 [.ptr B.length 0] (rS B L K T i) (Ue B L K T r))
  (i:Nat) (r:RB) (hi:i≤T.length) (hr:bF (f+1) .block (T.drop i)=some r) (B L:List aJ) (K:List (Nat×Nat×Nat)):
  aa Tryz.prog G 71 [.ptr B.length 0] (rS B L K T i) (Ue B L K T r):=by
 have h6:=hT.1
 rw [Aa] at hr
 by_cases hn:nameAt T i=true
 ·rw [if_pos hn] at hr
  have h1:i<T.length:=by simp only [nameAt,aap,aal] at hn;exact hn.1
  have hp:dh T∧i≤2000000:=⟨hT,by omega⟩
  by_cases h2:i+1<T.length
  ·have hN:((T.getD (i+1) default).kind=3)=True∧((T.getD (i+1) default).text=[])=False∧gw T (i+1)=((T.getD (i+1) default).text,i+1+1)∨((T.getD (i+1) default).kind=3)=False∧((1=1)=True)∧gw T (i+1)=([],i+1)∨
     ((T.getD (i+1) default).kind=3)=True∧((T.getD (i+1) default).text=[])=True∧gw T (i+1)=([],i+1):=by
    unfold gw
    generalize T.getD (i+1) default=t
    by_cases k1:t.kind=3<;>by_cases k2:t.text=[]<;>simp [k1,k2,h2]
   generalize gw T (i+1)=z at hr hN
   obtain ⟨nm,q⟩:=z
   simp only [aaA] at hr hN
   have hq:q≤T.length∧i<q:=by omega
   by_cases ho:bU T q [123]=true
   ·have h3:=bW ho
    rw [if_pos ho] at hr
    by_cases hl:cP T (q+1)=true
    ·rw [if_pos hl] at hr
     have h4:q+1<T.length:=by simp only [cP,aap,aal] at hl;exact hl.1
     rcases hN with ⟨k1,k2,hnm,rfl⟩|⟨k1,k2,hnm,rfl⟩|⟨k1,k2,hnm,rfl⟩<;>
     ·refine aa.iG Tryz.func71 rfl Tryz.ntmps71 (by simp) fun _ ag=>?_
      simp -implicitDefEqProofs (disch:=first|omega|exact ⟨by kernel_rfl⟩|(simp only [go_sem,aag];try omega)) only [go_sem,seval,wk,↓bu,↓bw,bx,↓aq,cX ag,wr,hn,k1,k2,ho,hl,Gc,ne_eq,aaF,aaD];(repeat' first|refine cq.l ?_|refine bg.i ?_ ?_|refine cE.i fun hc=>?_|refine aQ.i ⟨?_,rfl⟩|refine aZ.i ?_ ?_|refine cB.o ?_|refine dU.i ?_|refine aQ.i ?_|refine fB.i fun j=>?_);all_goals (try subst ag)
      refine AW.P5 69 11 40 4 (by decide) (by decide) ?_
      refine AW.T5 (B:=B) (L:=L) (K:=K) (z0:=bI T i) rfl (fun x:Yt=>[(0,.ptr B.length 0),(2,.ptr (B.length+(L.length+1)) 0),(3,.ptr (B.length+(L.length+1+1)) 0)]) (fun x=>bI T x.i)
       (fun x=>[.cells [.d (.str []),.d (.str []),.bh,.bh],Qm (T.getD i default).text nm K.length x.a x.l,.cells ((T.getD (i+1) default).enc.map .d)]) (fun x=>K++Ay x.a x.l)
       (fun x=>bF x.f (.items (T.getD i default).text nm x.a x.l) (T.drop x.i)=some r∧x.i≤T.length∧x.a.length+x.l.length≤x.i∧x.f<f+1) (fun x=>x.f) ⟨_,[],[],f⟩ ?_ ⟨hr,by dsimp only;omega,by simp,by dsimp only;omega⟩ ?_
      ·simp -implicitDefEqProofs (disch:=first|omega|(simp only [go_sem,aag,aai];try omega)) only [go_sem,seval,hnm]
       rfl
      ·rintro ⟨j,a,l,f'⟩ ⟨hx,x1,x2,x3⟩
       simp only at hx x1 x2 x3
       cases f' with
       |zero=>simp [bF] at hx
       |succ f'=>
       rw [Ab] at hx
       have x4:j≤1048576:=by omega
       by_cases he:bU T j [125]=true
       ·have x5:=bW he
        rw [if_pos he] at hx
        cases hx
        refine Wk.go fun _ ag=>?_;simp -implicitDefEqProofs (disch:=first|omega|exact ⟨by kernel_rfl⟩|(simp only [go_sem,aag];try omega)) only [go_sem,seval,wk,↓bu,↓bw,bx,↓aq,cX ag,wr,he];(repeat' first|refine cq.l ?_|refine bg.i ?_ ?_|refine cE.i fun hc=>?_|refine aQ.i ⟨?_,rfl⟩|refine aZ.i ?_ ?_|refine cB.o ?_|refine dU.i ?_|refine aQ.i ?_|refine fB.i fun j=>?_);all_goals (try subst ag)
        exact ⟨by simp [vB,Bk.aP,Bk.kind,Bk.name,Bk.attrs,Bk.blocks],by rw [kR (by omega)]⟩
       rw [if_neg he] at hx
       have he':bU T j [125]=false:=by simpa using he
       by_cases h8:nameAt T j=true
       ·rw [if_neg (by simp [h8])] at hx
        by_cases h9:bU T (j+1) [61]=true
        ·rw [if_pos h9] at hx
         cases ht:eP (T.drop (j+2)) with
         |ok y r3=>
          rw [ht] at hx
          simp only at hx
          have e3:=ij ((ZK.1 _ _ ht).trans (List.drop_suffix _ _))
          have e4:=takeN ht
          have x6:=bW h9
          have A:=fun (z t:aJ)=>FU (G:=G) hT g hw B (L++[z]) [t] K j (T.getD i default).text nm a l x4 h8 h9 ht (by omega)
          simp only [Cs,aau,aas,aav,aak,aah,aao,aaK] at A
          have e5:j+2≤T.length - r3.length∧T.length - r3.length≤T.length:=by omega
          generalize T.length - r3.length=p at e3 e5 A
          subst e3
          rw [nr] at hx
          by_cases h10:cP T p=true
          ·rw [if_pos h10] at hx
           have x7:p<T.length:=by simp only [cP,aap,aal] at h10;exact h10.1
           refine Wk.go fun _ ag=>?_;simp -implicitDefEqProofs (disch:=first|omega|exact ⟨by kernel_rfl⟩|(simp only [go_sem,aag];try omega)) only [go_sem,seval,wk,↓bu,↓bw,bx,↓aq,cX ag,wr,he',Ck (A _ _),h10];(repeat' first|refine cq.l ?_|refine bg.i ?_ ?_|refine cE.i fun hc=>?_|refine aQ.i ⟨?_,rfl⟩|refine aZ.i ?_ ?_|refine cB.o ?_|refine dU.i ?_|refine aQ.i ?_|refine fB.i fun j=>?_);all_goals (try subst ag)
           refine cB.i ⟨⟨p+1,a++[((T.getD j default).text,y)],l,f'⟩,⟨by simp -implicitDefEqProofs (disch:=first|omega|(simp only [go_sem,aag,aai];try omega)) only [go_sem,seval,aa9,aap];exact ⟨by simp,by omega,⟨by omega,by omega,by omega⟩,by omega⟩,⟨hx,by dsimp only;omega,by simp;omega,by dsimp only;omega⟩,abz _⟩⟩
          ·rw [if_neg h10] at hx
           cases hx
           refine Wk.go fun _ ag=>?_;simp -implicitDefEqProofs (disch:=first|omega|exact ⟨by kernel_rfl⟩|(simp only [go_sem,aag];try omega)) only [go_sem,seval,wk,↓bu,↓bw,bx,↓aq,cX ag,wr,he',Ck (A _ _),h10];(repeat' first|refine cq.l ?_|refine bg.i ?_ ?_|refine cE.i fun hc=>?_|refine aQ.i ⟨?_,rfl⟩|refine aZ.i ?_ ?_|refine cB.o ?_|refine dU.i ?_|refine aQ.i ?_|refine fB.i fun j=>?_);all_goals (try subst ag)
           exact lN _ e5.2
         |err r3 c=>
          rw [ht] at hx
          cases hx
          have x6:=bW h9
          have A:=fun (z t:aJ)=>JM (G:=G) hT g hw B (L++[z]) [t] K j (T.getD i default).text nm a l x4 h8 h9 ht (tu ht)
          simp only [Cs,aau,aas,aav,aak,aah,aao,aaK] at A
          refine Wk.go fun _ ag=>?_;simp -implicitDefEqProofs (disch:=first|omega|exact ⟨by kernel_rfl⟩|(simp only [go_sem,aag];try omega)) only [go_sem,seval,wk,↓bu,↓bw,bx,↓aq,cX ag,wr,he',PZ (A _ _)];(repeat' first|refine cq.l ?_|refine bg.i ?_ ?_|refine cE.i fun hc=>?_|refine aQ.i ⟨?_,rfl⟩|refine aZ.i ?_ ?_|refine cB.o ?_|refine dU.i ?_|refine aQ.i ?_|refine fB.i fun j=>?_);all_goals (try subst ag)
          exact ⟨_,rfl,rfl⟩
        ·rw [if_neg h9] at hx
         have h9':bU T (j+1) [61]=false:=by simpa using h9
         have x6:j<T.length:=by simp only [nameAt,aap,aal] at h8;exact h8.1
         cases hb:bF f' .block (T.drop j) with
         |none=>rw [hb] at hx;cases hx
         |some y=>
         have C:=ih f' (by omega) j y (by omega) hb
         have e3:=ij ((mB _ _ _ _ hb).trans (List.drop_suffix _ _))
         rw [hb] at hx
         cases y with
         |ok b r3=>
          simp only at hx
          have e4:=jm hb
          rw [aai] at e4
          have A:=fun (z t:aJ)=>Cu (G:=G) hT B (L++[z]) [t] K j (T.getD i default).text nm a l x4 h8 h9' C (by omega)
          simp only [Cs,aau,aas,aav,aak,aah,aao,aaK] at A
          have e5:j+1≤T.length - r3.length∧T.length - r3.length≤T.length:=by omega
          simp only [jT] at e3
          generalize T.length - r3.length=p at e3 e5 A
          subst e3
          rw [nr] at hx
          by_cases h10:cP T p=true
          ·rw [if_pos h10] at hx
           have x7:p<T.length:=by simp only [cP,aap,aal] at h10;exact h10.1
           refine Wk.go fun _ ag=>?_;simp -implicitDefEqProofs (disch:=first|omega|exact ⟨by kernel_rfl⟩|(simp only [go_sem,aag];try omega)) only [go_sem,seval,wk,↓bu,↓bw,bx,↓aq,cX ag,wr,he',Ck (A _ _),h10];(repeat' first|refine cq.l ?_|refine bg.i ?_ ?_|refine cE.i fun hc=>?_|refine aQ.i ⟨?_,rfl⟩|refine aZ.i ?_ ?_|refine cB.o ?_|refine dU.i ?_|refine aQ.i ?_|refine fB.i fun j=>?_);all_goals (try subst ag)
           refine cB.i ⟨⟨p+1,a,l++[b],f'⟩,⟨by simp -implicitDefEqProofs (disch:=first|omega|(simp only [go_sem,aag,aai];try omega)) only [go_sem,seval,aa9,aap];exact ⟨by simp,by omega,⟨by omega,by omega,by omega⟩,by omega⟩,⟨hx,by dsimp only;omega,by simp;omega,by dsimp only;omega⟩,abz _⟩⟩
          ·rw [if_neg h10] at hx
           cases hx
           refine Wk.go fun _ ag=>?_;simp -implicitDefEqProofs (disch:=first|omega|exact ⟨by kernel_rfl⟩|(simp only [go_sem,aag];try omega)) only [go_sem,seval,wk,↓bu,↓bw,bx,↓aq,cX ag,wr,he',Ck (A _ _),h10];(repeat' first|refine cq.l ?_|refine bg.i ?_ ?_|refine cE.i fun hc=>?_|refine aQ.i ⟨?_,rfl⟩|refine aZ.i ?_ ?_|refine cB.o ?_|refine dU.i ?_|refine aQ.i ?_|refine fB.i fun j=>?_);all_goals (try subst ag)
           exact lN _ e5.2
         |err r3 c=>
          cases hx
          have A:=fun (z t:aJ)=>z8 (G:=G) hT B (L++[z]) [t] K j (T.getD i default).text nm a l x4 h8 h9' C (by omega)
          simp only [Cs,aau,aas,aav,aak,aah,aao,aaK] at A
          refine Wk.go fun _ ag=>?_;simp -implicitDefEqProofs (disch:=first|omega|exact ⟨by kernel_rfl⟩|(simp only [go_sem,aag];try omega)) only [go_sem,seval,wk,↓bu,↓bw,bx,↓aq,cX ag,wr,he',Nz (A _ _)];(repeat' first|refine cq.l ?_|refine bg.i ?_ ?_|refine cE.i fun hc=>?_|refine aQ.i ⟨?_,rfl⟩|refine aZ.i ?_ ?_|refine cB.o ?_|refine dU.i ?_|refine aQ.i ?_|refine fB.i fun j=>?_);all_goals (try subst ag)
          exact ⟨_,rfl,rfl⟩
       ·have h8':nameAt T j=false:=by simpa using h8
        rw [if_pos h8'] at hx
        cases hx
        have A:=fun (z t:aJ)=>FT (G:=G) hT B (L++[z]) [t] K j (T.getD i default).text nm a l x4 h8'
        simp only [Cs,aau,aas,aav,aak,aah,aao,aaK] at A
        refine Wk.go fun _ ag=>?_;simp -implicitDefEqProofs (disch:=first|omega|exact ⟨by kernel_rfl⟩|(simp only [go_sem,aag];try omega)) only [go_sem,seval,wk,↓bu,↓bw,bx,↓aq,cX ag,wr,he',PZ (A _ _)];(repeat' first|refine cq.l ?_|refine bg.i ?_ ?_|refine cE.i fun hc=>?_|refine aQ.i ⟨?_,rfl⟩|refine aZ.i ?_ ?_|refine cB.o ?_|refine dU.i ?_|refine aQ.i ?_|refine fB.i fun j=>?_);all_goals (try subst ag)
        exact lN _ x1
    ·rw [if_neg hl] at hr
     cases hr
     rcases hN with ⟨k1,k2,rfl,rfl⟩|⟨k1,k2,rfl,rfl⟩|⟨k1,k2,rfl,rfl⟩<;>
     ·refine aa.iG Tryz.func71 rfl Tryz.ntmps71 (by simp) fun _ ag=>?_
      simp -implicitDefEqProofs (disch:=first|omega|exact ⟨by kernel_rfl⟩|(simp only [go_sem,aag];try omega)) only [go_sem,seval,wk,↓bu,↓bw,bx,↓aq,cX ag,wr,hn,k1,k2,ho,hl,Gc,ne_eq,aaF,aaD];(repeat' first|refine cq.l ?_|refine bg.i ?_ ?_|refine cE.i fun hc=>?_|refine aQ.i ⟨?_,rfl⟩|refine aZ.i ?_ ?_|refine cB.o ?_|refine dU.i ?_|refine aQ.i ?_|refine fB.i fun j=>?_);all_goals (try subst ag)
      exact lN _ (by omega)
   ·rw [if_neg ho] at hr
    cases hr
    rcases hN with ⟨k1,k2,rfl,rfl⟩|⟨k1,k2,rfl,rfl⟩|⟨k1,k2,rfl,rfl⟩<;>
    ·refine aa.iG Tryz.func71 rfl Tryz.ntmps71 (by simp) fun _ ag=>?_
     simp -implicitDefEqProofs (disch:=first|omega|exact ⟨by kernel_rfl⟩|(simp only [go_sem,aag];try omega)) only [go_sem,seval,wk,↓bu,↓bw,bx,↓aq,cX ag,wr,hn,k1,k2,ho,Gc,ne_eq,aaF,aaD];(repeat' first|refine cq.l ?_|refine bg.i ?_ ?_|refine cE.i fun hc=>?_|refine aQ.i ⟨?_,rfl⟩|refine aZ.i ?_ ?_|refine cB.o ?_|refine dU.i ?_|refine aQ.i ?_|refine fB.i fun j=>?_);all_goals (try subst ag)
     exact lN _ (by omega)
  ·have hm:gw T (i+1)=([],i+1):=if_neg (fun h=>h2 h.1)
   have ho:bU T (i+1) [123]=false:=by rw [bU,decide_eq_false h2,Bool.false_and]
   rw [hm,ho] at hr
   cases hr
   have e1:i+1=T.length:=by omega
   refine aa.iG Tryz.func71 rfl Tryz.ntmps71 (by simp) fun _ ag=>?_
   simp -implicitDefEqProofs (disch:=first|omega|exact ⟨by kernel_rfl⟩|(simp only [go_sem,aag];try omega)) only [go_sem,seval,wk,↓bu,↓bw,bx,↓aq,cX ag,wr,hn];(repeat' first|refine cq.l ?_|refine bg.i ?_ ?_|refine cE.i fun hc=>?_|refine aQ.i ⟨?_,rfl⟩|refine aZ.i ?_ ?_|refine cB.o ?_|refine dU.i ?_|refine aQ.i ?_|refine fB.i fun j=>?_);all_goals (try subst ag)
   have e4:bD T (i+1)=4:=if_pos (by omega)
   rw [e4]
   exact lN _ (by omega)
 ·have hn':nameAt T i=false:=by simpa using hn
  rw [if_neg hn] at hr
  cases hr
  refine aa.iG Tryz.func71 rfl Tryz.ntmps71 (by simp) fun _ ag=>?_
  simp -implicitDefEqProofs (disch:=first|omega|exact ⟨by kernel_rfl⟩|(simp only [go_sem,aag];try omega)) only [go_sem,seval,wk,↓bu,↓bw,bx,↓aq,cX ag,wr,hn'];(repeat' first|refine cq.l ?_|refine bg.i ?_ ?_|refine cE.i fun hc=>?_|refine aQ.i ⟨?_,rfl⟩|refine aZ.i ?_ ?_|refine cB.o ?_|refine dU.i ?_|refine aQ.i ?_|refine fB.i fun j=>?_);all_goals (try subst ag)
  ·exact ⟨hT,by omega⟩
  ·exact lN _ hi
theorem MI {T:List Tk} (hT:dh T) (g:GA G) (hw:Wt T≤1099511627776) (f:Nat):∀ i r,i≤T.length→bF f .block (T.drop i)=some r→∀ B L K,aa Tryz.prog G 71 [.ptr B.length 0] (rS B L K T i) (Ue B L K T r):=by
 induction f using Nat.strongRecOn with
 |ind f ih=>
 intro i r hi hr
 cases f with
 |zero=>simp [bF] at hr
 |succ f=>exact JN hT g hw f ih i r hi hr
def Zp (B L:List aJ) (K:List (Nat×Nat×Nat)) (T:List Tk):RF→Out→St→Prop
 | .ok l,o,s=>o= .ret (vF l)∧s=rS B L K T T.length
 | .err rest c,o,s=>∃ j,o= .dw (o6 ↑(T.length - rest.length) c)∧s=rS B L K T j
structure Yu where
 i:Nat
 l:List Bk
 f:Nat
theorem tw (f:Nat) (l:List Bk) (T:List Tk) (i:Nat) (h:i<T.length):gZ (f+1) l (T.drop i)=match bF (ov (T.drop i)) .block (T.drop i) with
  |some (.ok b [])=> .ok (l++[b])
  |some (.ok b (u::r2))=>if iu u then gZ f (l++[b]) r2 else .err (u::r2) 5
  |some (.err r2 c)=> .err r2 c
  |none=> .err (T.drop i) 0:=by
 rw [iH h];rfl
theorem nt (f:Nat) (l:List Bk):gZ f l []= .ok l:=by cases f<;>rfl
theorem xB (by_:Nat) (hby:by_≤1000) (BL:List aJ) (K:List (Nat×Nat×Nat)) (l:List Bk) (b:Bk) (h:l.length≤1048576):
  Bt Tryz.prog (some (40,4,by_)) (some (.sl [b.enc])) (.own K.length (l.map Bk.enc)) ⟨BL,K++[(40,4,l.length)]⟩=some (.own K.length ((l++[b]).map Bk.enc),⟨BL,K++[(40,4,(l++[b]).length)]⟩):=by
 have hz:dy Tryz.prog 40=some 4:=by kernel_rfl
 have h1:(l.length+1)*by_≤1048577*1000:=Nat.mul_le_mul (by omega) hby
 have hm:maxLen=9223372036854775807:=by decide
 rw [mV,o7,lJ,hz]
 unfold jt
 rw [if_pos ⟨rfl,by omega,rfl⟩]
 simp [ff,hm]
 omega
theorem P9 {T:List Tk} (hT:dh T) (g:GA G) (hw:Wt T≤1099511627776) (B L:List aJ) (K:List (Nat×Nat×Nat)):
  aa Tryz.prog G 45 [.ptr B.length 0] (rS B L K T 0) (Zp B L K T (gZ (T.length+1) [] (gJ T))):=by
 have h6:=hT.1
 obtain ⟨i0,e0,e1,hN⟩:∃ i0,gJ T=T.drop i0∧i0≤T.length∧(0<T.length∧(((T.getD 0 default).kind=5)=True)∧i0=1∨0<T.length∧(((T.getD 0 default).kind=5)=False)∧i0=0∨¬ 0<T.length∧((1=1)=True)∧i0=0):=by
  cases T with
  |nil=>exact ⟨0,rfl,by simp,by simp⟩
  |cons t r=>
   by_cases h:t.kind=5
   ·exact ⟨1,by simp [gJ,iu,h],by simp,by simp [h]⟩
   ·exact ⟨0,by simp [gJ,iu,h],by simp,by simp [h]⟩
 rw [e0]
 generalize hr:gZ (T.length+1) [] (T.drop i0)=r
 rcases hN with ⟨c0,k1,rfl⟩|⟨c0,k1,rfl⟩|⟨c0,k1,rfl⟩<;>
 ·refine aa.iG Tryz.func45 rfl Tryz.ntmps45 (by simp) fun _ ag=>?_
  simp -implicitDefEqProofs (disch:=first|omega|exact ⟨by kernel_rfl⟩|(simp only [go_sem,aag];try omega)) only [go_sem,seval,wk,↓bu,↓bw,bx,↓aq,cX ag,wr,wd (id:=2),Gc,k1,ne_eq,aaF,aaD];(repeat' first|refine cq.l ?_|refine bg.i ?_ ?_|refine cE.i fun hc=>?_|refine aQ.i ⟨?_,rfl⟩|refine aZ.i ?_ ?_|refine cB.o ?_|refine dU.i ?_|refine aQ.i ?_|refine fB.i fun j=>?_);all_goals (try subst ag)
  refine AW.P6 40 4 (by decide) ?_
  refine AW.T5 (B:=B) (L:=L) (K:=K) (z0:=bI T 0) rfl (fun x:Yu=>[(0,.ptr B.length 0),(2,.ptr (B.length+(L.length+1)) 0),(3,.ptr (B.length+(L.length+1+1)) 0)]) (fun x=>bI T x.i) (fun x=>[.cells [.bh],.cells [.own K.length (x.l.map Bk.enc)]])
   (fun x=>K++[(40,4,x.l.length)]) (fun x=>gZ x.f x.l (T.drop x.i)=r∧x.i≤T.length∧x.l.length≤x.i∧T.length - x.i<x.f) (fun x=>x.f) ⟨_,[],T.length+1⟩ ?_ ⟨hr,e1,by simp,by dsimp only;omega⟩ ?_
  ·simp -implicitDefEqProofs (disch:=first|omega|(simp only [go_sem,aag,aai];try omega)) only [go_sem,seval]
   try rfl
  ·rintro ⟨j,l,f⟩ ⟨hx,x1,x2,x3⟩
   simp only at hx x1 x2 x3
   by_cases hj:j<T.length
   ·first
    |(exfalso;omega)
    |obtain ⟨f,rfl⟩:∃ f',f=f'+1:=⟨f - 1,by omega⟩
     rw [tw _ _ _ _ hj] at hx
     cases hb:bF (ov (T.drop j)) .block (T.drop j) with
     |none=>exact absurd hb (sH _ _ _ (by simp only [wB,ov];omega))
     |some y=>
     have C:=MI hT g hw _ j y x1 hb
     have e3:=ij ((mB _ _ _ _ hb).trans (List.drop_suffix _ _))
     rw [hb] at hx
     cases y with
     |ok b r3=>
      have e4:=jm hb
      rw [aai] at e4
      have A:∀ B L K,aa Tryz.prog G 71 [.ptr B.length 0] (rS B L K T j) (fun o s=>o= .ret (vB b)∧s=rS B L K T (T.length - r3.length)):=C
      have e5:j+1≤T.length - r3.length∧T.length - r3.length≤T.length:=by omega
      simp only [jT] at e3
      generalize T.length - r3.length=p at e3 e5 A
      subst e3
      refine Wk.go fun _ ag=>?_;simp -implicitDefEqProofs (disch:=first|omega|exact ⟨by kernel_rfl⟩|(simp only [go_sem,aag];try omega)) only [go_sem,seval,wk,↓bu,↓bw,bx,↓aq,cX ag,wr,wd (id:=4)];(repeat' first|refine cq.l ?_|refine bg.i ?_ ?_|refine cE.i fun hc=>?_|refine aQ.i ⟨?_,rfl⟩|refine aZ.i ?_ ?_|refine cB.o ?_|refine dU.i ?_|refine aQ.i ?_|refine fB.i fun j=>?_);all_goals (try subst ag)
      refine AW.uh (P:=Tryz.prog) mx 3 [(1,4)] (by kernel_rfl) (by kernel_rfl) (by simp -implicitDefEqProofs (disch:=first|omega|(simp only [go_sem,aag,aai];try omega)) only [go_sem,seval];first|done|exact rfl) (by kernel_rfl) Tryz.call71 (by rfl) (by rfl) (by rfl) (A _ _ _) (by simp -implicitDefEqProofs (disch:=first|omega|(simp only [go_sem,aag,aai];try omega)) only [go_sem,seval,xB];first|done|exact rfl) (fF (by decide) (by decide) rfl rfl (by simp -implicitDefEqProofs (disch:=first|omega|(simp only [go_sem,aag,aai];try omega)) only [go_sem,seval]) iz) ?_
      refine kQ fun _ ag=>?_
      by_cases hp:p<T.length
      ·rw [iH hp] at hx
       simp only at hx
       by_cases hl:iu (T.getD p default)=true
       ·rw [if_pos hl] at hx
        have hl':cP T p=true:=by simp only [cP,decide_eq_true hp,hl,Bool.and_true]
        simp -implicitDefEqProofs (disch:=first|omega|exact ⟨by kernel_rfl⟩|(simp only [go_sem,aag];try omega)) only [go_sem,seval,wk,↓bu,↓bw,bx,↓aq,cX ag,wr,wd (id:=6),hl'];(repeat' first|refine cq.l ?_|refine bg.i ?_ ?_|refine cE.i fun hc=>?_|refine aQ.i ⟨?_,rfl⟩|refine aZ.i ?_ ?_|refine cB.o ?_|refine dU.i ?_|refine aQ.i ?_|refine fB.i fun j=>?_);all_goals (try subst ag)
        refine cB.i ⟨⟨p+1,l++[b],f⟩,⟨by simp -implicitDefEqProofs (disch:=first|omega|(simp only [go_sem,aag,aai];try omega)) only [go_sem,seval,aa9,aap];omega,⟨hx,by dsimp only;omega,by simp;omega,by dsimp only;omega⟩,abz _⟩⟩
       ·rw [if_neg hl] at hx
        have hl':cP T p=false:=by simp only [cP,decide_eq_true hp,aaM.2 hl,Bool.and_false]
        cases hx
        simp -implicitDefEqProofs (disch:=first|omega|exact ⟨by kernel_rfl⟩|(simp only [go_sem,aag];try omega)) only [go_sem,seval,wk,↓bu,↓bw,bx,↓aq,cX ag,wr,wd (id:=6),hl'];(repeat' first|refine cq.l ?_|refine bg.i ?_ ?_|refine cE.i fun hc=>?_|refine aQ.i ⟨?_,rfl⟩|refine aZ.i ?_ ?_|refine cB.o ?_|refine dU.i ?_|refine aQ.i ?_|refine fB.i fun j=>?_);all_goals (try subst ag)
        have e6:bD T p=5:=if_neg (by omega)
        rw [←iH hp,e6]
        exact ⟨p,by rw [kR e5.2],rfl⟩
      ·rw [gO hp] at hx
       simp only at hx
       simp -implicitDefEqProofs (disch:=first|omega|exact ⟨by kernel_rfl⟩|(simp only [go_sem,aag];try omega)) only [go_sem,seval,wk,↓bu,↓bw,bx,↓aq,cX ag,wr,wd (id:=6)];(repeat' first|refine cq.l ?_|refine bg.i ?_ ?_|refine cE.i fun hc=>?_|refine aQ.i ⟨?_,rfl⟩|refine aZ.i ?_ ?_|refine cB.o ?_|refine dU.i ?_|refine aQ.i ?_|refine fB.i fun j=>?_);all_goals (try subst ag)
       refine cB.i ⟨⟨p,l++[b],f⟩,⟨by simp -implicitDefEqProofs (disch:=first|omega|(simp only [go_sem,aag,aai];try omega)) only [go_sem,seval,aa9,aap];omega,⟨by dsimp only;rw [gO hp,nt];exact hx,by dsimp only;omega,by simp;omega,by dsimp only;omega⟩,abz _⟩⟩
     |err r3 c=>
      cases hx
      refine Wk.go fun _ ag=>?_;simp -implicitDefEqProofs (disch:=first|omega|exact ⟨by kernel_rfl⟩|(simp only [go_sem,aag];try omega)) only [go_sem,seval,wk,↓bu,↓bw,bx,↓aq,cX ag,wr,wd (id:=4)];(repeat' first|refine cq.l ?_|refine bg.i ?_ ?_|refine cE.i fun hc=>?_|refine aQ.i ⟨?_,rfl⟩|refine aZ.i ?_ ?_|refine cB.o ?_|refine dU.i ?_|refine aQ.i ?_|refine fB.i fun j=>?_);all_goals (try subst ag)
      refine AW.Ni (P:=Tryz.prog) mx 3 [(1,4)] (by kernel_rfl) (by kernel_rfl) (by simp -implicitDefEqProofs (disch:=first|omega|(simp only [go_sem,aag,aai];try omega)) only [go_sem,seval];first|done|exact rfl) (by kernel_rfl) Tryz.call71 (by rfl) (by rfl) ((C _ _ _).mono (fun o s ⟨j,e1,e2⟩=>⟨e1,(⟨j,e2⟩:∃ j,s=_)⟩)) (fun fr_ s_ hz=>?_)
      obtain ⟨p,rfl⟩:=hz
      simp only [bz,aY]
      refine qd ?_
      simp -implicitDefEqProofs (disch:=first|omega|(simp only [go_sem,aag,aai];try omega)) only [go_sem,seval]
      refine dU.i ?_
      exact ⟨p,rfl,rfl⟩
   ·rw [gO hj,nt] at hx
    subst hx
    have e5:j=T.length:=by omega
    subst e5
    refine Wk.go fun _ ag=>?_;simp -implicitDefEqProofs (disch:=first|omega|exact ⟨by kernel_rfl⟩|(simp only [go_sem,aag];try omega)) only [go_sem,seval,wk,↓bu,↓bw,bx,↓aq,cX ag,wr,wd (id:=4)];(repeat' first|refine cq.l ?_|refine bg.i ?_ ?_|refine cE.i fun hc=>?_|refine aQ.i ⟨?_,rfl⟩|refine aZ.i ?_ ?_|refine cB.o ?_|refine dU.i ?_|refine aQ.i ?_|refine fB.i fun j=>?_);all_goals (try subst ag)
    exact ⟨rfl,rfl⟩
theorem XM:(zeroOf Tryz.prog 89).map ofConst=some (.agg [.d (.int .i64 0),.d (.int .i64 0)]):=by kernel_rfl
attribute [go_sem] XM
theorem vz (B:List aJ) (a b c d e:aJ) (K:List (Nat×Nat×Nat)) {N:Nat} (h:N=B.length+4):St.cut ⟨B++[a,b,c,d,e],K⟩ N K.length=⟨B++[a,b,c,d],K⟩:=by
 subst h
 simp only [St.cut,aaP]
 rw [List.take_append,aat (by omega),Nat.add_sub_cancel_left]
 rfl
theorem Cw (B:List aJ) (K:List (Nat×Nat×Nat)) (es:List V) (v1 v2:V) (X:aJ):
  fN Tryz.prog G 44 [.ptr B.length 0,.ptr (B.length+1) 0,.ptr (B.length+2) 0] none ⟨B++[.cells es,.cells [v1],.cells [v2],X],K⟩ (fun o s=>o= .ret (.cF [])∧s=⟨B++[.cells es,.cells [v1],.cells [v2],X],K⟩):=by
 refine fN.body Tryz.func44 rfl Tryz.ntmps44 (by simp) rfl rfl rfl (by decide) ?_
 (try with_reducible first|refine Wk.aw fun _ ag=>?_|refine Wk.ow fun _ ag=>?_);(repeat' (first
  |((with_reducible first|refine Wk.hd ?_|refine Wk.i ?_);simp -implicitDefEqProofs (disch:=first|omega|(simp only [go_sem,aag,aai];try omega)) only [go_sem,seval,Option.getD_none])
  |(refine ay (fun hc=>?_) (fun hc=>?_)<;>try (exfalso;first|omega|contradiction|exact fQ hc ‹_› |exact fQ ‹_› hc))
  |refine Wk.drawn mx (by kernel_rfl) ?_
  |with_reducible refine Wk.ret fun _ _=>?_
  |(refine Wk.fin ‹_› ?_;refine ⟨?_,rfl⟩)
  |with_reducible first|refine Wk.o ?_|refine Wk.q ‹_› ?_|refine Wk.sw fun _ ag=>?_|refine Wk.sk fun _ ag=>?_));all_goals (repeat subst ag)
 (try with_reducible first|refine Wk.aw fun _ ag=>?_|refine Wk.ow fun _ ag=>?_);(repeat' (first
  |((with_reducible first|refine Wk.hd ?_|refine Wk.i ?_);simp -implicitDefEqProofs (disch:=first|omega|(simp only [go_sem,aag,aai];try omega)) only [go_sem,seval])
  |(refine ay (fun hc=>?_) (fun hc=>?_)<;>try (exfalso;first|omega|contradiction|exact fQ hc ‹_› |exact fQ ‹_› hc))
  |refine Wk.drawn mx (by kernel_rfl) ?_
  |with_reducible first|refine Wk.o ?_|refine Wk.q ‹_› ?_|refine Wk.sw fun _ ag=>?_|refine Wk.sk fun _ ag=>?_));all_goals (repeat subst ag)
 refine kH (aV K.length (aan _) (s1:=⟨B++[.cells es,.cells [v1],.cells [v2],X],K⟩) (vz _ _ _ _ _ _ _ (by simp)) (fun _ _ h=> .inl h) rfl rfl rfl ⟨rfl,rfl⟩)
theorem Cx (B:List aJ) (K:List (Nat×Nat×Nat)) (e0 v1 v2:V) (X:aJ) (j:Int) (c:Int):
  fN Tryz.prog G 44 [.ptr B.length 0,.ptr (B.length+1) 0,.ptr (B.length+2) 0] (some (o6 j c)) ⟨B++[.cells [e0],.cells [v1],.cells [v2],X],K⟩ (fun o s=>o= .ret (.cF [])∧s=⟨B++[.cells [.bh],.cells [ai j],.cells [ai c],X],K⟩):=by
 have hG:∀ (m:List aJ) (k:Nat),(B++m)[B.length+k]?=m[k]?:=fun m k=>by rw [aaq (by simp)];simp
 have hG0:∀ (m:List aJ),(B++m)[B.length]?=m[0]?:=fun m=>by rw [aaq (by simp)];simp
 have hS:∀ (y:aJ) (m:List aJ) (k:Nat),(B++m).set (B.length+k) y=B++m.set k y:=fun y m k=>by rw [aaC _ _ (by simp)];simp
 have hS0:∀ (y:aJ) (m:List aJ),(B++m).set B.length y=B++m.set 0 y:=fun y m=>by rw [aaC _ _ (by simp)];simp
 refine fN.body Tryz.func44 rfl Tryz.ntmps44 (by simp) rfl rfl rfl (by decide) ?_
 (try with_reducible first|refine Wk.aw fun _ ag=>?_|refine Wk.ow fun _ ag=>?_);(repeat' (first
  |((with_reducible first|refine Wk.hd ?_|refine Wk.i ?_);simp -implicitDefEqProofs (disch:=first|omega|(simp only [go_sem,aag,aai];try omega)) only [go_sem,seval,hG,hG0,hS,hS0])
  |(refine ay (fun hc=>?_) (fun hc=>?_)<;>try (exfalso;first|omega|contradiction|exact fQ hc ‹_› |exact fQ ‹_› hc))
  |refine Wk.drawn mx (by kernel_rfl) ?_
  |with_reducible refine Wk.ret fun _ _=>?_
  |(refine Wk.fin ‹_› ?_;refine ⟨?_,rfl⟩)
  |with_reducible first|refine Wk.o ?_|refine Wk.q ‹_› ?_|refine Wk.sw fun _ ag=>?_|refine Wk.sk fun _ ag=>?_));all_goals (repeat subst ag)
 (try with_reducible first|refine Wk.aw fun _ ag=>?_|refine Wk.ow fun _ ag=>?_);(repeat' (first
  |((with_reducible refine Wk.Au 2 ?_);refine AW.Pv (P:=Tryz.prog) mx [(2,7),(4,8)] (by kernel_rfl) (by simp -implicitDefEqProofs (disch:=first|omega|(simp only [go_sem,aag,aai];try omega)) only [go_sem,seval,hG,hG0,hS,hS0];first|done|exact rfl) ?_;refine OX.nil ?_;refine ⟨by simp [Jf,T0,Ti,iO,eu,j7,List.zipIdx_cons,List.findIdx?_cons,dr]<;>omega,?_⟩)
  |((with_reducible first|refine Wk.hd ?_|refine Wk.i ?_);simp -implicitDefEqProofs (disch:=first|omega|(simp only [go_sem,aag,aai];try omega)) only [go_sem,seval,hG,hG0,hS,hS0])
  |(refine ay (fun hc=>?_) (fun hc=>?_)<;>try (exfalso;first|omega|contradiction|exact fQ hc ‹_› |exact fQ ‹_› hc))
  |refine Wk.drawn mx (by kernel_rfl) ?_
  |with_reducible first|refine Wk.o ?_|refine Wk.q ‹_› ?_|refine Wk.sw fun _ ag=>?_|refine Wk.sk fun _ ag=>?_));all_goals (repeat subst ag)
 refine kH (aV K.length (aan _) (s1:=⟨B++[.cells [.bh],.cells [ai j],.cells [ai c],X],K⟩) (vz _ _ _ _ _ _ _ (by simp)) ?_ rfl rfl rfl ⟨rfl,rfl⟩)
 intro i A h
 by_cases hlt:i<B.length
 ·rw [aaw hlt] at h ⊢;exact .inl h
 ·rw [aaq (by omega)] at h ⊢
  match hd:i - B.length with
  |0=>rw [hd] at h;simp at h;subst h;exact .inr (by simp [aJ.within,V.within,V.within.all])
  |1=>rw [hd] at h;simp at h;subst h;exact .inr (by simp [aJ.within,V.within,V.within.all])
  |2=>rw [hd] at h;simp at h;subst h;exact .inr (by simp [aJ.within,V.within,V.within.all])
  |3=>rw [hd] at h;simp at h;subst h;exact .inl (by simp)
  |d+4=>rw [hd] at h;simp at h
theorem JO {P:Program} {g:FuncId} {xs:List V} {st:St} {K Kp:V→St→Prop} {τ:Type} {S:τ→St} {v:V} (h:aa P G g xs st (fun q s=>∃ j,q= .dw v∧s=S j)) (k:∀ j,Kp v (S j)):dQ P G false g xs st K Kp:=by
 rw [Nz h];exact cq.l (fB.i k)
abbrev Cy (T:List Tk):RF→V
 | .ok l=> .cF [vF l,ai 0,ai 0]
 | .err rest c=> .cF [.agg [.d (.sl [])],ai ↑(T.length - rest.length),ai c]
theorem MJ {T:List Tk} (hT:dh T) (g:GA G) (hw:Wt T≤1099511627776):b8 G 25 [jA T] (Cy T (gZ (T.length+1) [] (gJ T))):=by
 rintro ⟨B,K⟩
 have c0:=P9 (G:=G) hT g hw
 generalize gZ (T.length+1) [] (gJ T)=r at c0
 refine aa.OI Tryz.func25 rfl Tryz.ntmps25 (by simp) rfl rfl rfl (by decide) rfl rfl rfl Tryz.call44 ?_
 (try with_reducible first|refine Wk.aw fun _ ag=>?_|refine Wk.ow fun _ ag=>?_);(repeat' (first
  |((with_reducible first|refine Wk.hd ?_|refine Wk.i ?_);simp -implicitDefEqProofs (disch:=first|omega|(simp only [go_sem,aag,aai];try omega)) only [go_sem,seval])
  |(refine ay (fun hc=>?_) (fun hc=>?_)<;>try (exfalso;first|omega|contradiction|exact fQ hc ‹_› |exact fQ ‹_› hc))
  |refine Wk.drawn mx (by kernel_rfl) ?_
  |with_reducible refine Wk.ret fun _ _=>?_
  |(refine Wk.fin ‹_› ?_;refine ⟨?_,rfl⟩)
  |with_reducible first|refine Wk.o ?_|refine Wk.q ‹_› ?_|refine Wk.sw fun _ ag=>?_|refine Wk.sk fun _ ag=>?_));all_goals (repeat subst ag)
 refine ⟨rfl,[.ptr B.length 0,.ptr (B.length+1) 0,.ptr (B.length+2) 0],rfl,fun ds=>?_⟩
 have hG:∀ (m:List aJ) (k:Nat),(B++m)[B.length+k]?=m[k]?:=fun m k=>by rw [aaq (by simp)];simp
 have hG0:∀ (m:List aJ),(B++m)[B.length]?=m[0]?:=fun m=>by rw [aaq (by simp)];simp
 have hS:∀ (y:aJ) (m:List aJ) (k:Nat),(B++m).set (B.length+k) y=B++m.set k y:=fun y m k=>by rw [aaC _ _ (by simp)];simp
 have hS0:∀ (y:aJ) (m:List aJ),(B++m).set B.length y=B++m.set 0 y:=fun y m=>by rw [aaC _ _ (by simp)];simp
 have c1:=c0 (B++[.cells [.bh],.cells [ai 0],.cells [ai 0]]) [] K
 simp only [rS,aau,aas,aav,aak,aah,aao,aaK] at c1
 cases r with
 |ok l=>
  have c1:aa Tryz.prog G 45 [.ptr (B.length+3) 0] ⟨B++[.cells [.bh],.cells [ai 0],.cells [ai 0],bI T 0],K⟩ (fun o s=>o= .ret (vF l)∧s=⟨B++[.cells [.bh],.cells [ai 0],.cells [ai 0],bI T T.length],K⟩):=by
   refine c1.mono ?_
   rintro o s ⟨h1,h2⟩
   exact ⟨h1,by rw [h2];simp⟩
  (try with_reducible first|refine Wk.aw fun _ ag=>?_|refine Wk.ow fun _ ag=>?_);(repeat' (first
  |((with_reducible first|refine Wk.hd ?_|refine Wk.i ?_);simp -implicitDefEqProofs (disch:=first|omega|(simp only [go_sem,aag,aai];try omega)) only [go_sem,seval,hG,hG0,hS,hS0])
  |(refine ay (fun hc=>?_) (fun hc=>?_)<;>try (exfalso;first|omega|contradiction|exact fQ hc ‹_› |exact fQ ‹_› hc))
  |refine aW (c1) ?_
  |refine Wk.drawn mx (by kernel_rfl) ?_
  |with_reducible refine Wk.ret fun _ _=>?_
  |(refine Wk.fin ‹_› ?_;refine ⟨?_,rfl⟩)
  |with_reducible first|refine Wk.o ?_|refine Wk.q ‹_› ?_|refine Wk.sw fun _ ag=>?_|refine Wk.sk fun _ ag=>?_));all_goals (repeat subst ag)
  refine Ib ((Cw B K [vu l] (ai 0) (ai 0) (bI T T.length)).mono ?_)
  rintro o s ⟨rfl,rfl⟩
  refine ⟨⟨_,rfl⟩,?_⟩
  (try with_reducible first|refine Wk.aw fun _ ag=>?_|refine Wk.ow fun _ ag=>?_);(repeat' (first
  |((with_reducible first|refine Wk.hd ?_|refine Wk.i ?_);simp -implicitDefEqProofs (disch:=first|omega|(simp only [go_sem,aag,aai];try omega)) only [go_sem,seval,hG,hG0,hS,hS0])
  |(refine ay (fun hc=>?_) (fun hc=>?_)<;>try (exfalso;first|omega|contradiction|exact fQ hc ‹_› |exact fQ ‹_› hc))
  |refine Wk.drawn mx (by kernel_rfl) ?_
  |with_reducible refine Wk.ret fun _ _=>?_
  |(refine Wk.fin ‹_› ?_;refine ⟨?_,rfl⟩)
  |with_reducible first|refine Wk.o ?_|refine Wk.q ‹_› ?_|refine Wk.sw fun _ ag=>?_|refine Wk.sk fun _ ag=>?_));all_goals (repeat subst ag)
  all_goals rfl
 |err rest c=>
  have c1:aa Tryz.prog G 45 [.ptr (B.length+3) 0] ⟨B++[.cells [.bh],.cells [ai 0],.cells [ai 0],bI T 0],K⟩ (fun o s=>∃ j,o= .dw (o6 ↑(T.length - rest.length) c)∧s=⟨B++[.cells [.bh],.cells [ai 0],.cells [ai 0],bI T j],K⟩):=by
   refine c1.mono ?_
   rintro o s ⟨j,h1,h2⟩
   exact ⟨j,h1,by rw [h2];simp⟩
  (try with_reducible first|refine Wk.aw fun _ ag=>?_|refine Wk.ow fun _ ag=>?_);(repeat' (first
  |((with_reducible first|refine Wk.hd ?_|refine Wk.i ?_);simp -implicitDefEqProofs (disch:=first|omega|(simp only [go_sem,aag,aai];try omega)) only [go_sem,seval,hG,hG0,hS,hS0])
  |(refine ay (fun hc=>?_) (fun hc=>?_)<;>try (exfalso;first|omega|contradiction|exact fQ hc ‹_› |exact fQ ‹_› hc))
  |refine Wk.drawn mx (by kernel_rfl) ?_
  |with_reducible refine Wk.ret fun _ _=>?_
  |(refine Wk.fin ‹_› ?_;refine ⟨?_,rfl⟩)
  |with_reducible first|refine Wk.o ?_|refine Wk.q ‹_› ?_|refine Wk.sw fun _ ag=>?_|refine Wk.sk fun _ ag=>?_));all_goals (repeat subst ag)
  refine JO c1 fun j=>?_
  simp only [Nn,bz,Bool.not_false,Nl]
  refine Ic ((Cx B K .bh (ai 0) (ai 0) (bI T j) ↑(T.length - rest.length) c).mono ?_)
  rintro o s ⟨rfl,rfl⟩
  refine ⟨⟨_,rfl⟩,?_⟩
  (try with_reducible first|refine Wk.aw fun _ ag=>?_|refine Wk.ow fun _ ag=>?_);(repeat' (first
  |((with_reducible first|refine Wk.hd ?_|refine Wk.i ?_);simp -implicitDefEqProofs (disch:=first|omega|(simp only [go_sem,aag,aai];try omega)) only [go_sem,seval,hG,hG0,hS,hS0])
  |(refine ay (fun hc=>?_) (fun hc=>?_)<;>try (exfalso;first|omega|contradiction|exact fQ hc ‹_› |exact fQ ‹_› hc))
  |refine Wk.drawn mx (by kernel_rfl) ?_
  |with_reducible refine Wk.ret fun _ _=>?_
  |(refine Wk.fin ‹_› ?_;refine ⟨?_,rfl⟩)
  |with_reducible first|refine Wk.o ?_|refine Wk.q ‹_› ?_|refine Wk.sw fun _ ag=>?_|refine Wk.sk fun _ ag=>?_));all_goals (repeat subst ag)
  all_goals rfl
end Go.Proofs.YthnoiikjfcnlhaaGreatDoor
