/- A step of the proofs of the seat's theorems. -/
import Derived.Test.YthnoiikjfcnlhaaGreatDoorZ24
import Derived.Test.YthnoiikjfcnlhaaGreatDoorZ31
import Derived.Test.YthnoiikjfcnlhaaGreatDoorZ35
set_option linter.unusedSimpArgs false
set_option linter.unusedVariables false
set_option maxHeartbeats 8000000
set_option maxRecDepth 20000
namespace Go.Proofs.YthnoiikjfcnlhaaGreatDoor
open Go.Abs
attribute [local irreducible] AW OX cG GQ bK bO bz aY aa
variable {G:World→Nat→Prop}
abbrev tG (T:List Tk):RB→V
 | .ok b rest=> .cF [vB b,ai ↑(T.length - rest.length),ai 0]
 | .err rest c=> .cF [.agg [.d (.str []),.d (.str []),.d (.sl []),.d (.sl [])],ai ↑(T.length - rest.length),ai c]
theorem qi {T:List Tk} {i:Nat} (c:Int) (h:i≤T.length):tG T (.err (T.drop i) c)= .cF [.agg [.d (.str []),.d (.str []),.d (.sl []),.d (.sl [])],ai ↑i,ai c]:=by simp only [tG,kR h]
theorem TL {T:List Tk} {i:Nat} {k n:az} {a:List (az×Ex)} {l:List Bk} (h:i≤T.length):tG T (.ok (.mk k n a l) (T.drop i))= .cF [.agg [.d (.str k),.d (.str n),.d (.sl (a.map kV)),.d (.sl (l.map Bk.enc))],ai ↑i,ai 0]:=by
 simp only [tG,kR h];simp [vB,Bk.aP,Bk.kind,Bk.name,Bk.attrs,Bk.blocks]
theorem JU (by_:Nat) (hby:by_≤1000) (BL:List aJ) (K:List (Nat×Nat×Nat)) (a:List (az×Ex)) (l:List Bk) (b:Bk) (h:l.length≤1048576):
  Bt Tryz.prog (some (40,4,by_)) (some (.sl [b.enc])) (.own (K.length+1) (l.map Bk.enc)) ⟨BL,K++Ay a l⟩=some (.own (K.length+1) ((l++[b]).map Bk.enc),⟨BL,K++Ay a (l++[b])⟩):=by
 have hz:dy Tryz.prog 40=some 4:=by kernel_rfl
 have h1:(l.length+1)*by_≤1048577*1000:=Nat.mul_le_mul (by omega) hby
 have hm:maxLen=9223372036854775807:=by decide
 rw [mV,o7,lJ,hz]
 unfold jt
 rw [if_pos ⟨rfl,by omega,rfl⟩]
 simp [Ay,ff,hm,List.getElem?_append_right,List.set_append_right]
 omega
theorem JV {T:List Tk} (hT:dh T) (hnl:Aj T) (hw:Wt T≤1099511627776) (f:Nat) (ih:∀ f',f'<f+1→∀ i r,i≤T.length→bF f' .block (T.drop i)=some r→b8 G 50 [jA T,ai ↑i] (tG T r))
  (i:Nat) (r:RB) (hi:i≤T.length) (hr:bF (f+1) .block (T.drop i)=some r):b8 G 50 [jA T,ai ↑i] (tG T r):=by
 rintro ⟨B,K⟩
 have h6:=hT.1
 have hnm:=fun (j:Nat) (h:j≤T.length)=>MS (G:=G) T j hT (by omega)
 have hms:=fun (j:Nat) (h:j≤T.length)=>tE (G:=G) T j h6 (by omega)
 have hop:=fun (j:Nat) (s:az) (h:j≤T.length+1)=>(MR T j s)▸JT (G:=G) T j 4 s h6 (by omega)
 have hli:=fun (j:Nat) (h:j≤T.length)=>(DG hnl j)▸JT (G:=G) T j 5 [] h6 (by omega)
 rw [Aa] at hr
 by_cases hn:nameAt T i=true
 ·rw [if_pos hn] at hr
  have h1:i<T.length:=by simp only [nameAt,Bool.and_eq_true,decide_eq_true_eq] at hn;exact hn.1
  have hN:(i+1<T.length∧((T.getD (i+1) default).kind=3)=True∧((T.getD (i+1) default).text=[])=False∧gw T (i+1)=((T.getD (i+1) default).text,i+1+1))∨(i+1<T.length∧((T.getD (i+1) default).kind=3)=False∧((1=1)=True)∧gw T (i+1)=([],i+1))∨
    (i+1<T.length∧((T.getD (i+1) default).kind=3)=True∧((T.getD (i+1) default).text=[])=True∧gw T (i+1)=([],i+1))∨(¬ i+1<T.length∧((1=1)=True)∧((1=1)=True)∧gw T (i+1)=([],i+1)):=by
   unfold gw
   generalize T.getD (i+1) default=t
   by_cases h2:i+1<T.length<;>by_cases k1:t.kind=3<;>by_cases k2:t.text=[]<;>simp [k1,k2,h2]
  generalize gw T (i+1)=z at hr hN
  obtain ⟨nm,q⟩:=z
  simp only [Prod.mk.injEq] at hr hN
  have hq:q≤T.length∧i<q:=by omega
  by_cases ho:bU T q [123]=true
  ·have h3:=bW ho
   have hN:=hN.imp id fun h=>h.imp id fun h=>h.resolve_right fun h=>h.1 (by have:=h.2.2.2.2;omega)
   rw [if_pos ho] at hr
   by_cases hl:cP T (q+1)=true
   ·rw [if_pos hl] at hr
    have h4:q+1<T.length:=by simp only [cP,Bool.and_eq_true,decide_eq_true_eq] at hl;exact hl.1
    rcases hN with ⟨c0,k1,k2,hnm',rfl⟩|⟨c0,k1,k2,hnm',rfl⟩|⟨c0,k1,k2,hnm',rfl⟩<;>
    ·refine aa.start Tryz.func50 rfl Tryz.ntmps50 (by simp) fun _ ag=>?_
     simp -implicitDefEqProofs (disch:=omega) only [go_sem,seval,wk,↓bu,↓bw,bx,↓aq,cX ag,bC (hnm _ hi _),bC (hop _ _ (Nat.le_succ_of_le hq.1) _),bC (hli _ (Nat.succ_le_of_lt h3) _),hn,k1,k2,ho,hl,ne_eq,not_true_eq_false,not_false_eq_true];(repeat' first|refine cq.l ?_|refine bg.i ?_ ?_|refine cE.i fun hc=>?_|refine aQ.i ⟨?_,rfl⟩|refine aZ.i ?_ ?_|refine cB.o ?_);all_goals (try subst ag)
     refine AW.MF 69 11 40 4 (by decide) (by decide) ?_
     refine AW.zU (fun x:Yt=>[(0,jA T),(1,ai ↑x.i),(4,.ptr B.length 0),(7,.ptr (B.length+1) 0)]) (fun x=>[.cells [.d (.str []),.d (.str []),.bh,.bh],Qm (T.getD i default).text nm K.length x.a x.l]) (fun x=>Ay x.a x.l)
      (fun x=>bF x.f (.items (T.getD i default).text nm x.a x.l) (T.drop x.i)=some r∧x.i≤T.length∧x.a.length+x.l.length≤x.i∧x.f<f+1) (fun x=>x.f) ⟨_,[],[],f⟩ ?_ ⟨hr,by dsimp only;omega,by simp,by dsimp only;omega⟩ ?_
     ·simp -implicitDefEqProofs (disch:=first|omega|(simp only [go_sem,List.length_take,List.length_drop];try omega)) only [go_sem,seval,hnm']
      rfl
     ·rintro ⟨j,a,l,f'⟩ ⟨hx,x1,x2,x3⟩
      simp only at hx x1 x2 x3
      cases f' with
      |zero=>simp [bF] at hx
      |succ f'=>
      rw [Ab] at hx
      by_cases he:bU T j [125]=true
      ·have x5:=bW he
       rw [if_pos he] at hx
       cases hx
       refine Wk.go fun _ ag=>?_;simp -implicitDefEqProofs (disch:=omega) only [go_sem,seval,wk,↓bu,↓bw,bx,↓aq,cX ag,bC (hop _ _ (Nat.le_succ_of_le x1) _),he];(repeat' first|refine cq.l ?_|refine bg.i ?_ ?_|refine cE.i fun hc=>?_|refine aQ.i ⟨?_,rfl⟩|refine aZ.i ?_ ?_|refine cB.o ?_);all_goals (try subst ag)
       rw [TL (by omega)]
      rw [if_neg he] at hx
      have he':bU T j [125]=false:=by simpa using he
      by_cases h8:nameAt T j=true
      ·rw [if_neg (by simp [h8])] at hx
       have x6:j<T.length:=by simp only [nameAt,Bool.and_eq_true,decide_eq_true_eq] at h8;exact h8.1
       by_cases h9:bU T (j+1) [61]=true
       ·rw [if_pos h9] at hx
        have x7:=bW h9
        have A:=Ci (G:=G) (T.drop (j+2)) (hT.xV (List.drop_suffix _ _)) (Nat.le_trans (xA _ _) hw)
        cases ht:eP (T.drop (j+2)) with
        |ok y r3=>
         rw [ht,kO,jA,List.map_drop,List.length_drop] at A
         rw [ht] at hx
         simp only at hx
         have e3:=ij ((ZK.1 _ _ ht).trans (List.drop_suffix _ _))
         have e4:=takeN ht
         have e5:j+2≤T.length - r3.length∧T.length - r3.length≤T.length:=by omega
         generalize T.length - r3.length=p at e3 e5
         subst e3
         rw [List.length_drop] at A
         have e6:j+2+(T.length - (j+2) - (T.length - p))=p:=by omega
         rw [nr] at hx
         by_cases h10:cP T p=true
         ·rw [if_pos h10] at hx
          have x8:p<T.length:=by simp only [cP,Bool.and_eq_true,decide_eq_true_eq] at h10;exact h10.1
          refine Wk.go fun _ ag=>?_;simp -implicitDefEqProofs (disch:=first|omega|exact ⟨by kernel_rfl⟩|(simp only [go_sem,List.length_take];try omega)) only [go_sem,seval,wk,↓bu,↓bw,bx,↓aq,cX ag,bC (hop _ _ (Nat.le_succ_of_le x1) _),bC (hnm _ x1 _),bC (hop _ _ (Nat.succ_le_succ x1) _),he',h8,h9,bC (A _),TI,wd (id:=21),Ct,e6,bC (hli _ e5.2 _),h10];(repeat' first|refine cq.l ?_|refine bg.i ?_ ?_|refine cE.i fun hc=>?_|refine aQ.i ⟨?_,rfl⟩|refine aZ.i ?_ ?_|refine cB.o ?_);all_goals (try subst ag)
          refine cB.i ⟨⟨p+1,a++[((T.getD j default).text,y)],l,f'⟩,⟨by simp -implicitDefEqProofs (disch:=first|omega|(simp only [go_sem,List.length_take,List.length_drop];try omega)) only [go_sem,seval,List.take_length_add_append,Bool.and_eq_true];exact ⟨by simp,by simp,by omega⟩,⟨hx,by dsimp only;omega,by simp;omega,by dsimp only;omega⟩,Nat.lt_succ_self _⟩⟩
         ·rw [if_neg h10] at hx
          cases hx
          have h10':=Bool.eq_false_iff.2 h10
          refine Wk.go fun _ ag=>?_;simp -implicitDefEqProofs (disch:=first|omega|exact ⟨by kernel_rfl⟩|(simp only [go_sem,List.length_take];try omega)) only [go_sem,seval,wk,↓bu,↓bw,bx,↓aq,cX ag,bC (hop _ _ (Nat.le_succ_of_le x1) _),bC (hnm _ x1 _),bC (hop _ _ (Nat.succ_le_succ x1) _),he',h8,h9,bC (A _),TI,wd (id:=21),Ct,e6,bC (hli _ e5.2 _),bC (hms _ e5.2 _),h10'];(repeat' first|refine cq.l ?_|refine bg.i ?_ ?_|refine cE.i fun hc=>?_|refine aQ.i ⟨?_,rfl⟩|refine aZ.i ?_ ?_|refine cB.o ?_);all_goals (try subst ag)
          rw [qi _ e5.2]
        |err r3 c=>
         rw [ht,kO,jA,List.map_drop,List.length_drop] at A
         rw [ht] at hx
         cases hx
         have h0:=tu ht
         have e4:=NC ht
         have e6:j+2+(T.length - (j+2) - r3.length)=T.length - r3.length:=by omega
         refine Wk.go fun _ ag=>?_;simp -implicitDefEqProofs (disch:=first|omega|exact ⟨by kernel_rfl⟩|(simp only [go_sem,List.length_take];try omega)) only [go_sem,seval,wk,↓bu,↓bw,bx,↓aq,cX ag,bC (hop _ _ (Nat.le_succ_of_le x1) _),bC (hnm _ x1 _),bC (hop _ _ (Nat.succ_le_succ x1) _),he',h8,h9,bC (A _),TI,e6,h0];(repeat' first|refine cq.l ?_|refine bg.i ?_ ?_|refine cE.i fun hc=>?_|refine aQ.i ⟨?_,rfl⟩|refine aZ.i ?_ ?_|refine cB.o ?_);all_goals (try subst ag)
         rfl
       ·rw [if_neg h9] at hx
        have h9':=Bool.eq_false_iff.2 h9
        cases hb:bF f' .block (T.drop j) with
        |none=>rw [hb] at hx;cases hx
        |some y=>
        have C:=ih f' (by omega) j y x1 hb
        have e3:=ij ((mB _ _ _ _ hb).trans (List.drop_suffix _ _))
        have he0:=CD _ _ _ _ hb
        rw [hb] at hx
        cases y with
        |ok b r3=>
         simp only at hx
         have e4:=jm hb
         rw [List.length_drop] at e4
         have e5:j+1≤T.length - r3.length∧T.length - r3.length≤T.length:=by omega
         simp only [jT] at e3
         simp only [tG] at C
         generalize T.length - r3.length=p at e3 e5 C
         subst e3
         rw [nr] at hx
         by_cases h10:cP T p=true
         ·rw [if_pos h10] at hx
          have x8:p<T.length:=by simp only [cP,Bool.and_eq_true,decide_eq_true_eq] at h10;exact h10.1
          refine Wk.go fun _ ag=>?_;simp -implicitDefEqProofs (disch:=first|omega|exact ⟨by kernel_rfl⟩|(simp only [go_sem,List.length_take];try omega)) only [go_sem,seval,wk,↓bu,↓bw,bx,↓aq,cX ag,bC (hop _ _ (Nat.le_succ_of_le x1) _),bC (hnm _ x1 _),bC (hop _ _ (Nat.succ_le_succ x1) _),he',h8,h9',bC (C _),JU,bC (hli _ e5.2 _),h10];(repeat' first|refine cq.l ?_|refine bg.i ?_ ?_|refine cE.i fun hc=>?_|refine aQ.i ⟨?_,rfl⟩|refine aZ.i ?_ ?_|refine cB.o ?_);all_goals (try subst ag)
          refine cB.i ⟨⟨p+1,a,l++[b],f'⟩,⟨by simp -implicitDefEqProofs (disch:=first|omega|(simp only [go_sem,List.length_take,List.length_drop];try omega)) only [go_sem,seval,List.take_length_add_append,Bool.and_eq_true];exact ⟨by simp,by simp,by omega⟩,⟨hx,by dsimp only;omega,by simp;omega,by dsimp only;omega⟩,Nat.lt_succ_self _⟩⟩
         ·rw [if_neg h10] at hx
          cases hx
          have h10':=Bool.eq_false_iff.2 h10
          refine Wk.go fun _ ag=>?_;simp -implicitDefEqProofs (disch:=first|omega|exact ⟨by kernel_rfl⟩|(simp only [go_sem,List.length_take];try omega)) only [go_sem,seval,wk,↓bu,↓bw,bx,↓aq,cX ag,bC (hop _ _ (Nat.le_succ_of_le x1) _),bC (hnm _ x1 _),bC (hop _ _ (Nat.succ_le_succ x1) _),he',h8,h9',bC (C _),JU,bC (hli _ e5.2 _),bC (hms _ e5.2 _),h10'];(repeat' first|refine cq.l ?_|refine bg.i ?_ ?_|refine cE.i fun hc=>?_|refine aQ.i ⟨?_,rfl⟩|refine aZ.i ?_ ?_|refine cB.o ?_);all_goals (try subst ag)
          rw [qi _ e5.2]
        |err r3 c=>
         cases hx
         simp only [lT] at he0
         simp only [tG] at C
         refine Wk.go fun _ ag=>?_;simp -implicitDefEqProofs (disch:=first|omega|exact ⟨by kernel_rfl⟩|(simp only [go_sem,List.length_take];try omega)) only [go_sem,seval,wk,↓bu,↓bw,bx,↓aq,cX ag,bC (hop _ _ (Nat.le_succ_of_le x1) _),bC (hnm _ x1 _),bC (hop _ _ (Nat.succ_le_succ x1) _),he',h8,h9',bC (C _),he0];(repeat' first|refine cq.l ?_|refine bg.i ?_ ?_|refine cE.i fun hc=>?_|refine aQ.i ⟨?_,rfl⟩|refine aZ.i ?_ ?_|refine cB.o ?_);all_goals (try subst ag)
         rfl
      ·have h8':=Bool.eq_false_iff.2 h8
       rw [if_pos h8'] at hx
       cases hx
       refine Wk.go fun _ ag=>?_;simp -implicitDefEqProofs (disch:=first|omega|exact ⟨by kernel_rfl⟩|(simp only [go_sem,List.length_take];try omega)) only [go_sem,seval,wk,↓bu,↓bw,bx,↓aq,cX ag,bC (hop _ _ (Nat.le_succ_of_le x1) _),bC (hnm _ x1 _),bC (hms _ x1 _),he',h8'];(repeat' first|refine cq.l ?_|refine bg.i ?_ ?_|refine cE.i fun hc=>?_|refine aQ.i ⟨?_,rfl⟩|refine aZ.i ?_ ?_|refine cB.o ?_);all_goals (try subst ag)
       rw [qi _ x1]
   ·rw [if_neg hl] at hr
    cases hr
    have hl':=Bool.eq_false_iff.2 hl
    rcases hN with ⟨c0,k1,k2,rfl,rfl⟩|⟨c0,k1,k2,rfl,rfl⟩|⟨c0,k1,k2,rfl,rfl⟩<;>
    ·refine aa.start Tryz.func50 rfl Tryz.ntmps50 (by simp) fun _ ag=>?_
     simp -implicitDefEqProofs (disch:=omega) only [go_sem,seval,wk,↓bu,↓bw,bx,↓aq,cX ag,bC (hnm _ hi _),bC (hms _ (Nat.succ_le_of_lt h3) _),bC (hop _ _ (Nat.le_succ_of_le hq.1) _),bC (hli _ (Nat.succ_le_of_lt h3) _),hn,k1,k2,ho,hl',ne_eq,not_true_eq_false,not_false_eq_true];(repeat' first|refine cq.l ?_|refine bg.i ?_ ?_|refine cE.i fun hc=>?_|refine aQ.i ⟨?_,rfl⟩|refine aZ.i ?_ ?_|refine cB.o ?_);all_goals (try subst ag)
     rw [qi _ (Nat.succ_le_of_lt h3)]
  ·rw [if_neg ho] at hr
   cases hr
   rcases hN with ⟨c0,k1,k2,rfl,rfl⟩|⟨c0,k1,k2,rfl,rfl⟩|⟨c0,k1,k2,rfl,rfl⟩|⟨c0,k1,k2,rfl,rfl⟩<;>
   ·have ho':=Bool.eq_false_iff.2 ho
    refine aa.start Tryz.func50 rfl Tryz.ntmps50 (by simp) fun _ ag=>?_
    simp -implicitDefEqProofs (disch:=omega) only [go_sem,seval,wk,↓bu,↓bw,bx,↓aq,cX ag,bC (hnm _ hi _),bC (hms _ hq.1 _),bC (hop _ _ (Nat.le_succ_of_le hq.1) _),hn,k1,k2,ho',ne_eq,not_true_eq_false,not_false_eq_true];(repeat' first|refine cq.l ?_|refine bg.i ?_ ?_|refine cE.i fun hc=>?_|refine aQ.i ⟨?_,rfl⟩|refine aZ.i ?_ ?_|refine cB.o ?_);all_goals (try subst ag)
    rw [qi _ hq.1]
 ·have hn':nameAt T i=false:=by simpa using hn
  rw [if_neg hn] at hr
  cases hr
  refine aa.start Tryz.func50 rfl Tryz.ntmps50 (by simp) fun _ ag=>?_
  simp -implicitDefEqProofs (disch:=omega) only [go_sem,seval,wk,↓bu,↓bw,bx,↓aq,cX ag,bC (hnm _ hi _),bC (hms _ hi _),hn'];(repeat' first|refine cq.l ?_|refine bg.i ?_ ?_|refine cE.i fun hc=>?_|refine aQ.i ⟨?_,rfl⟩|refine aZ.i ?_ ?_|refine cB.o ?_);all_goals (try subst ag)
  rw [qi _ hi]
theorem MT {T:List Tk} (hT:dh T) (hnl:Aj T) (hw:Wt T≤1099511627776) (f:Nat):∀ i r,i≤T.length→bF f .block (T.drop i)=some r→b8 G 50 [jA T,ai ↑i] (tG T r):=by
 induction f using Nat.strongRecOn with
 |ind f ih=>
 intro i r hi hr
 cases f with
 |zero=>simp [bF] at hr
 |succ f=>exact JV hT hnl hw f ih i r hi hr
theorem MU {T:List Tk} (hT:dh T) (hnl:Aj T) (hw:Wt T≤1099511627776):b8 G 27 [jA T] (Cy T (gZ (T.length+1) [] (gJ T))):=by
 rintro ⟨B,K⟩
 have h6:=hT.1
 have hms:=fun (j:Nat) (h:j≤T.length)=>tE (G:=G) T j h6 (by omega)
 have hli:=fun (j:Nat) (h:j≤T.length)=>(DG hnl j)▸JT (G:=G) T j 5 [] h6 (by omega)
 obtain ⟨i0,e0,e1,hN⟩:∃ i0,gJ T=T.drop i0∧i0≤T.length∧(cP T 0=true∧i0=1∨cP T 0=false∧i0=0):=by
  cases T with
  |nil=>exact ⟨0,rfl,by simp,by simp [cP]⟩
  |cons t r=>
   by_cases h:t.kind=5
   ·exact ⟨1,by simp [gJ,iu,h],by simp,by simp [cP,iu,h]⟩
   ·exact ⟨0,by simp [gJ,iu,h],by simp,by simp [cP,iu,h]⟩
 rw [e0]
 generalize hr:gZ (T.length+1) [] (T.drop i0)=r
 rcases hN with ⟨k1,rfl⟩|⟨k1,rfl⟩<;>
 ·have h00:b8 G 49 [jA T,ai 0,ai 5,vs []] (vb (cP T 0)):=hli 0 (Nat.zero_le _)
  refine aa.start Tryz.func27 rfl Tryz.ntmps27 (by simp) fun _ ag=>?_
  simp -implicitDefEqProofs (disch:=omega) only [go_sem,seval,wk,↓bu,↓bw,bx,↓aq,cX ag,bC (h00 _),k1];(repeat' first|refine cq.l ?_|refine bg.i ?_ ?_|refine cE.i fun hc=>?_|refine aQ.i ⟨?_,rfl⟩|refine aZ.i ?_ ?_|refine cB.o ?_);all_goals (try subst ag)
  refine AW.MG 40 4 (by decide) ?_
  refine AW.zU (fun x:Yu=>[(0,jA T),(2,.ptr B.length 0),(5,.ptr (B.length+1) 0),(6,ai ↑x.i)]) (fun x=>[.cells [.bh],.cells [.own K.length (x.l.map Bk.enc)]]) (fun x=>[(40,4,x.l.length)])
   (fun x=>gZ x.f x.l (T.drop x.i)=r∧x.i≤T.length+1∧x.l.length≤x.i∧T.length - x.i<x.f) (fun x=>x.f) ⟨_,[],T.length+1⟩ ?_ ⟨hr,by dsimp only;omega,by simp,by dsimp only;omega⟩ ?_
  ·simp -implicitDefEqProofs (disch:=first|omega|(simp only [go_sem,List.length_take,List.length_drop];try omega)) only [go_sem,seval]
   try rfl
  ·rintro ⟨j,l,f⟩ ⟨hx,x1,x2,x3⟩
   simp only at hx x1 x2 x3
   by_cases hj:j<T.length
   ·obtain ⟨f,rfl⟩:∃ f',f=f'+1:=⟨f - 1,by omega⟩
    rw [tw _ _ _ _ hj] at hx
    cases hb:bF (ov (T.drop j)) .block (T.drop j) with
    |none=>exact absurd hb (sH _ _ _ (by simp only [wB,ov];omega))
    |some y=>
    have C:=MT (G:=G) hT hnl hw _ j y (by omega) hb
    have e3:=ij ((mB _ _ _ _ hb).trans (List.drop_suffix _ _))
    have he0:=CD _ _ _ _ hb
    rw [hb] at hx
    cases y with
    |ok b r3=>
     have e4:=jm hb
     rw [List.length_drop] at e4
     have e5:j+1≤T.length - r3.length∧T.length - r3.length≤T.length:=by omega
     simp only [jT] at e3
     simp only [tG] at C
     generalize T.length - r3.length=p at e3 e5 C
     subst e3
     by_cases hp:p<T.length
     ·rw [iH hp] at hx
      simp only at hx
      by_cases hl:iu (T.getD p default)=true
      ·rw [if_pos hl] at hx
       have hl':cP T p=true:=by simp only [cP,decide_eq_true hp,hl,Bool.and_true]
       refine Wk.go fun _ ag=>?_;simp -implicitDefEqProofs (disch:=first|omega|exact ⟨by kernel_rfl⟩|(simp only [go_sem,List.length_take];try omega)) only [go_sem,seval,wk,↓bu,↓bw,bx,↓aq,cX ag,bC (C _),xB,bC (hli _ e5.2 _),hl'];(repeat' first|refine cq.l ?_|refine bg.i ?_ ?_|refine cE.i fun hc=>?_|refine aQ.i ⟨?_,rfl⟩|refine aZ.i ?_ ?_|refine cB.o ?_);all_goals (try subst ag)
       refine cB.i ⟨⟨p+1,l++[b],f⟩,⟨by simp -implicitDefEqProofs (disch:=first|omega|(simp only [go_sem,List.length_take,List.length_drop];try omega)) only [go_sem,seval,List.take_length_add_append,Bool.and_eq_true];omega,⟨hx,by dsimp only;omega,by simp;omega,by dsimp only;omega⟩,Nat.lt_succ_self _⟩⟩
      ·rw [if_neg hl] at hx
       have hl':cP T p=false:=by simp only [cP,decide_eq_true hp,Bool.eq_false_iff.2 hl,Bool.and_false]
       cases hx
       refine Wk.go fun _ ag=>?_;simp -implicitDefEqProofs (disch:=first|omega|exact ⟨by kernel_rfl⟩|(simp only [go_sem,List.length_take];try omega)) only [go_sem,seval,wk,↓bu,↓bw,bx,↓aq,cX ag,bC (C _),xB,bC (hli _ e5.2 _),hl'];(repeat' first|refine cq.l ?_|refine bg.i ?_ ?_|refine cE.i fun hc=>?_|refine aQ.i ⟨?_,rfl⟩|refine aZ.i ?_ ?_|refine cB.o ?_);all_goals (try subst ag)
       rw [←iH hp]
       simp only [Cy,kR e5.2]
     ·rw [gO hp] at hx
      simp only at hx
      refine Wk.go fun _ ag=>?_;simp -implicitDefEqProofs (disch:=first|omega|exact ⟨by kernel_rfl⟩|(simp only [go_sem,List.length_take];try omega)) only [go_sem,seval,wk,↓bu,↓bw,bx,↓aq,cX ag,bC (C _),xB];(repeat' first|refine cq.l ?_|refine bg.i ?_ ?_|refine cE.i fun hc=>?_|refine aQ.i ⟨?_,rfl⟩|refine aZ.i ?_ ?_|refine cB.o ?_);all_goals (try subst ag)
      refine cB.i ⟨⟨p+1,l++[b],f⟩,⟨by simp -implicitDefEqProofs (disch:=first|omega|(simp only [go_sem,List.length_take,List.length_drop];try omega)) only [go_sem,seval,List.take_length_add_append,Bool.and_eq_true];omega,⟨by dsimp only;rw [gO (by omega),nt];exact hx,by dsimp only;omega,by simp;omega,by dsimp only;omega⟩,Nat.lt_succ_self _⟩⟩
    |err r3 c=>
     cases hx
     simp only [lT] at he0
     simp only [tG] at C
     refine Wk.go fun _ ag=>?_;simp -implicitDefEqProofs (disch:=first|omega|exact ⟨by kernel_rfl⟩|(simp only [go_sem,List.length_take];try omega)) only [go_sem,seval,wk,↓bu,↓bw,bx,↓aq,cX ag,bC (C _),he0];(repeat' first|refine cq.l ?_|refine bg.i ?_ ?_|refine cE.i fun hc=>?_|refine aQ.i ⟨?_,rfl⟩|refine aZ.i ?_ ?_|refine cB.o ?_);all_goals (try subst ag)
     rfl
   ·rw [gO hj,nt] at hx
    subst hx
    refine Wk.go fun _ ag=>?_;simp -implicitDefEqProofs (disch:=omega) only [go_sem,seval,wk,↓bu,↓bw,bx,↓aq,cX ag];(repeat' first|refine cq.l ?_|refine bg.i ?_ ?_|refine cE.i fun hc=>?_|refine aQ.i ⟨?_,rfl⟩|refine aZ.i ?_ ?_|refine cB.o ?_);all_goals (try subst ag)
    rfl
theorem JW (s:az) (hs:s.length≤1048576):b8 G 11 [vs s] (TK (tY s)):=by
 intro st
 have c0:=w6 (G:=G) s hs
 rw [tY]
 cases h:tokens s with
 |err a c=>
  rw [h] at c0
  have hc0:=s8 h
  simp only [Da] at c0
  simp only
  refine aa.start Tryz.func11 rfl Tryz.ntmps11 (by simp) fun _ ag=>?_
  simp -implicitDefEqProofs (disch:=omega) only [go_sem,seval,wk,↓bu,↓bw,bx,↓aq,cX ag,bC (c0 _),hc0];(repeat' first|refine cq.l ?_|refine bg.i ?_ ?_|refine cE.i fun hc=>?_|refine aQ.i ⟨?_,rfl⟩|refine aZ.i ?_ ?_|refine cB.o ?_);all_goals (try subst ag)
  rfl
 |ok T=>
  rw [h] at c0
  obtain ⟨hT,hw,_⟩:=qb h
  have h6:=hT.1
  have c0:b8 G 26 [vs s] (.cF [jA T,ai 0,ai 0]):=c0
  have c1:=MU (G:=G) hT (FY h) hw
  simp only
  cases hk:gZ (T.length+1) [] (gJ T) with
  |ok l=>
   rw [hk] at c1
   obtain ⟨hg,hb⟩:=xH hT hw hk
   have c2:=JQ (G:=G) l hg
   simp only [Cy] at c1
   simp only
   by_cases h0:fK l=0
   ·rw [h0] at c2
    rw [if_neg (by simp [h0])]
    refine aa.start Tryz.func11 rfl Tryz.ntmps11 (by simp) fun _ ag=>?_
    simp -implicitDefEqProofs (disch:=omega) only [go_sem,seval,wk,↓bu,↓bw,bx,↓aq,cX ag,bC (c0 _),bC (c1 _),bC (c2 _)];(repeat' first|refine cq.l ?_|refine bg.i ?_ ?_|refine cE.i fun hc=>?_|refine aQ.i ⟨?_,rfl⟩|refine aZ.i ?_ ?_|refine cB.o ?_);all_goals (try subst ag)
    rfl
   ·rw [if_pos h0]
    refine aa.start Tryz.func11 rfl Tryz.ntmps11 (by simp) fun _ ag=>?_
    simp -implicitDefEqProofs (disch:=omega) only [go_sem,seval,wk,↓bu,↓bw,bx,↓aq,cX ag,bC (c0 _),bC (c1 _),bC (c2 _),h0];(repeat' first|refine cq.l ?_|refine bg.i ?_ ?_|refine cE.i fun hc=>?_|refine aQ.i ⟨?_,rfl⟩|refine aZ.i ?_ ?_|refine cB.o ?_);all_goals (try subst ag)
    rfl
  |err rest c=>
   rw [hk] at c1
   obtain ⟨h1,hcc⟩:=vH _ _ _ _ _ hk (by have:=(jX T).length_le;omega)
   have h1:=h1.trans (jX T)
   have h2:=ij h1
   have h3:=CN h1
   simp only [Cy] at c1
   simp only
   cases rest with
   |nil=>
    simp only [List.length_nil,Nat.sub_zero] at c1
    simp only [rM]
    refine aa.start Tryz.func11 rfl Tryz.ntmps11 (by simp) fun _ ag=>?_
    simp -implicitDefEqProofs (disch:=omega) only [go_sem,seval,wk,↓bu,↓bw,bx,↓aq,cX ag,bC (c0 _),bC (c1 _),hcc];(repeat' first|refine cq.l ?_|refine bg.i ?_ ?_|refine cE.i fun hc=>?_|refine aQ.i ⟨?_,rfl⟩|refine aZ.i ?_ ?_|refine cB.o ?_);all_goals (try subst ag)
    rfl
   |cons t l=>
    simp only [List.length_cons] at c1 h3 h2
    have hlt:T.length - (l.length+1)<T.length:=by omega
    have hat:(T.getD (T.length - (l.length+1)) default)=t:=by
     rw [bM hlt] at h2;injection h2 with h2 _;exact h2.symm
    clear h2
    generalize T.length - (l.length+1)=n at*
    simp only [rM]
    refine aa.start Tryz.func11 rfl Tryz.ntmps11 (by simp) fun _ ag=>?_
    simp -implicitDefEqProofs (disch:=omega) only [go_sem,seval,wk,↓bu,↓bw,bx,↓aq,cX ag,bC (c0 _),bC (c1 _),hcc];(repeat' first|refine cq.l ?_|refine bg.i ?_ ?_|refine cE.i fun hc=>?_|refine aQ.i ⟨?_,rfl⟩|refine aZ.i ?_ ?_|refine cB.o ?_);all_goals (try subst ag)
    refine AW.QC (P:=Tryz.prog) mx [(5,8)] (by kernel_rfl) (by simp -implicitDefEqProofs (disch:=first|omega|(simp only [go_sem,List.length_take,List.length_drop];try omega)) only [go_sem,seval,hat];first|done|exact rfl) ?_
    refine OX.nil (Ng (by rfl) (kQ fun _ ag=>?_))
    simp -implicitDefEqProofs (disch:=omega) only [go_sem,seval,wk,↓bu,↓bw,bx,↓aq,cX ag];(repeat' first|refine cq.l ?_|refine bg.i ?_ ?_|refine cE.i fun hc=>?_|refine aQ.i ⟨?_,rfl⟩|refine aZ.i ?_ ?_|refine cB.o ?_);all_goals (try subst ag)
    rfl
def nm (c:UInt8):Ex:= .mk 2 [c] ct [] []
def pq (b id:Nat) (s:az):aJ:=if s=[] then .tc bT [.d .eX,.bh] else .tc bT [.ptr b 0,.own id (aH s)]
def nN (s:az):List (Nat×Nat×Nat):=if s=[] then [] else [(bE,1,s.length)]
theorem lO {N:Nat} (b k:Nat) (s:az) (h:b<N):(pq b k s).within N (k+(nN s).length)=true:=by
 by_cases hs:s=[]
 ·simp [pq,nN,hs,aJ.within,V.within,V.within.all]
 ·simp [pq,nN,hs,aJ.within,V.within,V.within.all,h]
theorem xJ (k:Nat) (s x:az):k+(nN s).length≤k+(nN (s++x)).length:=by
 cases s with
 |nil=>simp [nN]
 |cons a r=>simp [nN]
theorem TM (B L:List aJ) (K:List (Nat×Nat×Nat)) (s x:az) (h1:s.length≤4398046511104) (h2:x.length≤4398046511104) (h3:0<s.length+x.length):
  aa Tryz.prog G 56 [.ptr B.length 0,vs x] ⟨B++pq B.length K.length s::L,K++nN s⟩ (fun o s'=>o= .ret (.cF [ai ↑x.length,.d .fD])∧s'=⟨B++pq B.length K.length (s++x)::L,K++nN (s++x)⟩):=by
 by_cases hs:s=[]
 ·subst hs
  have hx:x≠[]:=by intro h;subst h;simp at h3
  refine (Tc (G:=G) ⟨B++pq B.length K.length []::L,K++nN []⟩ B.length x (by simp [pq]) hx h2).mono ?_
  rintro o s' ⟨rfl,rfl⟩
  exact ⟨rfl,by simp [pq,nN,hx]⟩
 ·by_cases hx:x=[]
  ·subst hx
   refine (IT (G:=G) ⟨B++pq B.length K.length s::L,K++nN s⟩ B.length K.length s (by simp [pq,hs]) (by simp [nN,hs]) h1).mono ?_
   rintro o s' ⟨rfl,rfl⟩
   exact ⟨rfl,by simp [pq,nN,hs]⟩
  ·refine (Nu (G:=G) ⟨B++pq B.length K.length s::L,K++nN s⟩ B.length K.length s x (by simp [pq,hs]) (by simp [nN,hs]) h1 hx h2).mono ?_
   rintro o s' ⟨rfl,rfl⟩
   exact ⟨rfl,by simp [pq,nN,hs]⟩
instance Zs (B L:List aJ) (K:List (Nat×Nat×Nat)) (s x:az):Mn Tryz.prog G 56 [.ptr B.length 0,vs x] ⟨B++pq B.length K.length s::L,K++nN s⟩ (s.length≤4398046511104∧x.length≤4398046511104∧0<s.length+x.length) (.ret (.cF [ai ↑x.length,.d .fD])) ⟨B++pq B.length K.length (s++x)::L,K++nN (s++x)⟩:=⟨fun h=>TM B L K s x h.1 h.2.1 h.2.2⟩
theorem F0 {s:az} (h:cc s=true):0<s.length:=by
 cases s with
 |nil=>exact absurd h (by decide)
 |cons=>simp
theorem CE {level:Nat} {b:Bk} (h:cH level b=0):0<b.kind.length:=by
 rw [nq] at h;exact F0 (by grind)
theorem MV (g:GA G) (b:Bk) (h:gB b) (level:Nat) (h0:1≤level) (hc:cH level b=0) (B L:List aJ) (K:List (Nat×Nat×Nat)) (s:az) (hb:s.length+dD b≤1099511627776):
  aa Tryz.prog G 32 [.ptr B.length 0,vB b,ai level] ⟨B++pq B.length K.length s::L,K++nN s⟩ (fun o s'=>o= .ret (.cF [])∧s'=⟨B++pq B.length K.length (s++ir level b)::L,K++nN (s++ir level b)⟩):=by
 induction b using Bk.ind generalizing level B L K s with
 |_ b ih=>
 obtain ⟨c1,c2⟩:=Ai hc
 have hk:=CE hc
 obtain ⟨h1,h2,h3,h4,h5,h6⟩:=(iW b).1 h
 have e1:=Ag b
 have hr:=JP (G:=G) (level - 1) (by omega)
 rw [show ((level - 1:Nat):Int)=(level:Int) - 1 by omega,show 2*(level - 1)=2*level - 2 by omega] at hr
 have hq:=qE (G:=G) b.name h2
 have s1:=xD (2*level - 2)
 have s2:sp (2*level)=sp (2*level - 2)++[32,32]:=by rw [show 2*level=2*level - 2+1+1 by omega,DC,DC,List.append_assoc];rfl
 have q1:=gS b.name
 have a4:=vD b.name
 have hN:b.name=[]∧o9 b.name=[]∨b.name≠[]∧o9 b.name=32::fl b.name:=by
  by_cases h:b.name=[]
  ·exact .inl ⟨h,if_pos h⟩
  ·exact .inr ⟨h,if_neg h⟩
 rcases hN with ⟨n1,n2⟩|⟨n1,n2⟩<;>
 ·refine aa.Co Tryz.func32 rfl Tryz.ntmps32 (by simp) fun _ ag=>?_
  simp -implicitDefEqProofs (disch:=first|omega|exact ⟨by kernel_rfl⟩|(simp only [go_sem,List.length_take];try omega)) only [go_sem,seval,wk,↓bu,↓bw,bx,↓aq,cX ag,wd,n1,ne_eq,not_true_eq_false,not_false_eq_true,bC (hr _),bC (hq _)];(repeat' first|refine cq.l ?_|refine bg.i ?_ ?_|refine cE.i fun hc=>?_|refine aQ.i ⟨?_,rfl⟩|refine aZ.i ?_ ?_|refine cB.o ?_);all_goals (try subst ag)
  refine AW.T5 rfl (fun i:Nat=>[(0,.ptr B.length 0),(2,ai ↑level),(4,.ptr (B.length+(L.length+1)) 0),(6,vs (sp (2*level - 2))),(32,.d (.sl (b.attrs.map kV))),(33,ai ↑b.attrs.length),(34,ai ↑i)])
   (fun i=>pq B.length K.length (s++(sp (2*level - 2)++(b.kind++(o9 b.name++32::123::10::(b.attrs.take i).flatMap (kS (2*level))))))) (fun _=>[.cells (b.enc.map .d)]) (fun i=>K++nN (s++(sp (2*level - 2)++(b.kind++(o9 b.name++32::123::10::(b.attrs.take i).flatMap (kS (2*level)))))))
   (fun i=>i≤b.attrs.length) (fun i=>b.attrs.length - i) 0 (by simp -implicitDefEqProofs (disch:=omega) only [go_sem,seval,n2,List.flatMap_nil]<;>omega) (by simp) ?_
  intro i hi
  have a1:=xG (2*level) (by omega) (b.attrs.take i) fun x hx=>h5 x (List.mem_of_mem_take hx)
  have a2:=Ah b.attrs i
  have a3:=Ah b.attrs (i+1)
  by_cases hil:i<b.attrs.length
  ·have a5:=Cz hil
   obtain ⟨g1,g2,g3⟩:=h5 _ (aB hil)
   have hs:=Ch (G:=G) g (b.attrs.getD i default).2 g2 g3
   have a6:=vC (h5 _ (aB hil)) (2*level) (by omega)
   simp only [kS,List.length_append,xD,List.length_cons,List.length_nil] at a6
   refine Wk.go fun _ ag=>?_;simp -implicitDefEqProofs (disch:=first|omega|exact ⟨by kernel_rfl⟩|(simp only [go_sem,List.length_take];try omega)) only [go_sem,seval,wk,↓bu,↓bw,bx,↓aq,cX ag,XE mx [12],XD (hs _)];(repeat' first|refine cq.l ?_|refine bg.i ?_ ?_|refine cE.i fun hc=>?_|refine aQ.i ⟨?_,rfl⟩|refine aZ.i ?_ ?_|refine cB.o ?_);all_goals (try subst ag)
   refine cB.i ⟨i+1,⟨by simp -implicitDefEqProofs (disch:=omega) only [go_sem,seval,MN _ hil,kS,s2,lO,xJ,List.take_length_add_append,Bool.and_eq_true]<;>omega,?_,?_⟩⟩
   ·omega
   ·omega
  ·obtain rfl:i=b.attrs.length:=by omega
   rw [List.take_length] at*
   refine Wk.go fun _ ag=>?_;simp -implicitDefEqProofs (disch:=first|omega|exact ⟨by kernel_rfl⟩|(simp only [go_sem,List.length_take];try omega)) only [go_sem,seval,wk,↓bu,↓bw,bx,↓aq,cX ag,wd];(repeat' first|refine cq.l ?_|refine bg.i ?_ ?_|refine cE.i fun hc=>?_|refine aQ.i ⟨?_,rfl⟩|refine aZ.i ?_ ?_|refine cB.o ?_);all_goals (try subst ag)
   refine AW.T5 rfl (fun i:Nat=>[(0,.ptr B.length 0),(2,ai ↑level),(6,vs (sp (2*level - 2))),(53,vu b.blocks),(54,ai ↑b.blocks.length),(55,ai ↑i)])
    (fun i=>pq B.length K.length (s++(sp (2*level - 2)++(b.kind++(o9 b.name++32::123::10::(b.attrs.flatMap (kS (2*level))++ir.gH (level+1) (b.blocks.take i))))))) (fun _=>[.cells (b.enc.map .d)]) (fun i=>K++nN (s++(sp (2*level - 2)++(b.kind++(o9 b.name++32::123::10::(b.attrs.flatMap (kS (2*level))++ir.gH (level+1) (b.blocks.take i)))))))
    (fun i=>i≤b.blocks.length) (fun i=>b.blocks.length - i) 0 (by simp -implicitDefEqProofs (disch:=omega) only [go_sem,seval,ir.gH,List.append_nil]<;>omega) (by simp) ?_
   intro k hk'
   have b1:=nw (level+1) (b.blocks.take k) fun x hx=>pe x (h6 x (List.mem_of_mem_take hx)) _ (fj c2 x (List.mem_of_mem_take hx))
   have b2:=nu b.blocks k
   have b3:=nu b.blocks (k+1)
   by_cases hkl:k<b.blocks.length
   ·have b5:=qO hkl
    have hm:=aB hkl
    have b6:=pe _ (h6 _ hm) _ (fj c2 _ hm)
    have hz:=fun s hs L=>ih _ hm (h6 _ hm) (level+1) (by omega) (fj c2 _ hm) B L K s hs
    refine Wk.go fun _ ag=>?_;simp -implicitDefEqProofs (disch:=first|omega|exact ⟨by kernel_rfl⟩|(simp only [go_sem,List.length_take];try omega)) only [go_sem,seval,wk,↓bu,↓bw,bx,↓aq,cX ag,wd,Ck (hz _ _ _)];(repeat' first|refine cq.l ?_|refine bg.i ?_ ?_|refine cE.i fun hc=>?_|refine aQ.i ⟨?_,rfl⟩|refine aZ.i ?_ ?_|refine cB.o ?_);all_goals (try subst ag)
    refine cB.i ⟨k+1,⟨by simp -implicitDefEqProofs (disch:=omega) only [go_sem,seval,tC _ hkl,lO,xJ,List.take_length_add_append,Bool.and_eq_true]<;>omega,?_,?_⟩⟩
    ·omega
    ·omega
   ·obtain rfl:k=b.blocks.length:=by omega
    rw [List.take_length] at*
    refine Wk.go fun _ ag=>?_;simp -implicitDefEqProofs (disch:=first|omega|exact ⟨by kernel_rfl⟩|(simp only [go_sem,List.length_take];try omega)) only [go_sem,seval,wk,↓bu,↓bw,bx,↓aq,cX ag,wd];(repeat' first|refine cq.l ?_|refine bg.i ?_ ?_|refine cE.i fun hc=>?_|refine aQ.i ⟨?_,rfl⟩|refine aZ.i ?_ ?_|refine cB.o ?_);all_goals (try subst ag)
    refine Tu.o (Tv (Tt (T:=K++nN (s++ir level b)) (pq B.length K.length (s++ir level b)) rfl (l:=[]) (v:= .cF []) (by simp -implicitDefEqProofs (disch:=omega) only [go_sem,seval,DF,lO,xJ,List.take_length_add_append]<;>omega) ⟨rfl,rfl⟩))
def XO (s:az):List (Nat×Nat×Nat):=if s=[] then [] else [(bE,1,maxLen+1)]
theorem MW (B:List aJ) (K:List (Nat×Nat×Nat)) (s:az):aa Tryz.prog G 33 [.ptr B.length 0] ⟨B++[pq B.length K.length s],K++nN s⟩ (fun o s'=>o= .ret (vs s)∧s'=⟨B++[pq B.length K.length s],K++XO s⟩):=by
 by_cases hs:s=[]
 ·subst hs
  refine (nL (G:=G) ⟨B++[pq B.length K.length []],K++nN []⟩ B.length _ (by simp [pq];rfl)).mono ?_
  rintro o s' ⟨rfl,rfl⟩
  exact ⟨rfl,by simp [nN,XO]⟩
 ·refine (ku (G:=G) ⟨B++[pq B.length K.length s],K++nN s⟩ B.length K.length _ s (by simp [pq,hs];rfl) (by simp [nN,hs]) hs).mono ?_
  rintro o s' ⟨rfl,rfl⟩
  exact ⟨rfl,by simp [nN,XO,hs]⟩
theorem MX (g:GA G) (l:List Bk) (h:gF l) (hb:dD.dL l≤1099511627776):b8 G 16 [vF l] (vs (CQ l)):=by
 intro st
 have h0:=h.1
 have hv:=tq (G:=G) l h
 have e0:ir.gH 1 []=[]:=rfl
 have z0:nN []=[]:=rfl
 have z1:pq (st.aj.length+1) st.toks.length []= .tc bT [.d .eX,.bh]:=rfl
 refine aa.start Tryz.func16 rfl Tryz.ntmps16 (by simp) fun _ ag=>?_
 simp -implicitDefEqProofs (disch:=omega) only [go_sem,seval,wk,↓bu,↓bw,bx,↓aq,cX ag,bC (hv _)];(repeat' first|refine cq.l ?_|refine bg.i ?_ ?_|refine cE.i fun hc=>?_|refine aQ.i ⟨?_,rfl⟩|refine aZ.i ?_ ?_|refine cB.o ?_);all_goals (try subst ag)
 ·rw [CQ,if_pos hc]
 have hc:fK l=0:=by omega
 rw [CQ,if_neg (by simpa using hc)]
 have c2:=CA hc
 refine AW.zU (fun i:Nat=>[(3,.ptr (st.aj.length+1) 0),(10,vu l),(11,ai ↑l.length),(12,ai ↑i)]) (fun i=>[.cells [vu l],pq (st.aj.length+1) st.toks.length (ir.gH 1 (l.take i))]) (fun i=>nN (ir.gH 1 (l.take i))) (fun i=>i≤l.length) (fun i=>l.length - i) 0 (by simp -implicitDefEqProofs (disch:=omega) only [go_sem,seval,e0,z0,z1]<;>omega) (by simp) ?_
 intro i hi
 have b1:=nw 1 (l.take i) fun x hx=>pe x (h.2 x (List.mem_of_mem_take hx)) _ (fj c2 x (List.mem_of_mem_take hx))
 have b2:=nu l i
 have b3:=nu l (i+1)
 by_cases hil:i<l.length
 ·have b5:=qO hil
  have hm:=aB hil
  have b6:=pe _ (h.2 _ hm) _ (fj c2 _ hm)
  have hz:=fun L=>MV g (l.getD i default) (h.2 _ hm) 1 (by omega) (fj c2 _ hm) (st.aj++[.cells [vu l]]) L st.toks (ir.gH 1 (l.take i)) (by omega)
  simp only [List.length_append,List.length_cons,List.length_nil,List.append_assoc,List.cons_append,List.nil_append,Nat.zero_add,show ((1:Nat):Int)=1 from rfl] at hz
  refine Wk.go fun _ ag=>?_;simp -implicitDefEqProofs (disch:=first|omega|exact ⟨by kernel_rfl⟩|(simp only [go_sem,List.length_take];try omega)) only [go_sem,seval,wk,↓bu,↓bw,bx,↓aq,cX ag,wd,Ck (hz _)];(repeat' first|refine cq.l ?_|refine bg.i ?_ ?_|refine cE.i fun hc=>?_|refine aQ.i ⟨?_,rfl⟩|refine aZ.i ?_ ?_|refine cB.o ?_);all_goals (try subst ag)
  refine cB.i ⟨i+1,⟨by simp -implicitDefEqProofs (disch:=omega) only [go_sem,seval,tC _ hil,lO,xJ,List.take_length_add_append]<;>omega,?_,?_⟩⟩
  ·omega
  ·omega
 ·have hs:=MW (G:=G) (st.aj++[.cells [vu l]]) st.toks (ir.gH 1 (l.take i))
  simp only [List.length_append,List.length_cons,List.length_nil,List.append_assoc,List.cons_append,List.nil_append,Nat.zero_add] at hs
  refine Wk.go fun _ ag=>?_;simp -implicitDefEqProofs (disch:=first|omega|exact ⟨by kernel_rfl⟩|(simp only [go_sem,List.length_take];try omega)) only [go_sem,seval,wk,↓bu,↓bw,bx,↓aq,cX ag,wd,Ck hs];(repeat' first|refine cq.l ?_|refine bg.i ?_ ?_|refine cE.i fun hc=>?_|refine aQ.i ⟨?_,rfl⟩|refine aZ.i ?_ ?_|refine cB.o ?_);all_goals (try subst ag)
  rw [List.take_of_length_le (by omega)]
def XP:az:=[106,111,98,32,34,97,34,32,123,10,110,101,101,100,115,32,61,32,91,98,93,10,120,32,123,10,125,10,125]
def XQ:az:=[106,111,98,32,123,125]
def XR:az:=[106,111,98,32,123,10,120,32,61,32,49,10,120,32,61,32,50,10,125]
def Yv:az:=[106,111,98,32,34,97,34,32,123,10,32,32,110,101,101,100,115,32,61,32,91,98,93,10,32,32,120,32,123,10,32,32,125,10,125,10]
def Uf:az:=[110,101,101,100,115]
def Ug:Ex:= .mk 9 [] ct [nm 98] []
def Ak:Bk:= .mk [106,111,98] [97] [(Uf,Ug)] [.mk [120] [] [] []]
theorem ND:tY XP= .ok [Ak]:=by kernel_rfl
theorem TN:tY XQ= .err 5 5:=by kernel_rfl
theorem TP:tY XR= .err 0 7:=by kernel_rfl
theorem XS:CQ [Ak]=Yv:=by kernel_rfl
theorem XT:fK [Ak]=0:=by kernel_rfl
theorem XU:Gs Ak Uf=some Ug:=by kernel_rfl
theorem F1:(M5 Ak [120]).length=1:=by kernel_rfl
theorem vI:Ak.kind=[106,111,98]:=rfl
theorem vJ:Ak.name=[97]:=rfl
theorem vK:Ak.attrs.length=1:=rfl
theorem vL:Ug.kind=9:=rfl
attribute [irreducible] Ak Ug
theorem JX {s:az} {l:List Bk} (h:tY s= .ok l):gF l∧dD.dL l≤1099511627776∧fK l=0∧s.length≤65536:=by
 rw [tY] at h
 split at h
 ·cases h
 ·rename_i T hT
  obtain ⟨h1,h2,h3⟩:=qb hT
  split at h
  ·cases h
  ·rename_i l' hl
   split at h
   ·cases h
   ·rename_i hv
    cases h
    obtain ⟨h4,h5⟩:=xH h1 h2 hl
    exact ⟨h4,h5,by simpa using hv,h3⟩
theorem JY (g:GA G):b8 G 9 [] (vb true):=by
 intro st
 have p1:=pn g XP (by decide)
 have p2:=pn g XQ (by decide)
 have p3:=pn g XR (by decide)
 obtain ⟨g1,b1,_,_⟩:=JX ND
 have q1:=MX g [Ak] g1 b1
 have q2:=tq (G:=G) [Ak] g1
 have q3:=MP (G:=G) Ak (g1.2 Ak (by simp)) Uf
 have q4:=FX (G:=G) Ak (g1.2 Ak (by simp)) [120]
 rw [ND] at p1
 rw [TN] at p2
 rw [TP] at p3
 rw [XS] at q1
 rw [XT] at q2
 rw [XU] at q3
 simp only [TK,XN] at p1 p2 p3 q3
 simp only [XP,XQ,XR,Yv,Uf] at p1 p2 p3 q1 q3
 refine aa.start Tryz.func9 rfl Tryz.ntmps9 (by simp) fun _ ag=>?_
 simp -implicitDefEqProofs (disch:=first|omega|exact ⟨by kernel_rfl⟩|(simp only [go_sem,List.length_take];try omega)) only [go_sem,seval,wk,↓bu,↓bw,bx,↓aq,cX ag,wd,List.cons_append,List.nil_append,List.append_assoc,bC (p1 _),bC (q3 _),ne_eq,eq_self,not_true_eq_false,not_false_eq_true,vI,vJ,vK,vL,F1];(repeat' first|refine cq.l ?_|refine bg.i ?_ ?_|refine cE.i fun hc=>?_|refine aQ.i ⟨?_,rfl⟩|refine aZ.i ?_ ?_|refine cB.o ?_)
 refine (bC (p2 _)).mpr (cq.l ?_)
 simp -implicitDefEqProofs (disch:=first|omega|exact ⟨by kernel_rfl⟩|(simp only [go_sem,List.length_take];try omega)) only [go_sem,seval,wk,↓bu,↓bw,bx,↓aq,cX ag,wd,List.cons_append,List.nil_append,List.append_assoc,ne_eq,eq_self,not_true_eq_false,not_false_eq_true,vI,vJ,vK,vL,F1];(repeat' first|refine cq.l ?_|refine bg.i ?_ ?_|refine cE.i fun hc=>?_|refine aQ.i ⟨?_,rfl⟩|refine aZ.i ?_ ?_|refine cB.o ?_)
 refine (bC (p3 _)).mpr (cq.l ?_)
 simp (config := { maxSteps := 1000000 }) -implicitDefEqProofs (disch:=first|omega|exact ⟨by kernel_rfl⟩|(simp only [go_sem,List.length_take];try omega)) only [go_sem,seval,wk,↓bu,↓bw,bx,↓aq,cX ag,wd,List.cons_append,List.nil_append,List.append_assoc,ne_eq,eq_self,not_true_eq_false,not_false_eq_true,vI,vJ,vK,vL,F1];(repeat' first|refine cq.l ?_|refine bg.i ?_ ?_|refine cE.i fun hc=>?_|refine aQ.i ⟨?_,rfl⟩|refine aZ.i ?_ ?_|refine cB.o ?_)
 refine (bC (q4 _)).mpr (cq.l ?_)
 simp (config := { maxSteps := 1000000 }) -implicitDefEqProofs (disch:=first|omega|exact ⟨by kernel_rfl⟩|(simp only [go_sem,List.length_take];try omega)) only [go_sem,seval,wk,↓bu,↓bw,bx,↓aq,cX ag,wd,ne_eq,eq_self,not_true_eq_false,not_false_eq_true,vI,vJ,vK,vL,F1,List.length_map];(repeat' first|refine cq.l ?_|refine bg.i ?_ ?_|refine cE.i fun hc=>?_|refine aQ.i ⟨?_,rfl⟩|refine aZ.i ?_ ?_|refine cB.o ?_)
 have q1:b8 G 16 [.agg [.d (.sl [Ak.enc])]] _:=q1
 have q2:b8 G 14 [.agg [.d (.sl [Ak.enc])]] _:=q2
 refine (bC (q1 _)).mpr (cq.l ?_)
 simp (config := { maxSteps := 1000000 }) -implicitDefEqProofs (disch:=first|omega|exact ⟨by kernel_rfl⟩|(simp only [go_sem,List.length_take];try omega)) only [go_sem,seval,wk,↓bu,↓bw,bx,↓aq,cX ag,wd,ne_eq,eq_self,not_true_eq_false,not_false_eq_true,vI,vJ,vK,vL,F1];(repeat' first|refine cq.l ?_|refine bg.i ?_ ?_|refine cE.i fun hc=>?_|refine aQ.i ⟨?_,rfl⟩|refine aZ.i ?_ ?_|refine cB.o ?_)
 refine (bC (q2 _)).mpr (cq.l ?_)
 simp (config := { maxSteps := 1000000 }) -implicitDefEqProofs (disch:=first|omega|exact ⟨by kernel_rfl⟩|(simp only [go_sem,List.length_take];try omega)) only [go_sem,seval,wk,↓bu,↓bw,bx,↓aq,cX ag,wd,ne_eq,eq_self,not_true_eq_false,not_false_eq_true,vI,vJ,vK,vL,F1];(repeat' first|refine cq.l ?_|refine bg.i ?_ ?_|refine cE.i fun hc=>?_|refine aQ.i ⟨?_,rfl⟩|refine aZ.i ?_ ?_|refine cB.o ?_);all_goals (try subst ag)
 rfl
theorem JZ (b:Bk):ye b b=true:=by
 induction b using Bk.ind with
 |_ b ih=>exact (DE b b).2 ⟨rfl,rfl,rfl,fun i _=>⟨rfl,Ju _⟩,(tB _ _).2 ⟨rfl,fun i hi=>ih _ (aB hi)⟩⟩
theorem F2 (l:List Bk):ye.rQ l l=true:=by
 induction l with
 |nil=>rfl
 |cons x r ih=>simp only [ye.rQ,JZ,ih,Bool.and_self]
theorem Al (g:GA G) (s:az):b8 G 3 [vs s] (vb true):=by
 intro st
 have q5:=JY g
 by_cases hs:s.length≤3000
 ·have p1:=pn g s (by omega)
  have p2:=JW (G:=G) s (by omega)
  cases h:tY s with
  |ok l=>
   rw [h] at p1 p2
   obtain ⟨hl,_,_,_⟩:=JX h
   have q:=xE (G:=G) l l hl.1 hl.1 fun x hx y hy=>Af x y (hl.2 x hx) (hl.2 y hy)
   rw [F2] at q
   simp only [TK] at p1 p2
   refine aa.start Tryz.func3 rfl Tryz.ntmps3 (by simp) fun _ ag=>?_
   simp -implicitDefEqProofs (disch:=first|exact ⟨by kernel_rfl⟩|omega) only [go_sem,seval,wk,↓bu,↓bw,bx,↓aq,cX ag,wd,bC (p1 _),bC (p2 _),bC (q _),bC (q5 _),ne_eq,eq_self,not_true_eq_false,not_false_eq_true];(repeat' first|refine cq.l ?_|refine bg.i ?_ ?_|refine cE.i fun hc=>?_|refine aQ.i ⟨?_,rfl⟩|refine aZ.i ?_ ?_|refine cB.o ?_);all_goals (try subst ag)
   all_goals rfl
  |err a c=>
   rw [h] at p1 p2
   have q:=xE (G:=G) [] [] (by simp) (by simp) fun x hx=>by cases hx
   have q:b8 G 12 [.d (.sl []),.d (.sl [])] (vb true):=q
   simp only [TK] at p1 p2
   refine aa.start Tryz.func3 rfl Tryz.ntmps3 (by simp) fun _ ag=>?_
   simp -implicitDefEqProofs (disch:=first|exact ⟨by kernel_rfl⟩|omega) only [go_sem,seval,wk,↓bu,↓bw,bx,↓aq,cX ag,wd,bC (p1 _),bC (p2 _),bC (q _),bC (q5 _),ne_eq,eq_self,not_true_eq_false,not_false_eq_true];(repeat' first|refine cq.l ?_|refine bg.i ?_ ?_|refine cE.i fun hc=>?_|refine aQ.i ⟨?_,rfl⟩|refine aZ.i ?_ ?_|refine cB.o ?_);all_goals (try subst ag)
   all_goals rfl
 ·refine aa.start Tryz.func3 rfl Tryz.ntmps3 (by simp) fun _ ag=>?_
  simp -implicitDefEqProofs (disch:=first|exact ⟨by kernel_rfl⟩|omega) only [go_sem,seval,wk,↓bu,↓bw,bx,↓aq,cX ag,wd,bC (q5 _)];(repeat' first|refine cq.l ?_|refine bg.i ?_ ?_|refine cE.i fun hc=>?_|refine aQ.i ⟨?_,rfl⟩|refine aZ.i ?_ ?_|refine cB.o ?_);all_goals (try subst ag)
  all_goals rfl
end Go.Proofs.YthnoiikjfcnlhaaGreatDoor
