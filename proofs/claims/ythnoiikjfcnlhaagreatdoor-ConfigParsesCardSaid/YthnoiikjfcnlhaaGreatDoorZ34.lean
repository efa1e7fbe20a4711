/- A step of the proofs of the seat's theorems. -/
import Derived.Test.YthnoiikjfcnlhaaGreatDoorZ2
import Derived.Test.YthnoiikjfcnlhaaGreatDoorZ31
import Derived.Test.YthnoiikjfcnlhaaGreatDoorZ32
import Derived.Test.YthnoiikjfcnlhaaGreatDoorZ33
set_option linter.unusedSimpArgs false
set_option linter.unusedVariables false
section
set_option maxHeartbeats 8000000
set_option maxRecDepth 20000
namespace Go.Proofs.YthnoiikjfcnlhaaGreatDoor
open Go.Abs
attribute [local irreducible] AW OX cG GQ bK bO bz aY aa
variable {G:World→Nat→Prop}
abbrev Qm (k n:az) (q:Nat) (a:List (az×Ex)) (l:List Bk):aJ:= .cells [vs k,vs n,.own q (a.map kV),.own (q+1) (l.map Bk.enc)]
abbrev Ay (a:List (az×Ex)) (l:List Bk):List (Nat×Nat×Nat):=[(69,11,a.length),(40,4,l.length)]
abbrev Cs (B L L2:List aJ) (K:List (Nat×Nat×Nat)) (T:List Tk) (i:Nat) (k n:az) (a:List (az×Ex)) (l:List Bk):St:=⟨B++bI T i::(L++Qm k n K.length a l::L2),K++Ay a l⟩
theorem FT {T:List Tk} (hT:dh T) (B L L2:List aJ) (K:List (Nat×Nat×Nat)) (i:Nat) (k n:az) (a:List (az×Ex)) (l:List Bk) (hi:i≤1048576) (hn:nameAt T i=false):
  aa Tryz.prog G 104 [.ptr B.length 0,.ptr (B.length+(L.length+1)) 0] (Cs B L L2 K T i k n a l) (fun o s=>(o,s)=(.dw (o6 i (bD T i)),Cs B L L2 K T i k n a l)):=by
 simp only [nameAt,fo] at hn
 by_cases h1:i<T.length
 ·have hp:=jn (G:=G) (T.getD i default).text (hT.2 _ (aB h1))
  have hm:bD T i=5:=if_neg (by omega)
  rw [hm]
  by_cases h2:(T.getD i default).kind=1
  ·have h3:cc (T.getD i default).text=false:=by
    rw [decide_eq_true h1,decide_eq_true h2] at hn;simpa using hn
   rw [h3] at hp
   refine aa.iG Tryz.func104 rfl Tryz.ntmps104 (by simp) fun _ ag=>?_
   simp -implicitDefEqProofs (disch:=first|omega|exact ⟨by kernel_rfl⟩|(simp only [go_sem,List.length_take];try omega)) only [go_sem,seval,wk,↓bu,↓bw,bx,↓aq,cX ag,wr,Gc,bC (hp _),h2];(repeat' first|refine cq.l ?_|refine bg.i ?_ ?_|refine cE.i fun hc=>?_|refine aQ.i ⟨?_,rfl⟩|refine aZ.i ?_ ?_|refine cB.o ?_|refine dU.i ?_|refine aQ.i ?_|refine fB.i fun j=>?_);all_goals (try subst ag)
   all_goals rfl
  ·refine aa.iG Tryz.func104 rfl Tryz.ntmps104 (by simp) fun _ ag=>?_
   simp -implicitDefEqProofs (disch:=first|omega|exact ⟨by kernel_rfl⟩|(simp only [go_sem,List.length_take];try omega)) only [go_sem,seval,wk,↓bu,↓bw,bx,↓aq,cX ag,wr,Gc,bC (hp _),h2];(repeat' first|refine cq.l ?_|refine bg.i ?_ ?_|refine cE.i fun hc=>?_|refine aQ.i ⟨?_,rfl⟩|refine aZ.i ?_ ?_|refine cB.o ?_|refine dU.i ?_|refine aQ.i ?_|refine fB.i fun j=>?_);all_goals (try subst ag)
   all_goals rfl
 ·have hm:bD T i=4:=if_pos (by omega)
  rw [hm]
  refine aa.iG Tryz.func104 rfl Tryz.ntmps104 (by simp) fun _ ag=>?_
  simp -implicitDefEqProofs (disch:=first|omega|exact ⟨by kernel_rfl⟩|(simp only [go_sem,List.length_take];try omega)) only [go_sem,seval,wk,↓bu,↓bw,bx,↓aq,cX ag,wr,Gc];(repeat' first|refine cq.l ?_|refine bg.i ?_ ?_|refine cE.i fun hc=>?_|refine aQ.i ⟨?_,rfl⟩|refine aZ.i ?_ ?_|refine cB.o ?_|refine dU.i ?_|refine aQ.i ?_|refine fB.i fun j=>?_);all_goals (try subst ag)
  all_goals rfl
theorem xA (T:List Tk) (i:Nat):Wt (T.drop i)≤Wt T:=by
 have:=xq (T.take i) (T.drop i)
 rw [List.take_append_drop] at this;omega
theorem TI (T:List Tk):(T.map Tk.enc).take T.length=T.map Tk.enc:=by rw [←List.map_take,List.take_length]
theorem MH (t:az) (x:Ex):dA 11 [D.str t::x.enc]=true:=DB (t,x)
theorem Ct (by_:Nat) (hby:by_≤1000) (BL:List aJ) (K:List (Nat×Nat×Nat)) (a:List (az×Ex)) (l:List Bk) (t:az) (x:Ex) (h:a.length≤1048576):
  Bt Tryz.prog (some (69,11,by_)) (some (.sl [D.str t::x.enc])) (.own K.length (a.map kV)) ⟨BL,K++Ay a l⟩=some (.own K.length ((a++[(t,x)]).map kV),⟨BL,K++Ay (a++[(t,x)]) l⟩):=by
 have hz:dy Tryz.prog 69=some 11:=by kernel_rfl
 have h1:(a.length+1)*by_≤1048577*1000:=Nat.mul_le_mul (by omega) hby
 have hm:maxLen=9223372036854775807:=by decide
 rw [mV,MH,tj,hz]
 unfold jt
 rw [if_pos ⟨rfl,by omega,rfl⟩]
 simp [Ay,kV,ff,hm]
 omega
theorem takeN {T:List Tk} {i:Nat} {x:Ex} {r:List Tk} (h:eP (T.drop i)= .ok x r):r.length≤T.length - i:=by
 have:=(ZK.1 _ _ h).length_le;simpa using this
theorem NC {T:List Tk} {i:Nat} {c:Int} {r:List Tk} (h:eP (T.drop i)= .err r c):r.length≤T.length - i:=by
 have:=(ZK.2 _ _ h).length_le;simpa using this
theorem JM {T:List Tk} (hT:dh T) (g:GA G) (hw:Wt T≤1099511627776) (B L L2:List aJ) (K:List (Nat×Nat×Nat)) (i:Nat) (k n:az) (a:List (az×Ex)) (l:List Bk) (hi:i≤1048576) (hn:nameAt T i=true)
  (he:bU T (i+1) [61]=true) {r:List Tk} {c:Int} (hx:eP (T.drop (i+2))= .err r c) (h0:c≠0):
  aa Tryz.prog G 104 [.ptr B.length 0,.ptr (B.length+(L.length+1)) 0] (Cs B L L2 K T i k n a l) (fun o s=>(o,s)=(.dw (o6 ↑(T.length - r.length) c),Cs B L L2 K T (i+2) k n a l)):=by
 have h1:i<T.length:=by simp only [nameAt,Bool.and_eq_true,decide_eq_true_eq] at hn;exact hn.1
 have h2:(T.getD i default).kind=1∧cc (T.getD i default).text=true:=by simp only [nameAt,fo,Bool.and_eq_true,decide_eq_true_eq] at hn;exact hn.2
 have hp:=jn (G:=G) (T.getD i default).text (hT.2 _ (aB h1))
 rw [h2.2] at hp
 have h3:=h2.1
 have hr:=NC hx
 have h5:=bW he
 have h6:=hT.1
 have ht:=Js g (T.drop (i+2)) (hT.xV (List.drop_suffix _ _)) (Nat.le_trans (xA _ _) hw)
 rw [hx,kO,jA,List.map_drop,List.length_drop] at ht
 refine aa.iG Tryz.func104 rfl Tryz.ntmps104 (by simp) fun _ ag=>?_
 simp -implicitDefEqProofs (disch:=first|omega|exact ⟨by kernel_rfl⟩|(simp only [go_sem,List.length_take];try omega)) only [go_sem,seval,wk,↓bu,↓bw,bx,↓aq,cX ag,wr,wd (id:=12),Gc,bC (hp _),h3,hn,he];(repeat' first|refine cq.l ?_|refine bg.i ?_ ?_|refine cE.i fun hc=>?_|refine aQ.i ⟨?_,rfl⟩|refine aZ.i ?_ ?_|refine cB.o ?_|refine dU.i ?_|refine aQ.i ?_|refine fB.i fun j=>?_);all_goals (try subst ag)
 ·exact ⟨hT,by omega⟩
 ·refine AW.NB (P:=Tryz.prog) mx 9 15 [(3,15),(7,15)] (by kernel_rfl) (by simp -implicitDefEqProofs (disch:=first|omega|(simp only [go_sem,List.length_take,List.length_drop];try omega)) only [go_sem,seval,TI];first|done|exact rfl) (by kernel_rfl) (by rfl) Tryz.call132 (by rfl) (by rfl) (by rfl) (fun st_=>ht st_) (by simp -implicitDefEqProofs (disch:=first|omega|(simp only [go_sem,List.length_take,List.length_drop];try omega)) only [go_sem,seval];first|done|exact rfl) (by rfl) (by kernel_rfl) ?_
  refine kQ fun _ ag=>?_
  simp -implicitDefEqProofs (disch:=first|omega|exact ⟨by kernel_rfl⟩|(simp only [go_sem,List.length_take];try omega)) only [go_sem,seval,wk,↓bu,↓bw,bx,↓aq,cX ag,wr,h0];(repeat' first|refine cq.l ?_|refine bg.i ?_ ?_|refine cE.i fun hc=>?_|refine aQ.i ⟨?_,rfl⟩|refine aZ.i ?_ ?_|refine cB.o ?_|refine dU.i ?_|refine aQ.i ?_|refine fB.i fun j=>?_);all_goals (try subst ag)
  rw [show i+1+1+(T.length - (i+2) - r.length)=T.length - r.length by omega]
theorem FU {T:List Tk} (hT:dh T) (g:GA G) (hw:Wt T≤1099511627776) (B L L2:List aJ) (K:List (Nat×Nat×Nat)) (i:Nat) (k n:az) (a:List (az×Ex)) (l:List Bk) (hi:i≤1048576) (hn:nameAt T i=true)
  (he:bU T (i+1) [61]=true) {r:List Tk} {x:Ex} (hx:eP (T.drop (i+2))= .ok x r) (ha:a.length≤1048576):
  aa Tryz.prog G 104 [.ptr B.length 0,.ptr (B.length+(L.length+1)) 0] (Cs B L L2 K T i k n a l) (fun o s=>o= .ret (.cF [])∧s=Cs B L L2 K T (T.length - r.length) k n (a++[((T.getD i default).text,x)]) l):=by
 have h1:i<T.length:=by simp only [nameAt,Bool.and_eq_true,decide_eq_true_eq] at hn;exact hn.1
 have h2:(T.getD i default).kind=1∧cc (T.getD i default).text=true:=by simp only [nameAt,fo,Bool.and_eq_true,decide_eq_true_eq] at hn;exact hn.2
 have hp:=jn (G:=G) (T.getD i default).text (hT.2 _ (aB h1))
 rw [h2.2] at hp
 have h3:=h2.1
 have hr:=takeN hx
 have h5:=bW he
 have h6:=hT.1
 have ht:=Js g (T.drop (i+2)) (hT.xV (List.drop_suffix _ _)) (Nat.le_trans (xA _ _) hw)
 rw [hx,kO,jA,List.map_drop,List.length_drop] at ht
 refine aa.Co Tryz.func104 rfl Tryz.ntmps104 (by simp) fun _ ag=>?_
 simp -implicitDefEqProofs (disch:=first|omega|exact ⟨by kernel_rfl⟩|(simp only [go_sem,List.length_take];try omega)) only [go_sem,seval,wk,↓bu,↓bw,bx,↓aq,cX ag,wr,wd (id:=12),Gc,bC (hp _),h3,hn,he];(repeat' first|refine cq.l ?_|refine bg.i ?_ ?_|refine cE.i fun hc=>?_|refine aQ.i ⟨?_,rfl⟩|refine aZ.i ?_ ?_|refine cB.o ?_|refine dU.i ?_|refine aQ.i ?_|refine fB.i fun j=>?_);all_goals (try subst ag)
 ·exact ⟨hT,by omega⟩
 ·refine AW.NB (P:=Tryz.prog) mx 9 15 [(3,15),(7,15)] (by kernel_rfl) (by simp -implicitDefEqProofs (disch:=first|omega|(simp only [go_sem,List.length_take,List.length_drop];try omega)) only [go_sem,seval,TI];first|done|exact rfl) (by kernel_rfl) (by rfl) Tryz.call132 (by rfl) (by rfl) (by rfl) (fun st_=>ht st_) (by simp -implicitDefEqProofs (disch:=first|omega|(simp only [go_sem,List.length_take,List.length_drop];try omega)) only [go_sem,seval];first|done|exact rfl) (by rfl) (by kernel_rfl) ?_
  refine kQ fun _ ag=>?_
  simp -implicitDefEqProofs (disch:=first|omega|exact ⟨by kernel_rfl⟩|(simp only [go_sem,List.length_take];try omega)) only [go_sem,seval,wk,↓bu,↓bw,bx,↓aq,cX ag,wr,wd (id:=12),Ct];(repeat' first|refine cq.l ?_|refine bg.i ?_ ?_|refine cE.i fun hc=>?_|refine aQ.i ⟨?_,rfl⟩|refine aZ.i ?_ ?_|refine cB.o ?_|refine dU.i ?_|refine aQ.i ?_|refine fB.i fun j=>?_);all_goals (try subst ag)
  rw [show i+1+1+(T.length - (i+2) - r.length)=T.length - r.length by omega]
  refine Tv (NA (K:=K++Ay a l) (T:=K++Ay (a++[((T.getD i default).text,x)]) l) (bI T (T.length - r.length)) (Qm k n K.length (a++[((T.getD i default).text,x)]) l) rfl ⟨⟨?_,?_,?_,?_,?_⟩,rfl,rfl,rfl⟩ ⟨rfl,rfl⟩)
  all_goals (simp only [List.take_length_add_append,go_sem,seval]<;>simp)
theorem Cu {T:List Tk} (hT:dh T) (B L L2:List aJ) (K:List (Nat×Nat×Nat)) (i:Nat) (k n:az) (a:List (az×Ex)) (l:List Bk) (hi:i≤1048576) (hn:nameAt T i=true)
  (he:bU T (i+1) [61]=false) {b:Bk} {j:Nat} (hb:∀ B L K,aa Tryz.prog G 71 [.ptr B.length 0] (rS B L K T i) (fun o s=>o= .ret (vB b)∧s=rS B L K T j)) (hl:l.length≤1048576):
  aa Tryz.prog G 104 [.ptr B.length 0,.ptr (B.length+(L.length+1)) 0] (Cs B L L2 K T i k n a l) (fun o s=>o= .ret (.cF [])∧s=Cs B L L2 K T j k n a (l++[b])):=by
 have h1:i<T.length:=by simp only [nameAt,Bool.and_eq_true,decide_eq_true_eq] at hn;exact hn.1
 have h2:(T.getD i default).kind=1∧cc (T.getD i default).text=true:=by simp only [nameAt,fo,Bool.and_eq_true,decide_eq_true_eq] at hn;exact hn.2
 have hp:=jn (G:=G) (T.getD i default).text (hT.2 _ (aB h1))
 rw [h2.2] at hp
 have h3:=h2.1
 refine aa.Co Tryz.func104 rfl Tryz.ntmps104 (by simp) fun _ ag=>?_
 simp -implicitDefEqProofs (disch:=first|omega|exact ⟨by kernel_rfl⟩|(simp only [go_sem,List.length_take];try omega)) only [go_sem,seval,wk,↓bu,↓bw,bx,↓aq,cX ag,wr,Gc,bC (hp _),h3,he];(repeat' first|refine cq.l ?_|refine bg.i ?_ ?_|refine cE.i fun hc=>?_|refine aQ.i ⟨?_,rfl⟩|refine aZ.i ?_ ?_|refine cB.o ?_|refine dU.i ?_|refine aQ.i ?_|refine fB.i fun j=>?_);all_goals (try subst ag)
 refine AW.TG (P:=Tryz.prog) (i:=K.length+1) (b:=B.length+(L.length+1)) (sz:=4) (by_:=80) (off:=3) (es:=l.map Bk.enc) (zr:=[.str [],.str [],.sl [],.sl []]) (xr:=b.enc) (cs:=[vs k,vs n,.own K.length (a.map kV),.own (K.length+1) (l.map Bk.enc)])
  (rB:=⟨B++bI T j::(L++Qm k n K.length a (l++[b])::(L2++[.cells ((T.getD i default).enc.map .d)])),K++Ay a (l++[b])⟩) mx 8 5 [5,8,10,13] [(3,6)] (by kernel_rfl) (by kernel_rfl) (by rfl) (by kernel_rfl) (by rfl) (by decide) (by simp -implicitDefEqProofs (disch:=first|omega|(simp only [go_sem,List.length_take,List.length_drop];try omega)) only [go_sem,seval];first|done|exact rfl) (by rfl) Tryz.call71 (by rfl) (by rfl) (by rfl) (hb _ _ _)
  (by simp -implicitDefEqProofs (disch:=first|omega|(simp only [go_sem,List.length_take,List.length_drop];try omega)) only [go_sem,seval];first|done|exact rfl) ?_ ?_ ?_ ?_ ?_ ?_ ?_ ?_ ?_ ?_
 ·exact fF (by decide) (by decide) rfl rfl (by simp -implicitDefEqProofs (disch:=first|omega|(simp only [go_sem,List.length_take,List.length_drop];try omega)) only [go_sem,seval]) iz
 ·refine ⟨?_,?_,?_,?_,?_⟩
  all_goals simp -implicitDefEqProofs (disch:=first|omega|(simp only [go_sem,List.length_take,List.length_drop];try omega)) only [go_sem,seval,List.length_map]
 ·exact ⟨by simp -implicitDefEqProofs (disch:=first|omega|(simp only [go_sem,List.length_take,List.length_drop];try omega)) only [go_sem,seval],by kernel_rfl,by kernel_rfl,by simp -implicitDefEqProofs (disch:=first|omega|(simp only [go_sem,List.length_take,List.length_drop];try omega)) only [go_sem,seval]⟩
 ·exact ⟨rfl,o7 b,lJ l⟩
 ·simp [Ay,List.getElem?_append_right]
 ·have hm:maxLen=9223372036854775807:=by decide
  simp only [List.length_map,ff,hm];omega
 ·simp -implicitDefEqProofs (disch:=first|omega|(simp only [go_sem,List.length_take,List.length_drop];try omega)) only [go_sem,seval]
 ·simp
 ·simp -implicitDefEqProofs (disch:=first|omega|(simp only [go_sem,List.length_take,List.length_drop];try omega)) only [go_sem,seval,dY,splice]
  simp [Ay,List.set_append_right]
 ·refine kQ fun _ ag=>?_
  simp -implicitDefEqProofs (disch:=first|omega|exact ⟨by kernel_rfl⟩|(simp only [go_sem,List.length_take];try omega)) only [go_sem,seval,wk,↓bu,↓bw,bx,↓aq,cX ag];(repeat' first|refine cq.l ?_|refine bg.i ?_ ?_|refine cE.i fun hc=>?_|refine aQ.i ⟨?_,rfl⟩|refine aZ.i ?_ ?_|refine cB.o ?_);all_goals (try subst ag)
  refine NA (K:=K++Ay a l) (T:=K++Ay a (l++[b])) (bI T j) (Qm k n K.length a (l++[b])) rfl ⟨⟨?_,?_,?_,?_,?_⟩,rfl,rfl,rfl⟩ ⟨rfl,rfl⟩
  all_goals (simp only [List.take_length_add_append,go_sem,seval]<;>simp)
theorem z8 {T:List Tk} (hT:dh T) (B L L2:List aJ) (K:List (Nat×Nat×Nat)) (i:Nat) (k n:az) (a:List (az×Ex)) (l:List Bk) (hi:i≤1048576) (hn:nameAt T i=true)
  (he:bU T (i+1) [61]=false) {p:Int} {c:Int} (hb:∀ B L K,aa Tryz.prog G 71 [.ptr B.length 0] (rS B L K T i) (fun o s=>∃ j,o= .dw (o6 p c)∧s=rS B L K T j)) (hl:l.length≤1048576):
  aa Tryz.prog G 104 [.ptr B.length 0,.ptr (B.length+(L.length+1)) 0] (Cs B L L2 K T i k n a l) (fun o s=>∃ j,o= .dw (o6 p c)∧s=Cs B L L2 K T j k n a l):=by
 have h1:i<T.length:=by simp only [nameAt,Bool.and_eq_true,decide_eq_true_eq] at hn;exact hn.1
 have h2:(T.getD i default).kind=1∧cc (T.getD i default).text=true:=by simp only [nameAt,fo,Bool.and_eq_true,decide_eq_true_eq] at hn;exact hn.2
 have hp:=jn (G:=G) (T.getD i default).text (hT.2 _ (aB h1))
 rw [h2.2] at hp
 have h3:=h2.1
 refine aa.iG Tryz.func104 rfl Tryz.ntmps104 (by simp) fun _ ag=>?_
 simp -implicitDefEqProofs (disch:=first|omega|exact ⟨by kernel_rfl⟩|(simp only [go_sem,List.length_take];try omega)) only [go_sem,seval,wk,↓bu,↓bw,bx,↓aq,cX ag,wr,Gc,bC (hp _),h3,he];(repeat' first|refine cq.l ?_|refine bg.i ?_ ?_|refine cE.i fun hc=>?_|refine aQ.i ⟨?_,rfl⟩|refine aZ.i ?_ ?_|refine cB.o ?_|refine dU.i ?_|refine aQ.i ?_|refine fB.i fun j=>?_);all_goals (try subst ag)
 refine AW.Nh (P:=Tryz.prog) mx 5 [(3,6)] 2 (by kernel_rfl) (by kernel_rfl) (by simp -implicitDefEqProofs (disch:=first|omega|(simp only [go_sem,List.length_take,List.length_drop];try omega)) only [go_sem,seval];first|done|exact rfl) (by kernel_rfl) Tryz.call71 (by rfl) (by rfl) (by simp -implicitDefEqProofs (disch:=first|omega|(simp only [go_sem,List.length_take,List.length_drop];try omega)) only [go_sem,seval];first|done|exact rfl) ((hb _ _ _).mono (fun o s ⟨j,e1,e2⟩=>⟨e1,(⟨j,e2⟩:∃ j,s=_)⟩)) (fun fr_ s_ hz=>?_)
 obtain ⟨j,rfl⟩:=hz
 simp only [bz]
 refine qd ?_
 simp -implicitDefEqProofs (disch:=first|omega|(simp only [go_sem,List.length_take,List.length_drop];try omega)) only [go_sem,seval]
 refine dU.i ?_
 exact ⟨j,rfl,rfl⟩
end Go.Proofs.YthnoiikjfcnlhaaGreatDoor
end
section
namespace Go.Proofs.YthnoiikjfcnlhaaGreatDoor
theorem gO {T:List Tk} {i:Nat} (h:¬ i<T.length):T.drop i=[]:=List.drop_of_length_le (by omega)
theorem iH {T:List Tk} {i:Nat} (h:i<T.length):T.drop i=T.getD i default::T.drop (i+1):=by
 rw [List.drop_eq_getElem_cons h];simp [h]
theorem kR {T:List Tk} {i:Nat} (h:i≤T.length):T.length - (T.drop i).length=i:=by rw [List.length_drop];omega
theorem vw (p:Tk→Bool) (k:List Tk→Option RB) (T:List Tk) (i:Nat):gi p k (T.drop i)=if (decide (i<T.length)&&p (T.getD i default))=true then k (T.drop (i+1)) else some (.err (T.drop i) (bD T i)):=by
 by_cases h:i<T.length
 ·have e:bD T i=5:=if_neg (by omega)
  rw [e,iH h,gi,decide_eq_true h,Bool.true_and]
 ·have e:bD T i=4:=if_pos (by omega)
  rw [e,gO h,gi,decide_eq_false h,Bool.false_and,if_neg (by simp)]
def gw (T:List Tk) (j:Nat):az×Nat:=if j<T.length∧(T.getD j default).kind=3∧(T.getD j default).text≠[] then ((T.getD j default).text,j+1) else ([],j)
theorem Cv (T:List Tk) (j:Nat):kB (T.drop j)=((gw T j).1,T.drop (gw T j).2):=by
 unfold gw
 by_cases h:j<T.length
 ·rw [iH h,kB]
  by_cases h2:(T.getD j default).kind=3∧(T.getD j default).text≠[]
  ·rw [if_pos h2,if_pos ⟨h,h2⟩]
  ·rw [if_neg h2,if_neg (fun h3=>h2 h3.2),iH h]
 ·rw [gO h,kB,if_neg (fun h3=>h h3.1),gO h]
theorem Aa (f:Nat) (T:List Tk) (i:Nat):bF (f+1) .block (T.drop i)=if nameAt T i=true then (if bU T (gw T (i+1)).2 [123]=true then (if cP T ((gw T (i+1)).2+1)=true then
   bF f (.items (T.getD i default).text (gw T (i+1)).1 [] []) (T.drop ((gw T (i+1)).2+2)) else some (.err (T.drop ((gw T (i+1)).2+1)) (bD T ((gw T (i+1)).2+1)))) else some (.err (T.drop (gw T (i+1)).2) (bD T (gw T (i+1)).2)))
  else some (.err (T.drop i) (bD T i)):=by
 by_cases h:i<T.length
 ·rw [iH h,bF,Cv,nameAt,decide_eq_true h,Bool.true_and]
  simp only [vw]
  have e:bD T i=5:=if_neg (by omega)
  rw [e]
  rfl
 ·have e:bD T i=4:=if_pos (by omega)
  rw [e,gO h,bF,nameAt,decide_eq_false h,Bool.false_and,if_neg (by simp)]
theorem Ab (f:Nat) (T:List Tk) (i:Nat) (k n:az) (a:List (az×Ex)) (l:List Bk):bF (f+1) (.items k n a l) (T.drop i)=if bU T i [125]=true then some (.ok (.mk k n a l) (T.drop (i+1))) else if nameAt T i=false then some (.err (T.drop i) (bD T i))
  else if bU T (i+1) [61]=true then (match eP (T.drop (i+2)) with
   | .ok x r3=>gi iu (fun r4=>bF f (.items k n (a++[((T.getD i default).text,x)]) l) r4) r3
   | .err r3 c=>some (.err r3 c))
  else (match bF f .block (T.drop i) with
   |some (.ok b r3)=>gi iu (fun r4=>bF f (.items k n a (l++[b])) r4) r3
   |y=>y):=by
 by_cases h:i<T.length
 ·have e1:bU T i [125]=cg [125] (T.getD i default):=by rw [bU,decide_eq_true h,Bool.true_and]
  have e2:nameAt T i=fo (T.getD i default):=by rw [nameAt,decide_eq_true h,Bool.true_and]
  have e3:bD T i=5:=if_neg (by omega)
  rw [e1,e2,e3,iH h]
  conv=>lhs;simp only [bF]
  by_cases h2:i+1<T.length
  ·have e4:bU T (i+1) [61]=cg [61] (T.getD (i+1) default):=by rw [bU,decide_eq_true h2,Bool.true_and]
   rw [e4,iH h2]
   rfl
  ·have e4:bU T (i+1) [61]=false:=by rw [bU,decide_eq_false h2,Bool.false_and]
   rw [e4,gO h2]
   simp only [Bool.false_eq_true,if_false]
   rfl
 ·have e:bD T i=4:=if_pos (by omega)
  rw [e,gO h,bU,nameAt,decide_eq_false h,Bool.false_and,Bool.false_and,if_neg (by simp),if_pos rfl]
  simp only [bF]
theorem nr (k:List Tk→Option RB) (T:List Tk) (i:Nat):gi iu k (T.drop i)=if cP T i=true then k (T.drop (i+1)) else some (.err (T.drop i) (bD T i)):=vw ..
theorem tu {T r:List Tk} {c:Int} (h:eP T= .err r c):c≠0:=by
 obtain ⟨x,hx⟩:=jL T
 rw [eP,hx] at h
 cases x with
 |ok e r1=>
  simp only at h
  split at h
  ·cases h;assumption
  ·cases h
 |err r1 c1=>
  cases h
  have:=fJ hx
  omega
end Go.Proofs.YthnoiikjfcnlhaaGreatDoor
end
section
set_option maxHeartbeats 8000000
set_option maxRecDepth 20000
namespace Go.Proofs.YthnoiikjfcnlhaaGreatDoor
open Go.Abs
attribute [local irreducible] AW OX cG GQ bK bO bz aY aa
variable {G:World→Nat→Prop}
def Ue (B L:List aJ) (K:List (Nat×Nat×Nat)) (T:List Tk):RB→Out→St→Prop
 | .ok b rest,o,s=>o= .ret (vB b)∧s=rS B L K T (T.length - rest.length)
 | .err rest c,o,s=>∃ j,o= .dw (o6 ↑(T.length - rest.length) c)∧s=rS B L K T j
theorem lN {B L:List aJ} {K:List (Nat×Nat×Nat)} {T:List Tk} {i:Nat} {c:Int} (j:Nat) (h:i≤T.length):Ue B L K T (.err (T.drop i) c) (.dw (o6 ↑i c)) (rS B L K T j):=⟨j,by rw [kR h],rfl⟩
structure Yt where
 i:Nat
 a:List (az×Ex)
 l:List Bk
 f:Nat
theorem JN {T:List Tk} (hT:dh T) (g:GA G) (hw:Wt T≤1099511627776) (f:Nat) (ih:∀ f',f'<f+1→∀ i r,i≤T.length→bF f' .block (T.drop i)=some r→∀ B L K,aa Tryz.prog G 71 [.ptr B.length 0] (rS B L K T i) (Ue B L K T r))
  (i:Nat) (r:RB) (hi:i≤T.length) (hr:bF (f+1) .block (T.drop i)=some r) (B L:List aJ) (K:List (Nat×Nat×Nat)):
  aa Tryz.prog G 71 [.ptr B.length 0] (rS B L K T i) (Ue B L K T r):=by
 have h6:=hT.1
 rw [Aa] at hr
 by_cases hn:nameAt T i=true
 ·rw [if_pos hn] at hr
  have h1:i<T.length:=by simp only [nameAt,Bool.and_eq_true,decide_eq_true_eq] at hn;exact hn.1
  have hp:dh T∧i≤2000000:=⟨hT,by omega⟩
  by_cases h2:i+1<T.length
  ·have hN:((T.getD (i+1) default).kind=3)=True∧((T.getD (i+1) default).text=[])=False∧gw T (i+1)=((T.getD (i+1) default).text,i+1+1)∨((T.getD (i+1) default).kind=3)=False∧((1=1)=True)∧gw T (i+1)=([],i+1)∨
     ((T.getD (i+1) default).kind=3)=True∧((T.getD (i+1) default).text=[])=True∧gw T (i+1)=([],i+1):=by
    unfold gw
    generalize T.getD (i+1) default=t
    by_cases k1:t.kind=3<;>by_cases k2:t.text=[]<;>simp [k1,k2,h2]
   generalize gw T (i+1)=z at hr hN
   obtain ⟨nm,q⟩:=z
   simp only [Prod.mk.injEq] at hr hN
   have hq:q≤T.length∧i<q:=by omega
   by_cases ho:bU T q [123]=true
   ·have h3:=bW ho
    rw [if_pos ho] at hr
    by_cases hl:cP T (q+1)=true
    ·rw [if_pos hl] at hr
     have h4:q+1<T.length:=by simp only [cP,Bool.and_eq_true,decide_eq_true_eq] at hl;exact hl.1
     rcases hN with ⟨k1,k2,hnm,rfl⟩|⟨k1,k2,hnm,rfl⟩|⟨k1,k2,hnm,rfl⟩<;>
     ·refine aa.iG Tryz.func71 rfl Tryz.ntmps71 (by simp) fun _ ag=>?_
      simp -implicitDefEqProofs (disch:=first|omega|exact ⟨by kernel_rfl⟩|(simp only [go_sem,List.length_take];try omega)) only [go_sem,seval,wk,↓bu,↓bw,bx,↓aq,cX ag,wr,hn,k1,k2,ho,hl,Gc,ne_eq,not_true_eq_false,not_false_eq_true];(repeat' first|refine cq.l ?_|refine bg.i ?_ ?_|refine cE.i fun hc=>?_|refine aQ.i ⟨?_,rfl⟩|refine aZ.i ?_ ?_|refine cB.o ?_|refine dU.i ?_|refine aQ.i ?_|refine fB.i fun j=>?_);all_goals (try subst ag)
      refine AW.P5 69 11 40 4 (by decide) (by decide) ?_
      refine AW.T5 (B:=B) (L:=L) (K:=K) (z0:=bI T i) rfl (fun x:Yt=>[(0,.ptr B.length 0),(2,.ptr (B.length+(L.length+1)) 0),(3,.ptr (B.length+(L.length+1+1)) 0)]) (fun x=>bI T x.i)
       (fun x=>[.cells [.d (.str []),.d (.str []),.bh,.bh],Qm (T.getD i default).text nm K.length x.a x.l,.cells ((T.getD (i+1) default).enc.map .d)]) (fun x=>K++Ay x.a x.l)
       (fun x=>bF x.f (.items (T.getD i default).text nm x.a x.l) (T.drop x.i)=some r∧x.i≤T.length∧x.a.length+x.l.length≤x.i∧x.f<f+1) (fun x=>x.f) ⟨_,[],[],f⟩ ?_ ⟨hr,by dsimp only;omega,by simp,by dsimp only;omega⟩ ?_
      ·simp -implicitDefEqProofs (disch:=first|omega|(simp only [go_sem,List.length_take,List.length_drop];try omega)) only [go_sem,seval,hnm]
       rfl
      ·rintro ⟨j,a,l,f'⟩ ⟨hx,x1,x2,x3⟩
       simp only at hx x1 x2 x3
       cases f' with
       |zero=>simp [bF] at hx
       |succ f'=>
       rw [Ab] at hx
       have x4:j≤1048576:=by omega
       by_cases he:bU T j [125]=true
       ·have x5:=bW he
        rw [if_pos he] at hx
        cases hx
        refine Wk.go fun _ ag=>?_;simp -implicitDefEqProofs (disch:=first|omega|exact ⟨by kernel_rfl⟩|(simp only [go_sem,List.length_take];try omega)) only [go_sem,seval,wk,↓bu,↓bw,bx,↓aq,cX ag,wr,he];(repeat' first|refine cq.l ?_|refine bg.i ?_ ?_|refine cE.i fun hc=>?_|refine aQ.i ⟨?_,rfl⟩|refine aZ.i ?_ ?_|refine cB.o ?_|refine dU.i ?_|refine aQ.i ?_|refine fB.i fun j=>?_);all_goals (try subst ag)
        exact ⟨by simp [vB,Bk.aP,Bk.kind,Bk.name,Bk.attrs,Bk.blocks],by rw [kR (by omega)]⟩
       rw [if_neg he] at hx
       have he':bU T j [125]=false:=by simpa using he
       by_cases h8:nameAt T j=true
       ·rw [if_neg (by simp [h8])] at hx
        by_cases h9:bU T (j+1) [61]=true
        ·rw [if_pos h9] at hx
         cases ht:eP (T.drop (j+2)) with
         |ok y r3=>
          rw [ht] at hx
          simp only at hx
          have e3:=ij ((ZK.1 _ _ ht).trans (List.drop_suffix _ _))
          have e4:=takeN ht
          have x6:=bW h9
          have A:=fun (z t:aJ)=>FU (G:=G) hT g hw B (L++[z]) [t] K j (T.getD i default).text nm a l x4 h8 h9 ht (by omega)
          simp only [Cs,List.append_assoc,List.cons_append,List.nil_append,List.length_append,List.length_cons,List.length_nil,Nat.zero_add] at A
          have e5:j+2≤T.length - r3.length∧T.length - r3.length≤T.length:=by omega
          generalize T.length - r3.length=p at e3 e5 A
          subst e3
          rw [nr] at hx
          by_cases h10:cP T p=true
          ·rw [if_pos h10] at hx
           have x7:p<T.length:=by simp only [cP,Bool.and_eq_true,decide_eq_true_eq] at h10;exact h10.1
           refine Wk.go fun _ ag=>?_;simp -implicitDefEqProofs (disch:=first|omega|exact ⟨by kernel_rfl⟩|(simp only [go_sem,List.length_take];try omega)) only [go_sem,seval,wk,↓bu,↓bw,bx,↓aq,cX ag,wr,he',Ck (A _ _),h10];(repeat' first|refine cq.l ?_|refine bg.i ?_ ?_|refine cE.i fun hc=>?_|refine aQ.i ⟨?_,rfl⟩|refine aZ.i ?_ ?_|refine cB.o ?_|refine dU.i ?_|refine aQ.i ?_|refine fB.i fun j=>?_);all_goals (try subst ag)
           refine cB.i ⟨⟨p+1,a++[((T.getD j default).text,y)],l,f'⟩,⟨by simp -implicitDefEqProofs (disch:=first|omega|(simp only [go_sem,List.length_take,List.length_drop];try omega)) only [go_sem,seval,List.take_length_add_append,Bool.and_eq_true];exact ⟨by simp,by omega,⟨by omega,by omega,by omega⟩,by omega⟩,⟨hx,by dsimp only;omega,by simp;omega,by dsimp only;omega⟩,Nat.lt_succ_self _⟩⟩
          ·rw [if_neg h10] at hx
           cases hx
           refine Wk.go fun _ ag=>?_;simp -implicitDefEqProofs (disch:=first|omega|exact ⟨by kernel_rfl⟩|(simp only [go_sem,List.length_take];try omega)) only [go_sem,seval,wk,↓bu,↓bw,bx,↓aq,cX ag,wr,he',Ck (A _ _),h10];(repeat' first|refine cq.l ?_|refine bg.i ?_ ?_|refine cE.i fun hc=>?_|refine aQ.i ⟨?_,rfl⟩|refine aZ.i ?_ ?_|refine cB.o ?_|refine dU.i ?_|refine aQ.i ?_|refine fB.i fun j=>?_);all_goals (try subst ag)
           exact lN _ e5.2
         |err r3 c=>
          rw [ht] at hx
          cases hx
          have x6:=bW h9
          have A:=fun (z t:aJ)=>JM (G:=G) hT g hw B (L++[z]) [t] K j (T.getD i default).text nm a l x4 h8 h9 ht (tu ht)
          simp only [Cs,List.append_assoc,List.cons_append,List.nil_append,List.length_append,List.length_cons,List.length_nil,Nat.zero_add] at A
          refine Wk.go fun _ ag=>?_;simp -implicitDefEqProofs (disch:=first|omega|exact ⟨by kernel_rfl⟩|(simp only [go_sem,List.length_take];try omega)) only [go_sem,seval,wk,↓bu,↓bw,bx,↓aq,cX ag,wr,he',PZ (A _ _)];(repeat' first|refine cq.l ?_|refine bg.i ?_ ?_|refine cE.i fun hc=>?_|refine aQ.i ⟨?_,rfl⟩|refine aZ.i ?_ ?_|refine cB.o ?_|refine dU.i ?_|refine aQ.i ?_|refine fB.i fun j=>?_);all_goals (try subst ag)
          exact ⟨_,rfl,rfl⟩
        ·rw [if_neg h9] at hx
         have h9':bU T (j+1) [61]=false:=by simpa using h9
         have x6:j<T.length:=by simp only [nameAt,Bool.and_eq_true,decide_eq_true_eq] at h8;exact h8.1
         cases hb:bF f' .block (T.drop j) with
         |none=>rw [hb] at hx;cases hx
         |some y=>
         have C:=ih f' (by omega) j y (by omega) hb
         have e3:=ij ((mB _ _ _ _ hb).trans (List.drop_suffix _ _))
         rw [hb] at hx
         cases y with
         |ok b r3=>
          simp only at hx
          have e4:=jm hb
          rw [List.length_drop] at e4
          have A:=fun (z t:aJ)=>Cu (G:=G) hT B (L++[z]) [t] K j (T.getD i default).text nm a l x4 h8 h9' C (by omega)
          simp only [Cs,List.append_assoc,List.cons_append,List.nil_append,List.length_append,List.length_cons,List.length_nil,Nat.zero_add] at A
          have e5:j+1≤T.length - r3.length∧T.length - r3.length≤T.length:=by omega
          simp only [jT] at e3
          generalize T.length - r3.length=p at e3 e5 A
          subst e3
          rw [nr] at hx
          by_cases h10:cP T p=true
          ·rw [if_pos h10] at hx
           have x7:p<T.length:=by simp only [cP,Bool.and_eq_true,decide_eq_true_eq] at h10;exact h10.1
           refine Wk.go fun _ ag=>?_;simp -implicitDefEqProofs (disch:=first|omega|exact ⟨by kernel_rfl⟩|(simp only [go_sem,List.length_take];try omega)) only [go_sem,seval,wk,↓bu,↓bw,bx,↓aq,cX ag,wr,he',Ck (A _ _),h10];(repeat' first|refine cq.l ?_|refine bg.i ?_ ?_|refine cE.i fun hc=>?_|refine aQ.i ⟨?_,rfl⟩|refine aZ.i ?_ ?_|refine cB.o ?_|refine dU.i ?_|refine aQ.i ?_|refine fB.i fun j=>?_);all_goals (try subst ag)
           refine cB.i ⟨⟨p+1,a,l++[b],f'⟩,⟨by simp -implicitDefEqProofs (disch:=first|omega|(simp only [go_sem,List.length_take,List.length_drop];try omega)) only [go_sem,seval,List.take_length_add_append,Bool.and_eq_true];exact ⟨by simp,by omega,⟨by omega,by omega,by omega⟩,by omega⟩,⟨hx,by dsimp only;omega,by simp;omega,by dsimp only;omega⟩,Nat.lt_succ_self _⟩⟩
          ·rw [if_neg h10] at hx
           cases hx
           refine Wk.go fun _ ag=>?_;simp -implicitDefEqProofs (disch:=first|omega|exact ⟨by kernel_rfl⟩|(simp only [go_sem,List.length_take];try omega)) only [go_sem,seval,wk,↓bu,↓bw,bx,↓aq,cX ag,wr,he',Ck (A _ _),h10];(repeat' first|refine cq.l ?_|refine bg.i ?_ ?_|refine cE.i fun hc=>?_|refine aQ.i ⟨?_,rfl⟩|refine aZ.i ?_ ?_|refine cB.o ?_|refine dU.i ?_|refine aQ.i ?_|refine fB.i fun j=>?_);all_goals (try subst ag)
           exact lN _ e5.2
         |err r3 c=>
          cases hx
          have A:=fun (z t:aJ)=>z8 (G:=G) hT B (L++[z]) [t] K j (T.getD i default).text nm a l x4 h8 h9' C (by omega)
          simp only [Cs,List.append_assoc,List.cons_append,List.nil_append,List.length_append,List.length_cons,List.length_nil,Nat.zero_add] at A
          refine Wk.go fun _ ag=>?_;simp -implicitDefEqProofs (disch:=first|omega|exact ⟨by kernel_rfl⟩|(simp only [go_sem,List.length_take];try omega)) only [go_sem,seval,wk,↓bu,↓bw,bx,↓aq,cX ag,wr,he',Nz (A _ _)];(repeat' first|refine cq.l ?_|refine bg.i ?_ ?_|refine cE.i fun hc=>?_|refine aQ.i ⟨?_,rfl⟩|refine aZ.i ?_ ?_|refine cB.o ?_|refine dU.i ?_|refine aQ.i ?_|refine fB.i fun j=>?_);all_goals (try subst ag)
          exact ⟨_,rfl,rfl⟩
       ·have h8':nameAt T j=false:=by simpa using h8
        rw [if_pos h8'] at hx
        cases hx
        have A:=fun (z t:aJ)=>FT (G:=G) hT B (L++[z]) [t] K j (T.getD i default).text nm a l x4 h8'
        simp only [Cs,List.append_assoc,List.cons_append,List.nil_append,List.length_append,List.length_cons,List.length_nil,Nat.zero_add] at A
        refine Wk.go fun _ ag=>?_;simp -implicitDefEqProofs (disch:=first|omega|exact ⟨by kernel_rfl⟩|(simp only [go_sem,List.length_take];try omega)) only [go_sem,seval,wk,↓bu,↓bw,bx,↓aq,cX ag,wr,he',PZ (A _ _)];(repeat' first|refine cq.l ?_|refine bg.i ?_ ?_|refine cE.i fun hc=>?_|refine aQ.i ⟨?_,rfl⟩|refine aZ.i ?_ ?_|refine cB.o ?_|refine dU.i ?_|refine aQ.i ?_|refine fB.i fun j=>?_);all_goals (try subst ag)
        exact lN _ x1
    ·rw [if_neg hl] at hr
     cases hr
     rcases hN with ⟨k1,k2,rfl,rfl⟩|⟨k1,k2,rfl,rfl⟩|⟨k1,k2,rfl,rfl⟩<;>
     ·refine aa.iG Tryz.func71 rfl Tryz.ntmps71 (by simp) fun _ ag=>?_
      simp -implicitDefEqProofs (disch:=first|omega|exact ⟨by kernel_rfl⟩|(simp only [go_sem,List.length_take];try omega)) only [go_sem,seval,wk,↓bu,↓bw,bx,↓aq,cX ag,wr,hn,k1,k2,ho,hl,Gc,ne_eq,not_true_eq_false,not_false_eq_true];(repeat' first|refine cq.l ?_|refine bg.i ?_ ?_|refine cE.i fun hc=>?_|refine aQ.i ⟨?_,rfl⟩|refine aZ.i ?_ ?_|refine cB.o ?_|refine dU.i ?_|refine aQ.i ?_|refine fB.i fun j=>?_);all_goals (try subst ag)
      exact lN _ (by omega)
   ·rw [if_neg ho] at hr
    cases hr
    rcases hN with ⟨k1,k2,rfl,rfl⟩|⟨k1,k2,rfl,rfl⟩|⟨k1,k2,rfl,rfl⟩<;>
    ·refine aa.iG Tryz.func71 rfl Tryz.ntmps71 (by simp) fun _ ag=>?_
     simp -implicitDefEqProofs (disch:=first|omega|exact ⟨by kernel_rfl⟩|(simp only [go_sem,List.length_take];try omega)) only [go_sem,seval,wk,↓bu,↓bw,bx,↓aq,cX ag,wr,hn,k1,k2,ho,Gc,ne_eq,not_true_eq_false,not_false_eq_true];(repeat' first|refine cq.l ?_|refine bg.i ?_ ?_|refine cE.i fun hc=>?_|refine aQ.i ⟨?_,rfl⟩|refine aZ.i ?_ ?_|refine cB.o ?_|refine dU.i ?_|refine aQ.i ?_|refine fB.i fun j=>?_);all_goals (try subst ag)
     exact lN _ (by omega)
  ·have hm:gw T (i+1)=([],i+1):=if_neg (fun h=>h2 h.1)
   have ho:bU T (i+1) [123]=false:=by rw [bU,decide_eq_false h2,Bool.false_and]
   rw [hm,ho] at hr
   cases hr
   have e1:i+1=T.length:=by omega
   refine aa.iG Tryz.func71 rfl Tryz.ntmps71 (by simp) fun _ ag=>?_
   simp -implicitDefEqProofs (disch:=first|omega|exact ⟨by kernel_rfl⟩|(simp only [go_sem,List.length_take];try omega)) only [go_sem,seval,wk,↓bu,↓bw,bx,↓aq,cX ag,wr,hn];(repeat' first|refine cq.l ?_|refine bg.i ?_ ?_|refine cE.i fun hc=>?_|refine aQ.i ⟨?_,rfl⟩|refine aZ.i ?_ ?_|refine cB.o ?_|refine dU.i ?_|refine aQ.i ?_|refine fB.i fun j=>?_);all_goals (try subst ag)
   have e4:bD T (i+1)=4:=if_pos (by omega)
   rw [e4]
   exact lN _ (by omega)
 ·have hn':nameAt T i=false:=by simpa using hn
  rw [if_neg hn] at hr
  cases hr
  refine aa.iG Tryz.func71 rfl Tryz.ntmps71 (by simp) fun _ ag=>?_
  simp -implicitDefEqProofs (disch:=first|omega|exact ⟨by kernel_rfl⟩|(simp only [go_sem,List.length_take];try omega)) only [go_sem,seval,wk,↓bu,↓bw,bx,↓aq,cX ag,wr,hn'];(repeat' first|refine cq.l ?_|refine bg.i ?_ ?_|refine cE.i fun hc=>?_|refine aQ.i ⟨?_,rfl⟩|refine aZ.i ?_ ?_|refine cB.o ?_|refine dU.i ?_|refine aQ.i ?_|refine fB.i fun j=>?_);all_goals (try subst ag)
  ·exact ⟨hT,by omega⟩
  ·exact lN _ hi
theorem MI {T:List Tk} (hT:dh T) (g:GA G) (hw:Wt T≤1099511627776) (f:Nat):∀ i r,i≤T.length→bF f .block (T.drop i)=some r→∀ B L K,aa Tryz.prog G 71 [.ptr B.length 0] (rS B L K T i) (Ue B L K T r):=by
 induction f using Nat.strongRecOn with
 |ind f ih=>
 intro i r hi hr
 cases f with
 |zero=>simp [bF] at hr
 |succ f=>exact JN hT g hw f ih i r hi hr
def Zp (B L:List aJ) (K:List (Nat×Nat×Nat)) (T:List Tk):RF→Out→St→Prop
 | .ok l,o,s=>o= .ret (vF l)∧s=rS B L K T T.length
 | .err rest c,o,s=>∃ j,o= .dw (o6 ↑(T.length - rest.length) c)∧s=rS B L K T j
structure Yu where
 i:Nat
 l:List Bk
 f:Nat
theorem tw (f:Nat) (l:List Bk) (T:List Tk) (i:Nat) (h:i<T.length):gZ (f+1) l (T.drop i)=match bF (ov (T.drop i)) .block (T.drop i) with
  |some (.ok b [])=> .ok (l++[b])
  |some (.ok b (u::r2))=>if iu u then gZ f (l++[b]) r2 else .err (u::r2) 5
  |some (.err r2 c)=> .err r2 c
  |none=> .err (T.drop i) 0:=by
 rw [iH h];rfl
theorem nt (f:Nat) (l:List Bk):gZ f l []= .ok l:=by cases f<;>rfl
theorem xB (by_:Nat) (hby:by_≤1000) (BL:List aJ) (K:List (Nat×Nat×Nat)) (l:List Bk) (b:Bk) (h:l.length≤1048576):
  Bt Tryz.prog (some (40,4,by_)) (some (.sl [b.enc])) (.own K.length (l.map Bk.enc)) ⟨BL,K++[(40,4,l.length)]⟩=some (.own K.length ((l++[b]).map Bk.enc),⟨BL,K++[(40,4,(l++[b]).length)]⟩):=by
 have hz:dy Tryz.prog 40=some 4:=by kernel_rfl
 have h1:(l.length+1)*by_≤1048577*1000:=Nat.mul_le_mul (by omega) hby
 have hm:maxLen=9223372036854775807:=by decide
 rw [mV,o7,lJ,hz]
 unfold jt
 rw [if_pos ⟨rfl,by omega,rfl⟩]
 simp [ff,hm]
 omega
theorem P9 {T:List Tk} (hT:dh T) (g:GA G) (hw:Wt T≤1099511627776) (B L:List aJ) (K:List (Nat×Nat×Nat)):
  aa Tryz.prog G 45 [.ptr B.length 0] (rS B L K T 0) (Zp B L K T (gZ (T.length+1) [] (gJ T))):=by
 have h6:=hT.1
 obtain ⟨i0,e0,e1,hN⟩:∃ i0,gJ T=T.drop i0∧i0≤T.length∧(0<T.length∧(((T.getD 0 default).kind=5)=True)∧i0=1∨0<T.length∧(((T.getD 0 default).kind=5)=False)∧i0=0∨¬ 0<T.length∧((1=1)=True)∧i0=0):=by
  cases T with
  |nil=>exact ⟨0,rfl,by simp,by simp⟩
  |cons t r=>
   by_cases h:t.kind=5
   ·exact ⟨1,by simp [gJ,iu,h],by simp,by simp [h]⟩
   ·exact ⟨0,by simp [gJ,iu,h],by simp,by simp [h]⟩
 rw [e0]
 generalize hr:gZ (T.length+1) [] (T.drop i0)=r
 rcases hN with ⟨c0,k1,rfl⟩|⟨c0,k1,rfl⟩|⟨c0,k1,rfl⟩<;>
 ·refine aa.iG Tryz.func45 rfl Tryz.ntmps45 (by simp) fun _ ag=>?_
  simp -implicitDefEqProofs (disch:=first|omega|exact ⟨by kernel_rfl⟩|(simp only [go_sem,List.length_take];try omega)) only [go_sem,seval,wk,↓bu,↓bw,bx,↓aq,cX ag,wr,wd (id:=2),Gc,k1,ne_eq,not_true_eq_false,not_false_eq_true];(repeat' first|refine cq.l ?_|refine bg.i ?_ ?_|refine cE.i fun hc=>?_|refine aQ.i ⟨?_,rfl⟩|refine aZ.i ?_ ?_|refine cB.o ?_|refine dU.i ?_|refine aQ.i ?_|refine fB.i fun j=>?_);all_goals (try subst ag)
  refine AW.P6 40 4 (by decide) ?_
  refine AW.T5 (B:=B) (L:=L) (K:=K) (z0:=bI T 0) rfl (fun x:Yu=>[(0,.ptr B.length 0),(2,.ptr (B.length+(L.length+1)) 0),(3,.ptr (B.length+(L.length+1+1)) 0)]) (fun x=>bI T x.i) (fun x=>[.cells [.bh],.cells [.own K.length (x.l.map Bk.enc)]])
   (fun x=>K++[(40,4,x.l.length)]) (fun x=>gZ x.f x.l (T.drop x.i)=r∧x.i≤T.length∧x.l.length≤x.i∧T.length - x.i<x.f) (fun x=>x.f) ⟨_,[],T.length+1⟩ ?_ ⟨hr,e1,by simp,by dsimp only;omega⟩ ?_
  ·simp -implicitDefEqProofs (disch:=first|omega|(simp only [go_sem,List.length_take,List.length_drop];try omega)) only [go_sem,seval]
   try rfl
  ·rintro ⟨j,l,f⟩ ⟨hx,x1,x2,x3⟩
   simp only at hx x1 x2 x3
   by_cases hj:j<T.length
   ·first
    |(exfalso;omega)
    |obtain ⟨f,rfl⟩:∃ f',f=f'+1:=⟨f - 1,by omega⟩
     rw [tw _ _ _ _ hj] at hx
     cases hb:bF (ov (T.drop j)) .block (T.drop j) with
     |none=>exact absurd hb (sH _ _ _ (by simp only [wB,ov];omega))
     |some y=>
     have C:=MI hT g hw _ j y x1 hb
     have e3:=ij ((mB _ _ _ _ hb).trans (List.drop_suffix _ _))
     rw [hb] at hx
     cases y with
     |ok b r3=>
      have e4:=jm hb
      rw [List.length_drop] at e4
      have A:∀ B L K,aa Tryz.prog G 71 [.ptr B.length 0] (rS B L K T j) (fun o s=>o= .ret (vB b)∧s=rS B L K T (T.length - r3.length)):=C
      have e5:j+1≤T.length - r3.length∧T.length - r3.length≤T.length:=by omega
      simp only [jT] at e3
      generalize T.length - r3.length=p at e3 e5 A
      subst e3
      refine Wk.go fun _ ag=>?_;simp -implicitDefEqProofs (disch:=first|omega|exact ⟨by kernel_rfl⟩|(simp only [go_sem,List.length_take];try omega)) only [go_sem,seval,wk,↓bu,↓bw,bx,↓aq,cX ag,wr,wd (id:=4)];(repeat' first|refine cq.l ?_|refine bg.i ?_ ?_|refine cE.i fun hc=>?_|refine aQ.i ⟨?_,rfl⟩|refine aZ.i ?_ ?_|refine cB.o ?_|refine dU.i ?_|refine aQ.i ?_|refine fB.i fun j=>?_);all_goals (try subst ag)
      refine AW.uh (P:=Tryz.prog) mx 3 [(1,4)] (by kernel_rfl) (by kernel_rfl) (by simp -implicitDefEqProofs (disch:=first|omega|(simp only [go_sem,List.length_take,List.length_drop];try omega)) only [go_sem,seval];first|done|exact rfl) (by kernel_rfl) Tryz.call71 (by rfl) (by rfl) (by rfl) (A _ _ _) (by simp -implicitDefEqProofs (disch:=first|omega|(simp only [go_sem,List.length_take,List.length_drop];try omega)) only [go_sem,seval,xB];first|done|exact rfl) (fF (by decide) (by decide) rfl rfl (by simp -implicitDefEqProofs (disch:=first|omega|(simp only [go_sem,List.length_take,List.length_drop];try omega)) only [go_sem,seval]) iz) ?_
      refine kQ fun _ ag=>?_
      by_cases hp:p<T.length
      ·rw [iH hp] at hx
       simp only at hx
       by_cases hl:iu (T.getD p default)=true
       ·rw [if_pos hl] at hx
        have hl':cP T p=true:=by simp only [cP,decide_eq_true hp,hl,Bool.and_true]
        simp -implicitDefEqProofs (disch:=first|omega|exact ⟨by kernel_rfl⟩|(simp only [go_sem,List.length_take];try omega)) only [go_sem,seval,wk,↓bu,↓bw,bx,↓aq,cX ag,wr,wd (id:=6),hl'];(repeat' first|refine cq.l ?_|refine bg.i ?_ ?_|refine cE.i fun hc=>?_|refine aQ.i ⟨?_,rfl⟩|refine aZ.i ?_ ?_|refine cB.o ?_|refine dU.i ?_|refine aQ.i ?_|refine fB.i fun j=>?_);all_goals (try subst ag)
        refine cB.i ⟨⟨p+1,l++[b],f⟩,⟨by simp -implicitDefEqProofs (disch:=first|omega|(simp only [go_sem,List.length_take,List.length_drop];try omega)) only [go_sem,seval,List.take_length_add_append,Bool.and_eq_true];omega,⟨hx,by dsimp only;omega,by simp;omega,by dsimp only;omega⟩,Nat.lt_succ_self _⟩⟩
       ·rw [if_neg hl] at hx
        have hl':cP T p=false:=by simp only [cP,decide_eq_true hp,Bool.eq_false_iff.2 hl,Bool.and_false]
        cases hx
        simp -implicitDefEqProofs (disch:=first|omega|exact ⟨by kernel_rfl⟩|(simp only [go_sem,List.length_take];try omega)) only [go_sem,seval,wk,↓bu,↓bw,bx,↓aq,cX ag,wr,wd (id:=6),hl'];(repeat' first|refine cq.l ?_|refine bg.i ?_ ?_|refine cE.i fun hc=>?_|refine aQ.i ⟨?_,rfl⟩|refine aZ.i ?_ ?_|refine cB.o ?_|refine dU.i ?_|refine aQ.i ?_|refine fB.i fun j=>?_);all_goals (try subst ag)
        have e6:bD T p=5:=if_neg (by omega)
        rw [←iH hp,e6]
        exact ⟨p,by rw [kR e5.2],rfl⟩
      ·rw [gO hp] at hx
       simp only at hx
       simp -implicitDefEqProofs (disch:=first|omega|exact ⟨by kernel_rfl⟩|(simp only [go_sem,List.length_take];try omega)) only [go_sem,seval,wk,↓bu,↓bw,bx,↓aq,cX ag,wr,wd (id:=6)];(repeat' first|refine cq.l ?_|refine bg.i ?_ ?_|refine cE.i fun hc=>?_|refine aQ.i ⟨?_,rfl⟩|refine aZ.i ?_ ?_|refine cB.o ?_|refine dU.i ?_|refine aQ.i ?_|refine fB.i fun j=>?_);all_goals (try subst ag)
       refine cB.i ⟨⟨p,l++[b],f⟩,⟨by simp -implicitDefEqProofs (disch:=first|omega|(simp only [go_sem,List.length_take,List.length_drop];try omega)) only [go_sem,seval,List.take_length_add_append,Bool.and_eq_true];omega,⟨by dsimp only;rw [gO hp,nt];exact hx,by dsimp only;omega,by simp;omega,by dsimp only;omega⟩,Nat.lt_succ_self _⟩⟩
     |err r3 c=>
      cases hx
      refine Wk.go fun _ ag=>?_;simp -implicitDefEqProofs (disch:=first|omega|exact ⟨by kernel_rfl⟩|(simp only [go_sem,List.length_take];try omega)) only [go_sem,seval,wk,↓bu,↓bw,bx,↓aq,cX ag,wr,wd (id:=4)];(repeat' first|refine cq.l ?_|refine bg.i ?_ ?_|refine cE.i fun hc=>?_|refine aQ.i ⟨?_,rfl⟩|refine aZ.i ?_ ?_|refine cB.o ?_|refine dU.i ?_|refine aQ.i ?_|refine fB.i fun j=>?_);all_goals (try subst ag)
      refine AW.Ni (P:=Tryz.prog) mx 3 [(1,4)] (by kernel_rfl) (by kernel_rfl) (by simp -implicitDefEqProofs (disch:=first|omega|(simp only [go_sem,List.length_take,List.length_drop];try omega)) only [go_sem,seval];first|done|exact rfl) (by kernel_rfl) Tryz.call71 (by rfl) (by rfl) ((C _ _ _).mono (fun o s ⟨j,e1,e2⟩=>⟨e1,(⟨j,e2⟩:∃ j,s=_)⟩)) (fun fr_ s_ hz=>?_)
      obtain ⟨p,rfl⟩:=hz
      simp only [bz,aY]
      refine qd ?_
      simp -implicitDefEqProofs (disch:=first|omega|(simp only [go_sem,List.length_take,List.length_drop];try omega)) only [go_sem,seval]
      refine dU.i ?_
      exact ⟨p,rfl,rfl⟩
   ·rw [gO hj,nt] at hx
    subst hx
    have e5:j=T.length:=by omega
    subst e5
    refine Wk.go fun _ ag=>?_;simp -implicitDefEqProofs (disch:=first|omega|exact ⟨by kernel_rfl⟩|(simp only [go_sem,List.length_take];try omega)) only [go_sem,seval,wk,↓bu,↓bw,bx,↓aq,cX ag,wr,wd (id:=4)];(repeat' first|refine cq.l ?_|refine bg.i ?_ ?_|refine cE.i fun hc=>?_|refine aQ.i ⟨?_,rfl⟩|refine aZ.i ?_ ?_|refine cB.o ?_|refine dU.i ?_|refine aQ.i ?_|refine fB.i fun j=>?_);all_goals (try subst ag)
    exact ⟨rfl,rfl⟩
end Go.Proofs.YthnoiikjfcnlhaaGreatDoor
end
