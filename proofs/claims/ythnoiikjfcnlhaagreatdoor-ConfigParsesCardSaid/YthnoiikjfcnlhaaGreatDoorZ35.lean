/- A step of the proofs of the seat's theorems. -/
import Derived.Test.YthnoiikjfcnlhaaGreatDoorZ2
import Derived.Test.YthnoiikjfcnlhaaGreatDoorZ14
import Derived.Test.YthnoiikjfcnlhaaGreatDoorZ15
import Derived.Test.YthnoiikjfcnlhaaGreatDoorZ29
import Derived.Test.YthnoiikjfcnlhaaGreatDoorZ30
import Derived.Test.YthnoiikjfcnlhaaGreatDoorZ32
import Derived.Test.YthnoiikjfcnlhaaGreatDoorZ34
import Derived.Shelf.Bits.Mul64
set_option linter.unusedSimpArgs false
set_option linter.unusedVariables false
section
set_option maxHeartbeats 8000000
set_option maxRecDepth 20000
namespace Go.Proofs.YthnoiikjfcnlhaaGreatDoor
open Go.Abs
attribute [local irreducible] AW OX cG GQ bK bO bz aY aa
variable {G:World→Nat→Prop}
theorem XM:(zeroOf Tryz.prog 89).map ofConst=some (.agg [.d (.int .i64 0),.d (.int .i64 0)]):=by kernel_rfl
attribute [go_sem] XM
theorem vz (B:List aJ) (a b c d e:aJ) (K:List (Nat×Nat×Nat)) {N:Nat} (h:N=B.length+4):St.cut ⟨B++[a,b,c,d,e],K⟩ N K.length=⟨B++[a,b,c,d],K⟩:=by
 subst h
 simp only [St.cut,List.take_length]
 rw [List.take_append,List.take_of_length_le (by omega),Nat.add_sub_cancel_left]
 rfl
theorem Cw (B:List aJ) (K:List (Nat×Nat×Nat)) (es:List V) (v1 v2:V) (X:aJ):
  fN Tryz.prog G 44 [.ptr B.length 0,.ptr (B.length+1) 0,.ptr (B.length+2) 0] none ⟨B++[.cells es,.cells [v1],.cells [v2],X],K⟩ (fun o s=>o= .ret (.cF [])∧s=⟨B++[.cells es,.cells [v1],.cells [v2],X],K⟩):=by
 refine fN.body Tryz.func44 rfl Tryz.ntmps44 (by simp) rfl rfl rfl (by decide) ?_
 (try with_reducible first|refine Wk.aw fun _ ag=>?_|refine Wk.ow fun _ ag=>?_);(repeat' (first
  |((with_reducible first|refine Wk.hd ?_|refine Wk.i ?_);simp -implicitDefEqProofs (disch:=first|omega|(simp only [go_sem,List.length_take,List.length_drop];try omega)) only [go_sem,seval,Option.getD_none])
  |(refine ay (fun hc=>?_) (fun hc=>?_)<;>try (exfalso;first|omega|contradiction|exact fQ hc ‹_› |exact fQ ‹_› hc))
  |refine Wk.drawn mx (by kernel_rfl) ?_
  |with_reducible refine Wk.ret fun _ _=>?_
  |(refine Wk.fin (by assumption) ?_;refine ⟨?_,rfl⟩)
  |with_reducible first|refine Wk.o ?_|refine Wk.q (by assumption) ?_|refine Wk.sw fun _ ag=>?_|refine Wk.sk fun _ ag=>?_));all_goals (repeat subst ag)
 (try with_reducible first|refine Wk.aw fun _ ag=>?_|refine Wk.ow fun _ ag=>?_);(repeat' (first
  |((with_reducible first|refine Wk.hd ?_|refine Wk.i ?_);simp -implicitDefEqProofs (disch:=first|omega|(simp only [go_sem,List.length_take,List.length_drop];try omega)) only [go_sem,seval])
  |(refine ay (fun hc=>?_) (fun hc=>?_)<;>try (exfalso;first|omega|contradiction|exact fQ hc ‹_› |exact fQ ‹_› hc))
  |refine Wk.drawn mx (by kernel_rfl) ?_
  |with_reducible first|refine Wk.o ?_|refine Wk.q (by assumption) ?_|refine Wk.sw fun _ ag=>?_|refine Wk.sk fun _ ag=>?_));all_goals (repeat subst ag)
 refine kH (aV K.length (Nat.le_refl _) (s1:=⟨B++[.cells es,.cells [v1],.cells [v2],X],K⟩) (vz _ _ _ _ _ _ _ (by simp)) (fun _ _ h=> .inl h) rfl rfl rfl ⟨rfl,rfl⟩)
theorem Cx (B:List aJ) (K:List (Nat×Nat×Nat)) (e0 v1 v2:V) (X:aJ) (j:Int) (c:Int):
  fN Tryz.prog G 44 [.ptr B.length 0,.ptr (B.length+1) 0,.ptr (B.length+2) 0] (some (o6 j c)) ⟨B++[.cells [e0],.cells [v1],.cells [v2],X],K⟩ (fun o s=>o= .ret (.cF [])∧s=⟨B++[.cells [.bh],.cells [ai j],.cells [ai c],X],K⟩):=by
 have hG:∀ (m:List aJ) (k:Nat),(B++m)[B.length+k]?=m[k]?:=fun m k=>by rw [List.getElem?_append_right (by simp)];simp
 have hG0:∀ (m:List aJ),(B++m)[B.length]?=m[0]?:=fun m=>by rw [List.getElem?_append_right (by simp)];simp
 have hS:∀ (y:aJ) (m:List aJ) (k:Nat),(B++m).set (B.length+k) y=B++m.set k y:=fun y m k=>by rw [List.set_append_right _ _ (by simp)];simp
 have hS0:∀ (y:aJ) (m:List aJ),(B++m).set B.length y=B++m.set 0 y:=fun y m=>by rw [List.set_append_right _ _ (by simp)];simp
 refine fN.body Tryz.func44 rfl Tryz.ntmps44 (by simp) rfl rfl rfl (by decide) ?_
 (try with_reducible first|refine Wk.aw fun _ ag=>?_|refine Wk.ow fun _ ag=>?_);(repeat' (first
  |((with_reducible first|refine Wk.hd ?_|refine Wk.i ?_);simp -implicitDefEqProofs (disch:=first|omega|(simp only [go_sem,List.length_take,List.length_drop];try omega)) only [go_sem,seval,hG,hG0,hS,hS0])
  |(refine ay (fun hc=>?_) (fun hc=>?_)<;>try (exfalso;first|omega|contradiction|exact fQ hc ‹_› |exact fQ ‹_› hc))
  |refine Wk.drawn mx (by kernel_rfl) ?_
  |with_reducible refine Wk.ret fun _ _=>?_
  |(refine Wk.fin (by assumption) ?_;refine ⟨?_,rfl⟩)
  |with_reducible first|refine Wk.o ?_|refine Wk.q (by assumption) ?_|refine Wk.sw fun _ ag=>?_|refine Wk.sk fun _ ag=>?_));all_goals (repeat subst ag)
 (try with_reducible first|refine Wk.aw fun _ ag=>?_|refine Wk.ow fun _ ag=>?_);(repeat' (first
  |((with_reducible refine Wk.Au 2 ?_);refine AW.Pv (P:=Tryz.prog) mx [(2,7),(4,8)] (by kernel_rfl) (by simp -implicitDefEqProofs (disch:=first|omega|(simp only [go_sem,List.length_take,List.length_drop];try omega)) only [go_sem,seval,hG,hG0,hS,hS0];first|done|exact rfl) ?_;refine OX.nil ?_;refine ⟨by simp [Jf,T0,Ti,iO,eu,j7,List.zipIdx_cons,List.findIdx?_cons,dr]<;>omega,?_⟩)
  |((with_reducible first|refine Wk.hd ?_|refine Wk.i ?_);simp -implicitDefEqProofs (disch:=first|omega|(simp only [go_sem,List.length_take,List.length_drop];try omega)) only [go_sem,seval,hG,hG0,hS,hS0])
  |(refine ay (fun hc=>?_) (fun hc=>?_)<;>try (exfalso;first|omega|contradiction|exact fQ hc ‹_› |exact fQ ‹_› hc))
  |refine Wk.drawn mx (by kernel_rfl) ?_
  |with_reducible first|refine Wk.o ?_|refine Wk.q (by assumption) ?_|refine Wk.sw fun _ ag=>?_|refine Wk.sk fun _ ag=>?_));all_goals (repeat subst ag)
 refine kH (aV K.length (Nat.le_refl _) (s1:=⟨B++[.cells [.bh],.cells [ai j],.cells [ai c],X],K⟩) (vz _ _ _ _ _ _ _ (by simp)) ?_ rfl rfl rfl ⟨rfl,rfl⟩)
 intro i A h
 by_cases hlt:i<B.length
 ·rw [List.getElem?_append_left hlt] at h ⊢;exact .inl h
 ·rw [List.getElem?_append_right (by omega)] at h ⊢
  match hd:i - B.length with
  |0=>rw [hd] at h;simp at h;subst h;exact .inr (by simp [aJ.within,V.within,V.within.all])
  |1=>rw [hd] at h;simp at h;subst h;exact .inr (by simp [aJ.within,V.within,V.within.all])
  |2=>rw [hd] at h;simp at h;subst h;exact .inr (by simp [aJ.within,V.within,V.within.all])
  |3=>rw [hd] at h;simp at h;subst h;exact .inl (by simp)
  |d+4=>rw [hd] at h;simp at h
theorem JO {P:Program} {g:FuncId} {xs:List V} {st:St} {K Kp:V→St→Prop} {τ:Type} {S:τ→St} {v:V} (h:aa P G g xs st (fun q s=>∃ j,q= .dw v∧s=S j)) (k:∀ j,Kp v (S j)):dQ P G false g xs st K Kp:=by
 rw [Nz h];exact cq.l (fB.i k)
abbrev Cy (T:List Tk):RF→V
 | .ok l=> .cF [vF l,ai 0,ai 0]
 | .err rest c=> .cF [.agg [.d (.sl [])],ai ↑(T.length - rest.length),ai c]
theorem MJ {T:List Tk} (hT:dh T) (g:GA G) (hw:Wt T≤1099511627776):b8 G 25 [jA T] (Cy T (gZ (T.length+1) [] (gJ T))):=by
 rintro ⟨B,K⟩
 have c0:=P9 (G:=G) hT g hw
 generalize gZ (T.length+1) [] (gJ T)=r at c0
 refine aa.OI Tryz.func25 rfl Tryz.ntmps25 (by simp) rfl rfl rfl (by decide) rfl rfl rfl Tryz.call44 ?_
 (try with_reducible first|refine Wk.aw fun _ ag=>?_|refine Wk.ow fun _ ag=>?_);(repeat' (first
  |((with_reducible first|refine Wk.hd ?_|refine Wk.i ?_);simp -implicitDefEqProofs (disch:=first|omega|(simp only [go_sem,List.length_take,List.length_drop];try omega)) only [go_sem,seval])
  |(refine ay (fun hc=>?_) (fun hc=>?_)<;>try (exfalso;first|omega|contradiction|exact fQ hc ‹_› |exact fQ ‹_› hc))
  |refine Wk.drawn mx (by kernel_rfl) ?_
  |with_reducible refine Wk.ret fun _ _=>?_
  |(refine Wk.fin (by assumption) ?_;refine ⟨?_,rfl⟩)
  |with_reducible first|refine Wk.o ?_|refine Wk.q (by assumption) ?_|refine Wk.sw fun _ ag=>?_|refine Wk.sk fun _ ag=>?_));all_goals (repeat subst ag)
 refine ⟨rfl,[.ptr B.length 0,.ptr (B.length+1) 0,.ptr (B.length+2) 0],rfl,fun ds=>?_⟩
 have hG:∀ (m:List aJ) (k:Nat),(B++m)[B.length+k]?=m[k]?:=fun m k=>by rw [List.getElem?_append_right (by simp)];simp
 have hG0:∀ (m:List aJ),(B++m)[B.length]?=m[0]?:=fun m=>by rw [List.getElem?_append_right (by simp)];simp
 have hS:∀ (y:aJ) (m:List aJ) (k:Nat),(B++m).set (B.length+k) y=B++m.set k y:=fun y m k=>by rw [List.set_append_right _ _ (by simp)];simp
 have hS0:∀ (y:aJ) (m:List aJ),(B++m).set B.length y=B++m.set 0 y:=fun y m=>by rw [List.set_append_right _ _ (by simp)];simp
 have c1:=c0 (B++[.cells [.bh],.cells [ai 0],.cells [ai 0]]) [] K
 simp only [rS,List.append_assoc,List.cons_append,List.nil_append,List.length_append,List.length_cons,List.length_nil,Nat.zero_add] at c1
 cases r with
 |ok l=>
  have c1:aa Tryz.prog G 45 [.ptr (B.length+3) 0] ⟨B++[.cells [.bh],.cells [ai 0],.cells [ai 0],bI T 0],K⟩ (fun o s=>o= .ret (vF l)∧s=⟨B++[.cells [.bh],.cells [ai 0],.cells [ai 0],bI T T.length],K⟩):=by
   refine c1.mono ?_
   rintro o s ⟨h1,h2⟩
   exact ⟨h1,by rw [h2];simp⟩
  (try with_reducible first|refine Wk.aw fun _ ag=>?_|refine Wk.ow fun _ ag=>?_);(repeat' (first
  |((with_reducible first|refine Wk.hd ?_|refine Wk.i ?_);simp -implicitDefEqProofs (disch:=first|omega|(simp only [go_sem,List.length_take,List.length_drop];try omega)) only [go_sem,seval,hG,hG0,hS,hS0])
  |(refine ay (fun hc=>?_) (fun hc=>?_)<;>try (exfalso;first|omega|contradiction|exact fQ hc ‹_› |exact fQ ‹_› hc))
  |refine aW (c1) ?_
  |refine Wk.drawn mx (by kernel_rfl) ?_
  |with_reducible refine Wk.ret fun _ _=>?_
  |(refine Wk.fin (by assumption) ?_;refine ⟨?_,rfl⟩)
  |with_reducible first|refine Wk.o ?_|refine Wk.q (by assumption) ?_|refine Wk.sw fun _ ag=>?_|refine Wk.sk fun _ ag=>?_));all_goals (repeat subst ag)
  refine Ib ((Cw B K [vu l] (ai 0) (ai 0) (bI T T.length)).mono ?_)
  rintro o s ⟨rfl,rfl⟩
  refine ⟨⟨_,rfl⟩,?_⟩
  (try with_reducible first|refine Wk.aw fun _ ag=>?_|refine Wk.ow fun _ ag=>?_);(repeat' (first
  |((with_reducible first|refine Wk.hd ?_|refine Wk.i ?_);simp -implicitDefEqProofs (disch:=first|omega|(simp only [go_sem,List.length_take,List.length_drop];try omega)) only [go_sem,seval,hG,hG0,hS,hS0])
  |(refine ay (fun hc=>?_) (fun hc=>?_)<;>try (exfalso;first|omega|contradiction|exact fQ hc ‹_› |exact fQ ‹_› hc))
  |refine Wk.drawn mx (by kernel_rfl) ?_
  |with_reducible refine Wk.ret fun _ _=>?_
  |(refine Wk.fin (by assumption) ?_;refine ⟨?_,rfl⟩)
  |with_reducible first|refine Wk.o ?_|refine Wk.q (by assumption) ?_|refine Wk.sw fun _ ag=>?_|refine Wk.sk fun _ ag=>?_));all_goals (repeat subst ag)
  all_goals rfl
 |err rest c=>
  have c1:aa Tryz.prog G 45 [.ptr (B.length+3) 0] ⟨B++[.cells [.bh],.cells [ai 0],.cells [ai 0],bI T 0],K⟩ (fun o s=>∃ j,o= .dw (o6 ↑(T.length - rest.length) c)∧s=⟨B++[.cells [.bh],.cells [ai 0],.cells [ai 0],bI T j],K⟩):=by
   refine c1.mono ?_
   rintro o s ⟨j,h1,h2⟩
   exact ⟨j,h1,by rw [h2];simp⟩
  (try with_reducible first|refine Wk.aw fun _ ag=>?_|refine Wk.ow fun _ ag=>?_);(repeat' (first
  |((with_reducible first|refine Wk.hd ?_|refine Wk.i ?_);simp -implicitDefEqProofs (disch:=first|omega|(simp only [go_sem,List.length_take,List.length_drop];try omega)) only [go_sem,seval,hG,hG0,hS,hS0])
  |(refine ay (fun hc=>?_) (fun hc=>?_)<;>try (exfalso;first|omega|contradiction|exact fQ hc ‹_› |exact fQ ‹_› hc))
  |refine Wk.drawn mx (by kernel_rfl) ?_
  |with_reducible refine Wk.ret fun _ _=>?_
  |(refine Wk.fin (by assumption) ?_;refine ⟨?_,rfl⟩)
  |with_reducible first|refine Wk.o ?_|refine Wk.q (by assumption) ?_|refine Wk.sw fun _ ag=>?_|refine Wk.sk fun _ ag=>?_));all_goals (repeat subst ag)
  refine JO c1 fun j=>?_
  simp only [Nn,bz,Bool.not_false,Nl]
  refine Ic ((Cx B K .bh (ai 0) (ai 0) (bI T j) ↑(T.length - rest.length) c).mono ?_)
  rintro o s ⟨rfl,rfl⟩
  refine ⟨⟨_,rfl⟩,?_⟩
  (try with_reducible first|refine Wk.aw fun _ ag=>?_|refine Wk.ow fun _ ag=>?_);(repeat' (first
  |((with_reducible first|refine Wk.hd ?_|refine Wk.i ?_);simp -implicitDefEqProofs (disch:=first|omega|(simp only [go_sem,List.length_take,List.length_drop];try omega)) only [go_sem,seval,hG,hG0,hS,hS0])
  |(refine ay (fun hc=>?_) (fun hc=>?_)<;>try (exfalso;first|omega|contradiction|exact fQ hc ‹_› |exact fQ ‹_› hc))
  |refine Wk.drawn mx (by kernel_rfl) ?_
  |with_reducible refine Wk.ret fun _ _=>?_
  |(refine Wk.fin (by assumption) ?_;refine ⟨?_,rfl⟩)
  |with_reducible first|refine Wk.o ?_|refine Wk.q (by assumption) ?_|refine Wk.sw fun _ ag=>?_|refine Wk.sk fun _ ag=>?_));all_goals (repeat subst ag)
  all_goals rfl
end Go.Proofs.YthnoiikjfcnlhaaGreatDoor
end
section
set_option maxHeartbeats 8000000
set_option maxRecDepth 20000
namespace Go.Proofs.YthnoiikjfcnlhaaGreatDoor
open Go.Abs Go.RowKit
variable {G:World→Nat→Prop}
def Ac:Go.Shelf.Ren:=⟨fun|264=>117|n=>n,fun|46=>121|53=>151|n=>n,fun n=>n⟩
theorem ML:Go.Proofs.Lays.n264 Tryz.prog Ac:= {
 mixed:=mx
 f264:=Tryz.func117.trans (congrArg some (by kernel_rfl))
 t46:=Tryz.underlying121
 a46:=Tryz.isAgg121
 z46:=Tryz.sizeOf121
 v46:=Tryz.zeroValue121
 t53:=Tryz.underlying151
 a53:=Tryz.isAgg151
 z53:=Tryz.sizeOf151
 v53:=Tryz.zeroValue151 }
theorem MM (x y:Nat) (h:x*y<18446744073709551616) (hx:x<18446744073709551616) (hy:y<18446744073709551616):b8 G 117 [.d (.int .u64 x),.d (.int .u64 y)] (.cF [.d (.int .u64 0),.d (.int .u64 ↑(x*y))]):=by
 intro st c w cargs hc hG hs hr
 obtain ⟨l⟩:=cargs
 match l,hs with
 |[v0,v1],_=>
 have e0:v0= .int .u64 x:=by
  have h:=hr 0 (by simp)
  cases h with|d _ _ h=>exact (by cases h;rfl)
 have e1:v1= .int .u64 y:=by
  have h:=hr 1 (by simp)
  cases h with|d _ _ h=>exact (by cases h;rfl)
 subst e0 e1
 refine (Any.bits_Mul64 ML x y hx hy w).mono ?_
 rintro e w' ⟨rfl,rfl⟩
 rw [Nat.div_eq_of_lt h,Nat.mod_eq_of_lt h]
 refine ⟨.ret _,st,c,⟨rfl,rfl⟩,Ext.refl c,hc,.cF _ _ rfl fun i hi=>?_⟩
 match i,hi with
 |0,_=>exact .d _ _ (.int _ _)
 |1,_=>exact .d _ _ (.int _ _)
theorem TJ (x y:Nat) (h:x*y<18446744073709551616) (hx:x<18446744073709551616) (hy:y<18446744073709551616):b8 G 84 [.d (.int .u64 x),.d (.int .u64 y)] (.cF [.d (.int .u64 0),.d (.int .u64 ↑(x*y))]):=by
 intro st
 refine aa.start Tryz.func84 rfl Tryz.ntmps84 (by simp) fun _ ag=>?_
 simp -implicitDefEqProofs (disch:=first|exact ⟨by kernel_rfl⟩|omega) only [go_sem,seval,wk,↓bu,↓bw,bx,↓aq,cX ag,wd,bC (MM x y h hx hy _)];(repeat' first|refine cq.l ?_|refine bg.i ?_ ?_|refine cE.i fun hc=>?_|refine aQ.i ⟨?_,rfl⟩|refine aZ.i ?_ ?_|refine cB.o ?_);all_goals (try subst ag)
 rfl
theorem xC (a b:az):b8 G 118 [vs a,vs b] (vb (decide (b<+:a))):=by
 intro st
 refine aa.start Tryz.func118 rfl Tryz.ntmps118 (by simp) fun _ ag=>?_
 simp -implicitDefEqProofs (disch:=first|exact ⟨by kernel_rfl⟩|omega) only [go_sem,seval,wk,↓bu,↓bw,bx,↓aq,cX ag,wd];(repeat' first|refine cq.l ?_|refine bg.i ?_ ?_|refine cE.i fun hc=>?_|refine aQ.i ⟨?_,rfl⟩|refine aZ.i ?_ ?_|refine cB.o ?_);all_goals (try subst ag)
 ·refine aO ?_;rw [decide_eq_true_eq,decide_eq_true_eq,List.prefix_iff_eq_take];exact eq_comm
 ·refine aO ?_;simp only [Bool.false_eq_true,false_iff,decide_eq_true_eq];exact fun h=>hc h.length_le
theorem Ad (a b:az):b8 G 85 [vs a,vs b] (vb (decide (b<+:a))):=by
 intro st
 refine aa.start Tryz.func85 rfl Tryz.ntmps85 (by simp) fun _ ag=>?_
 simp -implicitDefEqProofs (disch:=first|exact ⟨by kernel_rfl⟩|omega) only [go_sem,seval,wk,↓bu,↓bw,bx,↓aq,cX ag,wd,bC (xC a b _)];(repeat' first|refine cq.l ?_|refine bg.i ?_ ?_|refine cE.i fun hc=>?_|refine aQ.i ⟨?_,rfl⟩|refine aZ.i ?_ ?_|refine cB.o ?_);all_goals (try subst ag)
 rfl
theorem JP (n:Nat) (hn:n≤15):b8 G 55 [vs [32,32],ai n] (vs (sp (2*n))):=by
 intro st
 have hm:b8 G 84 [.d (.int .u64 2),.d (.int .u64 n)] (.cF [.d (.int .u64 0),.d (.int .u64 ↑(2*n))]):=TJ 2 n (by omega) (by omega) (by omega)
 have w2:IntKind.u64.wrap 2=2:=by decide
 have wn:IntKind.u64.wrap (n:Int)=n:=by rw [IntKind.wrap_u64];omega
 have wi:IntKind.i64.wrap ((2*n:Nat):Int)=((2*n:Nat):Int):=by rw [IntKind.wrap_i64];omega
 have hp:∀ r,b8 G 85 [vs (32::32::r),vs [32,32]] (vb true):=fun r=>by
  have h:=Ad (G:=G) (32::32::r) [32,32]
  rw [decide_eq_true (show [32,32]<+:32::32::r from ⟨r,rfl⟩)] at h;exact h
 refine aa.start Tryz.func55 rfl Tryz.ntmps55 (by simp) fun _ ag=>?_
 simp -implicitDefEqProofs (disch:=first|omega|exact ⟨by kernel_rfl⟩|(simp only [go_sem,List.length_take];try omega)) only [go_sem,seval,wk,↓bu,↓bw,bx,↓aq,cX ag,wd,List.append_eq,List.getD_cons_zero,show (32:UInt8).toNat=32 from rfl,w2,wn,wi,bC (hm _),bC (hp _ _)];(repeat' first|refine cq.l ?_|refine bg.i ?_ ?_|refine cE.i fun hc=>?_|refine aQ.i ⟨?_,rfl⟩|refine aZ.i ?_ ?_|refine cB.o ?_);all_goals (try subst ag)
 ·obtain rfl:n=0:=by omega
  rfl
 ·obtain rfl:n=1:=by omega
  rfl
 ·show Out.ret (vs (List.take (2*n) (List.replicate 128 32)))=_
  rw [List.take_replicate,Nat.min_eq_left (by omega)];rfl
theorem DC (n:Nat):sp (n+1)=sp n++[32]:=List.replicate_succ'
theorem xD (n:Nat):(sp n).length=n:=List.length_replicate
end Go.Proofs.YthnoiikjfcnlhaaGreatDoor
end
section
set_option maxHeartbeats 8000000
set_option maxRecDepth 20000
namespace Go.Proofs.YthnoiikjfcnlhaaGreatDoor
open Go.Abs
attribute [local irreducible] AW OX cG GQ bK bO bz aY aa
variable {G:World→Nat→Prop}
theorem JQ (l:List Bk) (h:gF l):b8 G 15 [vF l] (ai (fK l)):=by
 intro st
 refine aa.start Tryz.func15 rfl Tryz.ntmps15 (by simp) fun _ ag=>?_
 simp -implicitDefEqProofs (disch:=omega) only [go_sem,seval,wk,↓bu,↓bw,bx,↓aq,cX ag];(repeat' first|refine cq.l ?_|refine bg.i ?_ ?_|refine cE.i fun hc=>?_|refine aQ.i ⟨?_,rfl⟩|refine aZ.i ?_ ?_|refine cB.o ?_);all_goals (try subst ag)
 all_goals first|(refine bA ?_;simp [fK];grind)|skip
 refine AW.zU (fun i:Nat=>[(1,.ptr st.aj.length 0),(3,ai ↑i)]) (fun _=>[.cells [vu l]]) (fun _=>[]) (fun i=>i≤l.length∧cH.en 1 (l.drop i)=fK l) (fun i=>l.length - i) 0 (by simp -implicitDefEqProofs (disch:=omega) only [go_sem,seval]<;>omega) ⟨by simp,by rw [List.drop_zero,fK];grind⟩ ?_
 intro i ⟨g1,g2⟩
 rw [lK] at g2
 have h0:=h.1
 have hb:i<l.length→b8 G 31 [vB (l.getD i default),ai 1] (ai (cH 1 (l.getD i default))):=fun hi=>JI _ (h.2 _ (aB hi)) 1 (by omega)
 refine Wk.go fun _ ag=>?_;simp -implicitDefEqProofs (disch:=omega) only [go_sem,seval,wk,↓bu,↓bw,bx,↓aq,cX ag,nC hb];(repeat' first|refine cq.l ?_|refine bg.i ?_ ?_|refine cE.i fun hc=>?_|refine aQ.i ⟨?_,rfl⟩|refine aZ.i ?_ ?_|refine cB.o ?_);all_goals (try subst ag)
 all_goals first|(refine bA ?_;grind)|skip
 refine cB.i ⟨i+1,⟨by simp -implicitDefEqProofs (disch:=omega) only [go_sem,seval]<;>omega,?_,?_⟩⟩
 ·exact ⟨by omega,by grind⟩
 ·omega
theorem tB:∀ l m:List Bk,ye.rQ l m=true↔l.length=m.length∧∀ i,i<l.length→ye (l.getD i default) (m.getD i default)=true
 |[],[]=>by simp [ye.rQ]
 |[],_::_=>by simp [ye.rQ]
 |_::_,[]=>by simp [ye.rQ]
 |a::r,b::s=>by
  rw [ye.rQ,Bool.and_eq_true,tB r s]
  constructor
  ·rintro ⟨h1,h2,h3⟩
   refine ⟨by simpa using h2,fun i hi=>?_⟩
   cases i with
   |zero=>exact h1
   |succ i=>exact h3 i (by simpa using hi)
  ·rintro ⟨h1,h2⟩
   exact ⟨h2 0 (by simp),by simpa using h1,fun i hi=>h2 (i+1) (by simpa using hi)⟩
theorem DD:∀ l m:List (az×Ex),l.length=m.length→((l.zip m).all (fun p=>decide (p.1.1=p.2.1)&&oq p.1.2 p.2.2)=true↔∀ i,i<l.length→(l.getD i default).1=(m.getD i default).1∧oq (l.getD i default).2 (m.getD i default).2=true)
 |[],[],_=>by simp
 |a::r,b::s,h=>by
  rw [List.zip_cons_cons,List.all_cons,Bool.and_eq_true,DD r s (by simpa using h)]
  constructor
  ·rintro ⟨h1,h2⟩ i hi
   cases i with
   |zero=>simpa using h1
   |succ i=>exact h2 i (by simpa using hi)
  ·rintro h1
   exact ⟨by simpa using h1 0 (by simp),fun i hi=>h1 (i+1) (by simpa using hi)⟩
theorem DE (a b:Bk):ye a b=true↔a.kind=b.kind∧a.name=b.name∧a.attrs.length=b.attrs.length∧(∀ i,i<a.attrs.length→(a.attrs.getD i default).1=(b.attrs.getD i default).1∧oq (a.attrs.getD i default).2 (b.attrs.getD i default).2=true)∧ye.rQ a.blocks b.blocks=true:=by
 obtain ⟨k,n,l,m⟩:=a
 obtain ⟨k',n',l',m'⟩:=b
 simp only [ye,Bk.kind,Bk.name,Bk.attrs,Bk.blocks,Bool.and_eq_true,decide_eq_true_eq]
 by_cases h:l.length=l'.length
 ·rw [DD _ _ h];grind
 ·grind
theorem xE (l m:List Bk) (hl:l.length≤1048576) (hm:m.length≤1048576) (ih:∀ x∈l,∀ y∈m,b8 G 28 [vB x,vB y] (vb (ye x y))):b8 G 12 [vu l,vu m] (vb (ye.rQ l m)):=by
 intro st
 have e:=tB l m
 refine aa.start Tryz.func12 rfl Tryz.ntmps12 (by simp) fun _ ag=>?_
 simp -implicitDefEqProofs (disch:=omega) only [go_sem,seval,wk,↓bu,↓bw,bx,↓aq,cX ag];(repeat' first|refine cq.l ?_|refine bg.i ?_ ?_|refine cE.i fun hc=>?_|refine aQ.i ⟨?_,rfl⟩|refine aZ.i ?_ ?_|refine cB.o ?_);all_goals (try subst ag)
 ·refine aO ?_;grind
 refine AW.lp (fun i:Nat=>[(0,vu l),(1,vu m),(5,ai ↑i)]) (fun i=>i≤l.length∧∀ k,k<i→ye (l.getD k default) (m.getD k default)=true) (fun i=>l.length - i) 0 (by simp -implicitDefEqProofs (disch:=omega) only [go_sem,seval]<;>omega) ⟨by simp,by simp⟩ ?_
 intro i ⟨g1,g2⟩
 have hb:=fun hi:i<l.length=>ih _ (aB hi) (m.getD i default) (aB (by omega))
 refine Wk.go fun _ ag=>?_;simp -implicitDefEqProofs (disch:=first|exact ⟨by kernel_rfl⟩|omega) only [go_sem,seval,wk,↓bu,↓bw,bx,↓aq,cX ag,wd,nC hb];(repeat' first|refine cq.l ?_|refine bg.i ?_ ?_|refine cE.i fun hc=>?_|refine aQ.i ⟨?_,rfl⟩|refine aZ.i ?_ ?_|refine cB.o ?_);all_goals (try subst ag)
 ·refine aO ?_;grind
 ·refine cB.i ⟨i+1,⟨by simp -implicitDefEqProofs (disch:=omega) only [go_sem,seval]<;>omega,?_,?_⟩⟩
  ·exact ⟨by omega,fun k hk=>by by_cases h:k=i<;>grind⟩
  ·omega
 ·refine aO ?_;grind
theorem Af (a b:Bk) (ha:gB a) (hb:gB b):b8 G 28 [vB a,vB b] (vb (ye a b)):=by
 induction a using Bk.ind generalizing b with
 |_ a ih=>
 intro st
 obtain ⟨h1,h2,h3,h4,h5,h6⟩:=(iW a).1 ha
 obtain ⟨k1,k2,k3,k4,k5,k6⟩:=(iW b).1 hb
 have e:=DE a b
 have hL:=xE (G:=G) a.blocks b.blocks h4 k4 fun x hx y hy=>ih x hx y (h6 x hx) (k6 y hy)
 refine aa.start Tryz.func28 rfl Tryz.ntmps28 (by simp) fun _ ag=>?_
 simp -implicitDefEqProofs (disch:=omega) only [go_sem,seval,wk,↓bu,↓bw,bx,↓aq,cX ag];(repeat' first|refine cq.l ?_|refine bg.i ?_ ?_|refine cE.i fun hc=>?_|refine aQ.i ⟨?_,rfl⟩|refine aZ.i ?_ ?_|refine cB.o ?_);all_goals (try subst ag)
 all_goals first|(refine aO ?_;grind)|skip
 refine AW.zU (fun i:Nat=>[(2,.ptr st.aj.length 0),(3,.ptr (st.aj.length+1) 0),(5,ai ↑i)]) (fun _=>[.cells (a.enc.map .d),.cells (b.enc.map .d)]) (fun _=>[]) (fun i=>i≤a.attrs.length∧∀ k,k<i→(a.attrs.getD k default).1=(b.attrs.getD k default).1∧oq (a.attrs.getD k default).2 (b.attrs.getD k default).2=true) (fun i=>a.attrs.length - i) 0 (by simp -implicitDefEqProofs (disch:=omega) only [go_sem,seval]<;>omega) ⟨by simp,by simp⟩ ?_
 intro i ⟨g1,g2⟩
 have he:=fun hi:i<a.attrs.length=>zR (G:=G) (a.attrs.getD i default).2 (b.attrs.getD i default).2 (h5 _ (aB hi)).2.1.1 (k5 _ (aB (by omega))).2.1.1
 refine Wk.go fun _ ag=>?_;simp -implicitDefEqProofs (disch:=first|exact ⟨by kernel_rfl⟩|omega) only [go_sem,seval,wk,↓bu,↓bw,bx,↓aq,cX ag,wd,nC he,bC (hL _)];(repeat' first|refine cq.l ?_|refine bg.i ?_ ?_|refine cE.i fun hc=>?_|refine aQ.i ⟨?_,rfl⟩|refine aZ.i ?_ ?_|refine cB.o ?_);all_goals (try subst ag)
 ·refine aO ?_;grind
 ·refine aO ?_;grind
 ·refine cB.i ⟨i+1,⟨by simp -implicitDefEqProofs (disch:=omega) only [go_sem,seval]<;>omega,?_,?_⟩⟩
  ·exact ⟨by omega,fun k hk=>by by_cases h:k=i<;>grind⟩
  ·omega
 ·refine aO ?_;grind
def jo (l:List (az×Ex)):Nat:=(l.map fun x=>128+x.1.length+bq x.2).sum
def dD:Bk→Nat
 | .mk k n a l=>128+k.length+4*n.length+jo a+dL l
where dL:List Bk→Nat
 |[]=>0
 |b::r=>dD b+dL r
theorem Ag (b:Bk):dD b=128+b.kind.length+4*b.name.length+jo b.attrs+dD.dL b.blocks:=by cases b;rfl
theorem qh (l m:List (az×Ex)):jo (l++m)=jo l+jo m:=by simp only [jo,List.map_append,List.sum_append]
theorem jW (l m:List Bk):dD.dL (l++m)=dD.dL l+dD.dL m:=by induction l<;>simp_all [dD.dL];omega
theorem Cz {l:List (az×Ex)} {i:Nat} (h:i<l.length):jo (l.take (i+1))=jo (l.take i)+(128+(l.getD i default).1.length+bq (l.getD i default).2):=by rw [ej h,qh];simp [jo]
theorem Ah (l:List (az×Ex)) (i:Nat):jo (l.take i)≤jo l:=by
 have h:=qh (l.take i) (l.drop i)
 rw [List.take_append_drop] at h;omega
theorem qO {l:List Bk} {i:Nat} (h:i<l.length):dD.dL (l.take (i+1))=dD.dL (l.take i)+dD (l.getD i default):=by rw [ej h,jW];simp [dD.dL]
theorem nu (l:List Bk) (i:Nat):dD.dL (l.take i)≤dD.dL l:=by
 have h:=jW (l.take i) (l.drop i)
 rw [List.take_append_drop] at h;omega
def kS (n:Nat) (x:az×Ex):az:=sp n++x.1++[32,61,32]++qq x.2++[10]
def o9 (n:az):az:=if n=[] then [] else 32::fl n
theorem DF (level:Nat) (b:Bk):ir level b=sp (2*level - 2)++b.kind++o9 b.name++[32,123,10]++b.attrs.flatMap (kS (2*level))++ir.gH (level+1) b.blocks++sp (2*level - 2)++[125,10]:=by cases b;rfl
theorem FV (n:Nat) (l m:List Bk):ir.gH n (l++m)=ir.gH n l++ir.gH n m:=by induction l<;>simp_all [ir.gH]
theorem tC (n:Nat) {l:List Bk} {i:Nat} (h:i<l.length):ir.gH n (l.take (i+1))=ir.gH n (l.take i)++ir n (l.getD i default):=by rw [ej h,FV];simp [ir.gH]
theorem MN (n:Nat) {l:List (az×Ex)} {i:Nat} (h:i<l.length):(l.take (i+1)).flatMap (kS n)=(l.take i).flatMap (kS n)++kS n (l.getD i default):=by rw [ej h,List.flatMap_append];simp
theorem FW {e:Ex} (h:gE e):(qq e).length+16≤bq e∨qq e=[]:=by
 have:=ou e h.2
 rw [qq];split
 ·exact .inr rfl
 ·exact .inl this
theorem vC {x:az×Ex} (h:gA x) (n:Nat) (hn:n≤34):(kS n x).length≤128+x.1.length+bq x.2:=by
 simp only [kS,List.length_append,xD,List.length_cons,List.length_nil]
 rcases FW h.2.1 with h|h
 ·omega
 ·rw [h,List.length_nil];omega
theorem xG (n:Nat) (hn:n≤34):∀ l:List (az×Ex),(∀ x∈l,gA x)→(l.flatMap (kS n)).length≤jo l
 |[],_=>by simp [jo]
 |x::r,h=>by
  have h1:=vC (h x (by simp)) n hn
  have h2:=xG n hn r fun y hy=>h y (by simp [hy])
  simp only [List.flatMap_cons,List.length_append,jo,List.map_cons,List.sum_cons] at*;omega
theorem vD (n:az):(o9 n).length≤4*n.length+3:=by
 have:=gS n
 rw [o9];split
 ·simp
 ·simp only [List.length_cons];omega
theorem Ai {level:Nat} {b:Bk} (h:cH level b=0):level≤16∧cH.en (level+1) b.blocks=0:=by
 rw [nq] at h;grind
theorem fj {level:Nat}:∀ {l:List Bk},cH.en level l=0→∀ b∈l,cH level b=0
 |[],_,_,hb=>by cases hb
 |a::r,h,b,hb=>by
  rw [cH.en] at h
  by_cases ha:cH level a=0
  ·rw [if_neg (by simpa using ha)] at h
   rcases List.mem_cons.1 hb with rfl|hb
   ·exact ha
   ·exact fj h b hb
  ·rw [if_pos ha] at h;exact absurd h ha
theorem nw (n:Nat):∀ l:List Bk,(∀ b∈l,(ir n b).length≤dD b)→(ir.gH n l).length≤dD.dL l
 |[],_=>by simp [ir.gH,dD.dL]
 |b::r,h=>by
  have h1:=h b (by simp)
  have h2:=nw n r fun x hx=>h x (by simp [hx])
  simp only [ir.gH,dD.dL,List.length_append];omega
theorem pe (b:Bk) (h:gB b) (level:Nat) (hc:cH level b=0):(ir level b).length≤dD b:=by
 induction b using Bk.ind generalizing level with
 |_ b ih=>
 obtain ⟨c1,c2⟩:=Ai hc
 obtain ⟨h1,h2,h3,h4,h5,h6⟩:=(iW b).1 h
 have l1:=xG (2*level) (by omega) b.attrs h5
 have l2:=nw (level+1) b.blocks fun x hx=>ih x hx (h6 x hx) _ (fj c2 x hx)
 have l3:=vD b.name
 have l4:=Ag b
 rw [DF]
 simp only [List.length_append,xD,List.length_cons,List.length_nil]
 omega
theorem CA {l:List Bk} (h:fK l=0):cH.en 1 l=0:=by rw [fK] at h;grind
def XN:Option Ex→V
 |some x=> .cF [vE x,vb true]
 |none=> .cF [vE xQ,vb false]
theorem MO (s:az) (l:List (az×Ex)) (i:Nat):(l.drop i).find? (fun x=>decide (x.1=s))=if i<l.length then (if (l.getD i default).1=s then some (l.getD i default) else (l.drop (i+1)).find? (fun x=>decide (x.1=s))) else none:=by
 by_cases h:i<l.length
 ·rw [List.drop_eq_getElem_cons h,if_pos h,getD_eq h,List.find?_cons]
  by_cases h2:l[i].1=s<;>simp [h2]
 ·rw [List.drop_of_length_le (by omega),if_neg h,List.find?_nil]
theorem Zq:vE xQ= .agg [ai 0,vs [],ai 0,vb false,ai 0,vs [],.d (.sl []),.d (.sl []),.d (.sl []),.d (.sl [])]:=rfl
theorem MP (b:Bk) (h:gB b) (s:az):b8 G 18 [vB b,vs s] (XN (Gs b s)):=by
 intro st
 obtain ⟨h1,h2,h3,h4,h5,h6⟩:=(iW b).1 h
 refine aa.start Tryz.func18 rfl Tryz.ntmps18 (by simp) fun _ ag=>?_
 simp -implicitDefEqProofs (disch:=omega) only [go_sem,seval,wk,↓bu,↓bw,bx,↓aq,cX ag];(repeat' first|refine cq.l ?_|refine bg.i ?_ ?_|refine cE.i fun hc=>?_|refine aQ.i ⟨?_,rfl⟩|refine aZ.i ?_ ?_|refine cB.o ?_);all_goals (try subst ag)
 refine AW.zU (fun i:Nat=>[(1,vs s),(4,.ptr (st.aj.length+1) 0),(9,.d (.sl (b.attrs.map kV))),(10,ai ↑b.attrs.length),(11,ai ↑i)]) (fun _=>[.cells (b.enc.map .d),.cells [ai 0,vs [],ai 0,vb false,ai 0,vs [],.bh,.bh,.bh,.bh]]) (fun _=>[])
  (fun i=>i≤b.attrs.length∧((b.attrs.drop i).find? (fun x=>decide (x.1=s))).map (·.2)=Gs b s) (fun i=>b.attrs.length - i) 0 (by simp -implicitDefEqProofs (disch:=omega) only [go_sem,seval]<;>omega) ⟨by simp,rfl⟩ ?_
 intro i ⟨g1,g2⟩
 rw [MO] at g2
 rw [←g2]
 have he:=fun hi:i<b.attrs.length=>JK (G:=G) (b.attrs.getD i default).2 (h5 _ (aB hi)).2.1.1
 refine Wk.go fun _ ag=>?_;simp -implicitDefEqProofs (disch:=omega) only [go_sem,seval,wk,↓bu,↓bw,bx,↓aq,cX ag,nC he];(repeat' first|refine cq.l ?_|refine bg.i ?_ ?_|refine cE.i fun hc=>?_|refine aQ.i ⟨?_,rfl⟩|refine aZ.i ?_ ?_|refine cB.o ?_);all_goals (try subst ag)
 ·rw [if_pos (by assumption),if_pos (by assumption)];rfl
 ·refine cB.i ⟨i+1,⟨by simp -implicitDefEqProofs (disch:=omega) only [go_sem,seval]<;>omega,?_,?_⟩⟩
  ·exact ⟨by omega,by grind⟩
  ·omega
 ·rw [if_neg (by assumption),Option.map_none,XN,Zq]
theorem qP (p:Bk→Bool) {l:List Bk} {i:Nat} (h:i<l.length):(l.take (i+1)).filter p=if p (l.getD i default)=true then (l.take i).filter p++[l.getD i default] else (l.take i).filter p:=by
 rw [ej h,List.filter_append,List.filter_cons,List.filter_nil]
 by_cases h2:p (l.getD i default)=true
 ·rw [if_pos h2,if_pos h2]
 ·rw [if_neg h2,if_neg h2,List.append_nil]
abbrev vG (s:az):Bk→Bool:=fun x=>decide (x.kind=s)
theorem FX (b:Bk) (h:gB b) (s:az):b8 G 21 [vB b,vs s] (vu (M5 b s)):=by
 intro st
 obtain ⟨h1,h2,h3,h4,h5,h6⟩:=(iW b).1 h
 refine aa.start Tryz.func21 rfl Tryz.ntmps21 (by simp) fun _ ag=>?_
 simp -implicitDefEqProofs (disch:=omega) only [go_sem,seval,wk,↓bu,↓bw,bx,↓aq,cX ag];(repeat' first|refine cq.l ?_|refine bg.i ?_ ?_|refine cE.i fun hc=>?_|refine aQ.i ⟨?_,rfl⟩|refine aZ.i ?_ ?_|refine cB.o ?_);all_goals (try subst ag)
 refine AW.zU (fun i:Nat=>[(1,vs s),(5,lz st.toks.length (((b.blocks.take i).filter (vG s)).map Bk.enc)),(9,vu b.blocks),(10,ai ↑b.blocks.length),(11,ai ↑i)]) (fun _=>[.cells (b.enc.map .d)]) (fun i=>k9 40 4 (((b.blocks.take i).filter (vG s)).map Bk.enc))
  (fun i=>i≤b.blocks.length) (fun i=>b.blocks.length - i) 0 (by simp -implicitDefEqProofs (disch:=omega) only [go_sem,seval,List.filter_nil]<;>omega) (by simp) ?_
 intro i hi
 have hl:((b.blocks.take i).filter (vG s)).length≤1048576:=Nat.le_trans (List.length_filter_le (vG s) (b.blocks.take i)) (by rw [List.length_take];omega)
 have hb:=fun hi:i<b.blocks.length=>JL (G:=G) (b.blocks.getD i default) (h6 _ (aB hi))
 refine Wk.go fun _ ag=>?_;simp -implicitDefEqProofs (disch:=first|omega|exact ⟨by kernel_rfl⟩|(simp only [go_sem,List.length_take];try omega)) only [go_sem,seval,wk,↓bu,↓bw,bx,↓aq,cX ag,wd,o7,nC hb];(repeat' first|refine cq.l ?_|refine bg.i ?_ ?_|refine cE.i fun hc=>?_|refine aQ.i ⟨?_,rfl⟩|refine aZ.i ?_ ?_|refine cB.o ?_);all_goals (try subst ag)
 ·have hc':=qP (vG s) (by assumption)
  rw [if_pos (decide_eq_true hc)] at hc'
  refine cB.i ⟨i+1,⟨by simp -implicitDefEqProofs (disch:=omega) only [go_sem,seval,hc']<;>omega,?_,?_⟩⟩
  ·omega
  ·omega
 ·have hc':=qP (vG s) (by assumption)
  rw [if_neg (fun h=>hc (of_decide_eq_true h))] at hc'
  refine cB.i ⟨i+1,⟨by simp -implicitDefEqProofs (disch:=omega) only [go_sem,seval,hc']<;>omega,?_,?_⟩⟩
  ·omega
  ·omega
 ·rw [List.take_of_length_le (by omega)];rfl
end Go.Proofs.YthnoiikjfcnlhaaGreatDoor
end
section
namespace Go.Proofs.YthnoiikjfcnlhaaGreatDoor
theorem CB {T r:List Tk} {e:Ex} (h:eP T= .ok e r) (hT:dh T):gE e∧bq e+Wt r≤Wt T:=by
 obtain ⟨x,hx⟩:=jL T
 rw [eP,hx] at h
 cases x with
 |err r1 c1=>cases h
 |ok e1 r1=>
  simp only at h
  split at h
  ·cases h
  ·cases h
   obtain ⟨h1,h2⟩:=Dx _ _ _ _ _ hx hT
   simp only [fW,fV] at h2
   exact ⟨h1,by omega⟩
theorem oh {r ts:List Tk} (h:r<:+ts):Wt r≤Wt ts:=by
 obtain ⟨p,rfl⟩:=h
 rw [xq];omega
theorem JR {m:List Tk} (h:dh m):Wt (kB m).2+4*(kB m).1.length≤Wt m∧(kB m).1.length≤1048576:=by
 cases m with
 |nil=>simp [kB,Wt]
 |cons t r=>
  have:=h.hd
  simp only [kB]
  split
  ·simp only [Wt];omega
  ·simp only [List.length_nil];omega
def Zr:rR→List Tk→Prop
 | .block,_=>True
 | .items k n a l,ts=>k.length≤1048576∧n.length≤1048576∧(∀ x∈a,gA x)∧(∀ x∈l,gB x)∧a.length+l.length+ts.length≤1048576
def Qa:rR→Nat
 | .block=>0
 | .items k n a l=>dD (.mk k n a l)
theorem MQ:∀ (f:Nat) (tag:rR) (ts:List Tk) (b:Bk) (r:List Tk),bF f tag ts=some (.ok b r)→dh ts→Wt ts≤1099511627776→Zr tag ts→gB b∧dD b+Wt r≤Qa tag+Wt ts:=by
 intro f
 induction f with
 |zero=>intro tag ts b r h;simp [bF] at h
 |succ f ih=>
  intro tag ts b r h hT hw hp
  cases tag with
  |block=>
   cases ts with
   |nil=>simp [bF] at h
   |cons t m=>
    simp only [bF] at h
    split at h
    ·obtain ⟨u,m2,e1,_,h1⟩:=nc h
     obtain ⟨v,m3,e2,_,h2⟩:=nc h1
     clear h h1
     subst e2
     have hs:m3<:+t::m:=(((List.suffix_cons v m3).trans (List.suffix_cons u _)).trans (e1▸mZ m)).trans (List.suffix_cons t m)
     obtain ⟨w1,w2⟩:=JR hT.tl
     have h4:=(hT.xV hs).1
     obtain ⟨g1,g2⟩:=ih _ _ _ _ h2 (hT.xV hs) (Nat.le_trans (oh hs) hw) ⟨hT.hd,w2,by simp,by simp,by simpa using h4⟩
     refine ⟨g1,?_⟩
     rw [e1] at w1
     simp only [Qa,Wt,dD,jo,dD.dL,List.map_nil,List.sum_nil] at g2 w1 ⊢
     omega
    ·cases h
  |items k n a l=>
   obtain ⟨p1,p2,p3,p4,p5⟩:=hp
   simp only [bF] at h
   cases ts with
   |nil=>cases h
   |cons t m=>
    simp only at h
    have nest:(match bF f .block (t::m) with
       |some (.ok b r3)=>gi iu (fun r4=>bF f (.items k n a (l++[b])) r4) r3
       |y=>y)=some (.ok b r)→gB b∧dD b+Wt r≤Qa (.items k n a l)+Wt (t::m):=by
     intro h
     cases hb:bF f .block (t::m) with
     |none=>rw [hb] at h;cases h
     |some y=>
      rw [hb] at h
      cases y with
      |err r3 c=>cases h
      |ok b1 r3=>
       simp only at h
       obtain ⟨v,r4,e1,_,h2⟩:=nc h
       clear h
       obtain ⟨g1,g2⟩:=ih _ _ _ _ hb hT hw trivial
       have hlt:=jm hb
       have hs:=mB _ _ _ _ hb
       simp only [jT] at hs
       subst e1
       have hs4:=(List.suffix_cons v r4).trans hs
       obtain ⟨g3,g4⟩:=ih _ _ _ _ h2 (hT.xV hs4) (Nat.le_trans (oh hs4) hw) ⟨p1,p2,p3,fun x hx=>by
        rcases List.mem_append.1 hx with hx|hx
        ·exact p4 x hx
        ·rw [List.mem_singleton] at hx;subst hx;exact g1,by simp only [List.length_append,List.length_cons,List.length_nil] at p5 hlt ⊢;omega⟩
       refine ⟨g3,?_⟩
       simp only [Qa,dD,jW,dD.dL,Wt] at g2 g4 ⊢
       omega
    split at h
    ·cases h
     refine ⟨(iW _).2 ⟨p1,p2,?_,?_,p3,p4⟩,?_⟩
     ·simp only [Bk.attrs];omega
     ·simp only [Bk.blocks];omega
     ·simp only [Qa,Wt];omega
    ·split at h
     ·cases h
     ·cases m with
      |nil=>exact nest h
      |cons u r2=>
       simp only at h
       split at h
       ·cases ht:eP r2 with
        |err r3 c=>rw [ht] at h;cases h
        |ok x r3=>
         rw [ht] at h
         simp only at h
         obtain ⟨v,r4,e1,_,h2⟩:=nc h
         clear h
         have hs2:r2<:+t::u::r2:=(List.suffix_cons u r2).trans (List.suffix_cons t _)
         have hs:=(ZK.1 _ _ ht)
         subst e1
         have hs4:=((List.suffix_cons v r4).trans hs).trans hs2
         have hl4:=((List.suffix_cons v r4).trans hs).length_le
         obtain ⟨g1,g2⟩:=CB ht (hT.xV hs2)
         have w2:=oh hs2
         obtain ⟨g3,g4⟩:=ih _ _ _ _ h2 (hT.xV hs4) (Nat.le_trans (oh hs4) hw) ⟨p1,p2,fun y hy=>by
          rcases List.mem_append.1 hy with hy|hy
          ·exact p3 y hy
          ·rw [List.mem_singleton] at hy;subst hy;exact ⟨hT.hd,g1,by dsimp only;omega⟩,p4,by simp only [List.length_append,List.length_cons,List.length_nil] at p5 ⊢;omega⟩
         refine ⟨g3,?_⟩
         have e:jo [(t.text,x)]=128+t.text.length+bq x:=by simp [jo]
         simp only [Qa,dD,qh,e,Wt] at g2 g4 ⊢
         omega
       ·exact nest h
theorem CC:∀ (f:Nat) (l l':List Bk) (ts:List Tk),gZ f l ts= .ok l'→dh ts→Wt ts≤1099511627776→(∀ x∈l,gB x)→(∀ x∈l',gB x)∧l'.length≤l.length+ts.length∧dD.dL l'≤dD.dL l+Wt ts:=by
 intro f
 induction f with
 |zero=>intro l l' ts h _ _ hl;cases h;exact ⟨hl,by omega,by omega⟩
 |succ f ih=>
  intro l l' ts h hT hw hl
  cases ts with
  |nil=>cases h;exact ⟨hl,by omega,by omega⟩
  |cons t r=>
   simp only [gZ] at h
   have add:∀ b,gB b→∀ x∈l++[b],gB x:=fun b hb x hx=>by
    rcases List.mem_append.1 hx with hx|hx
    ·exact hl x hx
    ·rw [List.mem_singleton] at hx;subst hx;exact hb
   cases hb:bF (ov (t::r)) .block (t::r) with
   |none=>rw [hb] at h;cases h
   |some y=>
    rw [hb] at h
    cases y with
    |err r2 c=>cases h
    |ok b r2=>
     obtain ⟨g1,g2⟩:=MQ _ _ _ _ _ hb hT hw trivial
     have hs:=mB _ _ _ _ hb
     have hlt:=jm hb
     simp only [jT] at hs
     simp only [Qa] at g2
     cases r2 with
     |nil=>
      cases h
      refine ⟨add b g1,by simp,?_⟩
      rw [jW];simp only [dD.dL];omega
     |cons u r2=>
      simp only at h
      split at h
      ·have hs2:=(List.suffix_cons u r2).trans hs
       obtain ⟨q1,q2,q3⟩:=ih _ _ _ h (hT.xV hs2) (Nat.le_trans (oh hs2) hw) (add b g1)
       refine ⟨q1,?_,?_⟩
       ·simp only [List.length_append,List.length_cons,List.length_nil] at q2 hlt ⊢;omega
       ·rw [jW] at q3;simp only [dD.dL,Wt] at q3 g2 ⊢;omega
      ·cases h
theorem jX (ts:List Tk):gJ ts<:+ts:=by
 cases ts with
 |nil=>exact List.suffix_refl _
 |cons t r=>
  simp only [gJ]
  split
  ·exact List.suffix_cons t r
  ·exact List.suffix_refl _
theorem pg {p:Tk→Bool} {k:List Tk→Option RB} {l:List Tk} {x:RB} (h:gi p k l=some x) (hk:∀ r,k r=some x→lT x):lT x:=by
 cases l with
 |nil=>simp only [gi,Option.some.injEq] at h;subst h;simp [lT]
 |cons t r=>
  simp only [gi] at h
  split at h
  ·exact hk r h
  ·simp only [Option.some.injEq] at h;subst h;simp [lT]
theorem CD:∀ (f:Nat) (tag:rR) (ts:List Tk) (x:RB),bF f tag ts=some x→lT x:=by
 intro f
 induction f with
 |zero=>intro tag ts x h;simp [bF] at h
 |succ f ih=>
  intro tag ts x h
  cases tag with
  |block=>
   cases ts with
   |nil=>simp only [bF,Option.some.injEq] at h;subst h;simp [lT]
   |cons t r=>
    simp only [bF] at h
    split at h
    ·exact pg h fun r2 h=>pg h fun r3 h=>ih _ _ _ h
    ·simp only [Option.some.injEq] at h;subst h;simp [lT]
  |items k n a l=>
   simp only [bF] at h
   cases ts with
   |nil=>simp only [Option.some.injEq] at h;subst h;simp [lT]
   |cons t r=>
    simp only at h
    have nest:(match bF f .block (t::r) with
       |some (.ok b r3)=>gi iu (fun r4=>bF f (.items k n a (l++[b])) r4) r3
       |y=>y)=some x→lT x:=by
     intro h
     cases hb:bF f .block (t::r) with
     |none=>rw [hb] at h;simp at h
     |some y=>
      have hs:=ih _ _ _ hb
      rw [hb] at h
      cases y with
      |ok b r3=>exact pg h fun r4 h=>ih _ _ _ h
      |err r3 c=>simp only [Option.some.injEq] at h;subst h;exact hs
    split at h
    ·simp only [Option.some.injEq] at h;subst h;trivial
    ·split at h
     ·simp only [Option.some.injEq] at h;subst h;simp [lT]
     ·cases r with
      |nil=>exact nest h
      |cons u r2=>
       simp only at h
       split at h
       ·cases ht:eP r2 with
        |ok y r3=>
         rw [ht] at h
         exact pg h fun r4 h=>ih _ _ _ h
        |err r3 c=>
         rw [ht] at h
         simp only [Option.some.injEq] at h;subst h
         exact tu ht
       ·exact nest h
theorem vH:∀ (f:Nat) (l:List Bk) (ts r:List Tk) (c:Int),gZ f l ts= .err r c→ts.length<f→r<:+ts∧c≠0:=by
 intro f
 induction f with
 |zero=>intro l ts r c h;cases h
 |succ f ih=>
  intro l ts r c h hf
  cases ts with
  |nil=>cases h
  |cons t m=>
   simp only [gZ] at h
   cases hb:bF (ov (t::m)) .block (t::m) with
   |none=>exact absurd hb (sH _ _ _ (by simp only [wB,ov];omega))
   |some y=>
    rw [hb] at h
    have hs:=mB _ _ _ _ hb
    have he:=CD _ _ _ _ hb
    cases y with
    |err r2 c2=>cases h;exact ⟨hs,he⟩
    |ok b r2=>
     have hlt:=jm hb
     cases r2 with
     |nil=>cases h
     |cons u r2=>
      simp only at h
      split at h
      ·obtain ⟨q1,q2⟩:=ih _ _ _ _ h (by simp only [List.length_cons] at hlt hf;omega)
       exact ⟨(q1.trans (List.suffix_cons u r2)).trans hs,q2⟩
      ·cases h;exact ⟨hs,by decide⟩
end Go.Proofs.YthnoiikjfcnlhaaGreatDoor
end
section
set_option maxHeartbeats 8000000
set_option maxRecDepth 20000
namespace Go.Proofs.YthnoiikjfcnlhaaGreatDoor
open Go.Abs
attribute [local irreducible] AW OX cG GQ bK bO bz aY aa
variable {G:World→Nat→Prop}
abbrev TK:Qn→V
 | .ok l=> .cF [vF l,ai 0,ai 0]
 | .err a c=> .cF [.agg [.d (.sl [])],ai a,ai c]
theorem xH {T:List Tk} {l:List Bk} (hT:dh T) (hw:Wt T≤1099511627776) (h:gZ (T.length+1) [] (gJ T)= .ok l):gF l∧dD.dL l≤1099511627776:=by
 have hs:=jX T
 obtain ⟨h1,h2,h3⟩:=CC _ _ _ _ h (hT.xV hs) (Nat.le_trans (oh hs) hw) (by simp)
 have h4:=hs.length_le
 have h5:=oh hs
 have h6:=hT.1
 simp only [List.length_nil,dD.dL] at h2 h3
 exact ⟨⟨by omega,h1⟩,by omega⟩
theorem pn (g:GA G) (s:az) (hs:s.length≤1048576):b8 G 10 [vs s] (TK (tY s)):=by
 intro st
 have c0:=Jl (G:=G) s hs
 rw [tY]
 cases h:tokens s with
 |err a c=>
  rw [h] at c0
  have hc0:=s8 h
  simp only [Da] at c0
  simp only
  refine aa.start Tryz.func10 rfl Tryz.ntmps10 (by simp) fun _ ag=>?_
  simp -implicitDefEqProofs (disch:=omega) only [go_sem,seval,wk,↓bu,↓bw,bx,↓aq,cX ag,bC (c0 _),hc0];(repeat' first|refine cq.l ?_|refine bg.i ?_ ?_|refine cE.i fun hc=>?_|refine aQ.i ⟨?_,rfl⟩|refine aZ.i ?_ ?_|refine cB.o ?_);all_goals (try subst ag)
  rfl
 |ok T=>
  rw [h] at c0
  obtain ⟨hT,hw,_⟩:=qb h
  have h6:=hT.1
  have c0:b8 G 24 [vs s] (.cF [jA T,ai 0,ai 0]):=c0
  have c1:=MJ (G:=G) hT g hw
  simp only
  cases hk:gZ (T.length+1) [] (gJ T) with
  |ok l=>
   rw [hk] at c1
   obtain ⟨hg,hb⟩:=xH hT hw hk
   have c2:=tq (G:=G) l hg
   simp only [Cy] at c1
   simp only
   by_cases h0:fK l=0
   ·rw [h0] at c2
    rw [if_neg (by simp [h0])]
    refine aa.start Tryz.func10 rfl Tryz.ntmps10 (by simp) fun _ ag=>?_
    simp -implicitDefEqProofs (disch:=omega) only [go_sem,seval,wk,↓bu,↓bw,bx,↓aq,cX ag,bC (c0 _),bC (c1 _),bC (c2 _)];(repeat' first|refine cq.l ?_|refine bg.i ?_ ?_|refine cE.i fun hc=>?_|refine aQ.i ⟨?_,rfl⟩|refine aZ.i ?_ ?_|refine cB.o ?_);all_goals (try subst ag)
    rfl
   ·rw [if_pos h0]
    refine aa.start Tryz.func10 rfl Tryz.ntmps10 (by simp) fun _ ag=>?_
    simp -implicitDefEqProofs (disch:=omega) only [go_sem,seval,wk,↓bu,↓bw,bx,↓aq,cX ag,bC (c0 _),bC (c1 _),bC (c2 _),h0];(repeat' first|refine cq.l ?_|refine bg.i ?_ ?_|refine cE.i fun hc=>?_|refine aQ.i ⟨?_,rfl⟩|refine aZ.i ?_ ?_|refine cB.o ?_);all_goals (try subst ag)
    rfl
  |err rest c=>
   rw [hk] at c1
   obtain ⟨h1,hcc⟩:=vH _ _ _ _ _ hk (by have:=(jX T).length_le;omega)
   have h1:=h1.trans (jX T)
   have h2:=ij h1
   have h3:=CN h1
   simp only [Cy] at c1
   simp only
   cases rest with
   |nil=>
    simp only [List.length_nil,Nat.sub_zero] at c1
    simp only [rM]
    refine aa.start Tryz.func10 rfl Tryz.ntmps10 (by simp) fun _ ag=>?_
    simp -implicitDefEqProofs (disch:=omega) only [go_sem,seval,wk,↓bu,↓bw,bx,↓aq,cX ag,bC (c0 _),bC (c1 _),hcc];(repeat' first|refine cq.l ?_|refine bg.i ?_ ?_|refine cE.i fun hc=>?_|refine aQ.i ⟨?_,rfl⟩|refine aZ.i ?_ ?_|refine cB.o ?_);all_goals (try subst ag)
    rfl
   |cons t l=>
    simp only [List.length_cons] at c1 h3 h2
    have hlt:T.length - (l.length+1)<T.length:=by omega
    have hat:(T.getD (T.length - (l.length+1)) default)=t:=by
     rw [bM hlt] at h2;injection h2 with h2 _;exact h2.symm
    clear h2
    generalize T.length - (l.length+1)=n at*
    simp only [rM]
    refine aa.start Tryz.func10 rfl Tryz.ntmps10 (by simp) fun _ ag=>?_
    simp -implicitDefEqProofs (disch:=omega) only [go_sem,seval,wk,↓bu,↓bw,bx,↓aq,cX ag,bC (c0 _),bC (c1 _),hcc];(repeat' first|refine cq.l ?_|refine bg.i ?_ ?_|refine cE.i fun hc=>?_|refine aQ.i ⟨?_,rfl⟩|refine aZ.i ?_ ?_|refine cB.o ?_);all_goals (try subst ag)
    refine AW.QC (P:=Tryz.prog) mx [(5,8)] (by kernel_rfl) (by simp -implicitDefEqProofs (disch:=first|omega|(simp only [go_sem,List.length_take,List.length_drop];try omega)) only [go_sem,seval,hat];first|done|exact rfl) ?_
    refine OX.nil (Ng (by rfl) (kQ fun _ ag=>?_))
    simp -implicitDefEqProofs (disch:=omega) only [go_sem,seval,wk,↓bu,↓bw,bx,↓aq,cX ag];(repeat' first|refine cq.l ?_|refine bg.i ?_ ?_|refine cE.i fun hc=>?_|refine aQ.i ⟨?_,rfl⟩|refine aZ.i ?_ ?_|refine cB.o ?_);all_goals (try subst ag)
    rfl
def Aj (T:List Tk):Prop:=∀ t∈T,t.kind=5→t.text=[]
theorem JS:∀ (f a:Nat) (s:az) (op:Nat) (out T:List Tk),dV f a s op out= .ok T→Aj out→Aj T:=by
 intro f
 induction f with
 |zero=>intro a s op out T h ho;simp only [dV,qp.ok.injEq] at h;subst h;exact ho
 |succ f ih=>
  intro a s op out T h ho
  cases s with
  |nil=>simp only [dV,qp.ok.injEq] at h;subst h;exact ho
  |cons c r=>
   have add:∀ t:Tk,(t.kind=5→t.text=[])→Aj (out++[t]):=fun t ht u hu=>by
    rcases List.mem_append.1 hu with hu|hu
    ·exact ho u hu
    ·rw [List.mem_singleton] at hu;subst hu;exact ht
   simp only [dV] at h
   split at h
   ·exact ih _ _ _ _ _ h ho
   ·split at h
    ·exact ih _ _ _ _ _ h ho
    ·split at h
     ·refine ih _ _ _ _ _ h ?_
      split
      ·exact add _ fun _=>rfl
      ·exact ho
     ·split at h
      ·cases h
      ·rename_i k t n ht
       have:=(lA ht).2.2.1
       exact ih _ _ _ _ _ h (add _ fun h=>absurd h this)
theorem FY {s:az} {T:List Tk} (h:tokens s= .ok T):Aj T:=by
 rw [tokens] at h
 split at h
 ·cases h
 ·exact JS _ _ _ _ _ _ h fun _ h=>by cases h
def FZ (T:List Tk) (i:Nat) (k:Int) (s:az):Bool:=decide (i<T.length)&& (decide ((T.getD i default).kind=k)&&decide ((T.getD i default).text=s))
theorem MR (T:List Tk) (i:Nat) (s:az):FZ T i 4 s=bU T i s:=by simp only [FZ,bU,cg,Bool.decide_and]
theorem DG {T:List Tk} (h:Aj T) (i:Nat):FZ T i 5 []=cP T i:=by
 simp only [FZ,cP,iu]
 by_cases h1:i<T.length
 ·by_cases h2:(T.getD i default).kind=5
  ·rw [h _ (aB h1) h2,decide_eq_true (rfl:([]:az)=[]),Bool.and_true]
  ·rw [decide_eq_false h2,Bool.false_and]
 ·rw [decide_eq_false h1,Bool.false_and,Bool.false_and]
theorem JT (T:List Tk) (i:Nat) (k:Int) (s:az) (hT:T.length≤1048576) (hi:i≤2000000):b8 G 49 [jA T,ai i,ai k,vs s] (vb (FZ T i k s)):=by
 intro st
 refine aa.start Tryz.func49 rfl Tryz.ntmps49 (by simp) fun _ ag=>?_
 simp -implicitDefEqProofs (disch:=omega) only [go_sem,seval,wk,↓bu,↓bw,bx,↓aq,cX ag];(repeat' first|refine cq.l ?_|refine bg.i ?_ ?_|refine cE.i fun hc=>?_|refine aQ.i ⟨?_,rfl⟩|refine aZ.i ?_ ?_|refine cB.o ?_);all_goals (try subst ag)
 all_goals (refine aO ?_;simp only [FZ];grind)
theorem tE (T:List Tk) (i:Nat) (hT:T.length≤1048576) (hi:i≤2000000):b8 G 79 [jA T,ai i] (ai (bD T i)):=by
 intro st
 refine aa.start Tryz.func79 rfl Tryz.ntmps79 (by simp) fun _ ag=>?_
 simp -implicitDefEqProofs (disch:=omega) only [go_sem,seval,wk,↓bu,↓bw,bx,↓aq,cX ag];(repeat' first|refine cq.l ?_|refine bg.i ?_ ?_|refine cE.i fun hc=>?_|refine aQ.i ⟨?_,rfl⟩|refine aZ.i ?_ ?_|refine cB.o ?_);all_goals (try subst ag)
 all_goals (refine bA ?_;simp only [bD];grind)
theorem MS (T:List Tk) (i:Nat) (hT:dh T) (hi:i≤2000000):b8 G 78 [jA T,ai i] (vb (nameAt T i)):=by
 intro st
 have h6:=hT.1
 have hp:=fun hi:i<T.length=>ZY (G:=G) (T.getD i default).text (hT.2 _ (aB hi))
 refine aa.start Tryz.func78 rfl Tryz.ntmps78 (by simp) fun _ ag=>?_
 simp -implicitDefEqProofs (disch:=omega) only [go_sem,seval,wk,↓bu,↓bw,bx,↓aq,cX ag,nC hp];(repeat' first|refine cq.l ?_|refine bg.i ?_ ?_|refine cE.i fun hc=>?_|refine aQ.i ⟨?_,rfl⟩|refine aZ.i ?_ ?_|refine cB.o ?_);all_goals (try subst ag)
 all_goals (refine aO ?_;simp only [nameAt,fo];grind)
end Go.Proofs.YthnoiikjfcnlhaaGreatDoor
end
