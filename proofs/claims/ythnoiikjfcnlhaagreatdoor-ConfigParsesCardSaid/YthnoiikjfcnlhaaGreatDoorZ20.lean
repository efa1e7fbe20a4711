/- A step of the proofs of the seat's theorems. -/
import Derived.Test.YthnoiikjfcnlhaaGreatDoorZ1
import Derived.Test.YthnoiikjfcnlhaaGreatDoorZ5
import Derived.Test.YthnoiikjfcnlhaaGreatDoorZ13
import Derived.Test.YthnoiikjfcnlhaaGreatDoorZ19
set_option linter.unusedSimpArgs false
set_option linter.unusedVariables false
section
set_option maxHeartbeats 8000000
set_option maxRecDepth 20000
namespace Go.Proofs.YthnoiikjfcnlhaaGreatDoor
open Go.Abs
attribute [local irreducible] AW OX cG GQ bK bO bz aY aa
variable {G:World→Nat→Prop}
attribute [go_sem] List.all_append
theorem Dg (v:aX):vE (lit v)= .agg ([.d (int 1),.d (.str [])]++v.enc.map .d++[.d (.sl []),.d (.sl [])]):=by
 rw [vE,Ex.aP];simp [lit,Ex.kind,Ex.name,Ex.value,Ex.args,Ex.keys,bt]
theorem bM {T:List Tk} {i:Nat} (h:i<T.length):T.drop i=T.getD i default::T.drop (i+1):=by
 rw [List.drop_eq_getElem_cons h];simp [List.getD_eq_getElem?_getD,h]
theorem bk {T:List Tk} {i:Nat} (h:¬ i<T.length):T.drop i=[]:=List.drop_of_length_le (by omega)
abbrev jA (l:List Tk):V:= .d (.sl (l.map Tk.enc))
def bU (T:List Tk) (i:Nat) (s:az):Bool:=decide (i<T.length)&&cg s (T.getD i default)
theorem nB (T:List Tk) (i:Nat) (s:az) (hT:T.length≤1048576) (hi:i≤2000000):b8 G 135 [jA T,ai i,vs s] (vb (bU T i s)):=by
 intro st
 refine aa.body Tryz.func135 rfl Tryz.ntmps135 (by simp) ?_
 (try refine Wk.aw fun _ ag=>?_);(repeat' (first|((first|refine Wk.hd ?_|refine Wk.i ?_);simp -implicitDefEqProofs (disch:=omega) only [go_sem,seval])|(refine ay (fun hc=>?_) (fun hc=>?_)<;>try omega)|refine Wk.ret fun _ _=>?_|(refine Wk.fin (by assumption) ?_;refine ⟨?_,rfl⟩)|first|refine Wk.o ?_|refine Wk.q (by assumption) ?_));all_goals (repeat subst ag)
 all_goals (refine aO ?_;simp only [bU,cg,Bool.and_eq_true,decide_eq_true_eq,reduceCtorEq,iff_false,false_iff,iff_true,true_iff])
 ·exact ⟨fun h=>⟨‹_›,‹_›,h⟩,fun h=>h.2.2⟩
 ·exact fun h=>hc h.2.1
 ·exact fun h=>hc h.1
def bD (T:List Tk) (i:Nat):Int:=if T.length≤i then 4 else 5
theorem fI (T:List Tk) (i:Nat) (hT:T.length≤1048576) (hi:i≤2000000):b8 G 136 [jA T,ai i] (ai (bD T i)):=by
 intro st
 refine aa.body Tryz.func136 rfl Tryz.ntmps136 (by simp) ?_
 (try refine Wk.aw fun _ ag=>?_);(repeat' (first|((refine Wk.i ?_);simp -implicitDefEqProofs only [go_sem,seval])|(refine ay (fun hc=>?_) (fun hc=>?_)<;>try omega)|refine Wk.ret fun _ _=>?_|(refine Wk.fin (by assumption) ?_;refine ⟨?_,rfl⟩)|first|refine Wk.o ?_|refine Wk.q (by assumption) ?_));all_goals (repeat subst ag)
 all_goals (try simp -implicitDefEqProofs (disch:=first|assumption|omega) only [bD,if_pos,if_neg]);all_goals first|rfl|((repeat' split)<;>first|rfl|(exfalso;omega)|grind|skip)
theorem ZY (s:az) (hs:s.length≤1048576):b8 G 53 [vs s] (vb (cc s)):=by
 intro st
 refine aa.body Tryz.func53 rfl Tryz.ntmps53 (by simp) ?_
 (try refine Wk.aw fun _ ag=>?_);(repeat' (first|((first|refine Wk.hd ?_|refine Wk.i ?_);simp -implicitDefEqProofs only [go_sem,seval])|(refine ay (fun hc=>?_) (fun hc=>?_)<;>try omega)|refine ah (sy s hs _) ?_|refine Wk.ret fun _ _=>?_|(refine Wk.fin (by assumption) ?_;refine ⟨?_,rfl⟩)|first|refine Wk.o ?_|refine Wk.q (by assumption) ?_));all_goals (repeat subst ag)
 all_goals (refine aO ?_;simp only [cc,isWord,Bool.and_eq_true,Bool.not_eq_true',decide_eq_true_eq,decide_eq_false_iff_not,reduceCtorEq,iff_false,false_iff,iff_true,true_iff])
 ·exact ⟨fun h=>⟨‹_›,by rintro (h'|h'|h')<;>contradiction⟩,fun h h'=>h.2 (.inr (.inr h'))⟩
 ·exact fun h=>h.2 (.inr (.inl (Decidable.not_not.1 hc)))
 ·exact fun h=>h.2 (.inl (Decidable.not_not.1 hc))
 ·exact fun h=>by rw [hc] at h;exact Bool.false_ne_true h.1
theorem Fe (t:Tk) (ht:t.text.length≤1048576):b8 G 226 [vT t] (vb (kq t)):=by
 intro st
 refine aa.body Tryz.func226 rfl Tryz.ntmps226 (by simp) ?_
 (try refine Wk.aw fun _ ag=>?_);(repeat' (first|((first|refine Wk.hd ?_|refine Wk.i ?_);simp -implicitDefEqProofs only [go_sem,seval])|(refine ay (fun hc=>?_) (fun hc=>?_)<;>try omega)|refine ah (sy t.text ht _) ?_|refine Wk.ret fun _ _=>?_|(refine Wk.fin (by assumption) ?_;refine ⟨?_,rfl⟩)|first|refine Wk.o ?_|refine Wk.q (by assumption) ?_));all_goals (repeat subst ag)
 all_goals (refine aO ?_;simp only [kq,Bool.and_eq_true,Bool.or_eq_true,decide_eq_true_eq,reduceCtorEq,iff_false,false_iff,iff_true,true_iff])
 all_goals grind
theorem nJ (v:aX):b8 G 197 [vV v] (vE (lit v)):=by
 intro st
 refine aa.body Tryz.func197 rfl Tryz.ntmps197 (by simp) ?_
 (try refine Wk.aw fun _ ag=>?_);(repeat' (first|((refine Wk.i ?_);simp -implicitDefEqProofs only [go_sem,seval,aX.aP])|refine Wk.ret fun _ _=>?_|(refine Wk.fin (by assumption) ?_;refine ⟨?_,rfl⟩)|first|refine Wk.o ?_|refine Wk.q (by assumption) ?_));all_goals (repeat subst ag)
 all_goals (rw [Dg,aX.aP];rfl)
theorem jb (v:aX):b8 G 235 [vV v] (vE (lit v)):=by
 intro st
 refine aa.body Tryz.func235 rfl Tryz.ntmps235 (by simp) ?_
 (try refine Wk.aw fun _ ag=>?_);(repeat' (first|((refine Wk.i ?_);simp -implicitDefEqProofs only [go_sem,seval,aX.aP])|refine Wk.ret fun _ _=>?_|(refine Wk.fin (by assumption) ?_;refine ⟨?_,rfl⟩)|first|refine Wk.o ?_|refine Wk.q (by assumption) ?_));all_goals (repeat subst ag)
 all_goals (rw [Dg,aX.aP];rfl)
abbrev Xp (T:List Tk) (r:dF Ex) (st:St):Out→St→Prop:=fun o s=>match r with
 | .ok e rest=>o= .ret (.cF [vE e,ai ↑(T.length - rest.length),ai 0])∧s=st
 | .err rest c=>∃ x,o= .ret (.cF [vE x,ai ↑(T.length - rest.length),ai c])∧s=st
abbrev lE (G:World→Nat→Prop) (T:List Tk) (g:FuncId) (args:List V) (r:dF Ex):Prop:=∀ st,aa Tryz.prog G g args st (Xp T r st)
abbrev pW (T:List Tk) (r:dF Ex):V:=match r with
 | .ok e rest=> .cF [.d (.sl (e.args.map Ex.enc)),.d (.sl (bt e.keys)),ai ↑(T.length - rest.length),ai 0]
 | .err rest c=> .cF [.d (.sl []),.d (.sl []),ai ↑(T.length - rest.length),ai c]
structure mC (G:World→Nat→Prop) (T:List Tk) (f:Nat):Prop where
 cond:∀ i≤T.length,∀ r,pF f .cond (T.drop i)=some r→lE G T 110 [jA T,ai i] r
 op:∀ n,2≤n→n≤7→∀ i≤T.length,∀ r,pF f (.op n) (T.drop i)=some r→lE G T 134 [jA T,ai i,ai ↑n] r
 un:∀ i≤T.length,∀ r,pF f .un (T.drop i)=some r→lE G T 155 [jA T,ai i] r
 chain:∀ i≤T.length,∀ r,aL (pF f .atom (T.drop i)) (fun e r2=>pF f (.chain e) r2)=some r→lE G T 172 [jA T,ai i] r
 atom:∀ i≤T.length,∀ r,pF f .atom (T.drop i)=some r→lE G T 186 [jA T,ai i] r
 args:∀ s,∀ i≤T.length,∀ r,pF f (.args s) (T.drop i)=some r→b8 G 212 [jA T,ai i,vs s,vb false] (pW T r)
 kW:∀ i≤T.length,∀ r,pF f .kW (T.drop i)=some r→b8 G 212 [jA T,ai i,vs [125],vb true] (pW T r)
theorem lE.ok {T:List Tk} {g:FuncId} {args:List V} {e:Ex} {rest:List Tk} (h:lE G T g args (.ok e rest)):b8 G g args (.cF [vE e,ai ↑(T.length - rest.length),ai 0]):=fun st=>(h st).mono fun _ _ hh=>hh
theorem lE.err {T:List Tk} {g:FuncId} {args:List V} {c:Int} {rest:List Tk} (h:lE G T g args (.err rest c)) (st:St):aa Tryz.prog G g args st (fun o s=>∃ x,o= .ret (.cF [vE x,ai ↑(T.length - rest.length),ai c])∧s=st):=(h st).mono fun _ _ hh=>hh
theorem gp {T:List Tk} {j:Nat} (s:az) (k:List Tk→Option (dF Ex)):cU s k (T.drop j)=if bU T j s=true then k (T.drop (j+1)) else some (.err (T.drop j) (bD T j)):=by
 by_cases h:j<T.length
 ·rw [bM h]
  have h1:bU T j s=cg s (T.getD j default):=by simp [bU,h]
  have h2:bD T j=5:=if_neg (by omega)
  rw [h1,h2]
  rfl
 ·rw [bk h]
  have h1:bU T j s=false:=by simp [bU,h]
  have h2:bD T j=4:=if_pos (by omega)
  rw [h1,h2];rfl
theorem bW {T:List Tk} {j:Nat} {s:az} (h:bU T j s=true):j<T.length:=by
 simp only [bU,Bool.and_eq_true,decide_eq_true_eq] at h;exact h.1
theorem eH {T:List Tk} {j:Nat} {s:az} (h:bU T j s=true):cg s (T.getD j default)=true:=by
 simp only [bU,Bool.and_eq_true] at h;exact h.2
theorem dj {T:List Tk} {j:Nat} {s:az} (hj:j<T.length) (h:bU T j s=false):cg s (T.getD j default)=false:=by
 simpa [bU,hj] using h
theorem fS {f:Nat} {tag:Tag} {T:List Tk} {i:Nat} {r:dF Ex} (h:pF f tag (T.drop i)=some r) (hi:i≤T.length):∃ j,i≤j∧j≤T.length∧au r=T.drop j∧T.length - (au r).length=j:=by
 have s1:=vW _ _ _ _ h
 have s2:=List.IsSuffix.trans s1 (List.drop_suffix i T)
 have l1:=s1.length_le
 simp only [List.length_drop] at l1
 exact ⟨T.length - (au r).length,by omega,by omega,ij s2,rfl⟩
theorem IM {T:List Tk} {f:Nat} (hT:T.length≤1048576) (hf:mC G T f) (i:Nat) (hi:i≤T.length) (r:dF Ex) (h:pF (f+1) .cond (T.drop i)=some r):
  lE G T 110 [jA T,ai i] r:=by
 intro st
 simp only [pF] at h
 have len:∀ j,j≤T.length→T.length - (T.drop j).length=j:=fun j hj=>by simp only [List.length_drop];omega
 rcases h1:pF f (.op 2) (T.drop i) with _|(⟨c,r1⟩|⟨r1,ec⟩)
 ·rw [h1] at h;simp [aL] at h
 ·have c1:=(hf.op 2 (by omega) (by omega) i hi _ h1).ok
  obtain ⟨j,hij,hj,d1,e1⟩:=fS h1 hi
  simp only [au] at d1 e1
  subst d1
  rw [e1] at c1
  rw [h1] at h
  simp only [aL] at h
  have hop:=nB (G:=G) T j [63] hT (by omega)
  cases hb:bU T j [63]
  ·rw [hb] at hop
   have hr:r= .ok c (T.drop j):=by
    by_cases hjl:j<T.length
    ·rw [bM hjl] at h
     simp only [dj hjl hb,Bool.false_eq_true,if_false,Option.some.injEq] at h
     rw [←h,bM hjl]
    ·rw [bk hjl] at h
     simp only [Option.some.injEq] at h
     rw [←h,bk hjl]
   subst hr
   refine aa.body Tryz.func110 rfl Tryz.ntmps110 (by simp) ?_
   (try refine Wk.aw fun _ ag=>?_);(repeat' (first|((first|refine Wk.hd ?_|refine Wk.i ?_);simp -implicitDefEqProofs (disch:=omega) only [go_sem,seval])|refine ah (c1 _) ?_|refine ah (hop _) ?_|refine Wk.ret fun _ _=>?_|refine Wk.fin (by assumption) ?_|first|refine Wk.o ?_|refine Wk.q (by assumption) ?_));all_goals (repeat subst ag)
   all_goals exact ⟨by rw [len j hj],rfl⟩
  ·have hjl:=bW hb
   rw [hb] at hop
   rw [bM hjl] at h
   simp only [eH hb,if_true] at h
   rcases h2:pF f .cond (T.drop (j+1)) with _|(⟨a,r3⟩|⟨r3,e3⟩)
   ·rw [h2] at h;simp at h
   ·have c2:=(hf.cond (j+1) (by omega) _ h2).ok
    obtain ⟨k,hjk,hk,d2,e2⟩:=fS h2 (by omega)
    simp only [au] at d2 e2
    subst d2
    rw [e2] at c2
    rw [h2] at h
    simp only at h
    rw [gp] at h
    have hop2:=nB (G:=G) T k [58] hT (by omega)
    have hmi:=fI (G:=G) T k hT (by omega)
    cases hb2:bU T k [58]
    ·rw [hb2] at h hop2
     simp only [Bool.false_eq_true,if_false,Option.some.injEq] at h
     subst h
     refine aa.body Tryz.func110 rfl Tryz.ntmps110 (by simp) ?_
     (try refine Wk.aw fun _ ag=>?_);(repeat' (first|((first|refine Wk.hd ?_|refine Wk.i ?_);simp -implicitDefEqProofs (disch:=omega) only [go_sem,seval])|refine ah (c1 _) ?_|refine ah (c2 _) ?_|refine ah ((by first|exact hop _|exact hop2 _)) ?_|refine ah (hmi _) ?_|refine Wk.ret fun _ _=>?_|refine Wk.fin (by assumption) ?_|first|refine Wk.o ?_|refine Wk.q (by assumption) ?_));all_goals (repeat subst ag)
     all_goals exact ⟨xQ,by rw [len k hk];rfl,rfl⟩
    ·have hkl:=bW hb2
     rw [hb2] at h hop2
     simp only [if_true] at h
     rcases h3:pF f .cond (T.drop (k+1)) with _|(⟨b,r5⟩|⟨r5,e5⟩)
     ·rw [h3] at h;simp [aL] at h
     ·have c3:=(hf.cond (k+1) (by omega) _ h3).ok
      obtain ⟨m,hkm,hm,d3,e3⟩:=fS h3 (by omega)
      simp only [au] at d3 e3
      subst d3
      rw [e3] at c3
      rw [h3] at h
      simp only [aL,Option.some.injEq] at h
      subst h
      refine aa.body Tryz.func110 rfl Tryz.ntmps110 (by simp) ?_
      (try refine Wk.aw fun _ ag=>?_);(repeat' (first|((first|refine Wk.hd ?_|refine Wk.i ?_);simp -implicitDefEqProofs (disch:=omega) only [go_sem,seval])|refine ah (c1 _) ?_|refine ah ((by first|exact c2 _|exact c3 _)) ?_|refine ah ((by first|exact hop _|exact hop2 _)) ?_|refine Wk.ret fun _ _=>?_|refine Wk.fin (by assumption) ?_|first|refine Wk.o ?_|refine Wk.q (by assumption) ?_));all_goals (repeat subst ag)
      all_goals exact ⟨by rw [len m hm];rfl,rfl⟩
     ·have c3:=(hf.cond (k+1) (by omega) _ h3).err
      have he:=fJ h3
      rw [h3] at h
      simp only [aL,Option.some.injEq] at h
      subst h
      refine aa.body Tryz.func110 rfl Tryz.ntmps110 (by simp) ?_
      (try refine Wk.aw fun _ ag=>?_);(repeat' (first|((first|refine Wk.hd ?_|refine Wk.i ?_);simp -implicitDefEqProofs (disch:=omega) only [go_sem,seval])|refine ah (c1 _) ?_|refine ah (c2 _) ?_|refine iI (c3 _) fun x_=>?_|refine ah ((by first|exact hop _|exact hop2 _)) ?_|refine Wk.ret fun _ _=>?_|refine Wk.fin (by assumption) ?_|first|refine Wk.o ?_|refine Wk.q (by assumption) ?_));all_goals (repeat subst ag)
      all_goals exact ⟨.mk 8 [] ct [c,a,_] [],rfl,rfl⟩
   ·have c2:=(hf.cond (j+1) (by omega) _ h2).err
    have he:=fJ h2
    rw [h2] at h
    simp only [Option.some.injEq] at h
    subst h
    refine aa.body Tryz.func110 rfl Tryz.ntmps110 (by simp) ?_
    (try refine Wk.aw fun _ ag=>?_);(repeat' (first|((first|refine Wk.hd ?_|refine Wk.i ?_);simp -implicitDefEqProofs (disch:=omega) only [go_sem,seval])|(refine ay (fun hc=>?_) (fun hc=>?_)<;>try omega)|refine ah (c1 _) ?_|refine iI (c2 _) fun x_=>?_|refine ah ((by first|exact hop _|exact hop2 _)) ?_|refine Wk.ret fun _ _=>?_|refine Wk.fin (by assumption) ?_|first|refine Wk.o ?_|refine Wk.q (by assumption) ?_));all_goals (repeat subst ag)
    all_goals exact ⟨xQ,rfl,rfl⟩
 ·have c1:=(hf.op 2 (by omega) (by omega) i hi _ h1).err
  have he:=fJ h1
  rw [h1] at h
  simp only [aL,Option.some.injEq] at h
  subst h
  refine aa.body Tryz.func110 rfl Tryz.ntmps110 (by simp) ?_
  (try refine Wk.aw fun _ ag=>?_);(repeat' (first|((first|refine Wk.hd ?_|refine Wk.i ?_);simp -implicitDefEqProofs (disch:=omega) only [go_sem,seval])|(refine ay (fun hc=>?_) (fun hc=>?_)<;>try omega)|refine iI (c1 _) fun x_=>?_|refine Wk.ret fun _ _=>?_|refine Wk.fin (by assumption) ?_|first|refine Wk.o ?_|refine Wk.q (by assumption) ?_));all_goals (repeat subst ag)
  all_goals exact ⟨_,rfl,rfl⟩
end Go.Proofs.YthnoiikjfcnlhaaGreatDoor
end
section
set_option maxHeartbeats 8000000
set_option maxRecDepth 20000
namespace Go.Proofs.YthnoiikjfcnlhaaGreatDoor
open Go.Abs
variable {G:World→Nat→Prop}
abbrev bT:Nat:=74
abbrev bE:Nat:=5
theorem mD {w:World} {k:Nat} {arr:Array Value} {e:TypeId} {f:Nat×Nat} (h:w.heap[k]?=some (.cells arr e f)) (i:Nat) (v:Value):w.setCell ⟨k,i,none⟩ v=w.setRow k (arr.setIfInBounds i v):=by
 have hh:(w.setCell ⟨k,i,none⟩ v).heap=(w.setRow k (arr.setIfInBounds i v)).heap:=by
  apply Array.ext_getElem?
  intro j
  by_cases hj:j=k
  ·subst hj
   rw [setRow_heap w j arr _ e f h]
   simp only [World.setCell,Array.getElem?_modify,if_true,h]
   rfl
  ·rw [setRow_other w k j _ hj]
   simp only [World.setCell,Array.getElem?_modify]
   rw [if_neg (fun e=>hj e.symm)]
 simp only [World.setCell,World.setRow] at hh ⊢
 rw [hh]
theorem sJ {c:Ctx} {w:World} {st:St} (hc:bf c w st) {b:Nat} {p X:V} (hb:st.aj[b]?=some (.tc bT [p,X])):∃ k pv xv,c.mu[b]?=some k∧w.heap[k]?=some (.cells #[pv,xv] bT (0,0))∧Rel c pv p∧Rel c xv X:=by
 have hlt:b<c.mu.length:=by rw [hc.cN];exact (List.getElem?_eq_some_iff.1 hb).1
 have hk:c.mu[b]?=some c.mu[b]:=List.getElem?_eq_getElem hlt
 obtain ⟨arr,elem,h1,h2,h3,h4⟩:=hc.rowAt hk hb rfl
 have he:=h4 _ _ rfl
 subst he
 have h0:=h3 0 (by simp)
 have h1':=h3 1 (by simp)
 refine ⟨_,arr.getD 0 undef,arr.getD 1 undef,hk,?_,by simpa using h0,by simpa using h1'⟩
 rw [h1]
 congr 2
 apply Array.ext
 ·simpa using h2
 ·intro i hi hi2
  simp only [List.length_cons,List.length_nil] at h2
  match i with
  |0=>simp [Array.getD_eq_getD_getElem?,show 0<arr.size by omega]
  |1=>simp [Array.getD_eq_getD_getElem?,show 1<arr.size by omega]
  |i+2=>omega
theorem kr (st:St) (b:Nat) (X:V) (hb:st.aj[b]?=some (.tc bT [.ptr b 0,X])):aa Tryz.prog G 88 [.ptr b 0] st (fun o s=>o= .ret (.cF [])∧s=st):=by
 intro c w cargs hc hG hs hr
 obtain ⟨k,pv,xv,hk,hh,hp,hx⟩:=sJ hc hb
 have h0:=hr 0 (by simp)
 have ha:cargs= #[.pointer (some ⟨k,0,none⟩)]:=by
  simp only [List.getD_cons_zero] at h0
  generalize hq:cargs.getD 0 undef=q at h0
  cases h0 with|ptr _ k' _ hk'=>?_
  rw [hk] at hk';cases hk'
  apply Array.ext
  ·simpa using hs
  ·intro i hi hi2
   have:i=0:=by simp at hi2;omega
   subst this
   simpa [Array.getD_eq_getD_getElem?,hi] using hq
 subst ha
 have hpv:pv= .pointer (some ⟨k,0,none⟩):=by
  cases hp with|ptr _ k' _ hk'=>?_
  rw [hk] at hk';cases hk';rfl
 subst hpv
 refine (LI k w (by simp [World.cell?,hh])).mono ?_
 rintro e w' ⟨rfl,rfl⟩
 exact ⟨.ret (.cF []),st,c,⟨rfl,rfl⟩,Ext.refl c,hc,.cF _ _ rfl (by simp)⟩
theorem nK (st:St) (b:Nat) (X:V) (hb:st.aj[b]?=some (.tc bT [.d .eX,X])):aa Tryz.prog G 88 [.ptr b 0] st (fun o s=>o= .ret (.cF [])∧s=⟨st.aj.set b (.tc bT [.ptr b 0,X]),st.toks⟩):=by
 intro c w cargs hc hG hs hr
 obtain ⟨k,pv,xv,hk,hh,hp,hx⟩:=sJ hc hb
 have h0:=hr 0 (by simp)
 have ha:cargs= #[.pointer (some ⟨k,0,none⟩)]:=by
  simp only [List.getD_cons_zero] at h0
  generalize hq:cargs.getD 0 undef=q at h0
  cases h0 with|ptr _ k' _ hk'=>?_
  rw [hk] at hk';cases hk'
  apply Array.ext
  ·simpa using hs
  ·intro i hi hi2
   have:i=0:=by simp at hi2;omega
   subst this
   simpa [Array.getD_eq_getD_getElem?,hi] using hq
 subst ha
 have hpv:pv= .pointer none:=by
  cases hp with|d _ _ h=>?_
  cases h;rfl
 subst hpv
 refine (ze k w (by simp [World.cell?,hh]) (by simp [World.shape?,hh]) (by simp [World.frozen?,hh])).mono ?_
 rintro e w' ⟨rfl,rfl⟩
 rw [mD hh]
 refine ⟨.ret (.cF []),_,c,⟨rfl,rfl⟩,Ext.refl c,?_,.cF _ _ rfl (by simp)⟩
 refine hc.setRow hk hb hh (cs':=[.ptr b 0,X]) (by simp) (fun i hi=>?_) (.inr rfl)
 match i with
 |0=>exact .ptr _ _ _ hk
 |1=>simpa using hx
 |i+2=>simp at hi;omega
theorem Dh {c:Ctx} {b k:Nat} {cargs:Array Value} (hk:c.mu[b]?=some k) (hs:cargs.size=1) (h0:Rel c (cargs.getD 0 undef) (.ptr b 0)):cargs= #[.pointer (some ⟨k,0,none⟩)]:=by
 generalize hq:cargs.getD 0 undef=q at h0
 cases h0 with|ptr _ k' _ hk'=>?_
 rw [hk] at hk';cases hk'
 apply Array.ext
 ·simpa using hs
 ·intro i hi hi2
  have:i=0:=by simp at hi2;omega
  subst this
  simpa [Array.getD_eq_getD_getElem?,hi] using hq
theorem Ff {c:Ctx} {w:World} {st:St} (hc:bf c w st) {id:Nat} {s:az} {xv:Value} (hx:Rel c xv (.own id (aH s))) (ht:st.toks[id]?=some (bE,1,s.length)) (h0:s≠[]):
  ∃ t g cap cur,c.tok[id]?=some t∧t.len=s.length∧t.val=xv∧xv= .slice (some ⟨g,0,none⟩) s.length cap∧w.heap[g]?=some (.cells cur bE (0,0))∧s.length≤cap∧cap≤maxLen∧cur.size=cap∧t.e=bE∧t.sz=1∧
   ∀ j x,s[j]?=some x→w.cell? ((⟨g,0,none⟩:Addr).add j)=some (.int .u8 x.toNat):=by
 have hl0:s.length≠0:=by simpa using h0
 have hrl:(aH s).length=s.length:=by simp [aH]
 cases hx with|own _ _ _ t r htk hszr hle heq=>?_
 have htl:t.e=bE∧t.sz=1∧t.len=s.length:=by
  have:=hc.cu▸ht
  rw [List.getElem?_map,htk] at this
  simpa using this
 obtain ⟨h1,h2,h3⟩:=htl
 have hv:=heq (by rw [hrl,h3])
 subst hv
 obtain ⟨_,hdd|⟨old,hold,_⟩⟩:=hc.cz id t htk
 ·exfalso
  generalize htv:t.val=tv at r
  generalize hbr:aH s=rows at r hrl
  cases r with
  |slnil=>simp at hrl;exact h0 (List.length_eq_zero_iff.1 hrl.symm)
  |uV a=>simp at hrl;exact h0 (List.length_eq_zero_iff.1 hrl.symm)
  |sl k off n cap sz vs _ b1 b2 b3 b4 b5=>
   have:=hdd.2
   rw [htv] at this
   simp [Value.ownBlock] at this
 rcases hold.2 with ⟨_,hn⟩|⟨g,cap,cur,hv,hbg,hg,hnc,hcm,hcs,htake⟩
 ·omega
 refine ⟨t,g,cap,cur,htk,h3,rfl,by rw [hv,h3],by rw [hg,h1],by omega,hcm,by rw [hcs,h2,Nat.mul_one],h1,h2,?_⟩
 intro j x hj
 have hjl:j<s.length:=(List.getElem?_eq_some_iff.1 hj).1
 generalize htv:t.val=tv at r
 generalize hbr:aH s=rows at r hrl
 cases r with
 |slnil=>simp at hrl;exact absurd (List.length_eq_zero_iff.1 hrl.symm) h0
 |uV a=>simp at hrl;exact absurd (List.length_eq_zero_iff.1 hrl.symm) h0
 |sl k off n cap' sz vs _ b1 b2 b3 b4 b5=>
  rw [htv] at hv
  simp only [Value.slice.injEq,Option.some.injEq,Addr.mk.injEq] at hv
  obtain ⟨⟨rfl,rfl,_⟩,_,_⟩:=hv
  have hsz1:sz=1:=by
   have:=b3 (rows[0]'(by rw [hrl];omega)) (List.getElem_mem _)
   subst hbr
   simpa [aH] using this.symm
  subst hsz1
  have e1:=b4 j 0 (by rw [←b1,hrl];exact hjl) (by omega)
  have e2:=b5 j 0 (by rw [←b1,hrl];exact hjl) (by omega)
  have e3:(rows.getD j []).getD 0 .eX= .int .u8 x.toNat:=by
   subst hbr
   simp only [aH,List.getD_eq_getElem?_getD,List.getElem?_map,hj]
   rfl
  rw [e3] at e2
  generalize hvj:vs j 0=vj at e1 e2
  cases e2
  have:=hc.cy _ _ _ e1
  rw [addr_add]
  simpa using this
theorem ku (st:St) (b id:Nat) (p:V) (s:az) (hb:st.aj[b]?=some (.tc bT [p,.own id (aH s)])) (ht:st.toks[id]?=some (bE,1,s.length)) (h0:s≠[]):
  aa Tryz.prog G 33 [.ptr b 0] st (fun o s'=>o= .ret (.d (.str s))∧s'=⟨st.aj,st.toks.set id (bE,1,maxLen+1)⟩):=by
 intro c w cargs hc hG hs hr
 obtain ⟨k,pv,xv,hk,hh,hp,hx⟩:=sJ hc hb
 obtain ⟨t,g,cap,cur,q1,q2,q3,q4,q5,q6,q7,q8,q9,q10,q11⟩:=Ff hc hx ht h0
 have ha:=Dh hk (by simpa using hs) (hr 0 (by simp))
 subst ha q4
 refine (O3 k g cap pv bT cur s w hh q5 q6 q7 q8 h0 q11).mono ?_
 rintro e w' ⟨rfl,rfl⟩
 obtain ⟨k1,k2⟩:=hc.kill q1 (by rw [q2];omega) (g:=g) (by rw [q3];rfl) s.length
 rw [q9,q10] at k1
 exact ⟨.ret (.d (.str s)),_,_,⟨rfl,rfl⟩,k2,k1,.d _ _ (.str _ _ (by simp))⟩
theorem nL (st:St) (b:Nat) (p:V) (hb:st.aj[b]?=some (.tc bT [p,.bh])):
  aa Tryz.prog G 33 [.ptr b 0] st (fun o s'=>o= .ret (.d (.str []))∧s'=st):=by
 intro c w cargs hc hG hs hr
 obtain ⟨k,pv,xv,hk,hh,hp,hx⟩:=sJ hc hb
 have ha:=Dh hk (by simpa using hs) (hr 0 (by simp))
 subst ha
 have hxv:xv= .slice none 0 0:=by cases hx;rfl
 subst hxv
 refine (O4 k pv bT w hh).mono ?_
 rintro e w' ⟨rfl,rfl⟩
 exact ⟨.ret (.d (.str [])),st,c,⟨rfl,rfl⟩,Ext.refl c,hc.drew,.d _ _ (.str _ _ rfl)⟩
end Go.Proofs.YthnoiikjfcnlhaaGreatDoor
end
section
set_option maxHeartbeats 8000000
set_option maxRecDepth 20000
namespace Go.Proofs.YthnoiikjfcnlhaaGreatDoor
open Go.Abs
attribute [local irreducible] AW OX cG GQ bK bO bz aY aa
variable {G:World→Nat→Prop}
theorem iA {α:Type} {l:List α} {i:Nat} {x y:α} (h:l[i]?=some x):(l.set i y)[i]?=some y:=List.getElem?_set_self (List.getElem?_eq_some_iff.1 h).1
theorem jB (s:az):(aH s).length=s.length:=by simp [aH]
theorem w9 (s t:az):aH s++aH t=aH (s++t):=by simp [aH]
theorem oT (c:UInt8):[[D.int .u8 c.toNat]]=aH [c]:=rfl
theorem iB (s:az):dA 1 (aH s)=true:=by simp [dA,aH,D.one]
theorem gK (s:az):cr 1 (aH s)=true:=by simp [cr,aH]
theorem zf {st:St} {e by_ id:Nat} {s x:az} (ht:st.toks[id]?=some (e,1,s.length)) (hx:x≠[]) (h1:(s.length+x.length)*by_≤140737488355328) (h2:s.length+x.length≤9223372036854775807):
  jt (some 1) true true e 1 by_ (aH x) (.own id (aH s)) st=some (.own id (aH (s++x)),⟨st.aj,st.toks.set id (e,1,s.length+x.length)⟩):=by
 have hm:maxLen=9223372036854775807:=by decide
 have he:(aH x).isEmpty=false:=by cases x<;>simp_all [aH]
 simp only [jt,ff,jB]
 rw [if_pos ⟨trivial,by omega,trivial⟩,if_pos ⟨ht,trivial,h1,by omega⟩,he,w9]
 rfl
theorem Fg {st:St} {e by_ id:Nat} {s:az} (ht:st.toks[id]?=some (e,1,s.length)) (h1:s.length*by_≤140737488355328) (h2:s.length≤9223372036854775807):
  jt (some 1) true true e 1 by_ (aH []) (.own id (aH s)) st=some (.own id (aH s),st):=by
 have hm:maxLen=9223372036854775807:=by decide
 simp only [jt,ff,jB,List.length_nil,Nat.add_zero]
 rw [if_pos ⟨trivial,by omega,trivial⟩,if_pos ⟨ht,trivial,h1,by omega⟩]
 rfl
theorem zg {st:St} {e by_:Nat} {x:az} (hx:x≠[]) (h1:x.length*by_≤140737488355328) (h2:x.length≤9223372036854775807):
  jt (some 1) true true e 1 by_ (aH x) .bh st=some (.own st.toks.length (aH x),⟨st.aj,st.toks++[(e,1,x.length)]⟩):=by
 have hm:maxLen=9223372036854775807:=by decide
 have he:(aH x).isEmpty=false:=by cases x<;>simp_all [aH]
 simp only [jt,ff,jB]
 rw [if_pos ⟨trivial,by omega,trivial⟩,if_pos ⟨h1,by omega⟩,he]
 rfl
theorem IP (st:St) (b id:Nat) (s:az) (ch:UInt8) (hb:st.aj[b]?=some (.tc bT [.ptr b 0,.own id (aH s)])) (ht:st.toks[id]?=some (bE,1,s.length)) (hs:s.length≤4398046511104):
  aa Tryz.prog G 89 [.ptr b 0,vc ch] st (fun o s'=>o= .ret (.d .fD)∧s'=⟨st.aj.set b (.tc bT [.ptr b 0,.own id (aH (s++[ch]))]),st.toks.set id (bE,1,s.length+1)⟩):=by
 have hcc:=kr (G:=G) st b _ hb
 have hap:=zf (st:=st) (e:=bE) (by_:=1) (id:=id) (s:=s) (x:=[ch]) ht (by simp) (by simp;omega) (by simp;omega)
 have hbl:b<st.aj.length:=(List.getElem?_eq_some_iff.1 hb).1
 have hil:id<st.toks.length:=(List.getElem?_eq_some_iff.1 ht).1
 refine aa.body Tryz.func89 rfl Tryz.ntmps89 (by simp) ?_
 (try refine Wk.aw fun _ ag=>?_);(repeat' (first|((first|refine Wk.hd ?_|refine Wk.i ?_);simp -implicitDefEqProofs only [go_sem,seval,hb,oT,iB,gK,mV,hap,splice])|refine ah (hcc) ?_|first|refine Wk.o ?_|refine Wk.q (by assumption) ?_));all_goals (repeat subst ag)
 refine aV st.toks.length (Nat.le_refl _) (by simp only [St.cut,List.length_set,fy,List.take_of_length_le,Nat.le_refl];rfl) (aR ?_) (by simp -implicitDefEqProofs only [go_sem,seval,bQ,Tryz.results89];first|done|exact rfl) rfl rfl ⟨rfl,?_⟩
 ·simp [aJ.within,V.within,V.within.all,hbl,hil]
 ·simp
theorem IQ (st:St) (b:Nat) (ch:UInt8) (hb:st.aj[b]?=some (.tc bT [.d .eX,.bh])):
  aa Tryz.prog G 89 [.ptr b 0,vc ch] st (fun o s'=>o= .ret (.d .fD)∧s'=⟨st.aj.set b (.tc bT [.ptr b 0,.own st.toks.length (aH [ch])]),st.toks++[(bE,1,1)]⟩):=by
 have hcc:=nK (G:=G) st b _ hb
 have hap:=zg (st:=⟨st.aj.set b (.tc bT [.ptr b 0,.bh]),st.toks⟩) (e:=bE) (by_:=1) (x:=[ch]) (by simp) (by simp) (by simp)
 have hbl:b<st.aj.length:=(List.getElem?_eq_some_iff.1 hb).1
 have hsg:=iA (y:=aJ.tc bT [.ptr b 0,.bh]) hb
 refine aa.body Tryz.func89 rfl Tryz.ntmps89 (by simp) ?_
 (try refine Wk.aw fun _ ag=>?_);(repeat' (first|((first|refine Wk.hd ?_|refine Wk.i ?_);simp -implicitDefEqProofs only [go_sem,seval,hsg,oT,iB,gK,oK,hap,splice,List.set_set])|refine aW (hcc) ?_|first|refine Wk.o ?_|refine Wk.q (by assumption) ?_));all_goals (repeat subst ag)
 refine aV (st.toks.length+1) (by omega) (by simp only [St.cut,List.length_set,fy];rw [List.take_of_length_le (by simp)]) (aR ?_) (by simp -implicitDefEqProofs only [go_sem,seval,bQ,Tryz.results89];first|done|exact rfl) rfl rfl ⟨rfl,?_⟩
 ·simp [aJ.within,V.within,V.within.all,hbl]
 ·simp
theorem Nu (st:St) (b id:Nat) (s x:az) (hb:st.aj[b]?=some (.tc bT [.ptr b 0,.own id (aH s)])) (ht:st.toks[id]?=some (bE,1,s.length)) (hs:s.length≤4398046511104) (hx:x≠[]) (hx2:x.length≤4398046511104):
  aa Tryz.prog G 56 [.ptr b 0,vs x] st (fun o s'=>o= .ret (.cF [ai ↑x.length,.d .fD])∧s'=⟨st.aj.set b (.tc bT [.ptr b 0,.own id (aH (s++x))]),st.toks.set id (bE,1,s.length+x.length)⟩):=by
 have hcc:=kr (G:=G) st b _ hb
 have hap:=zf (st:=st) (e:=bE) (by_:=1) (id:=id) (s:=s) (x:=x) ht hx (by omega) (by omega)
 have hbl:b<st.aj.length:=(List.getElem?_eq_some_iff.1 hb).1
 have hil:id<st.toks.length:=(List.getElem?_eq_some_iff.1 ht).1
 have hne:((55:Nat)==9)=false:=by decide
 refine aa.body Tryz.func56 rfl Tryz.ntmps56 (by simp) ?_
 (try refine Wk.aw fun _ ag=>?_);(repeat' (first|((first|refine Wk.hd ?_|refine Wk.i ?_);simp -implicitDefEqProofs only [go_sem,seval,hb,hne,Bool.and_self,iB,gK,mV,hap,splice])|refine ah (hcc) ?_|first|refine Wk.o ?_|refine Wk.q (by assumption) ?_));all_goals (repeat subst ag)
 refine aV st.toks.length (Nat.le_refl _) (by simp only [St.cut,List.length_set,fy,List.take_of_length_le,Nat.le_refl];rfl) (aR ?_) (by simp -implicitDefEqProofs only [go_sem,seval,bQ,Tryz.results56];first|done|exact rfl) rfl rfl ⟨rfl,?_⟩
 ·simp [aJ.within,V.within,V.within.all,hbl,hil]
 ·simp
theorem IT (st:St) (b id:Nat) (s:az) (hb:st.aj[b]?=some (.tc bT [.ptr b 0,.own id (aH s)])) (ht:st.toks[id]?=some (bE,1,s.length)) (hs:s.length≤4398046511104):
  aa Tryz.prog G 56 [.ptr b 0,vs []] st (fun o s'=>o= .ret (.cF [ai 0,.d .fD])∧s'=⟨st.aj.set b (.tc bT [.ptr b 0,.own id (aH s)]),st.toks⟩):=by
 have hcc:=kr (G:=G) st b _ hb
 have hap:=Fg (st:=st) (e:=bE) (by_:=1) (id:=id) (s:=s) ht (by omega) (by omega)
 have hbl:b<st.aj.length:=(List.getElem?_eq_some_iff.1 hb).1
 have hil:id<st.toks.length:=(List.getElem?_eq_some_iff.1 ht).1
 have hne:((55:Nat)==9)=false:=by decide
 refine aa.body Tryz.func56 rfl Tryz.ntmps56 (by simp) ?_
 (try refine Wk.aw fun _ ag=>?_);(repeat' (first|((first|refine Wk.hd ?_|refine Wk.i ?_);simp -implicitDefEqProofs only [go_sem,seval,hb,hne,Bool.and_self,iB,gK,mV,hap,splice])|refine ah (hcc) ?_|first|refine Wk.o ?_|refine Wk.q (by assumption) ?_));all_goals (repeat subst ag)
 refine aV st.toks.length (Nat.le_refl _) (by simp only [St.cut,fy,List.take_length];rfl) (aR ?_) (by simp -implicitDefEqProofs only [go_sem,seval,bQ,Tryz.results56];first|done|exact rfl) rfl rfl ⟨rfl,?_⟩
 ·simp [aJ.within,V.within,V.within.all,hbl,hil]
 ·simp
theorem Tc (st:St) (b:Nat) (x:az) (hb:st.aj[b]?=some (.tc bT [.d .eX,.bh])) (hx:x≠[]) (hx2:x.length≤4398046511104):
  aa Tryz.prog G 56 [.ptr b 0,vs x] st (fun o s'=>o= .ret (.cF [ai ↑x.length,.d .fD])∧s'=⟨st.aj.set b (.tc bT [.ptr b 0,.own st.toks.length (aH x)]),st.toks++[(bE,1,x.length)]⟩):=by
 have hcc:=nK (G:=G) st b _ hb
 have hap:=zg (st:=⟨st.aj.set b (.tc bT [.ptr b 0,.bh]),st.toks⟩) (e:=bE) (by_:=1) (x:=x) hx (by omega) (by omega)
 have hbl:b<st.aj.length:=(List.getElem?_eq_some_iff.1 hb).1
 have hsg:=iA (y:=aJ.tc bT [.ptr b 0,.bh]) hb
 have hne:((55:Nat)==9)=false:=by decide
 refine aa.body Tryz.func56 rfl Tryz.ntmps56 (by simp) ?_
 (try refine Wk.aw fun _ ag=>?_);(repeat' (first|((first|refine Wk.hd ?_|refine Wk.i ?_);simp -implicitDefEqProofs only [go_sem,seval,hsg,hne,Bool.and_self,iB,gK,oK,hap,splice,List.set_set])|refine aW (hcc) ?_|first|refine Wk.o ?_|refine Wk.q (by assumption) ?_));all_goals (repeat subst ag)
 refine aV (st.toks.length+1) (by omega) (by simp only [St.cut,List.length_set,fy];rw [List.take_of_length_le (by simp)]) (aR ?_) (by simp -implicitDefEqProofs only [go_sem,seval,bQ,Tryz.results56];first|done|exact rfl) rfl rfl ⟨rfl,?_⟩
 ·simp [aJ.within,V.within,V.within.all,hbl]
 ·simp
theorem LJ (st:St) (b id:Nat) (s:az) (hb:st.aj[b]?=some (.tc bT [.ptr b 0,.own id (aH s)])):
  aa Tryz.prog G 87 [.ptr b 0] st (fun o s'=>o= .ret (ai ↑s.length)∧s'=st):=by
 refine aa.body Tryz.func87 rfl Tryz.ntmps87 (by simp) ?_
 (try refine Wk.aw fun _ ag=>?_);(repeat' (first|((refine Wk.i ?_);simp -implicitDefEqProofs only [go_sem,seval,hb,jB])|refine Wk.ret fun _ _=>?_|(refine Wk.fin (by assumption) ?_;refine ⟨?_,rfl⟩)|first|refine Wk.o ?_|refine Wk.q (by assumption) ?_));all_goals (repeat subst ag)
 all_goals rfl
theorem LK (st:St) (b:Nat) (p:V) (hb:st.aj[b]?=some (.tc bT [p,.bh])):
  aa Tryz.prog G 87 [.ptr b 0] st (fun o s'=>o= .ret (ai 0)∧s'=st):=by
 refine aa.body Tryz.func87 rfl Tryz.ntmps87 (by simp) ?_
 (try refine Wk.aw fun _ ag=>?_);(repeat' (first|((refine Wk.i ?_);simp -implicitDefEqProofs only [go_sem,seval,hb])|refine Wk.ret fun _ _=>?_|(refine Wk.fin (by assumption) ?_;refine ⟨?_,rfl⟩)|first|refine Wk.o ?_|refine Wk.q (by assumption) ?_));all_goals (repeat subst ag)
 all_goals rfl
theorem qD (v:aX):gM v=true↔(v.kind=1∨v.bool=false)∧(v.kind=2∨v.int=0)∧(v.kind=3∨v.str=[])∧(v.kind=4∨v.kind=5∨(v.list.length:Int)=0)∧(v.kind=5∨(v.keys.length:Int)=0):=by
 have h2:v.list=[]↔(v.list.length:Int)=0:=by cases v.list<;>simp;omega
 have h3:v.keys=[]↔(v.keys.length:Int)=0:=by cases v.keys<;>simp;omega
 simp only [gM,Bool.and_eq_true,Bool.or_eq_true,decide_eq_true_eq,Bool.not_eq_true',h2,h3,and_assoc,or_assoc]
theorem Fh (v:aX) (fv:gU v):b8 G 161 [vV v] (vb (gM v)):=by
 intro st
 rw [vV,aX.aP]
 obtain ⟨a1,a2,a3,a4,a5⟩:=(dX v).1 fv
 refine aa.body Tryz.func161 rfl Tryz.ntmps161 (by simp) ?_
 (try refine Wk.aw fun _ ag=>?_);(repeat' (first|((first|refine Wk.hd ?_|refine Wk.i ?_);simp -implicitDefEqProofs only [go_sem,seval])|(refine ay (fun hc=>?_) (fun hc=>?_)<;>try omega)|refine Wk.ret fun _ _=>?_|(refine Wk.fin (by assumption) ?_;refine ⟨?_,rfl⟩)|first|refine Wk.o ?_|refine Wk.q (by assumption) ?_));all_goals (repeat subst ag)
 all_goals (refine congrArg (fun b=>Out.ret (.d (.bool b))) ?_;rw [Bool.eq_iff_iff,qD];clear fv a4 a5;grind)
theorem IU (v:aX) (fv:gU v):b8 G 179 [vV v] (vb (gM v)):=by
 intro st
 rw [vV,aX.aP]
 obtain ⟨a1,a2,a3,a4,a5⟩:=(dX v).1 fv
 refine aa.body Tryz.func179 rfl Tryz.ntmps179 (by simp) ?_
 (try refine Wk.aw fun _ ag=>?_);(repeat' (first|((first|refine Wk.hd ?_|refine Wk.i ?_);simp -implicitDefEqProofs only [go_sem,seval])|(refine ay (fun hc=>?_) (fun hc=>?_)<;>try omega)|refine Wk.ret fun _ _=>?_|(refine Wk.fin (by assumption) ?_;refine ⟨?_,rfl⟩)|first|refine Wk.o ?_|refine Wk.q (by assumption) ?_));all_goals (repeat subst ag)
 all_goals (refine congrArg (fun b=>Out.ret (.d (.bool b))) ?_;rw [Bool.eq_iff_iff,qD];clear fv a4 a5;grind)
theorem LL (k:az):b8 G 176 [vs k] (vb (fP k)):=by
 intro st
 refine aa.body Tryz.func176 rfl Tryz.ntmps176 (by simp) ?_
 (try refine Wk.aw fun _ ag=>?_);(repeat' (first|((first|refine Wk.hd ?_|refine Wk.i ?_);simp -implicitDefEqProofs only [go_sem,seval])|(refine ay (fun hc=>?_) (fun hc=>?_)<;>try omega)|refine Wk.ret fun _ _=>?_|(refine Wk.fin (by assumption) ?_;refine ⟨?_,rfl⟩)|first|refine Wk.o ?_|refine Wk.q (by assumption) ?_));all_goals (repeat subst ag)
 all_goals (refine aO ?_;simp only [fP,decide_eq_true_eq,reduceCtorEq,iff_false,false_iff,iff_true,true_iff];omega)
theorem BT (l:List az) (i:Nat) (hi:i<l.length):dG (l.drop i)=(fP (l.getD i default)&& (if i+1<l.length then decide (c8 (l.getD i default) (l.getD (i+1) default)<0) else true)&&dG (l.drop (i+1))):=by
 rw [List.drop_eq_getElem_cons hi,dG.eq_def,getD_eq hi]
 simp only
 by_cases h:i+1<l.length
 ·rw [List.drop_eq_getElem_cons h,if_pos h,getD_eq h]
 ·rw [List.drop_of_length_le (by omega),if_neg h]
def oU (l:List az) (i:Nat):Bool:=(decide (i=0)||decide (l.length≤i)||decide (c8 (l.getD (i - 1) default) (l.getD i default)<0))&&dG (l.drop i)
theorem Di (l:List az):oU l 0=dG l:=by simp [oU]
theorem ve (l:List az):oU l l.length=true:=by simp [oU,dG]
theorem sK (l:List az) (i:Nat) (hi:i<l.length):oU l i=((decide (i=0)||decide (c8 (l.getD (i - 1) default) (l.getD i default)<0))&&fP (l.getD i default)&&oU l (i+1)):=by
 simp only [oU,BT l i hi,Nat.add_sub_cancel]
 have h0:decide (l.length≤i)=false:=decide_eq_false (by omega)
 have h1:decide (i+1=0)=false:=decide_eq_false (by omega)
 rw [h0,h1]
 by_cases h:i+1<l.length
 ·have h2:decide (l.length≤i+1)=false:=decide_eq_false (by omega)
  rw [if_pos h,h2];simp [Bool.and_assoc]
 ·have h2:decide (l.length≤i+1)=true:=decide_eq_true (by omega)
  rw [if_neg h,h2];simp [Bool.and_assoc]
theorem zh (v:aX) (fv:gU v):b8 G 162 [vV v] (vb (decide (v.keys.length=v.list.length∧dG v.keys=true))):=by
 intro st
 rw [show decide (v.keys.length=v.list.length∧dG v.keys=true)=(decide (v.keys.length=v.list.length)&&dG v.keys) from by rw [Bool.eq_iff_iff];simp]
 obtain ⟨a1,a2,a3,a4,a5⟩:=(dX v).1 fv
 refine aa.body Tryz.func162 rfl Tryz.ntmps162 (by simp) ?_
 (try refine Wk.aw fun _ ag=>?_);(repeat' (first|((refine Wk.i ?_);simp -implicitDefEqProofs (disch:=omega) only [go_sem,seval])|refine Wk.o ?_));all_goals (repeat subst ag)
 refine AW.cD (fun i:Nat=>[(1,.ptr st.aj.length 0),(3,ai ↑i)]) (fun _=>[.cells (v.enc.map .d)]) (fun _=>[]) (fun i=>i≤v.keys.length∧oU v.keys i=dG v.keys) (fun i=>v.keys.length - i) 0 (by simp -implicitDefEqProofs (disch:=omega) only [go_sem,seval]<;>first|rfl|exact ⟨rfl,rfl⟩|skip) (by simp -implicitDefEqProofs (disch:=omega) only [go_sem,seval]<;>first|rfl|exact ⟨rfl,rfl⟩|skip) ⟨by omega,Di _⟩ ?_
 intro i ⟨h1,h2⟩
 have h3:=sK v.keys i
 rw [←h2]
 by_cases hi:i<v.keys.length
 ·have hk:=a4 _ (aB hi)
  have hk2:=a4 _ (aB (l:=v.keys) (i:=i - 1) (by omega))
  rw [h3 hi]
  (try refine Wk.aw fun _ ag=>?_);(repeat' (first|((first|refine Wk.hd ?_|refine Wk.i ?_);simp -implicitDefEqProofs (disch:=omega) only [go_sem,seval])|(refine ay (fun hc=>?_) (fun hc=>?_)<;>try omega)|refine ah (LL _ _) ?_|refine ah (lS _ _ (by first|exact hk2|exact a4 _ (aB (by omega))) hk _) ?_|refine Wk.drawn mx (by kernel_rfl) ?_|refine Wk.ret fun _ _=>?_|(refine Wk.fin (by assumption) ?_;refine ⟨?_,rfl⟩)|first|refine Wk.o ?_|refine Wk.q (by assumption) ?_));all_goals (repeat subst ag)
  ·refine aO ?_
   rw [hc];simp
  ·refine aO ?_
   have:decide (i=0)=false:=decide_eq_false (by omega)
   have h5:decide (c8 (v.keys.getD (i - 1) default) (v.keys.getD i default)<0)=false:=decide_eq_false (by rw [show i - 1=(↑i - 1:Int).toNat by omega];omega)
   rw [this,h5];simp
  ·have:decide (c8 (v.keys.getD (i - 1) default) (v.keys.getD i default)<0)=true:=decide_eq_true (by rw [show i - 1=(↑i - 1:Int).toNat by omega];omega)
   rw [this,‹fP _=true›]
   (refine ⟨i+1,gk.mk ?_ ?_ ?_ (by simp -implicitDefEqProofs (disch:=omega) only [go_sem,seval]) (by simp -implicitDefEqProofs (disch:=omega) only [go_sem,seval]) (by first|rfl|(simp -implicitDefEqProofs (disch:=omega) only [go_sem,seval];all_goals omega)) (by first|rfl|(simp -implicitDefEqProofs (disch:=omega) only [go_sem,seval];all_goals omega))⟩;focus (try (simp -implicitDefEqProofs (disch:=omega) only [go_sem,seval]);try ((repeat' apply And.intro)<;>first|rfl|trivial|refine aD ?_|refine aE ?_|refine ax ?_|skip)))
   ·exact ⟨by omega,by simp⟩
   ·omega
  ·have:decide (i=0)=true:=decide_eq_true (by omega)
   rw [this,‹fP _=true›]
   (refine ⟨i+1,gk.mk ?_ ?_ ?_ (by simp -implicitDefEqProofs (disch:=omega) only [go_sem,seval]) (by simp -implicitDefEqProofs (disch:=omega) only [go_sem,seval]) (by first|rfl|(simp -implicitDefEqProofs (disch:=omega) only [go_sem,seval];all_goals omega)) (by first|rfl|(simp -implicitDefEqProofs (disch:=omega) only [go_sem,seval];all_goals omega))⟩;focus (try (simp -implicitDefEqProofs (disch:=omega) only [go_sem,seval]);try ((repeat' apply And.intro)<;>first|rfl|trivial|refine aD ?_|refine aE ?_|refine ax ?_|skip)))
   ·exact ⟨by omega,by simp⟩
   ·omega
 ·have hi':i=v.keys.length:=by omega
  subst hi'
  rw [ve]
  (try refine Wk.aw fun _ ag=>?_);(repeat' (first|((refine Wk.i ?_);simp -implicitDefEqProofs (disch:=omega) only [go_sem,seval,Nat.lt_irrefl])|refine Wk.ret fun _ _=>?_|(refine Wk.fin (by assumption) ?_;refine ⟨?_,rfl⟩)|first|refine Wk.o ?_|refine Wk.q (by assumption) ?_|refine Wk.sw fun _ ag=>?_));all_goals (repeat subst ag)
  all_goals simp
theorem pX (v:aX) (level:Nat):gY v level=if 16<level then 13 else if v.kind<0∨5<v.kind∨gM v=false then 1
 else if v.int< -9007199254740992∨9007199254740992<v.int then 2
 else if 4096<v.str.length∨1024<v.list.length∨1024<v.keys.length then 3
 else if v.kind=5∧¬ (v.keys.length=v.list.length∧dG v.keys=true) then 1
 else if (v.kind=4∨v.kind=5)∧v.list.length=0∧level=16 then 13 else 0:=by
 have h2:v.list=[]↔v.list.length=0:=by cases v.list<;>simp
 simp only [gY,h2]
theorem Dj (v:aX) (level:Nat) (hA:v.keys.length=v.list.length∧dG v.keys=true):gY v level=if 16<level then 13 else if v.kind<0∨5<v.kind∨gM v=false then 1
 else if v.int< -9007199254740992∨9007199254740992<v.int then 2
 else if 4096<v.str.length∨1024<v.list.length∨1024<v.keys.length then 3
 else if (v.kind=4∨v.kind=5)∧v.list.length=0∧level=16 then 13 else 0:=by
 rw [pX];simp only [eq_true hA,not_true_eq_false,and_false,if_false]
theorem zi (v:aX) (level:Nat) (hA:¬ (v.keys.length=v.list.length∧dG v.keys=true)):gY v level=if 16<level then 13 else if v.kind<0∨5<v.kind∨gM v=false then 1
 else if v.int< -9007199254740992∨9007199254740992<v.int then 2
 else if 4096<v.str.length∨1024<v.list.length∨1024<v.keys.length then 3
 else if v.kind=5 then 1
 else if (v.kind=4∨v.kind=5)∧v.list.length=0∧level=16 then 13 else 0:=by
 rw [pX];simp only [eq_false hA,not_false_eq_true,and_true]
theorem pY (level:Nat) (v:aX):dI level v=if gY v level≠0 then gY v level else dI.gx (level+1) v.list:=by
 cases v;rw [dI];rfl
theorem sL (level:Nat) (l:List aX) (i:Nat):dI.gx level (l.drop i)=if i<l.length then (if dI level (l.getD i default)≠0 then dI level (l.getD i default) else dI.gx level (l.drop (i+1))) else 0:=by
 by_cases h:i<l.length
 ·rw [List.drop_eq_getElem_cons h,if_pos h,getD_eq h,dI.gx]
 ·rw [List.drop_of_length_le (by omega),if_neg h,dI.gx]
theorem Fi:∀ v:aX,gU v→∀ level:Nat,level≤1000→b8 G 141 [vV v,ai level] (ai (dI level v)):=by
 intro v
 induction v using aX.ind with
 |h v ih=>
  intro fv level hlv st
  obtain ⟨a1,a2,a3,a4,a5⟩:=(dX v).1 fv
  have hp:=Fh (G:=G) v fv
  have hasc:=zh (G:=G) v fv
  rw [pY]
  by_cases hd:16<level
  ·have hn:gY v level=13:=if_pos hd
   rw [hn]
   refine aa.body Tryz.func141 rfl Tryz.ntmps141 (by simp) ?_
   (try refine Wk.aw fun _ ag=>?_);(repeat' (first|((refine Wk.i ?_);simp -implicitDefEqProofs (disch:=omega) only [go_sem,seval])|(refine ay (fun hc=>?_) (fun hc=>?_)<;>try omega)|refine Wk.ret fun _ _=>?_|(refine Wk.fin (by assumption) ?_;refine ⟨?_,rfl⟩)|first|refine Wk.o ?_|refine Wk.q (by assumption) ?_));all_goals (repeat subst ag)
   all_goals rfl
  ·by_cases hA:v.keys.length=v.list.length∧dG v.keys=true
   ·refine aa.body Tryz.func141 rfl Tryz.ntmps141 (by simp) ?_
    (try refine Wk.aw fun _ ag=>?_);(repeat' (first|((first|refine Wk.hd ?_|refine Wk.i ?_);simp -implicitDefEqProofs (disch:=omega) only [go_sem,seval])|(refine ay (fun hc=>?_) (fun hc=>?_)<;>try omega)|refine ah (hp _) ?_|refine ah (hasc _) ?_|refine Wk.ret fun _ _=>?_|(refine Wk.fin (by assumption) ?_;refine ⟨?_,rfl⟩)|first|refine Wk.o ?_|refine Wk.q (by assumption) ?_));all_goals (repeat subst ag)
    all_goals first
     |(exfalso;contradiction)
     |(refine bA ?_;rw [Dj v level hA];simp (disch:=first|assumption|omega|exact .inr (.inr ‹_›)|(simp only [‹gM v=true›,reduceCtorEq,or_false];omega)|exact ⟨‹_›,‹_›⟩|(rintro ⟨h1,h2⟩;first|omega|exact h2 ‹_› |exact h2 ⟨‹_›,‹_›⟩)) only [if_pos,if_neg];all_goals rfl)
     |skip
    all_goals (have hv0:gY v level=0:=(by rw [Dj v level hA];simp (disch:=first|assumption|omega|exact .inr (.inr ‹_›)|(simp only [‹gM v=true›,reduceCtorEq,or_false];omega)|exact ⟨‹_›,‹_›⟩|(rintro ⟨h1,h2⟩;first|omega|exact h2 ‹_› |exact h2 ⟨‹_›,‹_›⟩)) only [if_pos,if_neg]))
    all_goals rw [hv0]
    all_goals refine AW.cD (fun i:Nat=>[(1,ai ↑level),(2,.ptr st.aj.length 0),(5,ai ↑i)]) (fun _=>[.cells (v.enc.map .d)]) (fun _=>[]) (fun i=>i≤v.list.length∧dI.gx (level+1) (v.list.drop i)=dI.gx (level+1) v.list) (fun i=>v.list.length - i) 0 (by simp -implicitDefEqProofs (disch:=omega) only [go_sem,seval]<;>first|rfl|exact ⟨rfl,rfl⟩|skip) (by simp -implicitDefEqProofs (disch:=omega) only [go_sem,seval]<;>first|rfl|exact ⟨rfl,rfl⟩|skip) ⟨by omega,rfl⟩ ?_
    all_goals (intro i ⟨h1,h2⟩;have h3:=sL (level+1) v.list i;rw [if_neg (by simp),←h2])
    all_goals (try refine Wk.aw fun _ ag=>?_);(repeat' (first|((first|refine Wk.hd ?_|refine Wk.i ?_);simp -implicitDefEqProofs (disch:=omega) only [go_sem,seval])|(refine ay (fun hc=>?_) (fun hc=>?_)<;>try omega)|refine ah (ih _ (aB (by omega)) (a5 _ (aB (by omega))) (level+1) (by omega) _) ?_|refine Wk.ret fun _ _=>?_|(refine Wk.fin (by assumption) ?_;refine ⟨?_,rfl⟩)|first|refine Wk.o ?_|refine Wk.q (by assumption) ?_|refine Wk.sw fun _ ag=>?_));all_goals (repeat subst ag)
    all_goals first
     |(rw [if_pos (by first|assumption|omega),if_pos (by assumption)] at h3;rw [h3];done)
     |(rw [if_neg (by first|assumption|omega)] at h3;rw [h3];done)
     |skip
    all_goals (rw [if_pos (by first|assumption|omega),if_neg (by assumption)] at h3)
    all_goals ((refine ⟨i+1,gk.mk ?_ ?_ ?_ (by simp -implicitDefEqProofs (disch:=omega) only [go_sem,seval]) (by simp -implicitDefEqProofs (disch:=omega) only [go_sem,seval]) (by first|rfl|(simp -implicitDefEqProofs (disch:=omega) only [go_sem,seval];all_goals omega)) (by first|rfl|(simp -implicitDefEqProofs (disch:=omega) only [go_sem,seval];all_goals omega))⟩;focus (try (simp -implicitDefEqProofs (disch:=omega) only [go_sem,seval]);try ((repeat' apply And.intro)<;>first|rfl|trivial|refine aD ?_|refine aE ?_|refine ax ?_|skip))))
    all_goals first|omega|exact ⟨by omega,by rw [h3]⟩
   ·refine aa.body Tryz.func141 rfl Tryz.ntmps141 (by simp) ?_
    (try refine Wk.aw fun _ ag=>?_);(repeat' (first|((first|refine Wk.hd ?_|refine Wk.i ?_);simp -implicitDefEqProofs (disch:=omega) only [go_sem,seval])|(refine ay (fun hc=>?_) (fun hc=>?_)<;>try omega)|refine ah (hp _) ?_|refine ah (hasc _) ?_|refine Wk.ret fun _ _=>?_|(refine Wk.fin (by assumption) ?_;refine ⟨?_,rfl⟩)|first|refine Wk.o ?_|refine Wk.q (by assumption) ?_));all_goals (repeat subst ag)
    all_goals first
     |(exfalso;contradiction)
     |(refine bA ?_;rw [zi v level hA];simp (disch:=first|assumption|omega|exact .inr (.inr ‹_›)|(simp only [‹gM v=true›,reduceCtorEq,or_false];omega)|exact ⟨‹_›,‹_›⟩|(rintro ⟨h1,h2⟩;first|omega|exact h2 ‹_› |exact h2 ⟨‹_›,‹_›⟩)) only [if_pos,if_neg];all_goals rfl)
     |skip
    all_goals (have hv0:gY v level=0:=(by rw [zi v level hA];simp (disch:=first|assumption|omega|exact .inr (.inr ‹_›)|(simp only [‹gM v=true›,reduceCtorEq,or_false];omega)|exact ⟨‹_›,‹_›⟩|(rintro ⟨h1,h2⟩;first|omega|exact h2 ‹_› |exact h2 ⟨‹_›,‹_›⟩)) only [if_pos,if_neg]))
    all_goals rw [hv0]
    all_goals refine AW.cD (fun i:Nat=>[(1,ai ↑level),(2,.ptr st.aj.length 0),(5,ai ↑i)]) (fun _=>[.cells (v.enc.map .d)]) (fun _=>[]) (fun i=>i≤v.list.length∧dI.gx (level+1) (v.list.drop i)=dI.gx (level+1) v.list) (fun i=>v.list.length - i) 0 (by simp -implicitDefEqProofs (disch:=omega) only [go_sem,seval]<;>first|rfl|exact ⟨rfl,rfl⟩|skip) (by simp -implicitDefEqProofs (disch:=omega) only [go_sem,seval]<;>first|rfl|exact ⟨rfl,rfl⟩|skip) ⟨by omega,rfl⟩ ?_
    all_goals (intro i ⟨h1,h2⟩;have h3:=sL (level+1) v.list i;rw [if_neg (by simp),←h2])
    all_goals (try refine Wk.aw fun _ ag=>?_);(repeat' (first|((first|refine Wk.hd ?_|refine Wk.i ?_);simp -implicitDefEqProofs (disch:=omega) only [go_sem,seval])|(refine ay (fun hc=>?_) (fun hc=>?_)<;>try omega)|refine ah (ih _ (aB (by omega)) (a5 _ (aB (by omega))) (level+1) (by omega) _) ?_|refine Wk.ret fun _ _=>?_|(refine Wk.fin (by assumption) ?_;refine ⟨?_,rfl⟩)|first|refine Wk.o ?_|refine Wk.q (by assumption) ?_|refine Wk.sw fun _ ag=>?_));all_goals (repeat subst ag)
    all_goals first
     |(rw [if_pos (by first|assumption|omega),if_pos (by assumption)] at h3;rw [h3];done)
     |(rw [if_neg (by first|assumption|omega)] at h3;rw [h3];done)
     |skip
    all_goals (rw [if_pos (by first|assumption|omega),if_neg (by assumption)] at h3)
    all_goals ((refine ⟨i+1,gk.mk ?_ ?_ ?_ (by simp -implicitDefEqProofs (disch:=omega) only [go_sem,seval]) (by simp -implicitDefEqProofs (disch:=omega) only [go_sem,seval]) (by first|rfl|(simp -implicitDefEqProofs (disch:=omega) only [go_sem,seval];all_goals omega)) (by first|rfl|(simp -implicitDefEqProofs (disch:=omega) only [go_sem,seval];all_goals omega))⟩;focus (try (simp -implicitDefEqProofs (disch:=omega) only [go_sem,seval]);try ((repeat' apply And.intro)<;>first|rfl|trivial|refine aD ?_|refine aE ?_|refine ax ?_|skip))))
    all_goals first|omega|exact ⟨by omega,by rw [h3]⟩
theorem sM {n:Int} (h1:0≤n) (h2:n≤255):IntKind.u8.wrap n=n:=Go.IntWalk.u8_in n ⟨h1,h2⟩
theorem LM:∀ n:Fin 16,("0123456789abcdef".toUTF8.data.toList.getD n.val 0)=Ge n.val:=by decide
theorem zj {i:Nat} (h:i<16):([48,49,50,51,52,53,54,55,56,57,97,98,99,100,101,102]:List UInt8).getD i 0=Ge i:=LM ⟨i,h⟩
theorem sN (n:Nat):(n:Int).tdiv 16=((n / 16:Nat):Int):=rfl
theorem sO (n:Nat):(n:Int).tmod 16=((n % 16:Nat):Int):=rfl
theorem vf {s:az} {i:Nat} (h:i<s.length):(s.take (i+1)).flatMap eB=(s.take i).flatMap eB++eB (s.getD i 0):=by
 rw [show s.getD i 0=s.getD i default from rfl,ej h];simp
def cO (v:aX):List az:=if v.kind=5 then ZA.nR v.list v.keys else v.list.map ZA
theorem BU (v:aX):(cO v).length=v.list.length:=by
 unfold cO;split
 ·exact Gi _ _
 ·simp
theorem BV {v:aX} (hv:lX v):lens (cO v)+32≤cj v:=by
 have h3:=((l6 v).1 hv).2
 have hl:=ya (l:=v.list) fun x hx=>l7 x (h3 x hx)
 have hm:=uH (l:=v.list) (ks:=v.keys) fun x hx=>l7 x (h3 x hx)
 rw [jK]
 unfold cO
 split<;>omega
theorem LN {level:Nat} {v:aX} (h:dI level v=0):gY v level=0∧∀ x∈v.list,dI (level+1) x=0:=by
 rw [pY] at h
 by_cases hn:gY v level=0
 ·rw [if_neg (by simp [hn])] at h
  refine ⟨hn,?_⟩
  generalize v.list=l at h
  induction l with
  |nil=>intro x hx;simp at hx
  |cons a r ih=>
   rw [dI.gx] at h
   by_cases ha:dI (level+1) a=0
   ·rw [if_neg (by simp [ha])] at h
    intro x hx
    rcases List.mem_cons.1 hx with rfl|hx
    ·exact ha
    ·exact ih h x hx
   ·rw [if_pos ha] at h;exact absurd h ha
 ·rw [if_pos hn] at h;exact absurd h hn
theorem O5 {level:Nat} {v:aX} (h:gY v level=0):0≤v.kind∧v.kind≤5∧ -9007199254740992≤v.int∧v.int≤9007199254740992∧v.str.length≤4096∧v.list.length≤1024∧(v.kind=5→v.keys.length=v.list.length):=by
 rw [gY] at h
 repeat' split at h
 all_goals first|omega|skip
end Go.Proofs.YthnoiikjfcnlhaaGreatDoor
end
