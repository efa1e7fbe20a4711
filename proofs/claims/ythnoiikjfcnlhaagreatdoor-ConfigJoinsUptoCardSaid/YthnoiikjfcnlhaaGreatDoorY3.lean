/- A step of the proofs of the seat's theorems. -/
import Derived.Test.YthnoiikjfcnlhaaGreatDoorYA
import Derived.Test.YthnoiikjfcnlhaaGreatDoorY1
import Derived.Test.YthnoiikjfcnlhaaGreatDoorY2
set_option linter.unusedSimpArgs false
set_option linter.unusedVariables false
namespace Go.Proofs.YthnoiikjfcnlhaaGreatDoor
def tO (s:az):Tk:=⟨4,s,0⟩
def tN (s:az):Tk:=⟨1,s,0⟩
def tS (s:az):Tk:=⟨3,s,0⟩
def tD (s:az):Tk:=⟨2,s,0⟩
def Qt (v:aX):Tk:=
 if v.kind=1 then tN (if v.bool then gX else fY) else if v.kind=2 then tD (rL v.int.natAbs) else if v.kind=3 then tS v.str else tN jc
def Xo (b:Bool) (l:List Tk):List Tk:=if b then tO [40]::l++[tO [41]] else l
def Df:List (List Tk)→List Tk
 |[]=>[]
 |a::r=>if r=[] then a else a++tO [44]::Df r
def LG:Ex→List Tk
 | .mk k n v ar ks=>
  if k=1 then [Qt v] else if k=2 then [tN n]
  else if k=3 then nI ar 0 8++[tO [46],tN n]
  else if k=4 then nI ar 0 8++tO [91]::nI ar 1 1++[tO [93]]
  else if k=5 then tN n::tO [40]::Df (O0 ar)++[tO [41]]
  else if k=6 then tO n::nI ar 0 7
  else if k=7 then nI ar 0 (if bB n=4 then 5 else bB n)++tO n::nI ar 1 (bB n+1)
  else if k=8 then nI ar 0 2++tO [63]::nI ar 1 1++tO [58]::nI ar 2 1
  else if k=9 then tO [91]::Df (O0 ar)++[tO [93]]
  else tO [123]::Df (aab ar ks)++[tO [125]]
where
 nI:List Ex→Nat→Nat→List Tk
 |[],_,_=>[]
 |e::_,0,need=>Xo (decide (force e<need)) (LG e)
 |_::r,i+1,need=>nI r i need
 O0:List Ex→List (List Tk)
 |[]=>[]
 |e::r=>LG e::O0 r
 aab:List Ex→List az→List (List Tk)
 |[],_=>[]
 |e::r,ks=>(tS (ks.headD [])::tO [58]::LG e)::aab r ks.tail
def litOK (v:aX):Prop:=
 v=ct∨(∃ b,v= .mk 1 b 0 [] [] [])∨(∃ n:Nat,v= .mk 2 false n [] [] []∧n≤9007199254740992)∨∃ s:az,v= .mk 3 false 0 s [] []∧s.length≤4096
def O1 (e : Ex) : Prop :=
  ((e.kind = 1 ∧ litOK e.value ∧ e.name = [] ∧ e.args = [] ∧ e.keys = []) ∨
   (e.value = ct ∧ e.keys = [] ∧ e.kind = 2 ∧ cc e.name = true ∧ e.args = []) ∨
   (e.value = ct ∧ e.keys = [] ∧ e.kind = 3 ∧ cc e.name = true ∧ ∃ a, e.args = [a]) ∨
   (e.value = ct ∧ e.keys = [] ∧ e.kind = 4 ∧ e.name = [] ∧ ∃ a b, e.args = [a, b]) ∨
   (e.value = ct ∧ e.keys = [] ∧ e.kind = 5 ∧ cc e.name = true) ∨
   (e.value = ct ∧ e.keys = [] ∧ e.kind = 6 ∧ (e.name = [33] ∨ e.name = [45]) ∧ ∃ a, e.args = [a]) ∨
   (e.value = ct ∧ e.keys = [] ∧ e.kind = 7 ∧ 0 < bB e.name ∧ ∃ a b, e.args = [a, b]) ∨
   (e.value = ct ∧ e.keys = [] ∧ e.kind = 8 ∧ e.name = [] ∧ ∃ a b c, e.args = [a, b, c]) ∨
   (e.value = ct ∧ e.keys = [] ∧ e.kind = 9 ∧ e.name = []) ∨
   (e.value = ct ∧ e.kind = 10 ∧ e.name = [] ∧ e.keys.length = e.args.length ∧ ∀ k ∈ e.keys, fP k = true))
inductive O2:Ex→Prop
 |mk (e:Ex):O1 e→(∀ x∈e.args,O2 x)→O2 e
theorem natOf_snocZ (l:az) (c:UInt8):cZ (l++[c])=10*cZ l+(c.toNat - 48):=by simp [cZ,List.foldl_append]
theorem dig_nat {k:Nat} (h:k<10):(UInt8.ofNat (48+k)).toNat=48+k:=by rw [UInt8.toNat_ofNat'];omega
theorem decN_all:∀ m n:Nat,n≤m→cZ (rL n)=n∧(rL n).all isDigit=true∧rL n≠[]∧(0<n→((rL n).getD 0 0).toNat≠48)∧(n<10→(rL n).length=1):=by
 intro m
 induction m with
 |zero=>
  intro n h
  obtain rfl:n=0:=by omega
  decide
 |succ m ih=>
  intro n h
  by_cases h10:n<10
  ·rw [AB h10]
   have:=dig_nat h10
   refine ⟨by simp only [cZ,abL,List.foldl_nil,this];omega,by simp [isDigit,this];omega,by simp,fun h0=>?_,fun _=>rfl⟩
   simp only [aa0,this];omega
  ·obtain ⟨i1,i2,i3,i4,i5⟩:=ih (n / 10) (by omega)
   have:=dig_nat (k:=n % 10) (by omega)
   rw [DM h10]
   refine ⟨by rw [natOf_snocZ,i1,this];omega,?_,by simp,fun h0=>?_,fun h=>by omega⟩
   ·rw [List.all_append,i2];simp [isDigit,this];omega
   ·have i4:=i4 (by omega)
    rw [aaj] at i4 ⊢
    rw [aaw (List.length_pos_iff.2 i3)]
    exact i4
theorem decN_dec (n:Nat) (h:n≤9007199254740992):fZ (rL n)=true∧cZ (rL n)=n:=by
 obtain ⟨i1,i2,i3,i4,i5⟩:=decN_all n n (aan _)
 refine ⟨?_,i1⟩
 simp only [fZ,i1,i2,aap,aal,abb,aaG,and_true]
 refine ⟨⟨i3,?_⟩,h⟩
 rintro ⟨h1,h2⟩
 by_cases h0:0<n
 ·exact i4 h0 h2
 ·have:=i5 (by omega);omega
theorem tksL_map (l:List Ex):LG.O0 l=l.map LG:=by induction l<;>simp_all [LG.O0]
structure Reads (e:Ex):Prop where
 pc:8≤force e→∀ r y,no [40] r→Pr (.chain e) r y→PC (LG e++r) y
 un:7≤force e→∀ r,IL r→Pr .un (LG e++r) (.ok e r)
 op:∀ n r y,2≤n→n≤6→n≤force e→hs r≤n→(hs r=4→n≠4)→IL r→Pr (.ops n e) r y→Pr (.op n) (LG e++r) y
 cond:∀ r,S9 r→Pr .cond (LG e++r) (.ok e r)
 head:∃ t l,LG e=t::l∧(t.kind=4→t.text=[33]∨t.text=[45]∨t.text=[40]∨t.text=[91]∨t.text=[123])
theorem ZR {s:az} {r:List Tk} (h:s=[41]∨s=[58]∨s=[44]∨s=[93]∨s=[125]):S9 (tO s::r):=by
 refine ⟨?_,⟨?_,?_,?_⟩,?_⟩
 ·rcases h with rfl|rfl|rfl|rfl|rfl<;>rfl
 all_goals
  rintro t l ⟨⟩
  rcases h with rfl|rfl|rfl|rfl|rfl<;>decide
theorem par_atom {e:Ex} (h:Reads e) (r:List Tk):Pr .atom (Xo true (LG e)++r) (.ok e r):=by
 have:=h.cond (tO [41]::r) (ZR (.inl rfl))
 simp only [Xo,if_true,aas,aau,aav,List.singleton_append]
 exact Pr.par ⟨rfl,rfl⟩ this (by decide)
theorem at_pc {e:Ex} (h:Reads e) {r:List Tk} {y:dF Ex} (hr:no [40] r) (k:Pr (.chain e) r y):PC (Xo (decide (force e<8)) (LG e)++r) y:=by
 by_cases hf:force e<8
 ·rw [decide_eq_true hf]
  exact ⟨e,r,par_atom h r,k⟩
 ·rw [decide_eq_false hf]
  exact h.pc (by omega) r y hr k
theorem at_un {e:Ex} (h:Reads e) {r:List Tk} (hr:IL r):Pr .un (Xo (decide (force e<7)) (LG e)++r) (.ok e r):=by
 by_cases hf:force e<7
 ·rw [decide_eq_true hf]
  exact PC.un ⟨e,r,par_atom h r,Pr.ch0 hr⟩
 ·rw [decide_eq_false hf]
  exact h.un (by omega) r hr
theorem at_op {e:Ex} (h:Reads e) {n:Nat} {r:List Tk} {y:dF Ex} (h2:2≤n) (h6:n≤6) (hs1:hs r≤n) (hs2:hs r=4→n≠4) (hr:IL r) (k:Pr (.ops n e) r y):Pr (.op n) (Xo (decide (force e<n)) (LG e)++r) y:=by
 by_cases hf:force e<n
 ·rw [decide_eq_true hf]
  have:Pr (.op (6+1)) (Xo true (LG e)++r) (.ok e r):=Pr.op7 (PC.un ⟨e,r,par_atom h r,Pr.ch0 hr⟩)
  exact this.down (by omega) h6 (aan _) k hs1
 ·rw [decide_eq_false hf]
  exact h.op n r y h2 h6 (by omega) hs1 hs2 hr k
theorem at_ok {e:Ex} (h:Reads e) {n:Nat} {r:List Tk} (h2:2≤n) (h6:n≤7) (hs1:hs r<n) (hr:IL r):Pr (.op n) (Xo (decide (force e<n)) (LG e)++r) (.ok e r):=by
 by_cases h7:n=7
 ·subst h7
  exact Pr.op7 (at_un h hr)
 ·exact at_op h h2 (by omega) (by omega) (by omega) hr (Pr.ops0 (.inl hs1))
theorem Reads.of_pc {e:Ex} (hf:force e=8) (h:∀ r y,no [40] r→Pr (.chain e) r y→PC (LG e++r) y) (hh:∃ t l,LG e=t::l∧(t.kind=4→t.text=[33]∨t.text=[45]∨t.text=[40]∨t.text=[91]∨t.text=[123])):Reads e:=by
 have un:∀ r,IL r→Pr .un (LG e++r) (.ok e r):=fun r hr=>PC.un (h r _ hr.2.2 (Pr.ch0 hr))
 have op:∀ n r y,2≤n→n≤6→hs r≤n→IL r→Pr (.ops n e) r y→Pr (.op n) (LG e++r) y:=fun n r y h2 h6 hs1 hr k=>
  (Pr.op7 (un r hr):Pr (.op (6+1)) _ _).down (by omega) h6 (aan _) k hs1
 exact ⟨fun _=>h,fun _=>un,fun n r y h2 h6 _ hs1 _ hr k=>op n r y h2 h6 hs1 hr k,fun r hr=>Pr.cond0 (op 2 r _ (by omega) (by omega) (by rw [hr.1];omega) hr.2.1 (Pr.ops0 (.inl (by rw [hr.1];omega)))) hr.2.2,hh⟩
theorem Reads.of_un {e:Ex} (hf:force e=7) (un:∀ r,IL r→Pr .un (LG e++r) (.ok e r)) (hh:∃ t l,LG e=t::l∧(t.kind=4→t.text=[33]∨t.text=[45]∨t.text=[40]∨t.text=[91]∨t.text=[123])):Reads e:=by
 have op:∀ n r y,2≤n→n≤6→hs r≤n→IL r→Pr (.ops n e) r y→Pr (.op n) (LG e++r) y:=fun n r y h2 h6 hs1 hr k=>
  (Pr.op7 (un r hr):Pr (.op (6+1)) _ _).down (by omega) h6 (aan _) k hs1
 exact ⟨fun h=>by omega,fun _=>un,fun n r y h2 h6 _ hs1 _ hr k=>op n r y h2 h6 hs1 hr k,fun r hr=>Pr.cond0 (op 2 r _ (by omega) (by omega) (by rw [hr.1];omega) hr.2.1 (Pr.ops0 (.inl (by rw [hr.1];omega)))) hr.2.2,hh⟩
theorem Reads.of_op {e:Ex} {s:Nat} (hf:force e=s) (h2:2≤s) (h6:s≤6) (h:∀ r y,hs r≤s→(hs r=4→s≠4)→IL r→Pr (.ops s e) r y→Pr (.op s) (LG e++r) y)
  (hh:∃ t l,LG e=t::l∧(t.kind=4→t.text=[33]∨t.text=[45]∨t.text=[40]∨t.text=[91]∨t.text=[123])):Reads e:=by
 have op:∀ n r y,2≤n→n≤s→hs r≤n→(hs r=4→n≠4)→IL r→Pr (.ops n e) r y→Pr (.op n) (LG e++r) y:=by
  intro n r y hn2 hns hs1 hs2 hr k
  by_cases he:n=s
  ·subst he;exact h r y hs1 hs2 hr k
  ·obtain ⟨m,rfl⟩:∃ m,s=m+1:=⟨s - 1,by omega⟩
   exact Pr.down (n:=m) (h r _ (by omega) (by omega) hr (Pr.ops0 (.inl (by omega)))) (by omega) (by omega) (by omega) k hs1
 exact ⟨fun h=>by omega,fun h=>by omega,fun n r y h2 h6 hn hs1 hs2 hr k=>op n r y h2 (by omega) hs1 hs2 hr k,fun r hr=>Pr.cond0 (op 2 r _ (by omega) (by omega) (by rw [hr.1];omega) (by rw [hr.1];omega) hr.2.1 (Pr.ops0 (.inl (by rw [hr.1];omega)))) hr.2.2,hh⟩
section
variable (n:az) (v:aX) (ar:List Ex) (ks:List az)
theorem tk1:LG (.mk 1 n v ar ks)=[Qt v]:=by rw [LG];rfl
theorem tk2:LG (.mk 2 n v ar ks)=[tN n]:=by rw [LG];rfl
theorem tk3:LG (.mk 3 n v ar ks)=LG.nI ar 0 8++[tO [46],tN n]:=by rw [LG];rfl
theorem tk4:LG (.mk 4 n v ar ks)=LG.nI ar 0 8++tO [91]::LG.nI ar 1 1++[tO [93]]:=by rw [LG];rfl
theorem tk5:LG (.mk 5 n v ar ks)=tN n::tO [40]::Df (ar.map LG)++[tO [41]]:=by rw [LG,tksL_map];rfl
theorem tk6:LG (.mk 6 n v ar ks)=tO n::LG.nI ar 0 7:=by rw [LG];rfl
theorem tk7:LG (.mk 7 n v ar ks)=LG.nI ar 0 (if bB n=4 then 5 else bB n)++tO n::LG.nI ar 1 (bB n+1):=by rw [LG];rfl
theorem tk8:LG (.mk 8 n v ar ks)=LG.nI ar 0 2++tO [63]::LG.nI ar 1 1++tO [58]::LG.nI ar 2 1:=by rw [LG];rfl
theorem tk9:LG (.mk 9 n v ar ks)=tO [91]::Df (ar.map LG)++[tO [93]]:=by rw [LG,tksL_map];rfl
theorem tk10:LG (.mk 10 n v ar ks)=tO [123]::Df (LG.aab ar ks)++[tO [125]]:=by rw [LG];rfl
end
theorem force_posZ (e:Ex):1≤force e∨(e.kind=7∧bB e.name=0):=by
 unfold force
 split
 ·omega
 ·split
  ·rename_i h;by_cases hs:bB e.name=0
   ·exact .inr ⟨h,hs⟩
   ·omega
  ·split<;>omega
theorem strength_leZ (s:az):bB s≤6:=by
 unfold bB
 repeat' split
 all_goals omega
theorem strength_2 {s:az} (h:0<bB s):2≤bB s:=by
 unfold bB at h ⊢
 repeat' split at h
 all_goals first|omega|(simp_all)
theorem ZH {s:az} (h:cc s=true):isName s=true∧s≠jc∧¬ (s=gX∨s=fY):=by
 simp only [cc,aap,abb,isWord,aaG] at h
 refine ⟨h.1,fun e=>h.2 (.inr (.inr e)),fun e=>h.2 ?_⟩
 rcases e with e|e
 ·exact .inl e
 ·exact .inr (.inl e)
section
variable {r r2 r3:List Tk} {e x l:Ex} {y:dF Ex} {s:az}
theorem atom_name (h:cc s=true) (hr:no [40] r):Pr .atom (tN s::r) (.ok (.mk 2 s ct [] []) r):=by
 obtain ⟨h1,h2,h3⟩:=ZH h
 refine ⟨1,?_⟩
 simp only [pF]
 rw [if_neg (show ¬ (tN s).kind=2 from by simp [tN]),if_neg (show ¬ (tN s).kind=3 from by simp [tN]),if_pos (show (tN s).kind=1 from rfl),if_neg (show ¬ (tN s).text=jc from h2),if_neg (show ¬ ((tN s).text=gX∨(tN s).text=fY) from h3),if_pos (show isName (tN s).text=true from h1)]
 cases r with
 |nil=>rfl
 |cons u r=>simp only [hr u r rfl];rfl
theorem atom_call (h:cc s=true) (k:Pr (.args [41]) r (.ok l r2)):Pr .atom (tN s::tO [40]::r) (.ok (.mk 5 s ct l.args []) r2):=by
 obtain ⟨h1,h2,h3⟩:=ZH h
 obtain ⟨f,k⟩:=k
 refine ⟨f+1,?_⟩
 simp only [pF]
 rw [if_neg (show ¬ (tN s).kind=2 from by simp [tN]),if_neg (show ¬ (tN s).kind=3 from by simp [tN]),if_pos (show (tN s).kind=1 from rfl),if_neg (show ¬ (tN s).text=jc from h2),if_neg (show ¬ ((tN s).text=gX∨(tN s).text=fY) from h3),if_pos (show isName (tN s).text=true from h1),if_pos (show cg [40] (tO [40])=true from by decide)]
 simp only [k,aL]
 rfl
theorem atom_list (k:Pr (.args [93]) r (.ok l r2)):Pr .atom (tO [91]::r) (.ok (.mk 9 [] ct l.args []) r2):=by
 obtain ⟨f,k⟩:=k
 refine ⟨f+1,?_⟩
 simp only [pF]
 rw [if_neg (show ¬ (tO [91]).kind=2 from by decide),if_neg (show ¬ (tO [91]).kind=3 from by decide),if_neg (show ¬ (tO [91]).kind=1 from by decide),if_neg (show ¬ cg [40] (tO [91])=true from by decide),if_pos (show cg [91] (tO [91])=true from by decide),k]
 rfl
theorem atom_map (k:Pr .kW r (.ok e r2)):Pr .atom (tO [123]::r) (.ok e r2):=by
 obtain ⟨f,k⟩:=k
 refine ⟨f+1,?_⟩
 simp only [pF]
 rw [if_neg (show ¬ (tO [123]).kind=2 from by decide),if_neg (show ¬ (tO [123]).kind=3 from by decide),if_neg (show ¬ (tO [123]).kind=1 from by decide),if_neg (show ¬ cg [40] (tO [123])=true from by decide),if_neg (show ¬ cg [91] (tO [123])=true from by decide),if_pos (show cg [123] (tO [123])=true from by decide),k]
theorem atom_lit {v:aX} (h:litOK v):Pr .atom (Qt v::r) (.ok (.mk 1 [] v [] []) r):=by
 refine ⟨1,?_⟩
 rcases h with rfl|⟨b,rfl⟩|⟨n,rfl,hn⟩|⟨s,rfl,hs⟩
 ·rfl
 ·cases b<;>rfl
 ·obtain ⟨h1,h2⟩:=decN_dec n hn
  have e:Qt (.mk 2 false n [] [] [])=tD (rL n):=rfl
  rw [e]
  simp only [pF]
  rw [if_pos (show (tD (rL n)).kind=2 from rfl),if_pos (show fZ (tD (rL n)).text=true from h1),show cZ (tD (rL n)).text=n from h2]
  rfl
 ·have e:Qt (.mk 3 false 0 s [] [])=tS s:=rfl
  rw [e]
  simp only [pF]
  rw [if_neg (show ¬ (tS s).kind=2 from by simp [tS]),if_pos (show (tS s).kind=3 from rfl),if_pos (show (tS s).text.length≤4096 from hs)]
  rfl
end
theorem head_no {e:Ex} (h:Reads e) {s:az} (hs:s=[41]∨s=[93]∨s=[125]) (r:List Tk):∃ t l,LG e++r=t::l∧cg s t=false:=by
 obtain ⟨t,l,e1,e2⟩:=h.head
 refine ⟨t,l++r,by rw [e1];rfl,?_⟩
 simp only [cg,aaG]
 rintro ⟨h1,h2⟩
 have:=e2 h1
 rw [h2] at this
 rcases hs with rfl|rfl|rfl<;>simp at this
theorem items_read {close:az} (hc:close=[41]∨close=[93]) (r:List Tk):∀ (l:List Ex) (acc:List Ex),l≠[]→(∀ x∈l,Reads x)→Pr (.items close acc) (Df (l.map LG)++tO close::r) (.ok (.mk 0 [] ct (acc++l) []) r)
 |[],_,h,_=>absurd rfl h
 |[x],acc,_,h=>by
  have:=(h x (by simp)).cond (tO close::r) (ZR (by rcases hc with rfl|rfl<;>simp))
  exact Pr.itemE this (by simp [cg,tO])
 |x::y::l,acc,_,h=>by
  have hx:=(h x (by simp)).cond (tO [44]::(Df ((y::l).map LG)++tO close::r)) (ZR (.inr (.inr (.inl rfl))))
  have ih:=items_read hc r (y::l) (acc++[x]) (by simp) fun z hz=>h z (by simp [hz])
  have e1:Df ((x::y::l).map LG)++tO close::r=LG x++tO [44]::(Df ((y::l).map LG)++tO close::r):=by
   simp only [aaJ]
   rw [Df,if_neg (by simp)]
   simp
  rw [e1]
  have:=Pr.itemC hx (by decide) (by rcases hc with rfl|rfl<;>decide) ih
  simpa using this
theorem args_read {close:az} (hc:close=[41]∨close=[93]) (r:List Tk) (l:List Ex) (h:∀ x∈l,Reads x):Pr (.args close) (Df (l.map LG)++tO close::r) (.ok (.mk 0 [] ct l []) r):=by
 cases l with
 |nil=>exact Pr.args0 (by simp [cg,tO])
 |cons x l=>
  have hi:=items_read hc r (x::l) [] (by simp) h
  have hh:∃ t m,Df ((x::l).map LG)++tO close::r=t::m∧cg close t=false:=by
   simp only [aaJ]
   rw [Df]
   split
   ·exact head_no (h x (by simp)) (by rcases hc with rfl|rfl<;>simp) _
   ·rw [aau]
    exact head_no (h x (by simp)) (by rcases hc with rfl|rfl<;>simp) _
  obtain ⟨t,m,e1,e2⟩:=hh
  rw [e1] at hi ⊢
  exact Pr.args1 e2 hi
theorem key_tok {k:az} (h:fP k=true):kq (tS k)=true:=by
 simp only [fP,aal] at h
 have h2:k.length≤4096:=by omega
 simp [kq,tS,h2]
theorem ent_read (r:List Tk):∀ (l:List Ex) (ks:List az) (acc:List Ex) (kc:List az),l≠[]→ks.length=l.length→(∀ k∈ks,fP k=true)→(∀ x∈l,Reads x)→
  Pr (.xR acc kc) (Df (LG.aab l ks)++tO [125]::r) (.ok (.mk 10 [] ct (acc++l) (kc++ks)) r)
 |[],_,_,_,h,_,_,_=>absurd rfl h
 |x::l,[],_,_,_,h,_,_=>by simp at h
 |[x],[k],acc,kc,_,_,hk,h=>by
  have:=(h x (by simp)).cond (tO [125]::r) (ZR (by simp))
  exact Pr.entE (u:=tO [58]) (key_tok (hk k (by simp))) (by decide) this (by decide)
 |[x],k::k2::ks,_,_,_,h,_,_=>by simp at h
 |x::y::l,[k],_,_,_,h,_,_=>by simp at h
 |x::y::l,k::k2::ks,acc,kc,_,hl,hk,h=>by
  have hx:=(h x (by simp)).cond (tO [44]::(Df (LG.aab (y::l) (k2::ks))++tO [125]::r)) (ZR (.inr (.inr (.inl rfl))))
  have ih:=ent_read r (y::l) (k2::ks) (acc++[x]) (kc++[k]) (by simp) (by simpa using hl) (fun z hz=>hk z (by simp [hz])) fun z hz=>h z (by simp [hz])
  have e1:Df (LG.aab (x::y::l) (k::k2::ks))++tO [125]::r=tS k::tO [58]::(LG x++tO [44]::(Df (LG.aab (y::l) (k2::ks))++tO [125]::r)):=by
   rw [LG.aab,Df,if_neg (by simp [LG.aab])]
   simp
  rw [e1]
  have:=Pr.entC (key_tok (hk k (by simp))) (by decide:cg [58] (tO [58])=true) hx (by decide) ih
  simpa [tS] using this
theorem ents_read (r:List Tk) (l:List Ex) (ks:List az) (hl:ks.length=l.length) (hk:∀ k∈ks,fP k=true) (h:∀ x∈l,Reads x):Pr .kW (Df (LG.aab l ks)++tO [125]::r) (.ok (.mk 10 [] ct l ks) r):=by
 cases l with
 |nil=>
  obtain rfl:ks=[]:=abk.1 (by simpa using hl)
  exact Pr.ents0 (by decide)
 |cons x l=>
  cases ks with
  |nil=>simp at hl
  |cons k ks=>
   have hi:=ent_read r (x::l) (k::ks) [] [] (by simp) hl hk h
   have e1:∃ m,Df (LG.aab (x::l) (k::ks))++tO [125]::r=tS k::m:=by
    rw [LG.aab,Df]
    split
    ·exact ⟨_,rfl⟩
    ·exact ⟨_,rfl⟩
   obtain ⟨m,e1⟩:=e1
   rw [e1] at hi ⊢
   exact Pr.ents1 (by simp [cg,tS]) hi
theorem pfree_op {s:az} {r:List Tk} (h:s≠[46]∧s≠[91]∧s≠[40]):IL (tO s::r):=by
 refine ⟨?_,?_,?_⟩<;>(rintro t l ⟨⟩;simp [cg,tO,h])
theorem strength_pf {s:az} (h:0<bB s):s≠[46]∧s≠[91]∧s≠[40]∧s≠[63]:=by
 refine ⟨?_,?_,?_,?_⟩<;>(rintro rfl;simp [bB] at h)
theorem aac {b:Bool} {l:List Tk} (h:∃ t m,l=t::m∧(t.kind=4→t.text=[33]∨t.text=[45]∨t.text=[40]∨t.text=[91]∨t.text=[123])) (r:List Tk):
  ∃ t m,Xo b l++r=t::m∧(t.kind=4→t.text=[33]∨t.text=[45]∨t.text=[40]∨t.text=[91]∨t.text=[123]):=by
 cases b with
 |true=>exact ⟨_,_,rfl,fun _=>by simp [tO]⟩
 |false=>
  obtain ⟨t,m,rfl,h⟩:=h
  exact ⟨t,m++r,rfl,h⟩
theorem force_lit {v:aX} (hv:litOK v):force (.mk 1 [] v [] [])=8:=by
 rcases hv with rfl|⟨b,rfl⟩|⟨n,rfl,hn⟩|⟨s,rfl,hs⟩<;>simp [force,Ex.kind,Ex.value,ct,aX.kind,aX.int]
theorem cano_pos {e:Ex} (h:O2 e):¬ force e<1:=by
 cases h with|mk _ hn _=>?_
 rcases force_posZ e with h|⟨h1,h2⟩
 ·omega
 ·simp only [O1,h1] at hn
  simp at hn
  omega
theorem reads_of:∀ e,O2 e→Reads e:=by
 intro e h
 induction h with
 |mk e hn ha ih=>
  rcases e with ⟨k,n,v,ar,ks⟩
  simp only [O1,Ex.kind,Ex.value,Ex.name,Ex.args,Ex.keys] at hn ha ih
  rcases hn with ⟨rfl,hv,rfl,rfl,rfl⟩|⟨rfl,rfl,rfl,hp,rfl⟩|⟨rfl,rfl,rfl,hp,a,rfl⟩|⟨rfl,rfl,rfl,rfl,a,b,rfl⟩|⟨rfl,rfl,rfl,hp⟩|⟨rfl,rfl,rfl,hp,a,rfl⟩|⟨rfl,rfl,rfl,hp,a,b,rfl⟩|⟨rfl,rfl,rfl,rfl,a,b,c,rfl⟩|⟨rfl,rfl,rfl,rfl⟩|⟨rfl,rfl,rfl,hl,hk⟩
  ·have hte:=tk1 [] v [] []
   refine Reads.of_pc (force_lit hv) (fun r y hr k=>?_) ?_
   ·rw [hte];exact ⟨_,r,atom_lit hv,k⟩
   ·rw [hte]
    refine ⟨_,_,rfl,fun h4=>?_⟩
    rcases hv with rfl|⟨b,rfl⟩|⟨n,rfl,hn⟩|⟨s,rfl,hs⟩<;>simp [Qt,ct,aX.kind,tN,tS,tD] at h4
  ·have hte:=tk2 n ct [] []
   refine Reads.of_pc rfl (fun r y hr k=>?_) ⟨_,_,hte,fun h4=>by simp [tN] at h4⟩
   rw [hte];exact ⟨_,r,atom_name hp hr,k⟩
  ·have hte:=tk3 n ct [a] []
   have ia:=ih a (by simp)
   simp only [LG.nI] at hte
   refine Reads.of_pc rfl (fun r y hr k=>?_) (by rw [hte];exact aac ia.head _)
   rw [hte]
   simp only [aau,aas,aav]
   exact at_pc ia (by rintro t l ⟨⟩;decide) (Pr.chDot (by decide) ⟨rfl,hp⟩ k)
  ·have hte:=tk4 [] ct [a,b] []
   have ia:=ih a (by simp)
   have ib:=ih b (by simp)
   have fb:=cano_pos (ha b (by simp))
   simp only [LG.nI,decide_eq_false fb,Xo,aay,if_false] at hte
   refine Reads.of_pc rfl (fun r y hr k=>?_) (by rw [hte,aau];exact aac ia.head _)
   rw [hte]
   simp only [aau,aas,aav]
   exact at_pc ia (by rintro t l ⟨⟩;decide) (Pr.chIx (by decide) (ib.cond _ (ZR (by simp))) (by decide) k)
  ·have hte:=tk5 n ct ar []
   refine Reads.of_pc rfl (fun r y hr k=>?_) ⟨_,_,hte,fun h4=>by simp [tN] at h4⟩
   rw [hte]
   simp only [aau,aas,aav]
   exact ⟨_,r,atom_call hp (args_read (.inl rfl) r ar ih),k⟩
  ·have hte:=tk6 n ct [a] []
   have ia:=ih a (by simp)
   simp only [LG.nI] at hte
   refine Reads.of_un rfl (fun r hr=>?_) ⟨_,_,hte,fun _=>by rcases hp with rfl|rfl<;>simp [tO]⟩
   rw [hte]
   simp only [aas]
   exact Pr.unO (by rcases hp with rfl|rfl<;>simp [cg,tO]) (at_un ia hr)
  ·have hte:=tk7 n ct [a,b] []
   have ia:=ih a (by simp)
   have ib:=ih b (by simp)
   have s6:=strength_leZ n
   have s2:=strength_2 hp
   obtain ⟨p1,p2,p3,p4⟩:=strength_pf hp
   simp only [LG.nI] at hte
   refine Reads.of_op (s:=bB n) rfl s2 s6 (fun r y h1 h2 hr k=>?_) (by rw [hte];exact aac ia.head _)
   rw [hte]
   simp only [aau,aas]
   have hb:=at_ok ib (n:=bB n+1) (by omega) (by omega) (r:=r) (by omega) hr
   have hop:hs (tO n::(Xo (decide (force b<bB n+1)) (LG b)++r))=bB n:=by simp [hs,tO]
   by_cases h4:bB n=4
   ·rw [h4] at hb hop k h1 h2 ⊢
    have e1:=k.uniq (Pr.ops0 (n:=4) (.inl (by omega)))
    subst e1
    simp only [if_true]
    have hl:=at_op ia (n:=5) (r:=tO n::(Xo (decide (force b<4+1)) (LG b)++r)) (by omega) (by omega) (by omega) (by omega) (pfree_op ⟨p1,p2,p3⟩) (Pr.ops0 (.inl (by omega)))
    exact Pr.op (by omega) hl (Pr.ops4 ⟨rfl,h4⟩ hb)
   ·rw [if_neg h4]
    exact at_op ia s2 s6 (by omega) (fun h=>h4) (pfree_op ⟨p1,p2,p3⟩) (Pr.opsS h4 ⟨rfl,rfl⟩ hb k)
  ·have hte:=tk8 [] ct [a,b,c] []
   have ia:=ih a (by simp)
   have ib:=ih b (by simp)
   have ic:=ih c (by simp)
   have fb:=cano_pos (ha b (by simp))
   have fc:=cano_pos (ha c (by simp))
   simp only [LG.nI,decide_eq_false fb,decide_eq_false fc,Xo,aay,if_false] at hte
   refine ⟨fun h=>by simp [force,Ex.kind] at h,fun h=>by simp [force,Ex.kind] at h,fun n r y h1 h2 h3=>by simp [force,Ex.kind] at h3;omega,fun r hr=>?_,by rw [hte,aau];exact aac ia.head _⟩
   rw [hte]
   simp only [aau,aas]
   have h1:=ic.cond r hr
   have h2:=ib.cond (tO [58]::(LG c++r)) (ZR (by simp))
   have h3:=at_ok ia (n:=2) (r:=tO [63]::(LG b++tO [58]::(LG c++r))) (by omega) (by omega) (by simp [hs,tO,bB]) (pfree_op (by decide))
   exact Pr.cG h3 (by decide) h2 (by decide) h1
  ·have hte:=tk9 [] ct ar []
   refine Reads.of_pc rfl (fun r y hr k=>?_) ⟨_,_,hte,fun _=>by simp [tO]⟩
   rw [hte]
   simp only [aau,aas,aav]
   exact ⟨_,r,atom_list (args_read (.inr rfl) r ar ih),k⟩
  ·have hte:=tk10 [] ct ar ks
   refine Reads.of_pc rfl (fun r y hr k=>?_) ⟨_,_,hte,fun _=>by simp [tO]⟩
   rw [hte]
   simp only [aau,aas,aav]
   exact ⟨_,r,atom_map (ents_read r ar ks hl hk ih),k⟩
def Lx (s:az) (T:List Tk) (ok:az→Prop):Prop:=
 ∀ X,ok X→∀ (g a op:Nat) (out:List Tk),s.length+X.length<g→∃ g' a' new,X.length<g'∧rT T new∧dV g a (s++X) op out=dV g' a' X (dep op T) (out++new)
def Zb (X:az):Prop:=∀ c r,X=c::r→b9 c=false
theorem sI:∀ {a b x y:List Tk},rT a x→rT b y→rT (a++b) (x++y)
 |[],_,[],_,_,h=>h
 |[],_,_::_,_,h,_=>h.elim
 |_::_,_,[],_,h,_=>h.elim
 |_::_,_,_::_,_,h,k=>⟨h.1,sI h.2 k⟩
theorem Lx.app {s1 s2:az} {T1 T2:List Tk} {ok1 ok2:az→Prop} (h1:Lx s1 T1 ok1) (h2:Lx s2 T2 ok2) (h:∀ X,ok2 X→ok1 (s2++X)):Lx (s1++s2) (T1++T2) ok2:=by
 intro X hX g a op out hg
 rw [aak] at hg
 obtain ⟨g1,a1,n1,l1,m1,e1⟩:=h1 (s2++X) (h X hX) g a op out (by rw [aak];omega)
 rw [aak] at l1
 obtain ⟨g2,a2,n2,l2,m2,e2⟩:=h2 X hX g1 a1 (dep op T1) (out++n1) l1
 exact ⟨g2,a2,n1++n2,l2,sI m1 m2,by rw [aau,e1,e2,aau];simp only [dep,List.foldl_append]⟩
theorem Lx.mono {s:az} {T:List Tk} {ok ok':az→Prop} (h:Lx s T ok) (k:∀ X,ok' X→ok X):Lx s T ok':=fun X hX=>h X (k X hX)
theorem Lx.space:Lx [32] [] fun _=>True:=by
 intro X _ g a op out hg
 obtain ⟨g,rfl⟩:∃ G,g=G+1:=⟨g - 1,by omega⟩
 refine ⟨g,a+1,[],by simp at hg;omega,trivial,?_⟩
 simp only [aas,aav,dV,aaB,dep,List.foldl_nil]
 rw [if_pos (.inl rfl)]
theorem Lx.tok {c:UInt8} {r t:az} {k:Int} {ok:az→Prop} (hc:c.toNat≠32∧c.toNat≠9∧c.toNat≠35∧c.toNat≠10) (h:∀ X,ok X→jy (c::(r++X))= .ok k t (r.length+1)):Lx (c::r) [⟨k,t,0⟩] ok:=by
 intro X hX g a op out hg
 obtain ⟨g,rfl⟩:∃ G,g=G+1:=⟨g - 1,by omega⟩
 obtain ⟨h1,h2,h3,h4⟩:=hc
 simp only [aah] at hg
 refine ⟨g,a+(r.length+1),[⟨k,t,a⟩],by omega,⟨⟨rfl,rfl⟩,trivial⟩,?_⟩
 simp only [aas,dV]
 rw [if_neg (by omega),if_neg (by omega),if_neg (by omega),h X hX]
 simp [dep,Uj]
theorem tw_all {p:UInt8→Bool}:∀ (s X:az),s.all p=true→(∀ c r,X=c::r→p c=false)→(s++X).takeWhile p=s
 |[],X,_,h=>by
  cases X with
  |nil=>rfl
  |cons c r=>rw [aav,aaL,h c r rfl];rfl
 |a::s,X,ha,h=>by
  simp only [List.all_cons,aap] at ha
  rw [aas,aaL,if_pos ha.1,tw_all s X ha.2 h]
theorem letter_not {c:UInt8} (h:bN c=true):c.toNat≠32∧c.toNat≠9∧c.toNat≠35∧c.toNat≠10:=by
 simp only [bN,aal] at h;omega
theorem digit_not {c:UInt8} (h:isDigit c=true):(c.toNat≠32∧c.toNat≠9∧c.toNat≠35∧c.toNat≠10)∧bN c=false:=by
 simp only [isDigit,aal] at h
 refine ⟨by omega,?_⟩
 simp only [bN,aaG];omega
theorem ZU {n:az} (h:isName n=true):Lx n [tN n] Zb:=by
 simp only [isName,aap,aal] at h
 obtain ⟨hl,h⟩:=h
 cases n with
 |nil=>simp at h
 |cons c r=>
  simp only [aap] at h
  refine Lx.tok (letter_not h.1) fun X hX=>?_
  have e1:((c::r)++X).takeWhile b9=c::r:=tw_all (c::r) X (by simp [b9,h.1,h.2]) hX
  simp only [jy]
  rw [if_pos h.1,lZ,←aas,e1]
  simp only [aah] at hl ⊢
  rw [if_neg (by omega)]
theorem lx_num {n:Nat} (h:n≤9007199254740992):Lx (rL n) [tD (rL n)] Zb:=by
 obtain ⟨i1,i2,i3,i4,i5⟩:=decN_all n n (aan _)
 have i6:=(decN_dec n h).1
 simp only [fZ,aap,aal,abb,aaG] at i6
 obtain ⟨⟨⟨_,i6⟩,_⟩,i7⟩:=i6
 generalize rL n=d at*
 cases d with
 |nil=>simp at i3
 |cons c r=>
  have hc:isDigit c=true:=by simp only [List.all_cons,aap] at i2;exact i2.1
  obtain ⟨h1,h2⟩:=digit_not hc
  refine Lx.tok h1 fun X hX=>?_
  have e1:((c::r)++X).takeWhile isDigit=c::r:=tw_all (c::r) X i2 fun d m e=>by
   have:=hX d m e
   simp only [b9,abJ] at this;exact this.2
  simp only [jy]
  rw [if_neg (by rw [h2];simp),if_pos hc,vU,←aas,e1]
  rw [if_neg,if_neg (by omega)]
  ·rfl
  ·rintro (h3|⟨h3,h4⟩)
   ·exact i6 h3
   ·cases X with
    |nil=>simp at h3
    |cons d m=>
     rw [getD_atX] at h4
     have:=hX d m rfl
     simp only [b9,abJ] at this
     rw [h4] at this;cases this.1
theorem hex_ok {k:Nat} (h:k<16):qT (Ge k)=k:=by
 have:∀ j:Fin 16,qT (Ge j.val)=j.val:=by decide
 exact this ⟨k,h⟩
theorem ch_quote (c:UInt8) (Y:az):tW (eB c++Y)= .ok c (eB c).length∧∃ a r,eB c=a::r∧a.toNat≠34:=by
 have hl:=c.toNat_lt
 unfold eB
 split
 ·rename_i h
  obtain rfl:c=34:=aby.1 h
  exact ⟨by simp [tW,nQ],_,_,rfl,by decide⟩
 ·split
  ·rename_i h
   obtain rfl:c=92:=aby.1 h
   exact ⟨by simp [tW,nQ],_,_,rfl,by decide⟩
  ·split
   ·rename_i h
    obtain rfl:c=10:=aby.1 h
    exact ⟨by simp [tW,nQ],_,_,rfl,by decide⟩
   ·split
    ·rename_i h
     obtain rfl:c=9:=aby.1 h
     exact ⟨by simp [tW,nQ],_,_,rfl,by decide⟩
    ·split
     ·rename_i h1 h2 h3 h4 h5
      refine ⟨?_,c,[],rfl,h1⟩
      simp only [tW,aas,aav,aa0]
      rw [if_neg (by omega),if_pos h2]
      rfl
     ·refine ⟨?_,_,_,rfl,by decide⟩
      have a1:=hex_ok (k:=c.toNat / 16) (by omega)
      have a2:=hex_ok (k:=c.toNat % 16) (by omega)
      have e1:UInt8.ofNat (16*((c.toNat / 16:Nat):Int)+((c.toNat % 16:Nat):Int)).toNat=c:=by
       have:(16*((c.toNat / 16:Nat):Int)+((c.toNat % 16:Nat):Int)).toNat=c.toNat:=by omega
       rw [this];simp
      simp only [tW,aas,aav,aa0,abv,abc,nQ,abC,aah,a1,a2,e1]
      rw [if_neg (by decide),if_neg (by decide),if_neg (by omega),if_neg (by decide),if_neg (by decide),if_neg (by decide),if_pos (by decide),if_neg (by omega),if_neg (by omega),if_neg (by omega),if_neg (by omega)]
      rfl
theorem str_quote (X:az):∀ (s acc:az) (n f:Nat),(s.flatMap eB).length<f→acc.length+s.length≤4096→Az f (s.flatMap eB++34::X) acc n= .ok 3 (acc++s) (n+(s.flatMap eB).length+1)
 |[],acc,n,f,hf,hl=>by
  obtain ⟨f,rfl⟩:∃ F,f=F+1:=⟨f - 1,by omega⟩
  simp only [List.flatMap_nil,aav,Az]
  rw [if_pos (by decide),if_neg (by simp at hl;omega)]
  simp
 |c::s,acc,n,f,hf,hl=>by
  obtain ⟨f,rfl⟩:∃ F,f=F+1:=⟨f - 1,by omega⟩
  obtain ⟨h1,a,r,h2,h3⟩:=ch_quote c (s.flatMap eB++34::X)
  rw [abK,aak] at hf
  have hp:1≤(eB c).length:=by rw [h2];simp
  have ih:=str_quote X s (acc++[c]) (n+(eB c).length) f (by omega) (by simp at hl ⊢;omega)
  rw [abK,aau]
  have e1:(eB c++(s.flatMap eB++34::X)).drop (eB c).length=s.flatMap eB++34::X:=by simp
  rw [h2] at h1 e1 ⊢
  simp only [aas] at h1 e1 ⊢
  rw [Az,if_neg h3,h1]
  simp only
  rw [e1,←h2,ih]
  simp only [pE.ok.injEq,true_and]
  exact ⟨by simp,by rw [h2];simp;omega⟩
theorem lx_str {s:az} (h:s.length≤4096):Lx (fl s) [tS s] fun _=>True:=by
 have e:fl s=34::(s.flatMap eB++[34]):=by simp [fl]
 rw [e]
 refine Lx.tok (c:=34) (by decide) fun X _=>?_
 have:=str_quote X s [] 1 ((s.flatMap eB++34::X).length+1) (by simp;omega) (by simpa using h)
 simp only [jy,aau,aas,aav]
 rw [if_neg (by decide),if_neg (by decide),if_pos (by decide),this]
 simp
 omega
theorem ZD {c:UInt8} (h:rJ.contains c=true∧bN c=false∧isDigit c=false∧c.toNat≠34∧(c.toNat≠32∧c.toNat≠9∧c.toNat≠35∧c.toNat≠10)∧c≠124∧c≠38∧c≠61∧c≠33∧c≠60∧c≠62):Lx [c] [tO [c]] fun _=>True:=by
 obtain ⟨h1,h2,h3,h4,h5,n1,n2,n3,n4,n5,n6⟩:=h
 refine Lx.tok h5 fun X _=>?_
 simp only [jy,aav]
 rw [if_neg (by simp [h2]),if_neg (by simp [h3]),if_neg h4,AA]
 have e1:j5 ((c::X).take 2)=false:=by
  cases X<;>simp [j5,n1,n2,n3,n4,n5,n6]
 rw [e1]
 simp only [aay,if_false,h1,if_true]
 rfl
theorem lx_not:Lx [33] [tO [33]] fun X=>∀ r,X≠61::r:=by
 refine Lx.tok (by decide) fun X hX=>?_
 simp only [jy,aav]
 rw [if_neg (by decide),if_neg (by decide),if_neg (by decide),AA]
 have e1:j5 ((33::X).take 2)=false:=by
  cases X with
  |nil=>decide
  |cons d m=>
   have:d≠61:=fun e=>hX m (by rw [e])
   simp [j5,this]
 rw [e1]
 rfl
theorem lx_bin {n:az} (h:0<bB n):Lx n [tO n] fun X=>∃ r,X=32::r:=by
 have hn:n=[124,124]∨n=[38,38]∨n=[61,61]∨n=[33,61]∨n=[60]∨n=[60,61]∨n=[62]∨n=[62,61]∨n=[43]∨n=[45]∨n=[42]∨n=[47]∨n=[37]:=by
  refine Classical.byContradiction fun hc=>?_
  simp only [not_or] at hc
  simp [bB,hc] at h
 rcases hn with rfl|rfl|rfl|rfl|rfl|rfl|rfl|rfl|rfl|rfl|rfl|rfl|rfl
 all_goals
  refine Lx.tok (by decide) fun X hX=>?_
  obtain ⟨r,rfl⟩:=hX
  rfl
def smpT:Tag→Prop
 | .ops _ e| .chain e=>x8 e=true
 | .items _ acc| .xR acc _=>∀ x∈acc,x8 x=true
 |_=>True
def smpR:Tag→Ex→Prop
 | .args _,e| .items _ _,e=>∀ x∈e.args,x8 x=true
 |_,e=>x8 e=true
theorem ZI {k:Int} {n:az} {v:aX} {ar:List Ex} {ks:List az} (h1:k=1→v.kind≤3∧0≤v.int) (h2:∀ x∈ar,x8 x=true):x8 (.mk k n v ar ks)=true:=by
 rw [Z4]
 simp only [Ex.kind,Ex.value,Ex.args,ZX,aap,abb,aaz]
 refine ⟨?_,h2⟩
 by_cases hk:k=1
 ·obtain ⟨a,b⟩:=h1 hk
  have c1:¬ 3<v.kind:=by omega
  have c2:¬ v.int<0:=by omega
  simp [c1,c2]
 ·simp [hk]
theorem pF_smp:∀ (f:Nat) (tag:Tag) (ts:List Tk) (e:Ex) (r:List Tk),smpT tag→pF f tag ts=some (.ok e r)→smpR tag e:=by
 intro f
 induction f with
 |zero=>intro tag ts e r _ h;simp [pF] at h
 |succ f ih=>
  intro tag ts e r hs h
  have IH:∀ {tag:Tag} {ts:List Tk} {e:Ex} {r:List Tk},pF f tag ts=some (.ok e r)→smpT tag→smpR tag e:=fun h hs=>ih _ _ _ _ hs h
  have fin:∀ {x:Ex} {l r:List Tk},some (dF.ok x l)=some (dF.ok e r)→x=e:=fun h=>by cases h;rfl
  have two:∀ {a b:Ex},x8 a=true→x8 b=true→∀ x∈[a,b],x8 x=true:=by
   intro a b h1 h2 x hx
   simp only [aaY,List.not_mem_nil,or_false] at hx
   rcases hx with rfl|rfl<;>assumption
  have one:∀ {a:Ex},x8 a=true→∀ x∈[a],x8 x=true:=by
   intro a h1 x hx
   simp only [aaY,List.not_mem_nil,or_false] at hx
   rw [hx];exact h1
  have add:∀ {acc:List Ex} {a:Ex},(∀ x∈acc,x8 x=true)→x8 a=true→∀ x∈acc++[a],x8 x=true:=by
   intro acc a h1 h2 x hx
   rcases aaV.1 hx with hx|hx
   ·exact h1 x hx
   ·exact one h2 x hx
  have nil:∀ x∈([]:List Ex),x8 x=true:=fun x hx=>by cases hx
  cases tag with
  |cond=>
   simp only [pF] at h
   obtain ⟨c,r1,h1,h⟩:=cm h
   have i1:x8 c=true:=IH h1 trivial
   cases r1 with
   |nil=>cases fin h;exact i1
   |cons t r2=>
    simp only at h
    split at h
    ·obtain ⟨a,r3,h3,h⟩:=cm h
     obtain ⟨u,r4,rfl,hu,h⟩:=Zz h
     obtain ⟨b,r5,h5,h⟩:=cm h
     cases fin h
     refine ZI (by decide) fun x hx=>?_
     simp only [aaY,List.not_mem_nil,or_false] at hx
     rcases hx with rfl|rfl|rfl
     ·exact i1
     ·exact IH h3 trivial
     ·exact IH h5 trivial
    ·cases fin h;exact i1
  |op n=>
   simp only [pF] at h
   split at h
   ·exact IH (tag:= .un) h trivial
   ·obtain ⟨c,r1,h1,h⟩:=cm h
    exact IH (tag:= .ops n c) h (IH (tag:= .op (n+1)) h1 trivial)
  |ops n e0=>
   simp only [pF] at h
   cases ts with
   |nil=>cases fin h;exact hs
   |cons t l=>
    simp only at h
    split at h
    ·obtain ⟨x,r2,h2,h⟩:=cm h
     have i:=ZI (k:=7) (n:=t.text) (v:=ct) (ks:=[]) (by decide) (two hs (IH (tag:= .op (n+1)) h2 trivial))
     split at h
     ·cases fin h;exact i
     ·have q:=IH h (show smpT _ from i);exact q
    ·cases fin h;exact hs
  |un=>
   simp only [pF] at h
   cases ts with
   |nil=>exact IH (tag:= .atom) h trivial
   |cons t l=>
    simp only at h
    split at h
    ·obtain ⟨x,r2,h2,h⟩:=cm h
     cases fin h
     exact ZI (by decide) (one (IH (tag:= .un) h2 trivial))
    ·obtain ⟨x,r2,h2,h⟩:=cm h
     exact IH (tag:= .chain x) h (IH (tag:= .atom) h2 trivial)
  |chain e0=>
   simp only [pF] at h
   cases ts with
   |nil=>cases fin h;exact hs
   |cons t l=>
    simp only at h
    split at h
    ·cases l with
     |nil=>simp at h
     |cons u r2=>
      simp only at h
      split at h
      ·have q:=IH h (ZI (by decide) (one hs):x8 _=true);exact q
      ·simp at h
    ·split at h
     ·obtain ⟨x,r2,h2,h⟩:=cm h
      obtain ⟨u,r4,rfl,hu,h⟩:=Zz h
      have q:=IH h (ZI (by decide) (two hs (IH (tag:= .cond) h2 trivial)):x8 _=true);exact q
     ·cases fin h;exact hs
  |atom=>
   simp only [pF] at h
   cases ts with
   |nil=>simp at h
   |cons t l=>
    simp only at h
    split at h
    ·split at h
     ·cases fin h;exact ZI (fun _=>⟨by simp [aX.kind],by simp only [aX.int];omega⟩) nil
     ·simp at h
    ·split at h
     ·split at h
      ·cases fin h;exact ZI (fun _=>⟨by simp [aX.kind],by simp [aX.int]⟩) nil
      ·simp at h
     ·split at h
      ·split at h
       ·cases fin h;exact ZI (fun _=>⟨by decide,by decide⟩) nil
       ·split at h
        ·cases fin h;exact ZI (fun _=>⟨by simp [aX.kind],by simp [aX.int]⟩) nil
        ·split at h
         ·cases l with
          |nil=>cases fin h;exact ZI (by decide) nil
          |cons u r2=>
           simp only at h
           split at h
           ·obtain ⟨x,r3,h3,h⟩:=cm h
            cases fin h
            exact ZI (by decide) (IH (tag:= .args [41]) h3 trivial)
           ·cases fin h;exact ZI (by decide) nil
         ·simp at h
      ·split at h
       ·obtain ⟨x,r2,h2,h⟩:=cm h
        obtain ⟨u,r4,rfl,hu,h⟩:=Zz h
        cases fin h
        exact IH (tag:= .cond) h2 trivial
       ·split at h
        ·obtain ⟨x,r3,h3,h⟩:=cm h
         cases fin h
         exact ZI (by decide) (IH (tag:= .args [93]) h3 trivial)
        ·split at h
         ·exact IH (tag:= .kW) h trivial
         ·simp at h
  |args close=>
   simp only [pF] at h
   cases ts with
   |nil=>exact IH (tag:= .items close []) h nil
   |cons t l=>
    simp only at h
    split at h
    ·cases fin h;exact nil
    ·exact IH (tag:= .items close []) h nil
  |items close acc=>
   simp only [pF] at h
   obtain ⟨x,r1,h1,h⟩:=cm h
   have i1:x8 x=true:=IH (tag:= .cond) h1 trivial
   cases r1 with
   |nil=>simp at h
   |cons t r2=>
    simp only at h
    split at h
    ·cases fin h;exact add hs i1
    ·split at h
     ·have q:=IH h (show smpT _ from (add hs i1));exact q
     ·simp at h
  |kW=>
   simp only [pF] at h
   cases ts with
   |nil=>exact IH (tag:= .xR [] []) h nil
   |cons t l=>
    simp only at h
    split at h
    ·cases fin h;exact ZI (by decide) nil
    ·exact IH (tag:= .xR [] []) h nil
  |xR acc ks=>
   simp only [pF] at h
   cases ts with
   |nil=>simp at h
   |cons t l=>
    simp only at h
    split at h
    ·obtain ⟨v,r2,rfl,hv,h⟩:=Zz h
     obtain ⟨x,r3,h3,h⟩:=cm h
     have i3:x8 x=true:=IH (tag:= .cond) h3 trivial
     cases r3 with
     |nil=>simp at h
     |cons w r4=>
      simp only at h
      split at h
      ·cases fin h;exact ZI (by decide) (add hs i3)
      ·split at h
       ·have q:=IH h (show smpT _ from (add hs i3));exact q
       ·simp at h
    ·simp at h
section
variable (n:az) (v:aX) (ar:List Ex) (ks:List az)
theorem sr1:src (.mk 1 n v ar ks)=uF v:=by rw [src];rfl
theorem sr2:src (.mk 2 n v ar ks)=n:=by rw [src];rfl
theorem sr3:src (.mk 3 n v ar ks)=src.eO ar 0 8++[46]++n:=by rw [src];rfl
theorem sr4:src (.mk 4 n v ar ks)=src.eO ar 0 8++[91]++src.eO ar 1 1++[93]:=by rw [src];rfl
theorem sr5:src (.mk 5 n v ar ks)=n++[40]++c6 [44,32] (ar.map src)++[41]:=by rw [src,Gk];rfl
theorem sr6:src (.mk 6 n v ar ks)=n++src.eO ar 0 7:=by rw [src];rfl
theorem sr7:src (.mk 7 n v ar ks)=src.eO ar 0 (if bB n=4 then 5 else bB n)++[32]++n++[32]++src.eO ar 1 (bB n+1):=by rw [src];rfl
theorem sr8:src (.mk 8 n v ar ks)=src.eO ar 0 2++[32,63,32]++src.eO ar 1 1++[32,58,32]++src.eO ar 2 1:=by rw [src];rfl
theorem sr9:src (.mk 9 n v ar ks)=[91]++c6 [44,32] (ar.map src)++[93]:=by rw [src,Gk];rfl
theorem sr10:src (.mk 10 n v ar ks)=[123]++c6 [44,32] (src.nT ar ks)++[125]:=by rw [src];rfl
end
structure Yd (e:Ex):Prop where
 lx:Lx (src e) (LG e) Zb
 hd:∃ c r,src e=c::r∧c≠61
theorem ZN {c:UInt8} {r:az} (h:b9 c=false):Zb (c::r):=by rintro d m ⟨⟩;exact h
theorem any {ok:az→Prop}:∀ X,ok X→(fun _:az=>True) X:=fun _ _=>trivial
theorem ZT {e:Ex} (h:Yd e) (b:Bool):Lx (paren b (src e)) (Xo b (LG e)) Zb:=by
 cases b with
 |false=>exact h.lx
 |true=>
  have h1:Lx [40] [tO [40]] _:=ZD (by decide)
  have h2:Lx [41] [tO [41]] _:=ZD (by decide)
  have:=(h1.app h.lx any).app h2 (fun X _=>ZN (by decide))
  exact this.mono any
theorem par_hd {e:Ex} (h:Yd e) (b:Bool):∃ c r,paren b (src e)=c::r∧c≠61:=by
 cases b with
 |false=>exact h.hd
 |true=>exact ⟨40,_,rfl,by decide⟩
theorem lx_join:∀ (l:List (az×List Tk)),(∀ x∈l,Lx x.1 x.2 Zb)→Lx (c6 [44,32] (l.map (·.1))) (Df (l.map (·.2))) Zb
 |[],_=>by
  intro X hX g a op out hg
  exact ⟨g,a,[],by simpa [c6] using hg,trivial,by simp [c6,Df,dep]⟩
 |[x],h=>h x (by simp)
 |x::y::l,h=>by
  have ih:=lx_join (y::l) fun z hz=>h z (by simp [hz])
  have h1:Lx [44] [tO [44]] _:=ZD (by decide)
  have:=((h x (by simp)).app (h1.app Lx.space any) (fun X _=>ZN (by decide))).app ih any
  simp only [aaJ] at this ⊢
  rw [c6,if_neg (by simp),Df,if_neg (by simp)]
  simpa [aau] using this
theorem lit_src {v:aX} (h:litOK v):Lx (uF v) [Qt v] Zb∧∃ c r,uF v=c::r∧c≠61:=by
 rcases h with rfl|⟨b,rfl⟩|⟨n,rfl,hn⟩|⟨s,rfl,hs⟩
 ·exact ⟨ZU (n:=jc) (by decide),110,_,rfl,by decide⟩
 ·cases b
  ·exact ⟨ZU (n:=fY) (by decide),102,_,rfl,by decide⟩
  ·exact ⟨ZU (n:=gX) (by decide),116,_,rfl,by decide⟩
 ·have e:uF (.mk 2 false n [] [] [])=rL n:=by
   have hv:fk (.mk 2 false n [] [] [])=0:=by
    have a1:¬ (n:Int)< -9007199254740992:=by omega
    have a2:¬ 9007199254740992< (n:Int):=by omega
    simp [fk,dI,dI.gx,gY,gM,aX.kind,aX.bool,aX.int,aX.str,aX.list,aX.keys,a1,a2]
   have h2:ZA (.mk 2 false n [] [] [])=xY n:=by rw [CO];rfl
   rw [uF,if_neg (by simp [hv]),h2,xY,if_neg (by omega),Int.natAbs_natCast]
  obtain ⟨_,i2,i3,_,_⟩:=decN_all n n (aan _)
  rw [e]
  refine ⟨lx_num hn,?_⟩
  generalize rL n=d at*
  cases d with
  |nil=>exact absurd rfl i3
  |cons c r=>
   simp only [List.all_cons,aap,isDigit,aal] at i2
   exact ⟨c,r,rfl,fun e=>by rw [e] at i2;exact absurd i2.1.2 (by decide)⟩
 ·have e:uF (.mk 3 false 0 s [] [])=fl s:=by
   have hv:fk (.mk 3 false 0 s [] [])=0:=by
    have a1:¬ 4096<s.length:=by omega
    simp [fk,dI,dI.gx,gY,gM,aX.kind,aX.bool,aX.int,aX.str,aX.list,aX.keys,a1]
   rw [uF,if_neg (by simp [hv]),CO]
   rfl
  rw [e]
  exact ⟨(lx_str hs).mono any,34,_,rfl,by decide⟩
theorem zipM (l:List Ex) (ks:List az) (h:ks.length=l.length):∃ z:List (az×List Tk),z.map (·.1)=src.nT l ks∧z.map (·.2)=LG.aab l ks∧∀ x∈z,∃ k e,k∈ks∧e∈l∧x=(fl k++[58,32]++src e,tS k::tO [58]::LG e):=by
 induction l generalizing ks with
 |nil=>exact ⟨[],rfl,rfl,by simp⟩
 |cons e l ih=>
  cases ks with
  |nil=>simp at h
  |cons k ks=>
   obtain ⟨z,h1,h2,h3⟩:=ih ks (by simpa using h)
   refine ⟨(fl k++[58,32]++src e,tS k::tO [58]::LG e)::z,?_,?_,fun x hx=>?_⟩
   ·simp [src.nT,h1]
   ·simp [LG.aab,h2]
   ·rcases aaY.1 hx with rfl|hx
    ·exact ⟨k,e,by simp,by simp,rfl⟩
    ·obtain ⟨k',e',m1,m2,rfl⟩:=h3 x hx
     exact ⟨k',e',by simp [m1],by simp [m2],rfl⟩
theorem lx_args {l:List Ex} (h:∀ x∈l,Yd x):Lx (c6 [44,32] (l.map src)) (Df (l.map LG)) Zb:=by
 have:=lx_join (l.map fun e=>(src e,LG e)) (by
  intro x hx
  obtain ⟨e,he,rfl⟩:=abg.1 hx
  exact (h e he).lx)
 simpa [List.map_map,Function.comp_def] using this
theorem lx_sp {c:UInt8} (h:Lx [c] [tO [c]] fun _=>True):Lx [32,c,32] [tO [c]] fun _=>True:=by
 have:=(Lx.space.app h any).app Lx.space any
 simpa using this
theorem lexed_of:∀ e,O2 e→Yd e:=by
 intro e h
 induction h with
 |mk e hn ha ih=>
  rcases e with ⟨k,n,v,ar,ks⟩
  simp only [O1,Ex.kind,Ex.value,Ex.name,Ex.args,Ex.keys] at hn ha ih
  have nm:cc n=true→∃ c r,n=c::r∧c≠61:=by
   intro hp
   obtain ⟨h1,_⟩:=ZH hp
   cases n with
   |nil=>simp [isName] at h1
   |cons c r=>
    refine ⟨c,r,rfl,?_⟩
    rintro rfl
    simp [isName,bN] at h1
  rcases hn with ⟨rfl,hv,rfl,rfl,rfl⟩|⟨rfl,rfl,rfl,hp,rfl⟩|⟨rfl,rfl,rfl,hp,a,rfl⟩|⟨rfl,rfl,rfl,rfl,a,b,rfl⟩|⟨rfl,rfl,rfl,hp⟩|⟨rfl,rfl,rfl,hp,a,rfl⟩|⟨rfl,rfl,rfl,hp,a,b,rfl⟩|⟨rfl,rfl,rfl,rfl,a,b,c,rfl⟩|⟨rfl,rfl,rfl,rfl⟩|⟨rfl,rfl,rfl,hl,hk⟩
  ·obtain ⟨h1,h2⟩:=lit_src hv
   exact ⟨by rw [sr1,tk1];exact h1,by rw [sr1];exact h2⟩
  ·exact ⟨by rw [sr2,tk2];exact ZU (ZH hp).1,by rw [sr2];exact nm hp⟩
  ·have ia:=ih a (by simp)
   have h1:Lx [46] [tO [46]] _:=ZD (by decide)
   have:=((ZT ia (decide (force a<8))).app h1 (fun X _=>ZN (by decide))).app (ZU (ZH hp).1) any
   obtain ⟨c,r,e1,e2⟩:=par_hd ia (decide (force a<8))
   refine ⟨?_,?_⟩
   ·rw [sr3,tk3];simpa [src.eO,LG.nI] using this
   ·rw [sr3];simp only [src.eO,e1];exact ⟨_,_,rfl,e2⟩
  ·have ia:=ih a (by simp)
   have ib:=ih b (by simp)
   have h1:Lx [91] [tO [91]] _:=ZD (by decide)
   have h2:Lx [93] [tO [93]] _:=ZD (by decide)
   have:=(((ZT ia (decide (force a<8))).app h1 (fun X _=>ZN (by decide))).app (ZT ib (decide (force b<1))) any).app h2 (fun X _=>ZN (by decide))
   obtain ⟨c,r,e1,e2⟩:=par_hd ia (decide (force a<8))
   refine ⟨?_,?_⟩
   ·rw [sr4,tk4];refine Lx.mono ?_ any;simpa [src.eO,LG.nI] using this
   ·rw [sr4];simp only [src.eO,e1];exact ⟨_,_,rfl,e2⟩
  ·have h1:Lx [40] [tO [40]] _:=ZD (by decide)
   have h2:Lx [41] [tO [41]] _:=ZD (by decide)
   have:=(((ZU (ZH hp).1).app h1 (fun X _=>ZN (by decide))).app (lx_args ih) any).app h2 (fun X _=>ZN (by decide))
   obtain ⟨c,r,e1,e2⟩:=nm hp
   refine ⟨?_,?_⟩
   ·rw [sr5,tk5];refine Lx.mono ?_ any;simpa using this
   ·rw [sr5,e1];exact ⟨_,_,rfl,e2⟩
  ·have ia:=ih a (by simp)
   obtain ⟨c,r,e1,e2⟩:=par_hd ia (decide (force a<7))
   rw [show Ex.mk 6 n ct [a] []=Ex.mk 6 n ct [a] [] from rfl]
   rcases hp with rfl|rfl
   ·have:=lx_not.app (ZT ia (decide (force a<7))) (fun X _=>by rw [e1];rintro r' ⟨⟩;exact e2 rfl)
    exact ⟨by rw [sr6,tk6];simpa [src.eO,LG.nI] using this,by rw [sr6];exact ⟨_,_,rfl,by decide⟩⟩
   ·have h1:Lx [45] [tO [45]] _:=ZD (by decide)
    have:=h1.app (ZT ia (decide (force a<7))) any
    exact ⟨by rw [sr6,tk6];simpa [src.eO,LG.nI] using this,by rw [sr6];exact ⟨_,_,rfl,by decide⟩⟩
  ·have ia:=ih a (by simp)
   have ib:=ih b (by simp)
   have:=((((ZT ia (decide (force a<if bB n=4 then 5 else bB n))).app Lx.space (fun X _=>ZN (by decide))).app (lx_bin hp) any).app Lx.space (fun X _=>⟨X,rfl⟩)).app (ZT ib (decide (force b<bB n+1))) any
   obtain ⟨c,r,e1,e2⟩:=par_hd ia (decide (force a<if bB n=4 then 5 else bB n))
   refine ⟨?_,?_⟩
   ·rw [sr7,tk7];simpa [src.eO,LG.nI] using this
   ·rw [sr7];simp only [src.eO,e1];exact ⟨_,_,rfl,e2⟩
  ·have ia:=ih a (by simp)
   have ib:=ih b (by simp)
   have ic:=ih c (by simp)
   have h1:Lx [63] [tO [63]] _:=ZD (by decide)
   have h2:Lx [58] [tO [58]] _:=ZD (by decide)
   have:=((((ZT ia (decide (force a<2))).app (lx_sp h1) (fun X _=>ZN (by decide))).app (ZT ib (decide (force b<1))) any).app (lx_sp h2) (fun X _=>ZN (by decide))).app (ZT ic (decide (force c<1))) any
   obtain ⟨d,r,e1,e2⟩:=par_hd ia (decide (force a<2))
   refine ⟨?_,?_⟩
   ·rw [sr8,tk8];simpa [src.eO,LG.nI] using this
   ·rw [sr8];simp only [src.eO,e1];exact ⟨_,_,rfl,e2⟩
  ·have h1:Lx [91] [tO [91]] _:=ZD (by decide)
   have h2:Lx [93] [tO [93]] _:=ZD (by decide)
   have:=(h1.app (lx_args ih) any).app h2 (fun X _=>ZN (by decide))
   refine ⟨?_,?_⟩
   ·rw [sr9,tk9];refine Lx.mono ?_ any;simpa using this
   ·rw [sr9];exact ⟨_,_,rfl,by decide⟩
  ·have h1:Lx [123] [tO [123]] _:=ZD (by decide)
   have h2:Lx [125] [tO [125]] _:=ZD (by decide)
   have h3:Lx [58] [tO [58]] _:=ZD (by decide)
   obtain ⟨z,z1,z2,z3⟩:=zipM ar ks hl
   have hz:=lx_join z (by
    intro x hx
    obtain ⟨k,e,m1,m2,rfl⟩:=z3 x hx
    have hk4:k.length≤4096:=by have:=hk k m1;simp only [fP,aal] at this;omega
    have:=((lx_str hk4).app (h3.app Lx.space any) any).app (ih e m2).lx any
    simpa [aau] using this)
   rw [z1,z2] at hz
   have:=(h1.app hz any).app h2 (fun X _=>ZN (by decide))
   refine ⟨?_,?_⟩
   ·rw [sr10,tk10];refine Lx.mono ?_ any;simpa using this
   ·rw [sr10];exact ⟨_,_,rfl,by decide⟩
end Go.Proofs.YthnoiikjfcnlhaaGreatDoor
