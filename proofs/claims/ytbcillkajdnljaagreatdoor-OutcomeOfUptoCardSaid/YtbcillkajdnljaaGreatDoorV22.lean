import Derived.Test.YtbcillkajdnljaaGreatDoorV21
import Derived.Deep.Upon
set_option linter.all false
section
namespace Go.En
open Go.RowKit
open Go.Abs (addr_add aK ef F4 gl dx lP zeroOf kU jY F5 DJ kz nA CG CI Qc)
def old_at (w:World) (o:Obj) {i:Nat} (h:i<w.heap.size):(w.alloc o).heap[i]?=w.heap[i]?:=by first|exact heap_alloc_old w o h|exact heap_alloc_old w o _ h
abbrev C:=Nat→Option (Nat×Nat×Nat)
inductive Rel (c:C):Value→V→Prop where
 |aU (v:Value):Rel c v .aU
 |bool (b:Bool):Rel c (.bool b) (.bool b)
 |int (k:IntKind) (n:Int):Rel c (.int k n) (.int k n)
 |str (s:ByteArray) (l:List UInt8):s.data.toList=l→Rel c (.string s) (.str l)
 |eX:Rel c (.pointer none) .eX
 |Am:Rel c .nilFunc .Am
 |fD:Rel c .nilIface .fD
 |An:Rel c (.map none) .An
 |bh:Rel c (.slice none 0 0) .bh
 |ptr (b k o z off:Nat):c b=some (k,o,z)→Rel c (.pointer (some ⟨k,o+off,none⟩)) (.ptr b off)
 |sl (a:Addr) (b off n es cap:Nat) (co:Option Nat):n≤cap→cap≤maxLen→(∀ x,co=some x→cap=x)→
   (cap≠0→∃ k o z,c b=some (k,o,z)∧a=⟨k,o+off,none⟩∧o+off+cap*es≤z)→Rel c (.slice (some a) n cap) (.sl b off n es co)
 |mp (b k z:Nat):c b=some (k,0,z)→Rel c (.map (some k)) (.mp b)
 |iface (t:TypeId) (v:Value) (x:V):Rel c v x→Rel c (.iface t v) (.iface t x)
 |jE (f:FuncId) (arr:Array Value) (cap:List V):arr.size=cap.length→(∀ i,i<cap.length→Rel c (arr.getD i undef) (cap.getD i .aU))→Rel c (.func (.func f) #[] arr) (.jE f cap)
 |agg (arr:Array Value) (cs:List V):arr.size=cs.length→(∀ i,i<cs.length→Rel c (arr.getD i undef) (cs.getD i .aU))→Rel c (.agg arr) (.agg cs)
 |cF (arr:Array Value) (vs:List V):arr.size=vs.length→(∀ i,i<vs.length→Rel c (arr.getD i undef) (vs.getD i .aU))→Rel c (.tuple arr) (.cF vs)
def aag (c:C) (arr:Array Value) (cs:List V):Prop:=arr.size=cs.length∧∀ i,i<cs.length→Rel c (arr.getD i undef) (cs.getD i .aU)
def RelM (c:C):List MapEntry→List (V×V)→Prop
 |[],[]=>True
 |e::es,p::l=>Rel c e.key p.1∧Rel c e.val p.2∧RelM c es l
 |_,_=>False
theorem RelM.length {c:C}:∀ {es:List MapEntry} {l:List (V×V)},RelM c es l→es.length=l.length
 |[],[],_=>rfl
 |_::_,_::_,h=>by simp [RelM.length h.2.2]
 |[],_::_,h=>h.elim
 |_::_,[],h=>h.elim
inductive BRel (c:C):Obj→Nat→Nat→B→Prop where
 |cells (arr:Array Value) (e:TypeId) (q:Bool) (o z:Nat) (row:List V):(q=true→o=0)→arr.size=z→o+row.length≤z→(∀ i,i<row.length→Rel c (arr.getD (o+i) undef) (row.getD i .aU))→BRel c (.cells arr e (0,0)) o z (.cells e q row)
 |ro (arr:Array Value) (e:TypeId) (mk:Nat×Nat) (o z:Nat) (row:List V):arr.size=z→o+row.length≤z→(∀ i,i<row.length→Rel c (arr.getD (o+i) undef) (row.getD i .aU))→BRel c (.cells arr e mk) o z (.ro row)
 |iter (s:ByteArray) (l:List UInt8) (pos z:Nat):s.data.toList=l→BRel c (.stringIter s pos) 0 z (.iter l pos)
 |map (es:Array MapEntry) (clock z:Nat) (l:List (V×V)):RelM c es.toList l→BRel c (.map es clock) 0 z (.map l)
structure bf (c:C) (w:World) (s:S):Prop where
 lt:∀ b k o z,c b=some (k,o,z)→b<s.nx∧k<w.heap.size
 inj:∀ b b' k o o' z z',c b=some (k,o,z)→c b'=some (k,o',z')→s.h.get b≠none→s.h.get b'≠none→b=b'
 blk:∀ b k o z x,c b=some (k,o,z)→s.h.get b=some x→∃ obj,w.heap[k]?=some obj∧BRel c obj o z x
def Ext (c c':C):Prop:=∀ b x,c b=some x→c' b=some x
def Ext.refl (c:C):Ext c c:=fun _ _ h=>h
def Ext.trans {a b c:C} (h:Ext a b) (k:Ext b c):Ext a c:=fun x y hx=>k x y (h x y hx)
structure Keeps (c:C) (s:S) (w w':World):Prop where
 os:w'.os=w.os
 tape:w'.tape=w.tape
 output:w'.output=w.output
 size:w.heap.size≤w'.heap.size
 block:∀ k,k<w.heap.size→(∀ b o z,c b=some (k,o,z)→s.h.get b=none)→w'.heap[k]?=w.heap[k]?
def Keeps.refl (c:C) (s:S) (w:World):Keeps c s w w:=⟨rfl,rfl,rfl,aat _,fun _ _ _=>rfl⟩
def Rel.mono {c c':C} (h:Ext c c') {v:Value} {x:V} (r:Rel c v x):Rel c' v x:=by
 induction r with
 |aU v=>exact .aU v
 |bool b=>exact .bool b
 |int k n=>exact .int k n
 |str s l e=>exact .str s l e
 |eX=>exact .eX
 |Am=>exact .Am
 |fD=>exact .fD
 |An=>exact .An
 |bh=>exact .bh
 |ptr b k o z off hb=>exact .ptr b k o z off (h _ _ hb)
 |sl a b off n es cap co h1 h2 h3 h4=>exact .sl a b off n es cap co h1 h2 h3 fun h0=>let ⟨k,o,z,e1,e2,e3⟩:=h4 h0;⟨k,o,z,h _ _ e1,e2,e3⟩
 |mp b k z hb=>exact .mp b k z (h _ _ hb)
 |iface t v x _ ih=>exact .iface t v x ih
 |jE f arr cap hs _ ih=>exact .jE f arr cap hs ih
 |agg arr cs hs _ ih=>exact .agg arr cs hs ih
 |cF arr vs hs _ ih=>exact .cF arr vs hs ih
def aag.mono {c c':C} (h:Ext c c') {arr:Array Value} {cs:List V} (r:aag c arr cs):aag c' arr cs:=⟨r.1,fun i hi=>(r.2 i hi).mono h⟩
theorem RelM.mono {c c':C} (h:Ext c c'):∀ {es:List MapEntry} {l:List (V×V)},RelM c es l→RelM c' es l
 |[],[],_=>trivial
 |_::_,_::_,r=>⟨r.1.mono h,r.2.1.mono h,RelM.mono h r.2.2⟩
 |[],_::_,r=>r.elim
 |_::_,[],r=>r.elim
def BRel.mono {c c':C} (h:Ext c c') {obj:Obj} {o z:Nat} {x:B} (r:BRel c obj o z x):BRel c' obj o z x:=by
 cases r with
 |cells arr e q o z row h0 h1 h2 h3=>exact .cells arr e q o z row h0 h1 h2 fun i hi=>(h3 i hi).mono h
 |ro arr e mk o z row h1 h2 h3=>exact .ro arr e mk o z row h1 h2 fun i hi=>(h3 i hi).mono h
 |iter s l pos z e=>exact .iter s l pos z e
 |map es clock z l h1=>exact .map es clock z l (h1.mono h)
namespace Tr
variable {α:Type}
def get_val (t:Tr α):t.get 0=t.val:=by cases t<;>rfl
def get_even (t:Tr α) (m:Nat) (h:m % 2=0):t.get (m+1)=t.left.get (m / 2):=by
 cases t with
 |nil=>rfl
 |node v l r=>simp only [get,h,left]
def get_odd (t:Tr α) (m q:Nat) (h:m % 2=q+1):t.get (m+1)=t.right.get (m / 2):=by
 cases t with
 |nil=>rfl
 |node v l r=>simp only [get,h,right]
theorem get_setF (x:Option α):∀ (f:Nat) (t:Tr α) (n k:Nat),n≤f→(setF x f t n).get k=if k=n then x else t.get k
 |0,t,n,k,h=>by
  have:n=0:=by omega
  subst this;cases k with
  |zero=>simp [setF,get]
  |succ m=>
   simp only [setF]
   rcases Nat.mod_two_eq_zero_or_one m with h2|h2
   ·rw [get_even _ _ h2,get_even _ _ h2];simp [left]
   ·rw [get_odd _ _ 0 h2,get_odd _ _ 0 h2];simp [right]
 |f+1,t,0,k,h=>by
  cases k with
  |zero=>simp [setF,get]
  |succ m=>
   simp only [setF]
   rcases Nat.mod_two_eq_zero_or_one m with h2|h2
   ·rw [get_even _ _ h2,get_even _ _ h2];simp [left]
   ·rw [get_odd _ _ 0 h2,get_odd _ _ 0 h2];simp [right]
 |f+1,t,n+1,k,h=>by
  have hle:n / 2≤f:=by omega
  rcases Nat.mod_two_eq_zero_or_one n with hn|hn
  ·have e:setF x (f+1) t (n+1)= .node t.val (setF x f t.left (n / 2)) t.right:=by simp only [setF,hn]
   rw [e];cases k with
   |zero=>simp [get,get_val]
   |succ m=>
    rcases Nat.mod_two_eq_zero_or_one m with h2|h2
    ·rw [get_even _ _ h2,get_even _ _ h2]
     simp only [left]
     rw [get_setF x f _ _ _ hle]
     have:(m / 2=n / 2)↔(m+1=n+1):=by omega
     simp only [this]
    ·rw [get_odd _ _ 0 h2,get_odd _ _ 0 h2]
     rw [if_neg (show ¬ (m+1=n+1) by omega)]
     rfl
  ·have e:setF x (f+1) t (n+1)= .node t.val t.left (setF x f t.right (n / 2)):=by simp only [setF,hn]
   rw [e];cases k with
   |zero=>simp [get,get_val]
   |succ m=>
    rcases Nat.mod_two_eq_zero_or_one m with h2|h2
    ·rw [get_even _ _ h2,get_even _ _ h2]
     rw [if_neg (show ¬ (m+1=n+1) by omega)]
     rfl
    ·rw [get_odd _ _ 0 h2,get_odd _ _ 0 h2]
     simp only [right]
     rw [get_setF x f _ _ _ hle]
     have:(m / 2=n / 2)↔(m+1=n+1):=by omega
     simp only [this]
theorem setF_setF (x y:Option α):∀ (f:Nat) (t:Tr α) (n:Nat),setF x f (setF y f t n) n=setF x f t n
 |0,_,_=>rfl
 |_+1,_,0=>rfl
 |f+1,t,m+1=>by
  cases h:m % 2<;>simp only [setF,h,left,right,val,setF_setF x y f]
def set_set (t:Tr α) (n:Nat) (x y:Option α):(t.set n y).set n x=t.set n x:=setF_setF x y n t n
def get_set (t:Tr α) (n k:Nat) (x:Option α):(t.set n x).get k=if k=n then x else t.get k:=get_setF x n t n k (aat _)
end Tr
section
variable {c:C} {w:World} {s:S}
def aae (b k:Nat) (x:B):(s.put b x).h.get k=if k=b then some x else s.h.get k:=Tr.get_set _ _ _ _
def get_kill (b k:Nat):(s.kill b).h.get k=if k=b then none else s.h.get k:=Tr.get_set _ _ _ _
def cC (c:C) (tmps:Array Value) (fr:Fr):Prop:=∀ t x,fr.get t=some x→Rel c (tmps.getD t undef) x
def cC.mono {c c':C} (h:Ext c c') {tmps:Array Value} {fr:Fr} (r:cC c tmps fr):cC c' tmps fr:=fun t x hx=>(r t x hx).mono h
def cC.at {tmps:Array Value} {fr:Fr} (r:cC c tmps fr) (t:Nat):Rel c (tmps.getD t undef) ((fr.get t).getD .aU):=by
 cases h:fr.get t with
 |none=>exact .aU _
 |some x=>exact r t x h
def cC.put {tmps:Array Value} {fr:Fr} (r:cC c tmps fr) {i:Nat} (hi:i<tmps.size) {v:Value} {x:V} (h:Rel c v x):
  cC c (tmps.setIfInBounds i v) (fr.set i (some x)):=by
 intro t y ht
 rw [Tr.get_set] at ht
 split at ht
 ·rename_i e
  subst e
  simp only [aal] at ht
  subst ht
  simp [Array.getD,hi,h]
 ·rename_i e
  have:=r t y ht
  simpa [aap,abu (Ne.symm e)] using this
def tK (v:Value):Rel c v (tJ v):=by
 unfold tJ;split
 ·exact .bool _
 ·exact .int _ _
 ·exact .str _ _ rfl
 ·exact .eX
 ·exact .bh
 ·exact .Am
 ·exact .fD
 ·exact .An
 ·exact .aU _
def ko (arr:Array Value):aag c arr (arr.toList.map tJ):=by
 refine ⟨by simp,fun i hi=>?_⟩;have hi':i<arr.size:=by simpa using hi
 rw [show (arr.toList.map tJ).getD i .aU=tJ arr[i] by simp [aam,hi'],show arr.getD i undef=arr[i] by simp [aap,hi']];exact tK _
def mO (v:Value):Rel c v (ofConst v):=by
 unfold ofConst;split
 ·rename_i cs;have:=ko (c:=c) cs;exact .agg _ _ this.1 this.2
 ·exact tK _
def bJ {a:Act} {fr:Fr} (h:cC c a.tmps fr) (x:Operand):Rel c (a.eval x) (ev fr x):=by
 cases x with
 |tmp t=>exact h.at t
 |const v=>exact mO v
 |global g=>exact .aU _
 |func f=>exact .jE f #[] [] rfl (fun i hi=>by simp at hi)
def Rel.cells {v:Value} {x:V} {l:List V} (r:Rel c v x) (h:x.cells=some l):aag c v.cells l:=by
 have one:∀ (v:Value) (y:V),Rel c v y→v.cells= #[v]→l=[y]→aag c v.cells l:=by
  intro v y r hv hl;subst hl;rw [hv];refine ⟨rfl,fun i hi=>?_⟩;have:i=0:=by simpa using hi
  subst this;simpa using r
 cases r with
 |aU v=>simp [V.cells] at h
 |agg arr cs hs hr=>simp only [V.cells,aal] at h;subst h;exact ⟨hs,hr⟩
 |cF arr vs hs hr=>simp [V.cells] at h
 |bool b=>exact one _ _ (.bool b) rfl (by simpa [V.cells] using h.symm)
 |int k n=>exact one _ _ (.int k n) rfl (by simpa [V.cells] using h.symm)
 |str s l' e=>exact one _ _ (.str s l' e) rfl (by simpa [V.cells] using h.symm)
 |eX=>exact one _ _ .eX rfl (by simpa [V.cells] using h.symm)
 |Am=>exact one _ _ .Am rfl (by simpa [V.cells] using h.symm)
 |fD=>exact one _ _ .fD rfl (by simpa [V.cells] using h.symm)
 |An=>exact one _ _ .An rfl (by simpa [V.cells] using h.symm)
 |bh=>exact one _ _ .bh rfl (by simpa [V.cells] using h.symm)
 |ptr b k o z off hb=>exact one _ _ (.ptr b k o z off hb) rfl (by simpa [V.cells] using h.symm)
 |sl a b off n es cap co h1 h2 h3 h4=>exact one _ _ (.sl a b off n es cap co h1 h2 h3 h4) rfl (by simpa [V.cells] using h.symm)
 |mp b k z hb=>exact one _ _ (.mp b k z hb) rfl (by simpa [V.cells] using h.symm)
 |iface t v x r=>exact one _ _ (.iface t v x r) rfl (by simpa [V.cells] using h.symm)
 |jE f arr cap hs hr=>exact one _ _ (.jE f arr cap hs hr) rfl (by simpa [V.cells] using h.symm)
def Rel.one {v:Value} {x:V} (r:Rel c v x) (h:x.one=true):v.oneCell'=true:=by
 cases r<;>first|rfl|(simp [V.one] at h)
def row_get {b:Nat} {row:List V} (h:s.row b=some row):(∃ e q,s.h.get b=some (.cells e q row))∨s.h.get b=some (.ro row):=by
 unfold S.row at h;split at h
 ·rename_i e q r hr;simp only [aal] at h;subst h;exact .inl ⟨e,q,hr⟩
 ·rename_i r hr;simp only [aal] at h;subst h;exact .inr hr
 ·simp at h
def get_row {b:Nat} {e:TypeId} {q:Bool} {row:List V} (h:s.h.get b=some (.cells e q row)):s.row b=some row:=by simp [S.row,h]
def bf.rowGet (hc:bf c w s) {b k o z:Nat} {e:TypeId} {q:Bool} {row:List V} (hk:c b=some (k,o,z)) (hB:s.h.get b=some (.cells e q row)):
  ∃ arr,w.heap[k]?=some (.cells arr e (0,0))∧(q=true→o=0)∧arr.size=z∧o+row.length≤z∧∀ i,i<row.length→Rel c (arr.getD (o+i) undef) (row.getD i .aU):=by
 obtain ⟨obj,ho,hb⟩:=hc.blk b k o z _ hk hB
 cases hb with
 |cells arr e _ _ _ _ h0 h1 h2 h3=>exact ⟨arr,ho,h0,h1,h2,h3⟩
def bf.rowAt (hc:bf c w s) {b k o z:Nat} {row:List V} (hk:c b=some (k,o,z)) (hB:s.row b=some row):
  ∃ arr e mk,w.heap[k]?=some (.cells arr e mk)∧arr.size=z∧o+row.length≤z∧∀ i,i<row.length→Rel c (arr.getD (o+i) undef) (row.getD i .aU):=by
 rcases row_get hB with ⟨e,q,h⟩|h
 ·obtain ⟨arr,h1,_,h2,h3,h4⟩:=hc.rowGet hk h
  exact ⟨arr,e,_,h1,h2,h3,h4⟩
 ·obtain ⟨obj,ho,hb⟩:=hc.blk b k o z _ hk h
  cases hb with
  |ro arr e mk _ _ _ h1 h2 h3=>exact ⟨arr,e,mk,ho,h1,h2,h3⟩
def C.push (c:C) (id k z:Nat):C:=fun b=>if b=id then some (k,0,z) else c b
def C.push_ext {id k z:Nat} (h:c id=none):Ext c (c.push id k z):=by
 intro b x hb;unfold C.push;split
 ·rename_i e;subst e;rw [h] at hb;cases hb
 ·exact hb
def C.push_self {id k z:Nat}:c.push id k z id=some (k,0,z):=by simp [C.push]
def bf.drew (hc:bf c w s):bf c w.drew s:=⟨hc.lt,hc.inj,hc.blk⟩
def Keeps.drew:Keeps c s w w.drew:=⟨rfl,rfl,rfl,aat _,fun _ _ _=>rfl⟩
def bf.alloc (hc:bf c w s) {id:Nat} (hid:c id=none) (hlt:id<s.nx) {obj:Obj} {z:Nat} {x:B} (hb:BRel c obj 0 z x):
  bf (c.push id w.heap.size z) (w.alloc obj) (s.put id x):=by
 have hext:=C.push_ext (c:=c) (k:=w.heap.size) (z:=z) hid
 refine ⟨fun b k o z' h=>?_,fun b b' k o o' z1 z2 h1 h2 l1 l2=>?_,fun b k o z' y h hy=>?_⟩
 ·unfold C.push at h
  split at h
  ·simp only [aal,aaq] at h
   rename_i hbid
   obtain ⟨rfl,_,_⟩:=h
   exact ⟨by rw [hbid];exact hlt,by simp⟩
  ·have:=hc.lt b k o z' h
   exact ⟨this.1,by simp;omega⟩
 ·rw [aae] at l1 l2
  unfold C.push at h1 h2
  split at h1<;>split at h2
  ·omega
  ·simp only [aal,aaq] at h1
   have:=hc.lt _ _ _ _ h2
   omega
  ·simp only [aal,aaq] at h2
   have:=hc.lt _ _ _ _ h1
   omega
  ·rename_i n1 n2
   rw [if_neg n1] at l1
   rw [if_neg n2] at l2
   exact hc.inj b b' k o o' z1 z2 h1 h2 l1 l2
 ·rw [aae] at hy
  unfold C.push at h
  split at h
  ·rename_i e
   rw [if_pos e] at hy
   simp only [aal,aaq] at h hy
   obtain ⟨rfl,rfl,rfl⟩:=h
   subst hy
   exact ⟨obj,heap_alloc_new w obj,hb.mono hext⟩
  ·rename_i e
   rw [if_neg e] at hy
   obtain ⟨obj',h1,h2⟩:=hc.blk b k o z' y h hy
   exact ⟨obj',by rw [old_at w obj (hc.lt _ _ _ _ h).2];exact h1,h2.mono hext⟩
def Keeps.alloc (obj:Obj):Keeps c s w (w.alloc obj):=⟨rfl,rfl,rfl,by simp,fun k hk _=>old_at w obj hk⟩
def bf.write (hc:bf c w s) {b k o z:Nat} {x:B} (hk:c b=some (k,o,z)) (hl:s.h.get b≠none) {w':World} {obj:Obj} (hobj:w'.heap[k]?=some obj) (hr:BRel c obj o z x)
  (hsz:w'.heap.size=w.heap.size) (hother:∀ k',k'≠k→w'.heap[k']?=w.heap[k']?):bf c w' (s.put b x):=by
 refine ⟨fun b k o z' h=>by rw [hsz];exact hc.lt b k o z' h,fun b1 b2 k1 o1 o2 z1 z2 h1 h2 l1 l2=>?_,fun b1 k1 o1 z1 y h hy=>?_⟩
 ·refine hc.inj b1 b2 k1 o1 o2 z1 z2 h1 h2 ?_ ?_
  ·rw [aae] at l1
   split at l1
   ·rename_i e;rw [e];exact hl
   ·exact l1
  ·rw [aae] at l2
   split at l2
   ·rename_i e;rw [e];exact hl
   ·exact l2
 ·rw [aae] at hy
  split at hy
  ·rename_i e
   subst e
   simp only [aal] at hy
   subst hy
   rw [hk] at h
   simp only [aal,aaq] at h
   obtain ⟨rfl,rfl,rfl⟩:=h
   exact ⟨obj,hobj,hr⟩
  ·rename_i e
   obtain ⟨obj',h1,h2⟩:=hc.blk b1 k1 o1 z1 y h hy
   refine ⟨obj',?_,h2⟩
   rw [hother k1 ?_]
   ·exact h1
   ·intro e2
    subst e2
    exact e (hc.inj b1 b k1 o1 o z1 z h hk (by rw [hy];simp) hl)
def Keeps.write {b k o z:Nat} (hk:c b=some (k,o,z)) (hl:s.h.get b≠none) {w':World} (hos:w'.os=w.os) (ht:w'.tape=w.tape) (hout:w'.output=w.output)
  (hsz:w'.heap.size=w.heap.size) (hother:∀ k',k'≠k→w'.heap[k']?=w.heap[k']?):Keeps c s w w':=by
 refine ⟨hos,ht,hout,by omega,fun k' hk' h=>hother k' ?_⟩
 rintro rfl
 exact hl (h b o z hk)
def bf.killB (hc:bf c w s) (b:Nat):bf c w (s.kill b):=by
 refine ⟨hc.lt,fun b1 b2 k1 o1 o2 z1 z2 h1 h2 l1 l2=>?_,fun b1 k1 o1 z1 y h hy=>?_⟩
 ·rw [get_kill] at l1 l2;split at l1
  ·simp at l1
  ·split at l2
   ·simp at l2
   ·exact hc.inj b1 b2 k1 o1 o2 z1 z2 h1 h2 l1 l2
 ·rw [get_kill] at hy;split at hy
  ·simp at hy
  ·exact hc.blk b1 k1 o1 z1 y h hy
structure Step (D:Nat→Prop) (c:C) (s:S) (w:World) (c':C) (s':S) (w':World):Prop where
 ext:Ext c c'
 DS:bf c' w' s'
 keeps:Keeps c s w w'
 dom:∀ b,c b=none→c' b≠none→D b
 fresh:∀ b k o z,c' b=some (k,o,z)→c b=none→w.heap.size≤k∨∃ b' o' z',c b'=some (k,o',z')∧s.h.get b'≠none
 live:∀ b,c b≠none→s'.h.get b≠none→s.h.get b≠none
 nx:s.nx≤s'.nx
def Step.refl {D:Nat→Prop} (hc:bf c w s):Step D c s w c s w:=
 ⟨Ext.refl c,hc,.refl c s w,fun b h h'=>absurd h h',fun b k o z h h'=>(by rw [h] at h';cases h'),fun _ _ h=>h,aat _⟩
def Step.mono {D D':Nat→Prop} {c':C} {s':S} {w':World} (h:Step D c s w c' s' w') (hd:∀ b,D b→D' b):Step D' c s w c' s' w':=
 ⟨h.ext,h.DS,h.keeps,fun b h1 h2=>hd b (h.dom b h1 h2),h.fresh,h.live,h.nx⟩
def Step.trans {D:Nat→Prop} {c' c'':C} {s' s'':S} {w' w'':World} (h:Step D c s w c' s' w') (k:Step D c' s' w' c'' s'' w''):Step D c s w c'' s'' w'':=by
 have some_of:∀ {b:Nat} {x},c' b=some x→c b≠none→c b=some x:=by
  intro b x h1 h2;cases hb:c b with
  |none=>exact absurd hb h2
  |some y=>rw [h.ext b y hb] at h1;rw [←h1]
 refine ⟨h.ext.trans k.ext,k.DS,?_,fun b h1 h2=>?_,fun b j o z h1 h2=>?_,fun b h1 h2=>?_,abj h.nx k.nx⟩
 ·refine ⟨k.keeps.os.trans h.keeps.os,k.keeps.tape.trans h.keeps.tape,k.keeps.output.trans h.keeps.output,abj h.keeps.size k.keeps.size,fun j hj hb=>?_⟩;rw [k.keeps.block j (Nat.lt_of_lt_of_le hj h.keeps.size) fun b o z hcb=>?_]
  ·exact h.keeps.block j hj hb
  ·by_cases hcb':c b=none
   ·exfalso;rcases h.fresh b j o z hcb hcb' with h1|⟨b',o',z',h1,h3⟩
    ·omega
    ·exact h3 (hb b' o' z' h1)
   ·have h1:=hb b o z (some_of hcb hcb');by_cases hq:s'.h.get b=none
    ·exact hq
    ·exact absurd h1 (h.live b hcb' hq)
 ·by_cases hb:c' b=none
  ·exact k.dom b hb h2
  ·exact h.dom b h1 hb
 ·by_cases hb:c' b=none
  ·rcases k.fresh b j o z h1 hb with h3|⟨b',o',z',h3,h5⟩
   ·exact .inl (abj h.keeps.size h3)
   ·by_cases hb':c b'=none
    ·exact h.fresh b' j o' z' h3 hb'
    ·exact .inr ⟨b',o',z',some_of h3 hb',h.live b' hb' h5⟩
  ·cases hx:c' b with
   |none=>exact absurd hx hb
   |some x=>
    rw [k.ext b x hx] at h1
    simp only [aal] at h1
    subst h1
    exact h.fresh b j o z hx h2
 ·by_cases hb:c' b=none
  ·cases hx:c b with
   |none=>exact absurd hx h1
   |some x=>rw [h.ext b x hx] at hb;cases hb
  ·exact h.live b h1 (k.live b hb h2)
def Step.alloc {D:Nat→Prop} (hc:bf c w s) {id:Nat} (hid:c id=none) (hlt:id<s.nx) (hD:D id) {obj:Obj} {z:Nat} {x:B} (hb:BRel c obj 0 z x):
  Step D c s w (c.push id w.heap.size z) (s.put id x) (w.alloc obj):=by
 refine ⟨C.push_ext hid,hc.alloc hid hlt hb,.alloc obj,fun b h1 h2=>?_,fun b k o z h1 h2=>?_,fun b h1 h2=>?_,aat _⟩
 ·unfold C.push at h2
  split at h2
  ·rename_i e;rw [e];exact hD
  ·exact absurd h1 h2
 ·unfold C.push at h1
  split at h1
  ·simp only [aal,aaq] at h1
   exact .inl (by omega)
  ·rw [h1] at h2;cases h2
 ·rw [aae] at h2
  split at h2
  ·rename_i e;rw [e] at h1;exact absurd hid h1
  ·exact h2
def Step.write {D:Nat→Prop} (hc:bf c w s) {b k o z:Nat} {x:B} (hk:c b=some (k,o,z)) (hl:s.h.get b≠none) {w':World} {obj:Obj} (hobj:w'.heap[k]?=some obj)
  (hr:BRel c obj o z x) (hos:w'.os=w.os) (ht:w'.tape=w.tape) (hout:w'.output=w.output) (hsz:w'.heap.size=w.heap.size) (hother:∀ k',k'≠k→w'.heap[k']?=w.heap[k']?):
  Step D c s w c (s.put b x) w':=
 ⟨Ext.refl c,hc.write hk hl hobj hr hsz hother,.write hk hl hos ht hout hsz hother,fun _ h h'=>absurd h h',fun _ _ _ _ h h'=>(by rw [h] at h';cases h'),
  fun b' _ h2=>(by
   rw [aae] at h2;split at h2
   ·rename_i e;rw [e];exact hl
   ·exact h2),aat _⟩
def Step.kill {D:Nat→Prop} (hc:bf c w s) (b:Nat):Step D c s w c (s.kill b) w:=
 ⟨Ext.refl c,hc.killB b,.refl c s w,fun _ h h'=>absurd h h',fun _ _ _ _ h h'=>(by rw [h] at h';cases h'),
  fun b' _ h2=>(by
   rw [get_kill] at h2;split at h2
   ·simp at h2
   ·exact h2),aat _⟩
def Step.drew {D:Nat→Prop} (hc:bf c w s):Step D c s w c s w.drew:=
 ⟨Ext.refl c,hc.drew,.drew,fun _ h h'=>absurd h h',fun _ _ _ _ h h'=>(by rw [h] at h';cases h'),fun _ _ h=>h,aat _⟩
end
end Go.En
end
section
namespace Go.En
open Go.RowKit
open Go.Abs (addr_add aK ef F4 gl dx lP zeroOf kU isStr jY F5 ud DJ mU kz nA isBytes CG k8 CI Uh Qc toList_eq jq shlI shrI Ta jM lV lW nO
 mP CJ isStruct vO rS isIface)
variable {P:Program} {c:C} {w:World} {s:S}
def EF (l:List V) (off:Nat) (x:List V):splice l off x=Go.Abs.splice l off x:=by simp [splice,Go.Abs.splice]
theorem aag.splice {arr:Array Value} {cs:List V} (h:aag c arr cs) {v:Array Value} {l:List V} (hl:aag c v l) {off:Nat} (hle:off+l.length≤cs.length)
  {arr':Array Value} (ha:arr'.toList=Go.Abs.splice arr.toList off v.toList):aag c arr' (splice cs off l):=by
 obtain ⟨hs,hr⟩:=h
 obtain ⟨hl1,hlr⟩:=hl
 have hle':off+v.toList.length≤arr.toList.length:=by simp [hs,hl1];omega
 rw [EF]
 have hsz:arr'.size=(Go.Abs.splice cs off l).length:=by
  rw [Go.Abs.cQ cs off l hle,←aaH,ha,Go.Abs.cQ _ _ _ hle'];simp [hs]
 refine ⟨hsz,fun i hi=>?_⟩
 rw [Go.Abs.cQ cs off l hle] at hi
 rw [aK,ha,Go.Abs.BL arr.toList off v.toList undef hle' i,Go.Abs.BL cs off l .aU hle i]
 simp only [aaH,hl1]
 split
 ·rw [←aK];exact hr i hi
 ·split
  ·rw [←aK];exact hlr _ (by omega)
  ·rw [←aK];exact hr i hi
def eq_sound0 (d : Nat) (t : TypeId) (k : Bool) {x y : Value} {X Y : V} (hx : Rel c x X) (hy : Rel c y Y) {q : Bool} (h : eqE P t k X Y = some q) :
    (Op.equalIn (d + 1) t x y).run P w = .ok q w ∧ (binOp .eql t x y = Value.bool <$> Op.equal t x y) ∧ (binOp .neq t x y = (fun b => Value.bool !b) <$> Op.equal t x y) ∧ (x.oneCell' = true ∧ (x = .nilIface → y = .nilIface → k = true)) := by
  unfold eqE at h
  cases hu : P.underlying t with
  | none => rw [hu] at h; simp at h
  | some d =>
    rw [hu] at h
    cases d <;> simp only [reduceCtorEq] at h
    case interface ms =>
      split at h
      · split at h <;> simp only [aal, reduceCtorEq] at h
        rename_i hk
        subst h
        cases hx
        cases hy
        exact ⟨by simp [Op.equalIn, run_underlying hu], rfl, rfl, rfl, fun _ _ => hk⟩
      all_goals first
        | (simp only [aal, reduceCtorEq] at h; done)
        | (simp only [aal] at h; subst h; cases hx; cases hy
           exact ⟨by simp [Op.equalIn, run_underlying hu], rfl, rfl, rfl, by simp⟩)
    all_goals
      split at h <;> simp only [aal, reduceCtorEq] at h
      all_goals
        subst h
        cases hx
        cases hy
        exact ⟨by simp [Op.equalIn, run_underlying hu], rfl, rfl, rfl, by simp⟩
def eq_sound (t:TypeId) (k:Bool) {x y:Value} {X Y:V} (hx:Rel c x X) (hy:Rel c y Y) {q:Bool} (h:eqE P t k X Y=some q):
  (binOp .eql t x y).run P w= .ok (.bool q) w∧(binOp .neq t x y).run P w= .ok (.bool !q) w∧(x.oneCell'=true∧(x= .nilIface→y= .nilIface→k=true)):=by
 obtain ⟨h1,h2,h3,h4⟩:=eq_sound0 (P:=P) (w:=w) 9999 t k hx hy h
 have h5:(Op.equal t x y).run P w= .ok q w:=h1
 exact ⟨by rw [h2,Sem.run_map,h5];rfl,by rw [h3,Sem.run_map,h5];rfl,h4⟩
def guard_run (op:BinOp) (t:TypeId) (xo yo:Operand) (x y:Value) (h1:x.oneCell'=true) (h2:x= .nilIface→y= .nilIface→(isC xo||isC yo)=true) (w:World):(eqGuard op t xo yo x y).run P w= .ok () w:=by
 unfold eqGuard;cases x<;>cases y<;>cases op<;>simp_all [Value.oneCell']
 all_goals cases xo<;>cases yo<;>simp_all [isC]
def uz (op:BinOp) (t:TypeId) (xo yo:Operand) {x y:Value} {X Y Z:V} (hx:Rel c x X) (hy:Rel c y Y) (h:evalBin P t op (isC xo||isC yo) X Y=some Z):
  ∃ cv,(do eqGuard op t xo yo x y;binOp op t x y:Sem Value).run P w= .ok cv w∧Rel c cv Z:=by
 unfold evalBin at h
 split at h
 ·rename_i k n k' m
  cases hx
  cases hy
  have g:∀ op,(eqGuard op t xo yo (.int k n) (.int k' m)).run P w= .ok () w:=fun op=>jq op t xo yo _ _ rfl (by simp) w
  simp only [Sem.run_bind,g,Result.andThen_ok]
  split at h
  ·split at h<;>simp only [aal,reduceCtorEq] at h;subst h;exact ⟨_,by simp [binOp,Op.shift,shlI, *],.int _ _⟩
  ·split at h<;>simp only [aal,reduceCtorEq] at h;subst h;exact ⟨_,by simp [binOp,Op.shift,shrI, *],.int _ _⟩
  ·split at h
   case isFalse=>simp at h
   rename_i hk
   subst hk
   cases op<;>simp only [evalInt,evalCmpI,boolV,reduceCtorEq] at h
   all_goals try simp only [aal] at h
   all_goals first
    |(subst h;refine ⟨_,?_,.int _ _⟩;simp [binOp,Op.intArith];done)
    |(subst h;refine ⟨_,?_,.int _ _⟩;simp [binOp,Op.intBits,Ta];done)
    |(subst h;refine ⟨_,?_,.bool _⟩;simp [binOp,Op.intCmp];done)
    |(subst h;refine ⟨_,?_,.bool _⟩;simp [binOp,Op.intCmp,bne];done)
    |(split at h<;>simp only [aal,reduceCtorEq] at h;subst h;exact ⟨_,by simp [binOp,Op.intDiv, *],.int _ _⟩)
    |(exact absurd rfl (by assumption))
 ·rename_i a b
  cases hx with|str s l hl=>?_
  cases hy with|str s' l' hl'=>?_
  subst hl
  subst hl'
  have g:∀ op,(eqGuard op t xo yo (.string s) (.string s')).run P w= .ok () w:=fun op=>jq op t xo yo _ _ rfl (by simp) w
  simp only [Sem.run_bind,g,Result.andThen_ok]
  cases op<;>simp only [evalStr,boolV,aal,reduceCtorEq] at h
  case add=>
   split at h<;>simp only [aal,reduceCtorEq] at h
   rename_i hle
   subst h
   have h':s.size+s'.size≤9223372036854775807:=by
    simp only [aaH] at hle;have e1:s.data.size=s.size:=rfl;have e2:s'.data.size=s'.size:=rfl;omega
   refine ⟨.string (s++s'),?_,.str _ _ (by simp)⟩
   have:=run_string_add_sum (P:=P) w s s' h'
   simpa [binOp] using this
  all_goals
   subst h
   refine ⟨_,?_,.bool _⟩
   simp only [binOp,Op.stringOp,toList_eq]
   first|rfl|simp
 ·split at h
  case h_2=>simp at h
  rename_i q hq
  obtain ⟨h1,h1',h2,h3⟩:=eq_sound (P:=P) (w:=w) t _ hx hy hq
  have g:=guard_run (P:=P) op t xo yo x y h2 h3 w
  simp only [Sem.run_bind,g,Result.andThen_ok]
  cases op<;>simp only [eqOp,boolV,aal,reduceCtorEq] at h<;>subst h
  ·exact ⟨_,h1,.bool _⟩
  ·exact ⟨.bool (!q),h1',.bool _⟩
def xM (op:UnOp) {x:Value} {X Z:V} (hx:Rel c x X) (h:evalUn op X=some Z):∃ cv,(Op.unary op x).run P w= .ok cv w∧Rel c cv Z:=by
 unfold evalUn at h;split at h<;>simp only [boolV,aal,reduceCtorEq] at h<;>subst h
 ·cases hx;exact ⟨_,rfl,.bool _⟩
 ·cases hx;exact ⟨_,rfl,.int _ _⟩
 ·cases hx;exact ⟨_,by simp [Op.unary,Op.intBits,Ta],.int _ _⟩
def bf.cell (hc:bf c w s) {b k o z:Nat} {row:List V} (hk:c b=some (k,o,z)) (hB:s.row b=some row):
  ∃ f:Nat→Value,∀ i,i<row.length→w.cell? ⟨k,o+i,none⟩=some (f i)∧Rel c (f i) (row.getD i .aU):=by
 obtain ⟨arr,e,mk,h1,h2,h3,h4⟩:=hc.rowAt hk hB
 refine ⟨fun i=>arr.getD (o+i) undef,fun i hi=>⟨?_,h4 i hi⟩⟩
 simp [World.cell?,h1,aap,show o+i<arr.size by omega]
def mb (hc:bf c w s) (t:TypeId) {av:Value} {A Z:V} (ha:Rel c av A) (h:bn P t A s=some Z):
  ∃ cv,(Instr.loadAt t av).run P w= .ok cv w∧Rel c cv Z:=by
 unfold bn at h
 split at h
 case h_2=>simp at h
 rename_i g sz b off hb hz
 split at h
 case h_2=>simp at h
 rename_i cs hB
 cases ha with|ptr _ k o z _ hk=>?_
 obtain ⟨f,hf⟩:=hc.cell hk hB
 unfold loadR at h
 split at h
 ·split at h<;>simp only [aal,reduceCtorEq] at h
  rename_i hle
  subst h
  refine ⟨_,(jM t _ w).trans (lV hb hz k (o+off) (fun j=>f (off+j)) (fun j hj=>by rw [abt];exact (hf _ (by omega)).1)),?_⟩
  refine .agg _ _ (by simp;omega) fun i hi=>?_
  simp only [aan,aar] at hi
  rw [nO _ _ _ (by omega),mP _ _ _ _ _ (by omega)]
  exact (hf _ (by omega)).2
 ·have hlt:off<cs.length:=(aao.1 h).1
  obtain ⟨h1,h2⟩:=hf off hlt
  refine ⟨_,(jM t _ w).trans (lW hb _ _ h1),?_⟩
  rwa [show cs.getD off .aU=Z by simp [aam,h]] at h2
def store_sound {D:Nat→Prop} (hc:bf c w s) {b k o z off:Nat} {l:List V} {s':S} (hk:c b=some (k,o,z)) {vs:Array Value} (hv:aag c vs l) (h:store b off l s=some s'):
  ∃ w',(storeCells ⟨k,o+off,none⟩ vs.toList).run P w= .ok () w'∧Step D c s w c s' w':=by
 unfold store at h
 split at h
 case h_2=>simp at h
 rename_i e q cs hB
 split at h<;>simp only [aal,reduceCtorEq] at h
 rename_i hcond
 obtain ⟨hle,hone⟩:=hcond
 subst h
 obtain ⟨arr,hh,hq,hsz,hoz,hr⟩:=hc.rowGet hk hB
 obtain ⟨hl,hvr⟩:=hv
 have hlive:s.h.get b≠none:=by rw [hB];simp
 have hst:=run_storeCells_at P k (o+off) e vs.toList 0 arr w hh (by simp [hl];omega) (by
  intro v hv;obtain ⟨i,hi,rfl⟩:=aaY.1 hv;have hi':i<l.length:=by simpa [hl] using hi
  have h1:=hvr i hi';have h2:(l.getD i .aU).one=true:=by
   rw [aam,aaw hi',aaS];exact aaE.1 hone _ (aaX _)
  have:=h1.one h2;rw [aap,aaZ (by omega),aaS] at this;simpa using this)
 simp only [abE] at hst
 refine ⟨_,hst,?_⟩
 have hfit:o+off+vs.toList.length≤arr.toList.length:=by simp [hl,hsz];omega
 have hex:(arr.toList.take (o+off)++vs.toList++arr.toList.drop (o+off+vs.toList.length))=Go.Abs.splice arr.toList (o+off) vs.toList:=rfl
 refine Step.write hc hk hlive (setRow_heap w k arr _ e (0,0) hh) (.cells _ e q o z _ hq ?_ ?_ ?_) rfl rfl rfl (by simp) (fun k' hne=>setRow_other w k k' _ hne)
 ·rw [hex]
  simp [Go.Abs.cQ arr.toList (o+off) vs.toList hfit,hsz]
 ·rw [EF,Go.Abs.cQ cs off l hle];exact hoz
 ·intro i hi
  rw [EF,Go.Abs.cQ cs off l hle] at hi
  rw [hex,aK,EF,Go.Abs.BL arr.toList (o+off) vs.toList undef hfit (o+i),Go.Abs.BL cs off l .aU hle i]
  simp only [aaH,hl]
  by_cases h1:i<off
  ·rw [if_pos (by omega),if_pos h1,←aK]
   exact hr i hi
  ·rw [if_neg (by omega),if_neg h1]
   by_cases h2:i<off+l.length
   ·rw [if_pos (by omega),if_pos h2,show o+i - (o+off)=i - off by omega,←aK]
    exact hvr _ (by omega)
   ·rw [if_neg (by omega),if_neg h2,←aK]
    exact hr i hi
def rj {D:Nat→Prop} (hc:bf c w s) (t:TypeId) {av xv:Value} {A X:V} {s':S} (ha:Rel c av A) (hx:Rel c xv X) (h:iJ P t A X s=some s'):
  ∃ w',(Instr.storeAt t av xv).run P w= .ok () w'∧Step D c s w c s' w':=by
 unfold iJ at h
 split at h
 case h_2=>simp at h
 rename_i b off sz l hz hl
 split at h
 case isFalse=>simp at h
 rename_i hlen
 cases ha with|ptr _ k o z _ hk=>?_
 have hxr:=hx.cells hl
 obtain ⟨w',h1,h2⟩:=store_sound (P:=P) (D:=D) hc hk hxr h
 refine ⟨w',?_,h2⟩
 simp only [Instr.storeAt,Instr.sureAddr,Sem.run_bind,Sem.run_pure,Result.andThen_ok,storeVar,gl hz]
 rw [if_neg (by rw [hxr.1,hlen];simp)]
 exact h1
def zeroCs_eq {t:TypeId} {cs:List V} (h:eU P t=some cs):∃ z,zeroOf P t=some z∧aag c z.cells cs:=by
 unfold eU at h;obtain ⟨z,h1,rfl⟩:=aaF.1 h;exact ⟨z,h1,ko _⟩
theorem fill_sound {place:Nat→Option (Nat×Nat)} {place':Nat→Option (Nat×Nat)} (hp:∀ i x,place i=some x→place' i=some x) {a:Act} {fr:Fr} (hf:cC c a.tmps fr):
  ∀ (parts:List (Nat×Operand)) (cs:List V) (arr:Array Value),aag c arr cs→∀ {cs':List V},fill place fr cs parts=some cs'→
   ∃ arr',Instr.fill place' arr (parts.map fun p=>(p.1,a.eval p.2))=some arr'∧aag c arr' cs'∧arr'.size=arr.size
 |[],cs,arr,hr,cs',h=>by
  simp only [fill,aal] at h;subst h;exact ⟨arr,rfl,hr,rfl⟩
 |(i,x)::rest,cs,arr,hr,cs',h=>by
  simp only [fill] at h;split at h
  case h_2=>simp at h
  rename_i off sz l hpl hl;split at h
  case isFalse=>simp at h
  rename_i hcond;obtain ⟨hlen,hle⟩:=hcond;have hv:=(bJ hf x).cells hl;have hfit:off+(a.eval x).cells.size≤arr.size:=by rw [hv.1,hr.1];exact hle
  have hstep:=vO arr (a.eval x) off hfit;obtain ⟨arr',h3,h4,h5⟩:=fill_sound hp hf rest (splice cs off l) _ (hr.splice hv hle hstep) h;refine ⟨arr',?_,h4,?_⟩
  ·simp only [aaB,Instr.fill,hp i _ hpl];rw [if_neg (by rw [hv.1,hlen,hr.1];simp;omega)];exact h3
  ·rw [h5,←aaH,hstep,Go.Abs.cQ _ _ _ (by simpa using hfit)];simp
def rm (t:TypeId) {a:Act} {fr:Fr} (hf:cC c a.tmps fr) (parts:Array (Nat×Operand)) {Z:V} (h:jF P t fr parts.toList=some Z):
  ∃ cv,(Instr.build t (parts.map fun p=>(p.1,a.eval p.2))).run P w= .ok cv w∧Rel c cv Z:=by
 unfold jF at h
 split at h
 ·rename_i hst
  split at h
  case h_2=>simp at h
  rename_i cs hz
  obtain ⟨z,hzz,hzr⟩:=zeroCs_eq (c:=c) hz
  unfold isStruct at hst
  split at hst
  case h_2=>simp at hst
  rename_i fs hu
  obtain ⟨cs',h1,rfl⟩:=aaF.1 h
  obtain ⟨arr',h2,h3,_⟩:=fill_sound (place':=fun i=>(fs.map fun f=>(f.offset,(ef P f.type).getD 0))[i]?) (fun i x hx=>by
   obtain ⟨g,h4,rfl⟩:=aaF.1 hx;obtain ⟨off,sz,b⟩:=g;obtain ⟨fs',f,hu',hff,hsz,_,hoff⟩:=CI h4;rw [hu] at hu';have:fs=fs':=by simpa using hu'
   subst this;simp [Array.getElem?_map,hff,hoff,hsz]) hf parts.toList cs z.cells hzr h1
  refine ⟨.agg arr',?_,.agg _ _ h3.1 h3.2⟩
  simp only [Instr.build,Sem.run_bind,kU hzz,Result.andThen_ok,run_underlying hu,CJ fs hst]
  rw [abL,h2]
  simp
 ·split at h
  case h_2=>simp at h
  rename_i m sz b cs har hz
  obtain ⟨z,hzz,hzr⟩:=zeroCs_eq (c:=c) hz
  obtain ⟨e,hu,hse⟩:=Qc har
  obtain ⟨cs',h1,rfl⟩:=aaF.1 h
  obtain ⟨arr',h2,h3,_⟩:=fill_sound (place':=fun i=>some (i*sz,sz)) (fun i x hx=>hx) hf parts.toList cs z.cells hzr h1
  refine ⟨.agg arr',?_,.agg _ _ h3.1 h3.2⟩
  simp only [Instr.build,Sem.run_bind,kU hzz,Result.andThen_ok,run_underlying hu,gl hse]
  rw [abL,h2]
  simp
end Go.En
end
section
namespace Go.En
open Go.RowKit
open Go.Abs (addr_add aK ef F4 gl dx lP zeroOf kU isStr jY F5 ud DJ mU kz nA isBytes CG k8 CI Uh Qc toList_eq jM lV lW nO
 mP rS isIface oo KK Qb mM Ap)
variable {P:Program} {c:C} {w:World} {s:S}
def rep_length (n:Nat) (l:List V):(rep n l).length=n*l.length:=by
 induction n with
 |zero=>simp [rep]
 |succ n ih=>simp only [rep,aax,ih,Nat.succ_mul];omega
theorem rep_getD (l:List V):∀ (n i:Nat),i<n*l.length→(rep n l).getD i .aU=l.getD (i % l.length) .aU
 |0,i,h=>by simp at h
 |n+1,i,h=>by
  simp only [rep];by_cases hi:i<l.length
  ·rw [aam,aaz hi,←aam,Nat.mod_eq_of_lt hi]
  ·rw [aam,aay (by omega),←aam,rep_getD l n _ (by rw [abd,Nat.one_mul] at h;omega)];exact congrArg (fun x=>l.getD x .aU) (Nat.mod_eq_sub_mod (by omega)).symm
def rep_rel {z:Array Value} {l:List V} (h:aag c z l) (n:Nat):aag c ((Array.range (n*l.length)).map (z[·% z.size]!)) (rep n l):=by
 refine ⟨by simp [rep_length],fun i hi=>?_⟩;rw [rep_length] at hi;rw [rep_getD l n i hi];have hpos:0<l.length:=by
  rcases Nat.eq_zero_or_pos l.length with h0|h0
  ·rw [h0] at hi;simp at hi
  ·exact h0
 have hm:=Nat.mod_lt i hpos;have:=h.2 (i % l.length) hm;rw [show ((Array.range (n*l.length)).map (z[·% z.size]!)).getD i undef=z.getD (i % l.length) undef by
  have hz:i % l.length<z.size:=by rw [h.1];exact hm
  have e:(z[i % l.length]!)=z[i % l.length]:=getElem!_pos z _ hz;simp only [aap,h.1];simp [hi,hz]]
 exact this
def sl_new {id k es cap n z:Nat} {co:Option Nat} (hn:n≤cap) (hc:cap≤maxLen) (hco:∀ x,co=some x→cap=x) (hz:cap*es≤z):Rel (c.push id k z) (.slice (some ⟨k,0,none⟩) n cap) (.sl id 0 n es co):=
 .sl _ _ _ _ _ _ _ hn hc hco fun _=>⟨k,0,z,C.push_self,rfl,by omega⟩
def mQ {D:Nat→Prop} (hc:bf c w s) {id:Nat} (hid:c id=none) (hlt:id<s.nx) (hD:D id) (t:TypeId) (n:Nat) {a:Act} {fr:Fr} (hf:cC c a.tmps fr) (parts:Array (Nat×Operand)) {Z:V} {s':S}
  (h:eW P t n fr parts.toList s id=some (Z,s')):
  ∃ cv w' c',(Instr.buildSlice t n (parts.map fun p=>(p.1,a.eval p.2))).run P w= .ok cv w'∧Rel c' cv Z∧Step D c s w c' s' w':=by
 unfold eW at h
 split at h
 case h_2=>simp at h
 rename_i e sz by_ hsl
 obtain ⟨hu,ie,hie,hsz,_⟩:=kz hsl
 split at h
 case h_2=>simp at h
 rename_i zl hzl
 obtain ⟨z,hz,hzr⟩:=zeroCs_eq (c:=c) hzl
 split at h
 case isFalse=>simp at h
 rename_i hcond
 obtain ⟨hsmall,hpos,hlen⟩:=hcond
 split at h
 case h_2=>simp at h
 rename_i row hrow
 simp only [aal,aaq] at h
 obtain ⟨rfl,rfl⟩:=h
 subst hlen
 have hr0:=rep_rel hzr n
 obtain ⟨arr',h3,h4,h5⟩:=fill_sound (place':=fun i=>some (i*zl.length,zl.length)) (fun i x hx=>hx) hf parts.toList _ _ hr0 hrow
 have hasz:arr'.size=n*zl.length:=by rw [h5];simp
 refine ⟨_,_,_,?_,sl_new (z:=arr'.size) (aat n) ?_ (fun x hx=>by simpa using hx) (by omega),Step.alloc hc hid hlt hD (obj:= .cells arr' e) (z:=arr'.size) (.cells arr' e true 0 _ row (fun _=>rfl) rfl (by rw [aaL,h4.1];exact aat _) (fun i hi=>by rw [aaL];exact h4.2 i hi))⟩
 ·have hle:¬ (n*ie.size>2^24):=by rw [hsz];omega
  simp only [Instr.buildSlice,Sem.run_bind,run_underlying hu,Result.andThen_ok,sizeOf,typeInfo,run_program,hie,Sem.run_pure,hsz]
  rw [if_neg (by rw [hsz] at hle;exact hle)]
  by_cases h0:n*zl.length=0
  ·simp only [h0,if_true] at h3 ⊢
   rw [pure_bind,abL]
   have e0:(Array.range 0).map (fun x=>(#[]:Array Value)[x % (#[]:Array Value).size]!)=(Array.range 0).map (fun x=>z.cells[x % z.cells.size]!):=by simp
   rw [e0,h3]
   simp [newRow]
  ·simp only [h0,if_false] at h3 ⊢
   simp only [Sem.run_bind,kU hz,Sem.run_pure,Result.andThen_ok]
   rw [abL,h3]
   simp [newRow]
 ·have:n*1≤n*zl.length:=Nat.mul_le_mul_left _ hpos
  simp only [maxLen]
  omega
def elems_sound (hc:bf c w s) {x:Value} {X:V} {l:List V} (hx:Rel c x X) (h:elems s X=some l):
  (X= .bh∧l=[]∧x= .slice none 0 0)∨(∃ b off n es co a cap,X= .sl b off n es co∧x= .slice (some a) n cap∧l.length=n*es∧∃ vs:List Value,vs.length=n*es∧aag c vs.toArray l∧∀ j u,vs[j]?=some u→w.cell? (a.add j)=some u):=by
 unfold elems at h
 split at h
 ·simp only [aal] at h
  subst h
  cases hx
  exact .inl ⟨rfl,rfl,rfl⟩
 ·rename_i b off n es co
  right
  cases hx with|sl a _ _ _ _ cap _ h1 h2 h3 h4=>?_
  split at h
  ·rename_i h0
   simp only [aal] at h
   subst h
   subst h0
   exact ⟨b,off,0,es,co,a,cap,rfl,rfl,by simp,[],by simp,⟨rfl,by simp⟩,by simp⟩
  ·rename_i h0
   split at h
   case h_2=>simp at h
   rename_i cs hB
   split at h<;>simp only [aal,reduceCtorEq] at h
   rename_i hle
   subst h
   obtain ⟨k,o,z,e1,e2,e3⟩:=h4 (by omega)
   obtain ⟨f,hf⟩:=hc.cell e1 hB
   refine ⟨b,off,n,es,co,a,cap,rfl,rfl,by simp;omega,(List.range (n*es)).map (fun j=>f (off+j)),by simp,⟨by simp;omega,fun i hi=>?_⟩,fun j u hu=>?_⟩
   ·simp only [aan,aar] at hi
    rw [mP _ _ _ _ _ (by omega),nO _ _ _ (by omega)]
    exact (hf _ (by omega)).2
   ·have hj:j<n*es:=by simpa using (aao.1 hu).1
    rw [aaV,List.getElem?_range hj] at hu
    simp only [aaJ,aal] at hu
    rw [e2,addr_add,abt,←hu]
    exact (hf _ (by omega)).1
 ·simp at h
def F6 (hc:bf c w s) {x:Value} {X:V} {cs:List V} {l:List UInt8} (hx:Rel c x X) (he:elems s X=some cs) (hb:bytesOf cs=some l) (hes:∀ b off n es co,X= .sl b off n es co→es=1):
  ∃ q,(Conv.bytesToString x).run P w= .ok (.string q) w∧q.data.toList=l:=by
 rcases elems_sound hc hx he with ⟨rfl,rfl,rfl⟩|⟨b,off,n,es,co,a,cap,rfl,rfl,h1,vs,h2,h3,h4⟩
 ·simp only [bytesOf,aal] at hb
  subst hb
  exact ⟨.empty,rfl,rfl⟩
 ·have h5:=hes _ _ _ _ _ rfl
  subst h5
  simp only [Nat.mul_one] at h1 h2
  have key:∀ (cs:List V) (l:List UInt8),bytesOf cs=some l→∃ ns:List Int,cs=ns.map (fun n=>V.int .u8 n)∧l=ns.map (fun n=>UInt8.ofNat n.toNat):=by
   intro cs;induction cs with
   |nil=>intro l h;simp only [bytesOf,aal] at h;exact ⟨[],rfl,h.symm⟩
   |cons r rs ih=>
    intro l h
    simp only [bytesOf] at h
    split at h<;>simp only [aal,reduceCtorEq] at h
    rename_i b l' hb hl
    obtain ⟨ns,e1,e2⟩:=ih l' hl
    unfold byteOf at hb
    split at hb<;>simp only [aal,reduceCtorEq] at hb
    rename_i n
    exact ⟨n::ns,by simp [e1],by simp [←h,←hb,e2]⟩
  obtain ⟨ns,rfl,rfl⟩:=key cs l hb
  simp only [aaC] at h1
  have hvs:vs=ns.map (Value.int .u8):=by
   apply List.ext_getElem?;intro j;by_cases hj:j<ns.length
   ·have:=h3.2 j (by simpa using hj);rw [show (ns.map (fun n=>V.int .u8 n)).getD j .aU= .int .u8 ns[j] by simp [aam,hj]] at this;have hjv:j<vs.length:=by omega
    rw [show vs.toArray.getD j undef=vs[j] by simp [aap,hjv]] at this;rw [aaw hjv,aaV,aaw hj];generalize vs[j]=q at this;cases this;rfl
   ·rw [List.getElem?_eq_none (by omega),List.getElem?_eq_none (by simp;omega)]
  subst hvs
  have hl:=run_loadCells_list (P:=P) w a (ns.map (Value.int .u8)) h4
  simp only [aaC,h1] at hl
  refine ⟨_,run_bytesToString (P:=P) w _ n cap ns hl,?_⟩
  have fold:∀ (ns:List Int) (s:ByteArray),(ns.foldl (fun r n=>r.push (UInt8.ofNat n.toNat)) s).data.toList=s.data.toList++ns.map (fun n=>UInt8.ofNat n.toNat):=by
   intro ns;induction ns with
   |nil=>intro s;simp
   |cons n ns ih=>intro s;simp only [List.foldl_cons,ih];simp [ByteArray.push]
  rw [fold]
  simp
def tM {D:Nat→Prop} (hc:bf c w s) {id:Nat} (hid:c id=none) (hlt:id<s.nx) (hD:D id) (src dst:TypeId) {x:Value} {X Z:V} {s':S} (hx:Rel c x X) (h:evalConv P src dst X s id=some (Z,s')):
  ∃ cv w' c',(convert src dst x).run P w= .ok cv w'∧Rel c' cv Z∧Step D c s w c' s' w':=by
 unfold evalConv at h
 split at h
 ·cases hx
  rename_i k n
  split at h<;>simp only [aal,aaq,reduceCtorEq] at h
  rename_i ks k' hs hd
  obtain ⟨rfl,rfl⟩:=h
  have hs':=DJ hs
  have hd':=DJ hd
  exact ⟨.int k' (k'.wrap n),w,c,by simp [convert,run_underlying hs',run_underlying hd',Conv.intToInt],.int _ _,.refl hc⟩
 ·cases hx with|str q l e=>?_
  split at h
  case isFalse=>simp at h
  rename_i hs
  have hs':=jY hs
  split at h
  ·rename_i hd
   simp only [aal,aaq] at h
   obtain ⟨rfl,rfl⟩:=h
   have hd':=jY hd
   exact ⟨.string q,w,c,by simp [convert,run_underlying hs',run_underlying hd'],.str q _ e,.refl hc⟩
  split at h
  case isFalse=>simp at h
  rename_i hd
  obtain ⟨hb,hl⟩:=hd
  simp only [aal,aaq] at h
  obtain ⟨rfl,rfl⟩:=h
  obtain ⟨et,h1,h2⟩:=CG hb
  subst e
  obtain ⟨l,e⟩:∃ l,l=q.data.toList:=⟨_,rfl⟩
  rw [←e] at hl ⊢
  have hsz:q.size=l.length:=by rw [e];simp
  have hge:=grownCap_ge w q.size 0 et
  have hcm:grownCap w q.size 0 et≤maxLen:=grownCap_le_maxLen w q.size 0 et (by omega)
  have hasz:(Lib.bytesCells w et q).size=grownCap w q.size 0 et*1:=by
   simp [Lib.bytesCells];omega
  have hcell:∀ (c':C) (i:Nat),i< (byteVs l).length→Rel c' ((Lib.bytesCells w et q).getD (0+i) undef) ((byteVs l).getD i .aU):=by
   intro c' i hi;simp only [byteVs,aaC] at hi;have e1:(q.data.map fun b=>Value.int .u8 (b.toNat:Int))=(l.map fun b=>Value.int .u8 (b.toNat:Int)).toArray:=by rw [e,←abL,Array.toArray_toList]
   have e2:(Lib.bytesCells w et q).getD (0+i) undef= .int .u8 ((l.getD i 0).toNat:Int):=by
    simp only [Lib.bytesCells,e1,aap,aaL];rw [Array.getElem?_append_left (by simpa using hi)];simp [hi,aam]
   have e3:(byteVs l).getD i .aU= .int .u8 ((l.getD i 0).toNat:Int):=by
    simp [byteVs,aam,hi]
   rw [e2,e3];exact .int _ _
  have gD:=(Step.drew (D:=D) hc).trans (Step.alloc hc.drew hid hlt hD (obj:= .cells (Lib.bytesCells w et q) et) (x:= .ro (byteVs l)) (.ro _ et (0,0) 0 (grownCap w q.size 0 et*1) _ hasz (by simp [byteVs];omega) (hcell _)))
  have hk1:(c.push id w.heap.size (grownCap w q.size 0 et*1)) id=some (w.heap.size,0,grownCap w q.size 0 et*1):=C.push_self
  have st2:=Step.write (D:=D) gD.DS hk1 (by rw [aae,if_pos rfl];simp) (w':=Lib.bytesWorld w et q) (x:= .ro (byteVs l)) (Lib.bytesWorld_at_new w et q) (.ro _ et _ 0 (grownCap w q.size 0 et*1) _ hasz (by simp [byteVs];omega) (hcell _)) rfl rfl rfl
   (by simp [Lib.bytesWorld,World.freeze]) (fun k' hne=>by
    show ((w.drew.alloc (.cells (Lib.bytesCells w et q) et)).heap.modify w.heap.size _)[k']?=_;rw [abv,if_neg (fun e=>hne e.symm)])
  have hput:(s.put id (.ro (byteVs l))).put id (.ro (byteVs l))=s.put id (.ro (byteVs l)):=by simp only [S.put,Tr.set_set]
  rw [hput] at st2
  refine ⟨_,_,_,Lib.run_convert_string_bytes (P:=P) w src dst et q hs' h1 h2,?_,gD.trans st2⟩
  rw [←hsz]
  exact sl_new (z:=grownCap w q.size 0 et*1) hge hcm (fun x hx=>by cases hx) (aat _)
 ·split at h
  case isFalse=>simp at h
  rename_i hb
  simp only [aas] at hb
  obtain ⟨e,h1,h2⟩:=CG hb.1
  have h3:=jY hb.2
  split at h
  case h_2=>simp at h
  rename_i cs hcs
  split at h
  case isFalse=>simp at h
  rename_i hes
  obtain ⟨l,hl,h4⟩:=aaF.1 h
  simp only [aaq] at h4
  obtain ⟨rfl,rfl⟩:=h4
  obtain ⟨q,hr,hq⟩:=F6 (P:=P) hc hx hcs hl (fun b off n es co hX=>by subst hX;simpa [esOne] using hes)
  refine ⟨.string q,w,c,?_,.str q l hq,.refl hc⟩
  have:∃ a n k,x= .slice a n k:=by
   rcases elems_sound hc hx hcs with ⟨_,_,rfl⟩|⟨_,_,_,_,_,_,_,_,rfl,_⟩<;>exact ⟨_,_,_,rfl⟩
  obtain ⟨a,n,k,rfl⟩:=this
  rw [run_convert_bytes_string (P:=P) w src dst e a n k h1 h2 h3]
  exact hr
def vQ {o:Option Operand} {fr:Fr} {a:Act} (hf:cC c a.tmps fr) {dflt l:Nat} (h:bound fr dflt o=some l) {y:Nat} (hy:l≤y) (code:BoundsCode):
  (match o.map a.eval with|some v=>Instr.sliceBound v y code|none=>pure dflt:Sem Nat).run P w= .ok l w:=by
 cases o with
 |none=>simp only [bound,aal] at h;subst h;simp
 |some x=>
  simp only [bound] at h
  split at h
  case h_2=>simp at h
  rename_i k n hx
  split at h<;>simp only [aal,reduceCtorEq] at h
  rename_i h0
  subst h
  have hr:=bJ hf x
  rw [hx] at hr
  simp only [aaJ]
  generalize a.eval x=q at hr ⊢
  cases hr
  exact run_sliceBound (P:=P) w k n y code h0 (by omega)
def gQ {lo hi:Option Operand} {fr:Fr} {a:Act} (hf:cC c a.tmps fr) {len cap l h:Nat} (hl:bound fr 0 lo=some l) (hh:bound fr len hi=some h) (h1:l≤h) (h2:h≤cap) (b:Bool):
  (Instr.sliceBounds b len cap (lo.map a.eval) (hi.map a.eval) none).run P w= .ok (l,h,cap) w:=by
 have e1:=vQ (P:=P) (w:=w) hf hh (y:=cap) h2 (if b then .sliceAcap else .sliceAlen)
 have e2:=vQ (P:=P) (w:=w) hf hl (y:=h) h1 .sliceB
 unfold Instr.sliceBounds
 cases lo<;>cases hi<;>simp_all
def sliceBounds3_run {lo:Option Operand} {hi mx:Operand} {fr:Fr} {a:Act} (hf:cC c a.tmps fr) {len cap l h m:Nat} (hl:bound fr 0 lo=some l) (hh:bound fr len (some hi)=some h) (hm:bound fr len (some mx)=some m) (h1:l≤h) (h2:h≤m) (h3:m≤cap) (b:Bool):
  (Instr.sliceBounds b len cap (lo.map a.eval) (some (a.eval hi)) (some (a.eval mx))).run P w= .ok (l,h,m) w:=by
 have e0:=vQ (P:=P) (w:=w) hf hm (y:=cap) h3 (if b then .slice3Acap else .slice3Alen)
 have e1:=vQ (P:=P) (w:=w) hf hh (y:=m) h2 .slice3B
 have e2:=vQ (P:=P) (w:=w) hf hl (y:=h) h1 .slice3C
 unfold Instr.sliceBounds
 cases lo<;>simp_all
def sl_part {a:Addr} {b off n es cap l h m:Nat} {co co':Option Nat} (r:Rel c (.slice (some a) n cap) (.sl b off n es co)) (h1:l≤h) (h2:h≤m) (h3:m≤cap) (hco:∀ x,co'=some x→m - l=x):
  Rel c (.slice (some (if m=l then a else a.add (l*es))) (h - l) (m - l)) (.sl b (off+l*es) (h - l) es co'):=by
 cases r with|sl _ _ _ _ _ _ _ a1 a2 a3 a4=>?_
 refine .sl _ _ _ _ _ _ _ (by omega) (by omega) hco fun hne=>?_
 obtain ⟨k,o,z,e1,e2,e3⟩:=a4 (by omega)
 refine ⟨k,o,z,e1,?_,?_⟩
 ·rw [if_neg (by omega),e2,addr_add,abt]
 ·have:l*es+(m - l)*es≤cap*es:=by rw [←abd];exact abp _ (by omega)
  omega
def rq (t:TypeId) {a:Act} {fr:Fr} (hf:cC c a.tmps fr) {x:Value} {X Z:V} (hx:Rel c x X) (lo hi:Option Operand) (h:Lx P t X fr lo hi=some Z):
  ∃ cv,(Instr.sliceAt t x (lo.map a.eval) (hi.map a.eval) none).run P w= .ok cv w∧Rel c cv Z:=by
 unfold Lx at h
 split at h
 ·cases hx with|str q _ e=>?_
  split at h
  case isFalse=>simp at h
  rename_i hs
  have hu:=jY hs
  split at h
  case h_2=>simp at h
  rename_i l hh hl hhh
  split at h<;>simp only [aal,reduceCtorEq] at h
  rename_i hcond
  subst h
  have hsize:q.size=(q.data.toList).length:=by rw [aaH];rfl
  rw [←e] at hhh hcond ⊢
  rw [←hsize] at hhh hcond
  refine ⟨.string (q.extract l hh),?_,.str _ _ ?_⟩
  ·rw [run_sliceAt_string (P:=P) w t _ _ _ _ hu]
   simp [Instr.slice,run_underlying hu,gQ (P:=P) (w:=w) hf hl hhh hcond.1 hcond.2]
  ·rw [ByteArray.data_extract,Array.toList_extract,List.extract_eq_take_drop,List.drop_take]
 ·split at h
  case h_2=>simp at h
  rename_i q hsl hl hh
  obtain ⟨e,sz,by_⟩:=q
  obtain ⟨hu,ie,hie,hsz,_⟩:=kz hsl
  simp only [aal] at h
  subst h
  cases hx
  have hsizeOf:∀ w,(sizeOf e).run P w= .ok sz w:=fun w=>by simp [sizeOf,typeInfo,hie,hsz]
  refine ⟨.slice none 0 0,?_,.bh⟩
  rw [run_sliceAt_slice (P:=P) w t _ _ _ _ (nA hu)]
  simp only [Instr.slice,Sem.run_bind,run_underlying hu,Result.andThen_ok,gQ (P:=P) (w:=w) hf hl hh (aat 0) (aat 0),hsizeOf,Sem.run_pure]
  simp
 ·rename_i b off n es co
  split at h
  case h_2=>simp at h
  rename_i e sz by_ l hh hsl hl hhh
  obtain ⟨hu,ie,hie,hsz,_⟩:=kz hsl
  split at h<;>simp only [aal,reduceCtorEq] at h
  rename_i hcond
  obtain ⟨rfl,hlh,hle⟩:=hcond
  subst h
  have hx':=hx
  cases hx with|sl aa _ _ _ _ cap _ a1 a2 a3 a4=>?_
  have hcap:hh≤cap:=by
   cases co with
   |none=>simp only [Option.getD_none] at hle;omega
   |some q=>have:=a3 q rfl;simp only [aaS] at hle;omega
  have hsizeOf:∀ w,(sizeOf e).run P w= .ok sz w:=fun w=>by simp [sizeOf,typeInfo,hie,hsz]
  refine ⟨_,?_,sl_part hx' hlh hcap (aat cap) (fun x hx=>?_)⟩
  ·rw [run_sliceAt_slice (P:=P) w t _ _ _ _ (nA hu)]
   simp only [Instr.slice,Sem.run_bind,run_underlying hu,Result.andThen_ok,gQ (P:=P) (w:=w) hf hl hhh hlh hcap,hsizeOf,Sem.run_pure,aaJ]
   split<;>rfl
  ·obtain ⟨q,hq,rfl⟩:=aaF.1 hx
   rw [a3 q hq]
 ·simp at h
def evalSlice3_sound (t:TypeId) {a:Act} {fr:Fr} (hf:cC c a.tmps fr) {x:Value} {X Z:V} (hx:Rel c x X) (lo:Option Operand) (hi mx:Operand) (h:evalSlice3 P t X fr lo (some hi) (some mx)=some Z):
  ∃ cv,(Instr.sliceAt t x (lo.map a.eval) (some (a.eval hi)) (some (a.eval mx))).run P w= .ok cv w∧Rel c cv Z:=by
 unfold evalSlice3 at h
 split at h
 ·split at h
  case h_2=>simp at h
  rename_i q hsl hl hh hm
  obtain ⟨e,sz,by_⟩:=q
  obtain ⟨hu,ie,hie,hsz,_⟩:=kz hsl
  simp only [aal] at h
  subst h
  cases hx
  have hsizeOf:∀ w,(sizeOf e).run P w= .ok sz w:=fun w=>by simp [sizeOf,typeInfo,hie,hsz]
  refine ⟨.slice none 0 0,?_,.bh⟩
  rw [run_sliceAt_slice (P:=P) w t _ _ _ _ (nA hu)]
  simp only [Instr.slice,Sem.run_bind,run_underlying hu,Result.andThen_ok,sliceBounds3_run (P:=P) (w:=w) hf hl hh hm (aat 0) (aat 0) (aat 0),hsizeOf,Sem.run_pure]
  simp
 ·rename_i b off n es co
  split at h
  case h_2=>simp at h
  rename_i e sz by_ l hh m hsl hl hhh hmm
  obtain ⟨hu,ie,hie,hsz,_⟩:=kz hsl
  split at h<;>simp only [aal,reduceCtorEq] at h
  rename_i hcond
  obtain ⟨rfl,hlh,hhm,hle⟩:=hcond
  subst h
  have hx':=hx
  cases hx with|sl aa _ _ _ _ cap _ a1 a2 a3 a4=>?_
  have hcap:m≤cap:=by
   cases co with
   |none=>simp only [Option.getD_none] at hle;omega
   |some q=>have:=a3 q rfl;simp only [aaS] at hle;omega
  have hsizeOf:∀ w,(sizeOf e).run P w= .ok sz w:=fun w=>by simp [sizeOf,typeInfo,hie,hsz]
  refine ⟨_,?_,sl_part hx' hlh hhm hcap (fun x hx=>by simpa using hx)⟩
  rw [run_sliceAt_slice (P:=P) w t _ _ _ _ (nA hu)]
  simp only [Instr.slice,Sem.run_bind,run_underlying hu,Result.andThen_ok,sliceBounds3_run (P:=P) (w:=w) hf hl hhh hmm hlh hhm hcap,hsizeOf,Sem.run_pure,aaJ]
  split<;>rfl
 ·simp at h
def jx (t:TypeId) (f:Nat) {x:Value} {X Z:V} (hx:Rel c x X) (h:xT P t X f=some Z):
  ∃ cv,(Instr.fieldAt t x f).run P w= .ok cv w∧Rel c cv Z:=by
 unfold xT at h
 split at h
 case h_2=>simp at h
 rename_i off sz bb b o hfl
 obtain ⟨fs,fd,hu,hff,hsz,_,rfl⟩:=CI hfl
 split at h<;>simp only [aal,reduceCtorEq] at h
 rename_i h0
 subst h
 cases hx with|ptr _ k o' z _ hk=>?_
 refine ⟨.pointer (some ⟨k,o'+o+fd.offset,none⟩),?_,by rw [abt];exact .ptr _ _ _ _ _ hk⟩
 simp only [Instr.fieldAt,Sem.run_bind,run_underlying hu,Result.andThen_ok,hff,Instr.sureAddr,Sem.run_pure,fieldPlace,gl hsz]
 rw [if_neg h0]
 simp [addr_add]
def part_sound {t:TypeId} {arr:Array Value} {cs:List V} (hr:aag c arr cs) {off sz:Nat} {g:Bool} {Z:V} (hz:ef P t=some sz) (hg:dx P t=some g) (h:loadR g cs off sz=some Z):
  ∃ cv,(part t arr off).run P w= .ok cv w∧Rel c cv Z:=by
 obtain ⟨hs,hr⟩:=hr
 unfold loadR at h
 split at h
 ·split at h<;>simp only [aal,reduceCtorEq] at h
  rename_i hle
  subst h
  refine ⟨.agg (arr.extract off (off+sz)),?_,.agg _ _ (by simp;omega) fun i hi=>?_⟩
  ·simp only [part,Sem.run_bind,lP hg,Result.andThen_ok,if_true,gl hz,Sem.run_pure]
  ·simp only [aan,aar] at hi
   rw [mP _ _ _ _ _ (by omega)]
   have:=hr (off+i) (by omega)
   rwa [show (arr.extract off (off+sz)).getD i undef=arr.getD (off+i) undef by
    simp only [aap];rw [Array.getElem?_extract_of_lt (by omega),aaZ (by omega)]]
 ·have hlt:off<cs.length:=(aao.1 h).1
  obtain ⟨v,hv⟩:∃ v,arr[off]?=some v:=⟨_,aaZ (by omega)⟩
  refine ⟨v,?_,?_⟩
  ·simp only [part,Sem.run_bind,lP hg,Result.andThen_ok]
   simp [hv]
  ·have:=hr _ hlt
   rwa [show cs.getD off .aU=Z by simp [aam,h],show arr.getD off undef=v by simp [aap,hv]] at this
def ru (t:TypeId) (f:Nat) {x:Value} {X Z:V} (hx:Rel c x X) (h:iK P t X f=some Z):
  ∃ cv,(Instr.field t x f).run P w= .ok cv w∧Rel c cv Z:=by
 unfold iK at h
 split at h
 case h_2=>simp at h
 rename_i off sz b cs hfl
 obtain ⟨fs,fd,hu,hff,hsz,hb,rfl⟩:=CI hfl
 cases hx with|agg arr _ hs hr=>?_
 obtain ⟨cv,h1,h2⟩:=part_sound (P:=P) (w:=w) ⟨hs,hr⟩ hsz hb h
 exact ⟨cv,by simp only [Instr.field,Sem.run_bind,run_underlying hu,Result.andThen_ok,hff,asAgg,Sem.run_pure,h1],h2⟩
def nD (t:TypeId) {x i:Value} {X I Z:V} (hx:Rel c x X) (hi:Rel c i I) (h:aI P t X I=some Z):
  ∃ cv,(Instr.indexAt t x i).run P w= .ok cv w∧Rel c cv Z:=by
 unfold aI at h
 split at h
 ·rename_i k n b off m es co
  cases hi
  split at h
  case h_2=>simp at h
  rename_i e sz by_ hsl
  obtain ⟨hu,ie,hie,hsz,_⟩:=kz hsl
  split at h<;>simp only [aal,reduceCtorEq] at h
  rename_i hcond
  obtain ⟨h0,hlt,rfl⟩:=hcond
  subst h
  cases hx with|sl a _ _ _ _ cap _ a1 a2 a3 a4=>?_
  obtain ⟨kk,o,z,e1,rfl,e3⟩:=a4 (by omega)
  refine ⟨.pointer (some ⟨kk,o+(off+n.toNat*sz),none⟩),?_,.ptr _ _ _ _ _ e1⟩
  simp only [Instr.indexAt,asIntOf,Sem.run_bind,Sem.run_pure,Result.andThen_ok,run_underlying hu]
  rw [if_pos ⟨h0,by omega⟩]
  simp [sizeOf,typeInfo,hie,hsz,addr_add,abt]
 ·rename_i k n b off
  cases hi
  split at h
  case h_2=>simp at h
  rename_i m sz bb har
  obtain ⟨e,hu,hsz⟩:=Qc har
  split at h<;>simp only [aal,reduceCtorEq] at h
  rename_i hcond
  obtain ⟨h0,hlt⟩:=hcond
  subst h
  cases hx with|ptr _ kk o z _ hk=>?_
  refine ⟨.pointer (some ⟨kk,o+(off+n.toNat*sz),none⟩),?_,.ptr _ _ _ _ _ hk⟩
  simp only [Instr.indexAt,asIntOf,Sem.run_bind,Sem.run_pure,Result.andThen_ok,run_underlying hu,Instr.sureAddr]
  rw [if_pos ⟨h0,hlt⟩]
  simp [gl hsz,addr_add,abt]
 ·simp at h
def ry (t:TypeId) {x i:Value} {X I Z:V} (hx:Rel c x X) (hi:Rel c i I) (h:kC P t X I=some Z):
  ∃ cv,(Instr.index t x i).run P w= .ok cv w∧Rel c cv Z:=by
 unfold kC at h
 split at h
 ·rename_i k n l
  cases hi
  cases hx with|str q _ e=>?_
  split at h
  case isFalse=>simp at h
  rename_i hcond
  simp only [aas,aau] at hcond
  have hu:=jY hcond.1
  obtain ⟨b,hb,rfl⟩:=aaF.1 h
  have hlt:n.toNat<l.length:=(aao.1 hb).1
  have hsize:q.size=l.length:=by rw [←e,aaH];rfl
  refine ⟨_,?_,.int .u8 b.toNat⟩
  rw [run_index_string (P:=P) w t q k n hu,dif_pos ⟨hcond.2,by omega⟩]
  congr 3
  have:q.data.toList[n.toNat]?=some b:=by rw [e];exact hb
  rw [aby] at this
  obtain ⟨h2,h3⟩:=aa8.1 this
  clear this
  exact congrArg UInt8.toNat h3
 ·rename_i k n cs
  cases hi
  cases hx with|agg arr _ hs hr=>?_
  split at h
  case h_2=>simp at h
  rename_i m sz b har
  have har':=har
  obtain ⟨e,hu,hsz⟩:=Qc har
  split at h
  case isFalse=>simp at h
  rename_i hcond
  have hg:dx P e=some b:=by
   unfold Uh at har';rw [hu] at har';simp only at har';split at har'<;>simp only [aal,aaq,reduceCtorEq] at har';rename_i s0 b0 _ hb0;rw [hb0,har'.2.2]
  obtain ⟨cv,h1,h2⟩:=part_sound (P:=P) (w:=w) ⟨hs,hr⟩ hsz hg h
  refine ⟨cv,?_,h2⟩
  simp only [Instr.index,asIntOf,Sem.run_bind,Sem.run_pure,Result.andThen_ok,run_underlying hu]
  rw [if_pos hcond]
  simp only [Sem.run_bind,gl hsz,Result.andThen_ok,h1]
 ·simp at h
def pz {x:Value} {X Z:V} (i:Nat) (hx:Rel c x X) (h:ji X i=some Z):∃ cv,(Instr.extract x i).run P w= .ok cv w∧Rel c cv Z:=by
 unfold ji at h;split at h
 case h_2=>simp at h
 rename_i vs;cases hx with|cF arr _ hs hr=>?_
 have hlt:i<vs.length:=(aao.1 h).1;obtain ⟨v,hv⟩:∃ v,arr[i]?=some v:=⟨_,aaZ (by omega)⟩;refine ⟨v,?_,?_⟩
 ·simp only [Instr.extract,hv,Sem.run_pure]
 ·have:=hr i hlt
  rwa [show vs.getD i .aU=Z by simp [aam,h],show arr.getD i undef=v by simp [aap,hv]] at this
end Go.En
end
section
namespace Go.En
open Go.RowKit
open Go.Abs (addr_add aK ef F4 gl dx lP zeroOf dy kU isStr jY F5 ud DJ mU kz nA isBytes CG mP rS isIface oo)
variable {P:Program} {c:C} {w:World} {s:S}
def aag.append {vs us:List Value} {l m:List V} (h:aag c vs.toArray l) (k:aag c us.toArray m):aag c (vs++us).toArray (l++m):=by
 obtain ⟨h1,h2⟩:=h;obtain ⟨k1,k2⟩:=k;simp only [aaW] at h1 k1;refine ⟨by simp [h1,k1],fun i hi=>?_⟩;rw [aK];simp only [aax] at hi;by_cases hl:i<l.length
 ·have:=h2 i hl;rw [aK] at this;simpa [aam,aaz hl,aaz (show i<vs.length by omega)] using this
 ·have:=k2 (i - l.length) (by omega);rw [aK] at this;simpa [aam,aay (show l.length≤i by omega),aay (show vs.length≤i by omega),h1] using this
structure Yld (P:Program) (t u e:TypeId) (es by_:Nat) (x:Value) (m:Nat) (ns:List Value) (w:World):Prop where
 len:ns.length=m*es
 room:∀ (i:TypeInfo) (a:Addr) (n cap:Nat) (w':World) (ty:TypeId),P.underlying t=some (.slice e)→P.info? e=some i→i.size=es→n+m≤cap→(storeCells (a.add (n*es)) ns).run P w= .ok () w'→
  (Builtin.append_ #[t,u] ty #[.slice (some a) n cap,x]).run P w= .ok (.slice (some a) (n+m) cap) w'
 grow:∀ (i:TypeInfo) (z:Value) (base:Option Addr) (n cap:Nat) (olds:List Value) (ty:TypeId),P.underlying t=some (.slice e)→P.info? e=some i→i.zero=some z→i.size=es→i.bytes=by_→
  (Builtin.firstCells es n (.slice base n cap)).run P w.drew= .ok olds.toArray w.drew→cap<n+m→n+m≤maxLen→(n+m)*by_≤rS→
  (Builtin.append_ #[t,u] ty #[.slice base n cap,x]).run P w= .ok (.slice (some ⟨w.heap.size,0,none⟩) (n+m) (grownCap w (n+m) cap e))
    (w.drew.alloc (.cells ((olds++ns).toArray++Builtin.zeroCells z.cells (grownCap w (n+m) cap e - (n+m))) e))
 none:∀ (i:TypeInfo) (base:Option Addr) (n cap:Nat) (ty:TypeId),P.underlying t=some (.slice e)→P.info? e=some i→i.size=es→m=0→n≤cap→(base=none→n=0)→
  (Builtin.append_ #[t,u] ty #[.slice base n cap,x]).run P w= .ok (.slice base n cap) w
def Yld.ofSrc {t u e:TypeId} {es by_:Nat} {x:Value} {m:Nat} {ns:List Value} (hs:Src P es u x m ns w):Yld P t u e es by_ x m ns w where
 len:=hs.newsLen
 room:=by
  rintro i a n cap w' ty ht hi rfl hroom hst;rcases hs.kind with ⟨e',hk⟩|hk<;>simp [Builtin.append_,run_underlying ht,run_underlying hk,sizeOf,typeInfo,hi,hs.len,hroom,hs.cells,hst]
 grow:=by
  rintro i z base n cap olds ty ht hi hz rfl rfl hold hg hmax hby
  have:=run_append_grow_src (P:=P) w t u ty e i z ht hi hz base n cap olds hold x m ns hs hg (by simp only [maxLen] at hmax;omega) (growslice_fits hg hby);exact this
 none:=by
  rintro i base n cap ty ht hi rfl rfl hle hb;have hns:ns=[]:=abx (by simpa using hs.newsLen);subst hns;exact run_append_nothing (P:=P) w t u ty e i ht hi base n cap hle x hs
def news_sound {D:Nat→Prop} (hc:bf c w s) {t u e:TypeId} {es by_:Nat} {x:Value} {X:V} {l:List V} (hx:Rel c x X) (h:news P u es s X=some l) (hes:0<es) (hone:l.all V.one=true):
  ∃ m ns,Yld P t u e es by_ x m ns w∧aag c ns.toArray l∧l.length=m*es∧Src P es u x m ns w∧∀ j,j≤m→(Builtin.firstCells es j x).run P w= .ok (ns.take (j*es)).toArray w:=by
 have ones:∀ {ns:List Value},aag c ns.toArray l→∀ v∈ns,v.oneCell'=true:=by
  intro ns hr v hv;obtain ⟨i,hi,rfl⟩:=aaY.1 hv;have hi':i<l.length:=by rw [←hr.1];simpa using hi
  have h1:=hr.2 i hi';have h2:(l.getD i .aU).one=true:=by
   rw [aam,aaw hi',aaS];exact aaE.1 hone _ (aaX _)
  have:=h1.one h2;rw [aap,aaZ (by simpa using hi),aaS] at this;simpa using this
 unfold news at h
 split at h
 ·split at h<;>simp only [aal,reduceCtorEq] at h
  rename_i hcond
  obtain ⟨hu,rfl⟩:=hcond
  subst h
  cases hx with|str q l' e'=>?_
  subst e'
  have hs:=Src.ofString (P:=P) w (jY hu) q
  refine ⟨q.size,byteCells q,.ofSrc hs,⟨by simp [byteCells,byteVs],fun i hi=>?_⟩,by simp [byteVs],hs,fun j hj=>?_⟩
  rotate_left
  ·have hsz:(byteCells q).length=q.size:=byteCells_length q
   simp only [Builtin.firstCells,Sem.run_pure,Nat.mul_one]
   congr 1
   apply abA
   simp [byteCells,abD]
  simp only [byteVs,aaC] at hi
  rw [aK]
  simp only [byteCells,byteVs,aam,aaV,aaw hi,aaJ,aaS]
  exact .int _ _
 ·split at h<;>simp only [aal,reduceCtorEq] at h
  rename_i hsl
  subst h
  cases hx
  obtain ⟨q,hq⟩:=abq.1 hsl
  obtain ⟨e',sz,b'⟩:=q
  have hs:=Src.ofNil (P:=P) (size:=es) w (kz hq).1 0
  exact ⟨0,[],.ofSrc hs,⟨rfl,by simp⟩,by simp,hs,fun j hj=>by simpa using run_firstCells_none (P:=P) w es j 0 0⟩
 ·rename_i b off n es' co
  split at h
  case isFalse=>simp at h
  rename_i hcond
  obtain ⟨rfl,hsl⟩:=hcond
  obtain ⟨q,hq⟩:=abq.1 hsl
  obtain ⟨e',sz,b'⟩:=q
  rcases elems_sound hc hx h with ⟨h0,_⟩|⟨_,_,_,_,_,a,cap,h1,rfl,h2,vs,h3,h4,h5⟩
  ·cases h0
  ·cases h1
   have hs:=Src.ofSlice (P:=P) w (kz hq).1 a n cap vs h3 h5 (ones h4)
   refine ⟨n,vs,.ofSrc hs,h4,h2,hs,fun j hj=>run_firstCells_some w es' j a n cap (vs.take (j*es')) ?_ fun q u hu=>?_⟩
   ·rw [aan,h3]
    exact Nat.min_eq_left (abp _ hj)
   ·rw [abl] at hu
    split at hu
    ·exact h5 q u hu
    ·cases hu
 ·simp at h
def zeroSz_eq {e:TypeId} {es:Nat} (h:dy P e=some es):∃ z,zeroOf P e=some z∧z.cells.size=es:=by
 unfold dy at h;exact aaF.1 h
def zero_info {e:TypeId} {z:Value} {i:TypeInfo} (h:zeroOf P e=some z) (hi:P.info? e=some i):i.zero=some z:=by
 simpa [zeroOf,hi] using h
def grow_sound {D:Nat→Prop} (hc:bf c w s) {id:Nat} (hid:c id=none) (hlt:id<s.nx) (hD:D id) {e:TypeId} {i:TypeInfo} {z:Value} {es n m by_ cap:Nat} {q:Bool} {row:List V} {Z:V} {s':S}
  (h:growV P e q es n m by_ row s id=some (Z,s')) (hi:P.info? e=some i) (hz:zeroOf P e=some z) (hsz:i.size=es) {cells:List Value} (hr:aag c cells.toArray row) (hlen:cells.length=(n+m)*es) (hcap:cap<n+m):
  ∃ c',Rel c' (.slice (some ⟨w.heap.size,0,none⟩) (n+m) (grownCap w (n+m) cap e)) Z∧Step D c s w c' s' (w.drew.alloc (.cells (cells.toArray++Builtin.zeroCells z.cells (grownCap w (n+m) cap e - (n+m))) e)):=by
 unfold growV at h
 split at h<;>simp only [aal,aaq,reduceCtorEq] at h
 rename_i hcond
 obtain ⟨rfl,rfl⟩:=h
 obtain ⟨h1,h2,h3⟩:=hcond
 obtain ⟨z',hz1,hz2⟩:=zeroSz_eq h3
 rw [hz] at hz1
 cases hz1
 have hge:=grownCap_ge w (n+m) cap e
 have hcm:grownCap w (n+m) cap e≤maxLen:=grownCap_le_maxLen w (n+m) cap e h2
 have hasz:(cells.toArray++Builtin.zeroCells z.cells (grownCap w (n+m) cap e - (n+m))).size=grownCap w (n+m) cap e*es:=by
  rw [abN,aaW,size_zeroCells,hz2,hlen,←abd];congr 1;omega
 refine ⟨_,sl_new (z:=grownCap w (n+m) cap e*es) hge hcm (fun x hx=>by cases hx) (aat _),(Step.drew hc).trans (Step.alloc hc.drew hid hlt hD (.cells _ e q 0 _ row (fun _=>rfl) hasz ?_ ?_))⟩
 ·have:=hr.1
  simp only [aaW] at this
  rw [aaL,←this,hlen]
  exact abp _ hge
 ·intro j hj
  rw [aaL]
  have:=hr.2 j hj
  have hjl:j<cells.length:=by have:=hr.1;simp only [aaW] at this;omega
  rwa [show (cells.toArray++Builtin.zeroCells z.cells (grownCap w (n+m) cap e - (n+m))).getD j undef=cells.toArray.getD j undef by
   simp [aap,abr,hjl]]
def Step.reuse {D:Nat→Prop} (hc:bf c w s) {id b k o z off ne:Nat} {q:Bool} (hq:q=true→o+off=0) (hid:c id=none) (hlt:id<s.nx) (hD:D id) (hk:c b=some (k,o,z)) {cs old l:List V} (hB:s.row b=some cs)
  (holdlen:old.length=ne) (hold:∀ i,i<ne→off+i<cs.length∧old.getD i .aU=cs.getD (off+i) .aU) (hz:o+off+ne+l.length≤z) {arr arr':Array Value} {e:TypeId} (hh:w.heap[k]?=some (.cells arr e (0,0))) (hasz:arr.size=z)
  (har:∀ i,i<cs.length→Rel c (arr.getD (o+i) undef) (cs.getD i .aU)) {vs:List Value} (hv:aag c vs.toArray l) (harr':arr'.toList=Go.Abs.splice arr.toList (o+off+ne) vs):
  Step D c s w (fun x=>if x=id then some (k,o+off,z) else c x) ((s.kill b).put id (.cells e q (old++l))) (w.setRow k arr'):=by
 have hlive:s.h.get b≠none:=by
  intro hn;simp [S.row,hn] at hB
 have hvl:vs.length=l.length:=by simpa using hv.1
 have hfit:o+off+ne+vs.length≤arr.toList.length:=by simp [hasz,hvl];omega
 have hsz':arr'.size=z:=by
  rw [←aaH,harr',Go.Abs.cQ _ _ _ hfit];simp [hasz]
 have hext:Ext c (fun x=>if x=id then some (k,o+off,z) else c x):=by
  intro x y hx;show (if x=id then _ else _)=_;split
  ·rename_i e;subst e;rw [hid] at hx;cases hx
  ·exact hx
 have hoth:∀ x,x≠b→x≠id→((s.kill b).put id (.cells e q (old++l))).h.get x=s.h.get x:=by
  intro x h1 h2;rw [aae,if_neg h2,get_kill,if_neg h1]
 have hbn:b≠id→((s.kill b).put id (.cells e q (old++l))).h.get b=none:=by
  intro h2;rw [aae,if_neg h2,get_kill,if_pos rfl]
 have hbid:b≠id:=by rintro rfl;rw [hid] at hk;cases hk
 refine ⟨hext,⟨fun x k' o' z' h=>?_,fun x y k' o1 o2 z1 z2 h1 h2 l1 l2=>?_,fun x k' o' z' y h hy=>?_⟩,⟨rfl,rfl,rfl,by simp,fun j hj hb=>?_⟩,fun x h1 h2=>?_,fun x k' o' z' h1 h2=>?_,fun x h1 h2=>?_,aat _⟩
 ·have h':(if x=id then some (k,o+off,z) else c x)=some (k',o',z'):=h
  split at h'
  ·rename_i e
   simp only [aal,aaq] at h'
   have:=(hc.lt b k o z hk).2
   exact ⟨by rw [e];exact hlt,by simp;omega⟩
  ·have:=hc.lt x k' o' z' h'
   exact ⟨this.1,by simpa using this.2⟩
 ·have h1':(if x=id then some (k,o+off,z) else c x)=some (k',o1,z1):=h1
  have h2':(if y=id then some (k,o+off,z) else c y)=some (k',o2,z2):=h2
  split at h1'<;>split at h2'
  ·rename_i e1 e2;rw [e1,e2]
  ·exfalso
   rename_i e1 e2
   simp only [aal,aaq] at h1'
   obtain ⟨rfl,_,_⟩:=h1'
   by_cases hyb:y=b
   ·rw [hyb] at l2;exact l2 (hbn hbid)
   ·rw [hoth y hyb e2] at l2
    exact hyb (hc.inj y b k o2 o z2 z h2' hk l2 hlive)
  ·exfalso
   rename_i e1 e2
   simp only [aal,aaq] at h2'
   obtain ⟨rfl,_,_⟩:=h2'
   by_cases hyb:x=b
   ·rw [hyb] at l1;exact l1 (hbn hbid)
   ·rw [hoth x hyb e1] at l1
    exact hyb (hc.inj x b k o1 o z1 z h1' hk l1 hlive)
  ·rename_i e1 e2
   by_cases hxb:x=b
   ·rw [hxb] at l1;exact absurd (hbn hbid) l1
   by_cases hyb:y=b
   ·rw [hyb] at l2;exact absurd (hbn hbid) l2
   rw [hoth x hxb e1] at l1
   rw [hoth y hyb e2] at l2
   exact hc.inj x y k' o1 o2 z1 z2 h1' h2' l1 l2
 ·have h':(if x=id then some (k,o+off,z) else c x)=some (k',o',z'):=h
  split at h'
  ·rename_i e1
   subst e1
   simp only [aal,aaq] at h'
   obtain ⟨rfl,rfl,rfl⟩:=h'
   rw [aae,if_pos rfl] at hy
   simp only [aal] at hy
   subst hy
   refine ⟨_,setRow_heap w k arr arr' e (0,0) hh,BRel.mono hext (.cells arr' e q _ _ _ hq hsz' (by rw [aax,holdlen];omega) fun i hi=>?_)⟩
   rw [aax,holdlen] at hi
   rw [aK,harr',Go.Abs.BL _ _ _ undef hfit]
   by_cases h1:i<ne
   ·rw [if_pos (by omega),←aK,aam,aaz (by omega),←aam,(hold i h1).2]
    have:=har (off+i) (hold i h1).1
    rwa [←abt] at this
   ·rw [if_neg (by omega),if_pos (by omega),show o+off+i - (o+off+ne)=i - ne by omega,aam (l:=old++l),aay (by omega),←aam (l:=l),holdlen]
    have:=hv.2 (i - ne) (by omega)
    rwa [aK] at this
  ·rename_i e1
   have hxb:x≠b:=by
    rintro rfl;rw [hbn hbid] at hy;cases hy
   rw [hoth x hxb e1] at hy
   obtain ⟨obj,h1,h2⟩:=hc.blk x k' o' z' y h' hy
   refine ⟨obj,?_,h2.mono hext⟩
   rw [setRow_other w k k' _ ?_]
   ·exact h1
   ·rintro rfl
    exact hxb (hc.inj x b k' o' o z' z h' hk (by rw [hy];simp) hlive)
 ·refine setRow_other w k j _ ?_
  rintro rfl
  exact hlive (hb b o z hk)
 ·have h2':(if x=id then some (k,o+off,z) else c x)≠none:=h2
  split at h2'
  ·rename_i e1;rw [e1];exact hD
  ·exact absurd h1 h2'
 ·have h1':(if x=id then some (k,o+off,z) else c x)=some (k',o',z'):=h1
  split at h1'
  ·simp only [aal,aaq] at h1'
   obtain ⟨rfl,_,_⟩:=h1'
   exact .inr ⟨b,o,z,hk,hlive⟩
  ·rw [h1'] at h2;cases h2
 ·by_cases e1:x=id
  ·rw [e1] at h1;exact absurd hid h1
  ·by_cases e2:x=b
   ·rw [e2];exact hlive
   ·rw [hoth x e2 e1] at h2;exact h2
