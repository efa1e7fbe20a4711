/- A step of the proofs of the seat's theorems. -/
import Derived.Test.YthnoiikjfcnlhaaGreatDoorYA
import Derived.Test.YthnoiikjfcnlhaaGreatDoorY12
set_option linter.unusedSimpArgs false
set_option linter.unusedVariables false
namespace Go.Abs
open Go.RowKit
def bP:Op→Bool
 | .call { callee:= .value _,.. }=>true
 | .call { callee:= .invoke ..,.. }=>true
 | .panic _=>true
 |_=>false
def ask (res:List Nat):Option (Nat×Bool)→Bool
 |none=>true
 |some (j,_)=>res.contains j
def cJ (P:Program) (n:iw) (all:Array Oper) (res:List Nat):List Oper→Fr→St→Option (List Oper×Fr×St)
 |[],fr,st=>some ([],fr,st)
 |o::r,fr,st=>
  if ask res o.guard then
   match goes all o fr with
   |some true=>if bP o.op then some (o::r,fr,st) else match evalOp P o fr st with
    |some (v,st')=>if fC n o.dst then cJ P n all res r (eC fr o.dst v) st' else none
    |none=>none
   |some false=>if fC n o.dst then cJ P n all res r (eC fr o.dst (.cF [])) st else none
   |none=>none
  else some (o::r,fr,st)
section
variable {P:Program} {G:World→Nat→Prop} {n:iw} {aC:St} {Q:AX→Fr→St→Prop}
theorem OW.run {all:Array Oper} {res:List Nat}:∀ {l:List Oper} {fr:Fr} {st:St} {rest:List Oper} {fr':Fr} {st':St},cJ P n all res l fr st=some (rest,fr',st')→OW P G n aC all Q rest fr' st'→OW P G n aC all Q l fr st
 |[],fr,st,rest,fr',st',h,k=>by
  simp only [cJ,aaf,aaA] at h
  obtain ⟨rfl,rfl,rfl⟩:=h
  exact k
 |o::r,fr,st,rest,fr',st',h,k=>by
  simp only [cJ] at h
  split at h
  ·split at h
   ·rename_i hg
    split at h
    ·simp only [aaf,aaA] at h
     obtain ⟨rfl,rfl,rfl⟩:=h
     exact k
    ·split at h
     ·rename_i v gD he
      split at h
      ·rename_i hd
       exact OW.op hg he hd (OW.run h k)
      ·simp at h
     ·simp at h
   ·rename_i hg
    split at h
    ·rename_i hd
     exact OW.skip hg hd (OW.run h k)
    ·simp at h
   ·simp at h
  ·simp only [aaf,aaA] at h
   obtain ⟨rfl,rfl,rfl⟩:=h
   exact k
end
def Gt (P:Program) (n:iw) (all:Array Oper) (res:List Nat) (k:Bool) (g:Option Bool) (e:Bool) (o:Oper) (r:List Oper) (fr:Fr) (st:St):Option (List Oper×Fr×St):=
 if k then
  match g with
  |some true=>if e then some (o::r,fr,st) else match evalOp P o fr st with
   |some (v,st')=>if fC n o.dst then cJ P n all res r (eC fr o.dst v) st' else none
   |none=>none
  |some false=>if fC n o.dst then cJ P n all res r (eC fr o.dst (.cF [])) st else none
  |none=>none
 else some (o::r,fr,st)
def Qo (P:Program) (n:iw) (all:Array Oper) (res:List Nat) (x:Option (V×St)) (ok:Bool) (d:Option Tmp) (r:List Oper) (fr:Fr):Option (List Oper×Fr×St):=
 match x with
 |some (v,st')=>if ok then cJ P n all res r (eC fr d v) st' else none
 |none=>none
def Qp (P:Program) (n:iw) (all:Array Oper) (res:List Nat) (ok:Bool) (d:Option Tmp) (r:List Oper) (fr:Fr) (st:St):Option (List Oper×Fr×St):=
 if ok then cJ P n all res r (eC fr d (.cF [])) st else none
section
variable (P:Program) (n:iw) (all:Array Oper) (res:List Nat) (o:Oper) (r:List Oper) (fr:Fr) (st:St) (d:Option Tmp) (v:V) (ty:TypeId) (pos:String) (af:Array Edge) (gd:Option (Nat×Bool))
theorem Gu:cJ P n all res [] fr st=some ([],fr,st):=rfl
def Qq (res:List Nat) (o:Oper):Bool:=ask res o.guard
theorem J9 (op:Op):Qq res ⟨d,op,ty,pos,af,gd⟩=ask res gd:=rfl
theorem Gv:ask res none=true:=rfl
theorem Ka (j:Nat) (b:Bool):ask [] (some (j,b))=false:=rfl
theorem Gw (k j:Nat) (b:Bool):ask (k::res) (some (j,b))=(j==k||ask res (some (j,b))):=List.contains_cons
theorem DT:cJ P n all res (o::r) fr st=Gt P n all res (Qq res o) (goes all o fr) (bP o.op) o r fr st:=rfl
theorem DU (g:Option Bool) (e:Bool):Gt P n all res false g e o r fr st=some (o::r,fr,st):=rfl
theorem AH:Gt P n all res true (some true) true o r fr st=some (o::r,fr,st):=rfl
theorem Kb:Gt P n all res true (some true) false o r fr st=Qo P n all res (evalOp P o fr st) (fC n o.dst) o.dst r fr:=rfl
theorem DV (e:Bool):Gt P n all res true (some false) e o r fr st=Qp P n all res (fC n o.dst) o.dst r fr st:=rfl
theorem DW:Qo P n all res (some (v,st)) true d r fr=cJ P n all res r (eC fr d v) st:=rfl
theorem Kc:Qp P n all res true d r fr st=cJ P n all res r (eC fr d (.cF [])) st:=rfl
theorem DX (op:Op):goes all ⟨d,op,ty,pos,af,none⟩ fr=some true:=rfl
def goesX:V→Bool→Option Bool
 | .d (.bool t),b=>some (t==b)
 | .cF [],_=>some false
 |_,_=>none
def Gx (d:Option Tmp) (fr:Fr) (b:Bool):Option Bool:=match d with|some t=>goesX (fr t) b|none=>none
theorem DY (op:Op) (j:Nat) (b:Bool):goes all ⟨d,op,ty,pos,af,some (j,b)⟩ fr=Gx ((all[j]?).bind (·.dst)) fr b:=by
 simp only [goes,Gx]
 cases ((all[j]?).bind (·.dst)) with
 |none=>rfl
 |some q=>
  simp only [goesX]
  cases fr q with
  |d y=>cases y<;>rfl
  |cF l=>cases l<;>rfl
  |_=>rfl
theorem Gy:goesX (.d (.bool true)) true=some true:=rfl
theorem Gz:goesX (.d (.bool true)) false=some false:=rfl
theorem GB:goesX (.d (.bool false)) true=some false:=rfl
theorem GC:goesX (.d (.bool false)) false=some true:=rfl
theorem DZ (b:Bool):goesX (.cF []) b=some false:=rfl
theorem AI (t:Tmp) (b:Bool):Gx (some t) fr b=goesX (fr t) b:=rfl
theorem Ke (i:Nat) (j:Nat):j7 fr i v j=if j=i then v else fr j:=rfl
theorem D0 (i:Nat):eC fr (some i) v=j7 fr i v:=rfl
theorem D1:eC fr none v=fr:=rfl
theorem AJ (k i:Nat) (ds:List Deferred):fC ⟨k,ds⟩ (some i)=decide (i<k):=rfl
theorem AK (n:iw):fC n none=true:=rfl
theorem D2 (l:List V):dr (v::l) 0=v:=rfl
theorem D3 (l:List V):dr (v::l) 1=dr l 0:=rfl
theorem D4 (l:List V):dr (v::l) 2=dr l 1:=rfl
theorem GF (x):bP (.move x)=false:=rfl
theorem AL (x):bP (.assign x)=false:=rfl
theorem GG (x y z):bP (.pick x y z)=false:=rfl
theorem D6 (x):bP (.alloc x)=false:=rfl
theorem Kf (x y):bP (.box x y)=false:=rfl
theorem D7 (x y):bP (.build x y)=false:=rfl
theorem rZ (x y z):bP (.buildSlice x y z)=false:=rfl
theorem GI (x y):bP (.load x y)=false:=rfl
theorem D8 (x y z):bP (.store x y z)=false:=rfl
theorem vY (x):bP (.nilCheck x)=false:=rfl
theorem D9 (a b c d e):bP (.binOp a b c d e)=false:=rfl
theorem GJ (a b c):bP (.unOp a b c)=false:=rfl
theorem yg (a b c):bP (.convert a b c)=false:=rfl
theorem Kg (a b):bP (.makeInterface a b)=false:=rfl
theorem Ea (a b c d e):bP (.slice a b c d e)=false:=rfl
theorem tZ (a b c):bP (.fieldAddr a b c)=false:=rfl
theorem Eb (a b c):bP (.field a b c)=false:=rfl
theorem ua (a b c):bP (.indexAddr a b c)=false:=rfl
theorem Ec (a b c):bP (.index a b c)=false:=rfl
theorem yh (a b):bP (.extract a b)=false:=rfl
theorem Ed (a b):bP (.range a b)=false:=rfl
theorem GK (a b):bP (.next a b)=false:=rfl
theorem AM (a b c d):bP (.typeAssert a b c d)=false:=rfl
theorem yj (b a t):bP (.call ⟨.builtin b,a,t⟩)=false:=rfl
theorem GL (f a t):bP (.call ⟨.value f,a,t⟩)=true:=rfl
theorem Ee (x):bP (.panic x)=true:=rfl
theorem NH (t:Tmp):ev fr (.tmp t)=fr t:=rfl
theorem NI (k:IntKind) (i:Int):ev fr (.const (.int k i))= .d (.int k i):=rfl
theorem Kh (b:Bool):ev fr (.const (.bool b))= .d (.bool b):=rfl
theorem NJ (s:ByteArray):ev fr (.const (.string s))= .d (.str s.data.toList):=rfl
theorem Ki:ev fr (.const (.slice none 0 0))= .bh:=rfl
theorem Kj:ev fr (.const .nilIface)= .d .fD:=rfl
theorem Kk (f:FuncId):ev fr (.func f)= .jE f []:=rfl
theorem Kl (x):evalOp P ⟨d,.move x,ty,pos,af,gd⟩ fr st=some (ev fr x,st):=rfl
theorem Ef (x):evalOp P ⟨d,.assign x,ty,pos,af,gd⟩ fr st=some (ev fr x,st):=rfl
def uP:V→V→V→St→Option (V×St)
 | .d (.bool t),x,y,st=>some (if t then x else y,st)
 |_,_,_,_=>none
theorem Km (c a b):evalOp P ⟨d,.pick c a b,ty,pos,af,gd⟩ fr st=uP (ev fr c) (ev fr a) (ev fr b) st:=by
 simp only [evalOp,uP]
 split<;>simp_all
theorem AN (x y:V):uP (.d (.bool true)) x y st=some (x,st):=rfl
theorem yl (x y:V):uP (.d (.bool false)) x y st=some (y,st):=rfl
theorem Eg (t b:Bool):uP (.d (.bool t)) (.d (.bool b)) (.d (.bool false)) st=some (.d (.bool (t&&b)),st):=by cases t<;>rfl
theorem GM (t b:Bool):uP (.d (.bool t)) (.d (.bool true)) (.d (.bool b)) st=some (.d (.bool (t||b)),st):=by cases t<;>rfl
def GN:Option (List V)→St→Option (V×St)
 |some cs,st=>some (c7 st (.cells cs))
 |none,_=>none
def v7 (b:Bool) (e:TypeId):Option (List V)→St→Option (V×St)
 |some cs,st=>some (c7 st (if b=true then .tc e cs else .cells cs))
 |none,_=>none
theorem GO (e):evalOp P ⟨d,.alloc e,ty,pos,af,gd⟩ fr st=v7 (Eh P e) e (eU P e) st:=by simp only [evalOp,v7,v8];split<;>simp_all
theorem GP (e:TypeId) (cs:List V):v7 false e (some cs) st=some (.ptr st.aj.length 0,⟨st.aj++[.cells cs],st.toks⟩):=rfl
theorem GR (e:TypeId) (cs:List V):v7 true e (some cs) st=some (.ptr st.aj.length 0,⟨st.aj++[.tc e cs],st.toks⟩):=rfl
theorem NK (e x):evalOp P ⟨d,.box e x,ty,pos,af,gd⟩ fr st=GN (ev fr x).cells st:=by simp only [evalOp,GN];split<;>simp_all
theorem AO (cs:List V):GN (some cs) st=some (.ptr st.aj.length 0,⟨st.aj++[.cells cs],st.toks⟩):=rfl
theorem GS (t parts):evalOp P ⟨d,.build t parts,ty,pos,af,gd⟩ fr st=(jF P t fr parts.toList).map (·,st):=rfl
theorem uc (t k parts):evalOp P ⟨d,.buildSlice t k parts,ty,pos,af,gd⟩ fr st=(eW P t k fr parts.toList).map (·,st):=rfl
theorem Kn (t a):evalOp P ⟨d,.load t a,ty,pos,af,gd⟩ fr st=(bn P t (ev fr a) st).map (·,st):=rfl
theorem GU (t a x):evalOp P ⟨d,.store t a x,ty,pos,af,gd⟩ fr st=(iJ P t (ev fr a) (ev fr x) st).map (.aU,·):=rfl
def NL:V→St→Option (V×St)
 | .ptr b off,st=>some (.ptr b off,st)
 | .ep cs off,st=>some (.ep cs off,st)
 | .jE f cap,st=>some (.jE f cap,st)
 |_,_=>none
theorem ym (x):evalOp P ⟨d,.nilCheck x,ty,pos,af,gd⟩ fr st=NL (ev fr x) st:=by simp only [evalOp,NL];split<;>simp_all
theorem GY (b off:Nat):NL (.ptr b off) st=some (.ptr b off,st):=rfl
theorem GZ (op t x y u):evalOp P ⟨d,.binOp op t x y u,ty,pos,af,gd⟩ fr st=G0 (evalBin P op t (ev fr x) (ev fr y)) (kZ P op t (mc x||mc y) (ev fr x) (ev fr y)) st:=rfl
theorem Ei (z:V) (b:Option V):G0 (some z) b st=some (z,st):=rfl
theorem Ej (z:V):G0 none (some z) st=some (z,st):=rfl
theorem NM (op t):evalBin P op t (.d .nz) (.d .fD)=none:=by cases op<;>rfl
theorem NN (op t):evalBin P op t (.d .fD) (.d .fD)=none:=by cases op<;>rfl
theorem NO (op t k):kZ P op t k (.d .nz) (.d .fD)=AP op (isIface P t) true false:=rfl
theorem NP (op t k):kZ P op t k (.d .fD) (.d .fD)=AP op (isIface P t) k true:=rfl
theorem G1 (b:Bool):AP .eql (some true) true b=some (.d (.bool b)):=rfl
theorem Ko (v:Value):mc (.const v)=true:=rfl
theorem Kq (i:Nat):mc (.tmp i)=false:=rfl
theorem Kr (op t x):evalOp P ⟨d,.unOp op t x,ty,pos,af,gd⟩ fr st=(r6 op (ev fr x)).map (·,st):=rfl
theorem AQ (s t x):evalOp P ⟨d,.convert s t x,ty,pos,af,gd⟩ fr st=(evalConv P s t (ev fr x)).map (·,st):=rfl
def NQ (b:Option Bool) (t:TypeId) (x:Option D) (st:St):Option (V×St):=
 match b,x with
 |some false,some y=>some (.d (.iface t y),st)
 |_,_=>none
theorem NR (t x):evalOp P ⟨d,.makeInterface t x,ty,pos,af,gd⟩ fr st=NQ (isIface P t) t (ev fr x).held st:=by
 simp only [evalOp,NQ]
 split
 ·rename_i h;rw [h];cases (ev fr x).held<;>rfl
 ·rename_i h;split<;>simp_all
theorem Ks (t:TypeId) (y:D):NQ (some false) t (some y) st=some (.d (.iface t y),st):=rfl
theorem G2 (t x lo hi):evalOp P ⟨d,.slice t x lo hi none,ty,pos,af,gd⟩ fr st=(hO P t (ev fr x) fr lo hi).map (·,st):=rfl
theorem we (t x f):evalOp P ⟨d,.fieldAddr t x f,ty,pos,af,gd⟩ fr st=(eE P t (ev fr x) f).map (·,st):=rfl
theorem G3 (t x f):evalOp P ⟨d,.field t x f,ty,pos,af,gd⟩ fr st=(iK P t (ev fr x) f).map (·,st):=rfl
theorem wg (t x i):evalOp P ⟨d,.indexAddr t x i,ty,pos,af,gd⟩ fr st=(cn P t (ev fr x) (ev fr i)).map (·,st):=rfl
theorem G4 (t x i):evalOp P ⟨d,.index t x i,ty,pos,af,gd⟩ fr st=(kC P t (ev fr x) (ev fr i)).map (·,st):=rfl
theorem AR (x i):evalOp P ⟨d,.extract x i,ty,pos,af,gd⟩ fr st=(ji (ev fr x) i).map (·,st):=rfl
theorem G5 (t x):evalOp P ⟨d,.range t x,ty,pos,af,gd⟩ fr st=mT P t (ev fr x) st:=rfl
theorem Kt (x):evalOp P ⟨d,.next x true,ty,pos,af,gd⟩ fr st=evalNext (ev fr x) st:=rfl
theorem Ek (x t u ok):evalOp P ⟨d,.typeAssert x t u ok,ty,pos,af,gd⟩ fr st=(gj P (ev fr x) u ok).map (·,st):=rfl
theorem AU (b a t):evalOp P ⟨d,.call ⟨.builtin b,a,t⟩,ty,pos,af,gd⟩ fr st=dP P b t.toList (a.toList.map (ev fr)) st:=rfl
def NS (b:Bool) (P:Program) (t:TypeId) (s:V) (l:List UInt8) (st:St):Option (V×St):=if b=true then fu P t s (.d (.sl (aH l))) st else none
theorem Ku (t:TypeId) (s:V) (l:List UInt8):NS true P t s l st=fu P t s (.d (.sl (aH l))) st:=rfl
theorem NT (t:TypeId) (x:V):dP P .len [t] [x] st=(gN P t x).map (·,st):=rfl
theorem El (t:TypeId) (s x:V):dP P .append [t,t] [s,x] st=fu P t s x st:=by simp [dP]
theorem Kv (t u:TypeId) (s:V) (l:List UInt8) (h:(t==u)=false):dP P .append [t,u] [s,.d (.str l)] st=NS (isStr P u&&wh P t) P t s l st:=by
 have:¬ t=u:=by simpa using h
 simp only [dP,if_neg this,oB,NS,aap]
theorem NU (t u:TypeId) (x y:V):dP P .max [t,u] [x,y] st=(oC x y).map (·,st):=rfl
theorem yp (k:IntKind) (a b:Int):oC (.d (.int k a)) (.d (.int k b))=some (.d (.int k (if b>a then b else a))):=by simp [oC]
def CR (b:Option Bool) (sz:Option Nat) (a:V) (st:St):Option V:=
 match b,sz with
 |some b,some sz=>match a with
  | .ptr k off=>match (st.aj[k]?).bind aJ.row with
   |some cs=>iL b cs off sz
   |none=>none
  | .ep cs off=>pG b cs off sz
  |_=>none
 |_,_=>none
def CS (b:Bool) (sz:Nat) (B:Option aJ) (off:Nat):Option V:=match B.bind aJ.row with|some cs=>iL b cs off sz|none=>none
theorem yq (t:TypeId) (a:V):bn P t a st=CR (dx P t) (ef P t) a st:=rfl
theorem Em (b:Bool) (sz k off:Nat):CR (some b) (some sz) (.ptr k off) st=CS b sz st.aj[k]? off:=by
 simp only [CR,CS]
theorem G6 (b:Bool) (sz:Nat) (cs:List D) (off:Nat):CR (some b) (some sz) (.ep cs off) st=pG b cs off sz:=rfl
theorem yt (b:Bool) (sz:Nat) (cs:List V) (off:Nat):CS b sz (some (.cells cs)) off=iL b cs off sz:=rfl
theorem G7 (b:Bool) (sz e:Nat) (cs:List V) (off:Nat):CS b sz (some (.tc e cs)) off=iL b cs off sz:=rfl
theorem AV (cs:List V) (off sz:Nat):iL false cs off sz=cs[off]?:=rfl
theorem AY (cs:List V) (off sz:Nat):iL true cs off sz=if off+sz≤cs.length then some (.agg ((cs.drop off).take sz)) else none:=rfl
theorem AZ (cs:List D) (off sz:Nat):pG false cs off sz=(cs[off]?).map .d:=rfl
theorem A0 (cs:List D) (off sz:Nat):pG true cs off sz=if off+sz≤cs.length then some (.agg (((cs.drop off).take sz).map .d)) else none:=rfl
def A1 (a:V) (sz:Option Nat) (l:Option (List V)) (st:St):Option St:=
 match a,sz,l with
 | .ptr k off,some sz,some l=>
  if l.length=sz∧l.all (·.one)=true then match st.aj[k]? with
   |some B=>r7 B k off sz l st
   |none=>none
  else none
 |_,_,_=>none
def wj (B:Option aJ) (k off sz:Nat) (l:List V) (st:St):Option St:=match B with
 |some B=>r7 B k off sz l st
 |none=>none
theorem wm (t:TypeId) (a x:V):iJ P t a x st=A1 a (ef P t) x.cells st:=rfl
theorem A2 (k off sz:Nat) (l:List V):A1 (.ptr k off) (some sz) (some l) st=if l.length=sz∧l.all (·.one)=true then wj st.aj[k]? k off sz l st else none:=by
 simp only [A1,wj]
theorem wo (k off sz:Nat) (cs l:List V):wj (some (.cells cs)) k off sz l st=if off+sz≤cs.length then some ⟨st.aj.set k (.cells (splice cs off l)),st.toks⟩ else none:=rfl
theorem En (k off sz e:Nat) (cs l:List V):wj (some (.tc e cs)) k off sz l st=if off+sz≤cs.length then some ⟨st.aj.set k (.tc e (splice cs off l)),st.toks⟩ else none:=rfl
theorem NV (l r:List aJ) (j:Nat):(l++r)[l.length+j]?=r[j]?:=by rw [aaq (by omega)];congr 1;omega
theorem Kw (l r:List aJ):(l++r)[l.length]?=r[0]?:=by rw [aaq (by omega)];congr 1;omega
theorem Kx (l r:List aJ) (j:Nat) (B:aJ):(l++r).set (l.length+j) B=l++r.set j B:=by
 rw [aaC _ _ (by omega)];congr 2;omega
theorem G8 (l r:List aJ) (B:aJ):(l++r).set l.length B=l++r.set 0 B:=by
 rw [aaC _ _ (by omega)];congr 2;omega
def G9 (b:Bool) (cs:Option (List V)) (P:Program) (t:TypeId) (fr:Fr) (parts:List (Nat×Operand)):Option V:=
 if b then match cs with
  |some cs=>(jN P t fr cs parts).map .agg
  |none=>none
 else none
theorem wq (t:TypeId) (parts:List (Nat×Operand)):jF P t fr parts=G9 (isStruct P t) (eU P t) P t fr parts:=rfl
theorem Eo (t:TypeId) (cs:List V) (parts:List (Nat×Operand)):G9 true (some cs) P t fr parts=(jN P t fr cs parts).map .agg:=rfl
theorem Ep (t:TypeId) (cs:List V):jN P t fr cs []=some cs:=rfl
def M7 (f:Option (Nat×Nat×Bool)) (l:Option (List V)) (P:Program) (t:TypeId) (fr:Fr) (cs:List V) (r:List (Nat×Operand)):Option (List V):=
 match f,l with
 |some (off,sz,_),some l=>if l.length=sz∧off+l.length≤cs.length then jN P t fr (splice cs off l) r else none
 |_,_=>none
theorem A3 (t:TypeId) (cs:List V) (i:Nat) (x:Operand) (q:List (Nat×Operand)):jN P t fr cs ((i,x)::q)=M7 (k8 P t i) (ev fr x).cells P t fr cs q:=rfl
theorem He (t:TypeId) (cs l:List V) (off sz:Nat) (b:Bool) (q:List (Nat×Operand)):M7 (some (off,sz,b)) (some l) P t fr cs q=if l.length=sz∧off+l.length≤cs.length then jN P t fr (splice cs off l) q else none:=rfl
def CT (s:Option (Nat×Nat×Nat)) (k:Nat) (P:Program) (fr:Fr) (parts:List (Nat×Operand)):Option V:=
 match s with
 |some (e,sz,_)=>if parts.length=k∧k*sz≤16777216∧0<sz∧(dy P e).isSome=true then (rowsOf sz fr 0 parts).map fun rs=> .d (.sl rs) else none
 |none=>none
theorem oD (t k:Nat) (parts:List (Nat×Operand)):eW P t k fr parts=CT (mU P t) k P fr parts:=rfl
theorem A4 (e sz by_ k:Nat) (parts:List (Nat×Operand)):CT (some (e,sz,by_)) k P fr parts=if parts.length=k∧k*sz≤16777216∧0<sz∧(dy P e).isSome=true then (rowsOf sz fr 0 parts).map fun rs=> .d (.sl rs) else none:=rfl
theorem A5 (sz i:Nat):rowsOf sz fr i []=some []:=rfl
def M8 (l:Option (List D)) (rs:Option (List (List D))) (sz:Nat):Option (List (List D)):=
 match l,rs with
 |some l,some rs=>if l.length=sz then some (l::rs) else none
 |_,_=>none
theorem yu (sz i j:Nat) (x:Operand) (q:List (Nat×Operand)):rowsOf sz fr i ((j,x)::q)=if i=j then M8 (ev fr x).js (rowsOf sz fr (i+1) q) sz else none:=rfl
theorem Hf (sz:Nat) (l:List D) (rs:List (List D)):M8 (some l) (some rs) sz=if l.length=sz then some (l::rs) else none:=rfl
theorem Er (cs:List V):(V.agg cs).cells=some cs:=rfl
theorem Es (k:IntKind) (i:Int):(V.d (.int k i)).cells=some [.d (.int k i)]:=rfl
theorem A6 (b:Bool):(V.d (.bool b)).cells=some [.d (.bool b)]:=rfl
theorem Et (s:List UInt8):(V.d (.str s)).cells=some [.d (.str s)]:=rfl
theorem Hg (s:List (List D)):(V.d (.sl s)).cells=some [.d (.sl s)]:=rfl
theorem A7:(V.bh).cells=some [.bh]:=rfl
theorem Eu (i:Nat) (es:List (List D)):(V.own i es).cells=some [.own i es]:=rfl
theorem Qr (x:D):(V.d x).me=some x:=rfl
theorem Ey (x:V):x.js=x.cells.bind oE:=rfl
theorem Hh:oE []=some []:=rfl
def Qs (x:Option D) (l:Option (List D)):Option (List D):=match x,l with|some x,some l=>some (x::l)|_,_=>none
theorem Ez (x:V) (l:List V):oE (x::l)=Qs x.me (oE l):=rfl
theorem Ky (x:D) (l:List D):Qs (some x) (some l)=some (x::l):=rfl
theorem Hi (l:List D):oE (l.map .d)=some l:=by induction l<;>simp_all [oE,V.me]
theorem wu (k:IntKind) (i:Int):(V.d (.int k i)).one=true:=rfl
theorem r8 (b:Bool):(V.d (.bool b)).one=true:=rfl
theorem wv (s:List UInt8):(V.d (.str s)).one=true:=rfl
theorem A8 (s:List (List D)):(V.d (.sl s)).one=true:=rfl
theorem Hj:V.bh.one=true:=rfl
theorem Kz (i:Nat) (es:List (List D)):(V.own i es).one=true:=rfl
theorem Hl (cs:List V):(V.agg cs).held=(oE cs).map .agg:=rfl
theorem NW (x:D):(V.d x).held=some x:=rfl
theorem KA (x:D):(V.d x).share= .d x:=rfl
theorem A9:V.bh.share= .d (.sl []):=rfl
theorem EA (i:Nat) (es:List (List D)):(V.own i es).share= .d (.sl es):=rfl
theorem EB (b off:Nat):(V.ptr b off).share= .ptr b off:=rfl
theorem EC (f:FuncId) (cap:List V):(V.jE f cap).share= .jE f cap:=rfl
theorem jG (cs:List V):(V.agg cs).share= .agg (V.share.fL cs):=rfl
theorem uQ (cs:List V):(V.cF cs).share= .cF (V.share.fL cs):=rfl
theorem r9:V.share.fL []=[]:=rfl
theorem qt (x:V) (l:List V):V.share.fL (x::l)=x.share::V.share.fL l:=rfl
theorem iM (l:List D):V.share.fL (l.map .d)=l.map .d:=by induction l<;>simp_all [V.share.fL,V.share]
def Ul (f:Option (Nat×Nat×Bool)) (x:V):Option V:=
 match f with
 |some (off,sz,_)=>if sz=0 then none else match x with
  | .ptr k o=>some (.ptr k (o+off))
  | .ep cs o=>some (.ep cs (o+off))
  |_=>none
 |none=>none
theorem pH (t:TypeId) (x:V) (f:Nat):eE P t x f=Ul (k8 P t f) x:=rfl
theorem KB (off sz k i:Nat) (b:Bool):Ul (some (off,sz,b)) (.ptr k i)=if sz=0 then none else some (.ptr k (i+off)):=rfl
theorem NX (off sz i:Nat) (b:Bool) (cs:List D):Ul (some (off,sz,b)) (.ep cs i)=if sz=0 then none else some (.ep cs (i+off)):=rfl
def fX (f:Option (Nat×Nat×Bool)) (x:V):Option V:=
 match f,x with
 |some (off,sz,b),.agg cs=>iL b cs off sz
 |some (off,sz,b),.d (.agg cs)=>iL b (cs.map .d) off sz
 |_,_=>none
theorem wz (t:TypeId) (x:V) (f:Nat):iK P t x f=fX (k8 P t f) x:=by
 unfold iK fX
 cases k8 P t f with
 |none=>cases x<;>rfl
 |some q=>
  obtain ⟨a,b,c⟩:=q
  cases x with
  |d y=>cases y<;>rfl
  |_=>rfl
theorem yw {t e sz by_:Nat} (h:mU P t=some (e,sz,by_)) {x:V} {es:List (List D)} (hx:x.me=some (.sl es)) (k:IntKind) (i:Int):
  cn P t x (.d (.int k i))=if 0≤i∧i.toNat<es.length∧cr sz es=true then some (.ep (es.getD i.toNat []) 0) else none:=by
 simp only [cn,hx,h]
 by_cases h0:0≤i<;>simp [h0]
theorem qU (vs:List V) (i:Nat):ji (.cF vs) i=vs[i]?:=rfl
theorem yx (t:TypeId) (s:List UInt8):gN P t (.d (.str s))=if isStr P t then some (.d (.int .i64 s.length)) else none:=rfl
def yy (s:Option (Nat×Nat×Nat)) (k:Nat):Option V:=match s with|some _=>some (.d (.int .i64 k))|none=>none
theorem Ba (t:TypeId) (es:List (List D)):gN P t (.d (.sl es))=yy (mU P t) es.length:=by simp only [gN,yy,V.me];split<;>split<;>simp_all
theorem oG (t:TypeId):gN P t .bh=yy (mU P t) 0:=by simp only [gN,yy,V.me];split<;>split<;>simp_all
theorem qu (t i:Nat) (es:List (List D)):gN P t (.own i es)=yy (mU P t) es.length:=by simp only [gN,yy,V.me];split<;>split<;>simp_all
theorem ED (q:Nat×Nat×Nat) (k:Nat):yy (some q) k=some (.d (.int .i64 k)):=rfl
variable (k:IntKind) (a b:Int) (t:TypeId)
theorem KC:evalBin P .add t (.d (.int k a)) (.d (.int k b))=some (.d (.int k (k.wrap (a+b)))):=by simp [evalBin,kD]
theorem KD:evalBin P .sub t (.d (.int k a)) (.d (.int k b))=some (.d (.int k (k.wrap (a - b)))):=by simp [evalBin,kD]
theorem KE:evalBin P .mul t (.d (.int k a)) (.d (.int k b))=some (.d (.int k (k.wrap (a*b)))):=by simp [evalBin,kD]
theorem KF:evalBin P .quo t (.d (.int k a)) (.d (.int k b))=if b=0 then none else some (.d (.int k (k.wrap (a.tdiv b)))):=by simp [evalBin,kD];split<;>simp
theorem KG:evalBin P .rem t (.d (.int k a)) (.d (.int k b))=if b=0 then none else some (.d (.int k (a.tmod b))):=by simp [evalBin,kD];split<;>simp
theorem KH:evalBin P .eql t (.d (.int k a)) (.d (.int k b))=some (.d (.bool (a==b))):=by simp [evalBin,kD]
theorem KI:evalBin P .neq t (.d (.int k a)) (.d (.int k b))=some (.d (.bool (a !=b))):=by simp [evalBin,kD]
theorem KJ:evalBin P .lss t (.d (.int k a)) (.d (.int k b))=some (.d (.bool (decide (a<b)))):=by simp [evalBin,kD]
theorem KL:evalBin P .leq t (.d (.int k a)) (.d (.int k b))=some (.d (.bool (decide (a≤b)))):=by simp [evalBin,kD]
theorem KN:evalBin P .gtr t (.d (.int k a)) (.d (.int k b))=some (.d (.bool (decide (a>b)))):=by simp [evalBin,kD]
theorem KO:evalBin P .geq t (.d (.int k a)) (.d (.int k b))=some (.d (.bool (decide (a≥b)))):=by simp [evalBin,kD]
variable (x y:List UInt8)
theorem Ho:evalBin P .add t (.d (.str x)) (.d (.str y))=if ((x.length+y.length:Nat):Int)≤NY then some (.d (.str (x++y))) else none:=by simp only [evalBin,kD];split<;>rfl
theorem Hp:evalBin P .eql t (.d (.str x)) (.d (.str y))=some (.d (.bool (x==y))):=by simp [evalBin,kD]
theorem Hq:evalBin P .neq t (.d (.str x)) (.d (.str y))=some (.d (.bool (!(x==y)))):=by simp [evalBin,kD]
theorem Hr:evalBin P .lss t (.d (.str x)) (.d (.str y))=some (.d (.bool (Op.bytesLess x y))):=by simp [evalBin,kD]
theorem Hs:evalBin P .gtr t (.d (.str x)) (.d (.str y))=some (.d (.bool (!(Op.bytesLess x y||x==y)))):=by simp [evalBin,kD]
theorem bin_beql (p q:Bool):evalBin P .eql t (.d (.bool p)) (.d (.bool q))=if isBool P t then some (.d (.bool (p==q))) else none:=by simp [evalBin]
theorem Ht (p q:Bool):evalBin P .neq t (.d (.bool p)) (.d (.bool q))=if isBool P t then some (.d (.bool (!(p==q)))) else none:=by simp [evalBin]
theorem NZ (p:Bool):r6 .not (.d (.bool p))=some (.d (.bool (!p))):=rfl
def M9 (s d:Option IntKind) (a:Int):Option V:=match s,d with|some _,some k=>some (.d (.int k (k.wrap a)))|_,_=>none
theorem Hu (s u:TypeId):evalConv P s u (.d (.int k a))=M9 (ud P s) (ud P u) a:=rfl
theorem Hv (k k':IntKind):M9 (some k) (some k') a=some (.d (.int k' (k'.wrap a))):=rfl
theorem KQ (s u:TypeId) (es:List (List D)):evalConv P s u (.d (.sl es))=if j8 P s&&isStr P u then (bytesOf es).map fun l=> .d (.str l) else none:=rfl
theorem Bb (dflt:Nat):bound fr dflt none=some dflt:=rfl
def wA:V→Option Nat| .d (.int _ n)=>if 0≤n then some n.toNat else none|_=>none
theorem Bc (dflt:Nat) (z:Operand):bound fr dflt (some z)=wA (ev fr z):=by simp only [bound,wA];split<;>simp_all
def Bd (b:Bool) (l h:Option Nat) (s:List UInt8):Option V:=
 if b then match l,h with
  |some l,some h=>if l≤h∧h≤s.length then some (.d (.str ((s.take h).drop l))) else none
  |_,_=>none
 else none
theorem ue (lo hi:Option Operand):hO P t (.d (.str x)) fr lo hi=Bd (isStr P t) (bound fr 0 lo) (bound fr x.length hi) x:=rfl
def Be (s:Option (Nat×Nat×Nat)) (l h:Option Nat) (es:List (List D)):Option V:=
 match s with
 |some (_,sz,_)=>match l,h with
  |some l,some h=>if l≤h∧h≤es.length∧cr sz es=true then some (.d (.sl ((es.take h).drop l))) else none
  |_,_=>none
 |none=>none
theorem wC (es:List (List D)) (lo hi:Option Operand):hO P t (.d (.sl es)) fr lo hi=Be (mU P t) (bound fr 0 lo) (bound fr es.length hi) es:=by
 simp only [hO,Be,V.me];cases mU P t<;>rfl
def Hw (b:Bool) (s:List UInt8) (st:St):Option (V×St):=if b then some (.ptr st.aj.length 0,⟨st.aj++[.iter s 0],st.toks⟩) else none
theorem uf:mT P t (.d (.str x)) st=Hw (isStr P t) x st:=rfl
theorem EE:Hw true x st=some (.ptr st.aj.length 0,⟨st.aj++[.iter x 0],st.toks⟩):=rfl
def Na (B:Option aJ) (k:Nat) (st:St):Option (V×St):=match B with
 |some (.iter s pos)=>
   if pos<s.length then
    some (.cF [.d (.bool true),.d (.int .i64 pos),.d (.int .i32 (Utf8.decode ⟨s.toArray⟩ pos).1)],⟨st.aj.set k (.iter s (pos+(Utf8.decode ⟨s.toArray⟩ pos).2)),st.toks⟩)
   else some (.cF [.d (.bool false)],st)
 |_=>none
theorem wD (k:Nat):evalNext (.ptr k 0) st=Na st.aj[k]? k st:=rfl
theorem Bf (k pos:Nat):Na (some (.iter x pos)) k st=if pos<x.length then
    some (.cF [.d (.bool true),.d (.int .i64 pos),.d (.int .i32 (Utf8.decode ⟨x.toArray⟩ pos).1)],⟨st.aj.set k (.iter x (pos+(Utf8.decode ⟨x.toArray⟩ pos).2)),st.toks⟩)
   else some (.cF [.d (.bool false)],st):=rfl
end
theorem EF (l:List V) (off:Nat) (x:List V):splice l off x=l.take off++(x++l.drop (off+x.length)):=by simp [splice]
attribute [go_sem] Gu J9 Gv Ka Gw DT DU AH Kb DV DW Kc DX DY AI Gy Gz GB GC DZ Ke D0 D1 AJ AK D2 D3 D4 GF AL GG D6 Kf D7 rZ GI D8 vY D9 GJ yg Kg Ea tZ Eb ua Ec yh Ed GK AM yj GL Ee NH NI Kh NJ Ki Kj Kk Kl Ef Km AN yl Eg GM GO GP GR NK AO GS uc Kn GU ym GY GZ Ei Ej NM NN NO NP G1 Ko Kq Kr AQ NR Ks G2 we G3 wg G4 AR G5 Kt Ek AU NT El Kv Ku NU yp yq Em G6 yt G7 AV AY AZ A0 wm A2 wo En NV Kw Kx G8 wq Eo Ep A3 He oD A4 A5 yu Hf Er Es A6 Et Hg A7 Eu Qr Ey Hh Ez Ky Hi wu r8 wv A8 Hj Kz Hl NW KA A9 EA EB EC jG uQ r9 qt iM pH KB NX wz qU yx Ba oG qu ED KC KD KE KJ KL KN KO Hr Hs bin_beql Ht NZ Hu Hv KQ Bb Bc ue wC uf EE wD Bf EF
section congr
variable {P:Program} {fr fr':Fr}
theorem qv (t:TypeId):∀ (ps:List (Nat×Operand)) (cs:List V),(∀ p∈ps,ev fr p.2=ev fr' p.2)→jN P t fr cs ps=jN P t fr' cs ps
 |[],_,_=>rfl
 |(i,x)::r,cs,h=>by
  have h1:ev fr x=ev fr' x:=h (i,x) (by simp)
  have h2:=fun cs=>qv t r cs fun p hp=>h p (by simp [hp])
  simp only [jN,h1,h2]
theorem oH (sz:Nat):∀ (ps:List (Nat×Operand)) (i:Nat),(∀ p∈ps,ev fr p.2=ev fr' p.2)→rowsOf sz fr i ps=rowsOf sz fr' i ps
 |[],_,_=>rfl
 |(j,x)::r,i,h=>by
  have h1:ev fr x=ev fr' x:=h (j,x) (by simp)
  have h2:=fun i=>oH sz r i fun p hp=>h p (by simp [hp])
  simp only [rowsOf,h1,h2]
theorem qw (dflt:Nat) (o:Option Operand) (h:∀ x∈o,ev fr x=ev fr' x):bound fr dflt o=bound fr' dflt o:=by
 cases o with
 |none=>rfl
 |some x=>simp only [bound,h x rfl]
theorem wE (o:Oper) {st:St} (h:∀ x∈o.op.operands,ev fr x=ev fr' x):evalOp P o fr st=evalOp P o fr' st:=by
 obtain ⟨dst,op,type,pos,after,guard⟩:=o
 cases op<;>simp only [Op.operands] at h<;>simp only [evalOp]
 case build t ps=>
  simp only [jF,qv (P:=P) (fr:=fr) (fr':=fr') t ps.toList _ (fun p hp=>h p.2 (by simp;exact ⟨p.1,by simpa using hp⟩))]
 case buildSlice t n ps=>
  simp only [eW,oH (fr:=fr) (fr':=fr') _ ps.toList _ (fun p hp=>h p.2 (by simp;exact ⟨p.1,by simpa using hp⟩))]
 case makeFunc fn first captured=>
  have:captured.toList.map (ev fr)=captured.toList.map (ev fr'):=List.map_congr_left fun x hx=>h x (by simp at hx;simp [hx])
  cases fn<;>simp only [this]
 case slice t x lo hi mx=>
  have hx:=h x (by simp)
  have hlo:=fun d=>qw (fr:=fr) (fr':=fr') d lo fun y hy=>h y (by simp at hy;simp [hy])
  have hhi:=fun d=>qw (fr:=fr) (fr':=fr') d hi fun y hy=>h y (by simp at hy;simp [hy])
  cases mx<;>simp only [hO,hx,hlo,hhi]
 case call c=>
  obtain ⟨callee,args,ats⟩:=c
  have:args.toList.map (ev fr)=args.toList.map (ev fr'):=List.map_congr_left fun x hx=>h x (by simp at hx;simp [Call.operands,hx])
  cases callee<;>simp only [this]
 case next x b=>cases b<;>simp_all
 case makeMap t r=>cases r<;>rfl
 case pick c a b=>simp only [h c (by simp),h a (by simp),h b (by simp)]
 all_goals (first|rfl|(simp_all;done))
end congr
def eu:Op→Bool
 | .move _| .assign _| .pick .. | .build .. | .buildSlice .. | .nilCheck _| .binOp .. | .unOp .. | .convert .. | .makeInterface .. | .makeFunc .. | .slice .. | .fieldAddr .. | .field .. | .indexAddr .. | .index .. | .extract .. | .typeAssert .. =>true
 | .call { callee:= .builtin .len,.. }| .call { callee:= .builtin .max,.. }| .call { callee:= .builtin .min,.. }=>true
 |_=>false
theorem jj {α β:Type} {o:Option α} {s s':β} {v:α} (h:o.map (·,s)=some (v,s')):s'=s∧o=some v:=by
 cases o<;>simp_all
theorem wF {P:Program} {o:Oper} {fr:Fr} {st st':St} {v:V} (hq:eu o.op=true) (h:evalOp P o fr st=some (v,st')):
  st'=st∧∀ gD,evalOp P o fr gD=some (v,gD):=by
 obtain ⟨dst,op,type,pos,after,guard⟩:=o
 cases op<;>simp only [eu,aay] at hq<;>simp only [evalOp] at h ⊢
 case call c=>
  obtain ⟨callee,args,ats⟩:=c
  cases callee with
  |builtin b=>
   cases b<;>simp at hq<;>simp only [dP] at h ⊢ <;>
   ·split at h<;>first
     |(obtain ⟨rfl,h2⟩:=jj h;exact ⟨rfl,fun gD=>by simp_all⟩)
     |simp_all
  |_=>simp at hq
 case nilCheck x=>split at h<;>simp_all
 case pick a b c=>split at h<;>simp_all
 case makeFunc fn first captured=>cases fn<;>simp_all
 case slice t x lo hi mx=>
  cases mx with
  |none=>obtain ⟨rfl,h2⟩:=jj h;exact ⟨rfl,fun gD=>by simp only [];rw [h2];rfl⟩
  |some z=>simp at h
 case binOp op t x y u=>
  rw [wG] at h
  obtain ⟨rfl,h2⟩:=jj h
  exact ⟨rfl,fun gD=>by rw [wG,h2];rfl⟩
 case makeInterface t x=>
  split at h<;>simp_all
  obtain ⟨y,h1,h2⟩:=h
  simp_all
 all_goals first
  |(obtain ⟨rfl,h2⟩:=jj h;exact ⟨rfl,fun gD=>by rw [h2];rfl⟩)
  |(simp_all;done)
section
variable {P:Program} {G:World→Nat→Prop} {n:iw}
inductive cL (P:Program) (G:World→Nat→Prop) (n:iw) (all:Array Oper) (o:Oper) (fr:Fr) (st:St):V→St→Prop
 |op (v:V) (st':St):goes all o fr=some true→evalOp P o fr st=some (v,st')→fC n o.dst=true→cL P G n all o fr st v st'
 |skip:goes all o fr=some false→fC n o.dst=true→cL P G n all o fr st (.cF []) st
 |call (v:V) (st':St) (g:FuncId) (cap:List V) (x:Operand) (args:Array Operand) (ats:Array TypeId):goes all o fr=some true→
   o.op= .call { callee:= .value x,args:=args,argTypes:=ats }→ev fr x= .jE g cap→(∀ args w,(callFunc g args).run P w= .ok (.enter g args) w)→fC n o.dst=true→
   aa P G g (args.toList.map (fun o=>(ev fr o).share)++cap) st (fun q s=>q= .ret v∧s=st')→cL P G n all o fr st v st'
theorem sg {all:Array Oper} {o:Oper} {fr fr':Fr} (h:∀ t∈o.looksAt all,fr t=fr' t):goes all o fr=goes all o fr':=by
 unfold goes
 cases hg:o.guard with
 |none=>rfl
 |some p=>
  obtain ⟨j,b⟩:=p
  simp only
  cases hd:(all[j]?).bind (·.dst) with
  |none=>rfl
  |some d=>
   have:fr d=fr' d:=h d (by simp [Oper.looksAt,hg,hd])
   simp only [this]
theorem yB {all:Array Oper} {o:Oper} {fr fr':Fr} (h:∀ t∈o.looksAt all,fr t=fr' t):∀ x∈o.op.operands,ev fr x=ev fr' x:=by
 intro x hx
 cases x with
 |tmp t=>exact h t (by unfold Oper.looksAt;exact List.mem_append_left _ (List.mem_filterMap.2 ⟨.tmp t,by simpa using hx,rfl⟩))
 |_=>rfl
theorem cL.congr {all:Array Oper} {o:Oper} {fr fr':Fr} {st st':St} {v:V} (hs:cL P G n all o fr st v st') (h:∀ t∈o.looksAt all,fr t=fr' t):cL P G n all o fr' st v st':=by
 have hg:=sg h
 have he:=yB h
 cases hs with
 |op _ _ h1 h2 h3=>exact .op _ _ (hg▸h1) (by rw [←wE o he];exact h2) h3
 |skip h1 h2=>exact .skip (hg▸h1) h2
 |call _ _ g cap x args ats h1 h2 h3 h4 h5 h6=>
  have hx:=he x (by rw [h2];simp [Op.operands,Call.operands])
  have ha:args.toList.map (fun o=>(ev fr o).share)=args.toList.map (fun o=>(ev fr' o).share):=List.map_congr_left fun y hy=>by
   rw [he y (by rw [h2];simp at hy;simp [Op.operands,Call.operands,hy])]
  exact .call _ _ g cap x args ats (hg▸h1) h2 (hx▸h3) h4 h5 (ha▸h6)
theorem cL.quiet {all:Array Oper} {o:Oper} {fr:Fr} {st st':St} {v:V} (hs:cL P G n all o fr st v st') (hq:eu o.op=true):st'=st∧∀ gD,cL P G n all o fr gD v gD:=by
 cases hs with
 |op _ _ h1 h2 h3=>
  obtain ⟨h4,h5⟩:=wF hq h2
  exact ⟨h4,fun gD=> .op _ _ h1 (h5 gD) h3⟩
 |skip h1 h2=>exact ⟨rfl,fun gD=> .skip h1 h2⟩
 |call _ _ g cap x args ats h1 h2 h3 h4 h5 h6=>rw [h2] at hq;simp [eu] at hq
theorem uS {c:Ctx} {a:Act} {fr:Fr} {args:Array Operand} {arr:Array Value} {cap:List V} (hf:cC c a.tmps fr) (hcr:∀ i,i<cap.length→Rel c (arr.getD i undef) (cap.getD i .aU)):
  ∀ i,i< (args.toList.map (fun o=>(ev fr o).share)++cap).length→Rel c ((args.map a.eval++arr).getD i undef) ((args.toList.map (fun o=>(ev fr o).share)++cap).getD i .aU):=by
 intro i hi
 simp only [aak,aaN,aaE] at hi
 by_cases hlt:i<args.size
 ·rw [show (args.map a.eval++arr).getD i undef=a.eval args[i] by
   simp [aar,Array.getElem?_append,hlt]]
  rw [show (args.toList.map (fun o=>(ev fr o).share)++cap).getD i .aU=(ev fr args[i]).share by
   simp [aaj,List.getElem?_append,hlt]]
  exact (bJ hf _).share
 ·rw [show (args.map a.eval++arr).getD i undef=arr.getD (i - args.size) undef by
   simp [aar,Array.getElem?_append,hlt]]
  rw [show (args.toList.map (fun o=>(ev fr o).share)++cap).getD i .aU=cap.getD (i - args.size) .aU by
   simp [aaj,List.getElem?_append,hlt]]
  exact hcr _ (by omega)
theorem wH {ops:Array Oper} {Q:Exit→Act→World→Prop} {i:Nat} {o:Oper} (ho:ops[i]?=some o) {c:Ctx} {a:Act} {w:World} {fr:Fr} {st st':St} {v:V} {K:Act→World→Prop}
  (hc:bf c w st) (hG:G c.w0 c.base) (hf:cC c a.tmps fr) (hs:a.tmps.size=n.sz) (hdf:a.defers=n.ds) (h:cL P G n ops o fr st v st')
  (hK:∀ c' a' w',Ext c c'→bf c' w' st'→cC c' a'.tmps (eC fr o.dst v)→a'.tmps.size=n.sz→a'.defers=n.ds→K a' w'):wpOp P ops Q i K a w:=by
 unfold wpOp
 simp only [ho]
 cases h with
 |op _ _ hg he hd=>
  obtain ⟨cv,w',c',hr,hv,hc',hext⟩:=oz (P:=P) hc o hf he
  rw [if_pos (ZC hf hg)]
  refine .inl ?_
  have hk:K (a.put o.dst cv) w':=hK c' _ w' hext hc' ((hf.mono hext).eC hs hd hv) ((iy _ _ _).trans hs) ((put_defers _ _ _).trans hdf)
  unfold Oper.wp
  rcases hr with hr|⟨hr,rfl⟩<;>rw [hr]<;>exact hk
 |skip hg hd=>
  rw [if_neg (by rw [ZC hf hg];simp)]
  exact hK c _ w (Ext.refl c) hc (hf.eC hs hd .Uk) ((iy _ _ _).trans hs) ((put_defers _ _ _).trans hdf)
 |call _ _ g cap x args ats hg ho2 hx hcall hd hA=>
  obtain ⟨dst,op,type,pos,after,guard⟩:=o
  simp only at ho2
  subst ho2
  have hxr:=bJ hf x
  rw [hx] at hxr
  generalize hq:a.eval x=q at hxr
  cases hxr with|jE _ arr _ hcs hcr=>?_
  rw [if_pos (ZC hf hg)]
  refine .inl ?_
  unfold Oper.wp
  have hexec:(execOp a.eval { dst:=dst,op:= .call { callee:= .value x,args:=args,argTypes:=ats },type:=type,pos:=pos,after:=after,guard:=guard }).run P w= .ok (.enter g (args.map a.eval++arr)) w:=by
   simp only [execOp,resolve,hq,Deferred.ofValue,Sem.run_bind,Sem.run_pure,Result.andThen_ok,invoke,hcall]
   simp
  rw [hexec,Oper.upon_enter]
  refine (hA c w (args.map a.eval++arr) hc hG (by simp [hcs]) (uS hf hcr)).mono ?_
  rintro e w' ⟨out,s1,c',⟨rfl,rfl⟩,hext,hc',hend⟩
  cases e<;>simp only [gT] at hend
  exact hK c' _ w' hext hc' ((hf.mono hext).eC hs hd hend) ((iy _ _ _).trans hs) ((put_defers _ _ _).trans hdf)
end
end Go.Abs
