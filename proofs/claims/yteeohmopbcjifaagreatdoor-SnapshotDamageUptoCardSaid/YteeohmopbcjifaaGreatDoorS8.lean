import Derived.Test.YteeohmopbcjifaaGreatDoorS7
set_option linter.unusedSimpArgs false
set_option linter.unusedVariables false
namespace Go.Abs
open Go.RowKit
def bP:Op→Bool
 | .call { callee:= .value _,.. }=>true
 | .call { callee:= .invoke ..,.. }=>true
 | .panic _=>true
 |_=>false
def ask (res:List Nat):Option (Nat×Bool)→Bool
 |none=>true
 |some (j,_)=>res.contains j
def cJ (P:Program) (n:NDs) (all:Array Oper) (res:List Nat):List Oper→Fr→St→Option (List Oper×Fr×St)
 |[],fr,st=>some ([],fr,st)
 |o::r,fr,st=>
  if ask res o.guard then
   match goes all o fr with
   |some true=>if bP o.op then some (o::r,fr,st) else match evalOp P o fr st with
    |some (v,st')=>if fC n o.dst then cJ P n all res r (eC fr o.dst v) st' else none
    |none=>none
   |some false=>if fC n o.dst then cJ P n all res r (eC fr o.dst (.cF [])) st else none
   |none=>none
  else some (o::r,fr,st)
section
variable {P:Program} {G:World→Nat→Prop} {n:NDs} {aC:St} {Q:AX→Fr→St→Prop}
theorem OW.run {all:Array Oper} {res:List Nat}:∀ {l:List Oper} {fr:Fr} {st:St} {rest:List Oper} {fr':Fr} {st':St},cJ P n all res l fr st=some (rest,fr',st')→OW P G n aC all Q rest fr' st'→OW P G n aC all Q l fr st
 |[],fr,st,rest,fr',st',h,k=>by
  simp only [cJ,aaJ,aaZ] at h
  obtain ⟨rfl,rfl,rfl⟩:=h
  exact k
 |o::r,fr,st,rest,fr',st',h,k=>by
  simp only [cJ] at h
  split at h
  ·split at h
   ·rename_i hg
    split at h
    ·simp only [aaJ,aaZ] at h
     obtain ⟨rfl,rfl,rfl⟩:=h
     exact k
    ·split at h
     ·rename_i v gD he
      split at h
      ·rename_i hd
       exact OW.op hg he hd (OW.run h k)
      ·simp at h
     ·simp at h
   ·rename_i hg
    split at h
    ·rename_i hd
     exact OW.skip hg hd (OW.run h k)
    ·simp at h
   ·simp at h
  ·simp only [aaJ,aaZ] at h
   obtain ⟨rfl,rfl,rfl⟩:=h
   exact k
end
def Gt (P:Program) (n:NDs) (all:Array Oper) (res:List Nat) (k:Bool) (g:Option Bool) (e:Bool) (o:Oper) (r:List Oper) (fr:Fr) (st:St):Option (List Oper×Fr×St):=
 if k then
  match g with
  |some true=>if e then some (o::r,fr,st) else match evalOp P o fr st with
   |some (v,st')=>if fC n o.dst then cJ P n all res r (eC fr o.dst v) st' else none
   |none=>none
  |some false=>if fC n o.dst then cJ P n all res r (eC fr o.dst (.cF [])) st else none
  |none=>none
 else some (o::r,fr,st)
def Qo (P:Program) (n:NDs) (all:Array Oper) (res:List Nat) (x:Option (V×St)) (ok:Bool) (d:Option Tmp) (r:List Oper) (fr:Fr):Option (List Oper×Fr×St):=
 match x with
 |some (v,st')=>if ok then cJ P n all res r (eC fr d v) st' else none
 |none=>none
def Qp (P:Program) (n:NDs) (all:Array Oper) (res:List Nat) (ok:Bool) (d:Option Tmp) (r:List Oper) (fr:Fr) (st:St):Option (List Oper×Fr×St):=
 if ok then cJ P n all res r (eC fr d (.cF [])) st else none
section
variable (P:Program) (n:NDs) (all:Array Oper) (res:List Nat) (o:Oper) (r:List Oper) (fr:Fr) (st:St) (d:Option Tmp) (v:V) (ty:TypeId) (pos:String) (af:Array Edge) (gd:Option (Nat×Bool))
theorem Gu:cJ P n all res [] fr st=some ([],fr,st):=(rfl)
def Qq (res:List Nat) (o:Oper):Bool:=ask res o.guard
theorem J9 (op:Op):Qq res ⟨d,op,ty,pos,af,gd⟩=ask res gd:=(rfl)
theorem Gv:ask res none=true:=(rfl)
theorem Ka (j:Nat) (b:Bool):ask [] (some (j,b))=false:=(rfl)
theorem Gw (k j:Nat) (b:Bool):ask (k::res) (some (j,b))=(j==k||ask res (some (j,b))):=List.contains_cons
theorem DT:cJ P n all res (o::r) fr st=Gt P n all res (Qq res o) (goes all o fr) (bP o.op) o r fr st:=(rfl)
theorem DU (g:Option Bool) (e:Bool):Gt P n all res false g e o r fr st=some (o::r,fr,st):=(rfl)
theorem AH:Gt P n all res true (some true) true o r fr st=some (o::r,fr,st):=(rfl)
theorem Kb:Gt P n all res true (some true) false o r fr st=Qo P n all res (evalOp P o fr st) (fC n o.dst) o.dst r fr:=(rfl)
theorem DV (e:Bool):Gt P n all res true (some false) e o r fr st=Qp P n all res (fC n o.dst) o.dst r fr st:=(rfl)
theorem DW:Qo P n all res (some (v,st)) true d r fr=cJ P n all res r (eC fr d v) st:=(rfl)
theorem Kc:Qp P n all res true d r fr st=cJ P n all res r (eC fr d (.cF [])) st:=(rfl)
theorem DX (op:Op):goes all ⟨d,op,ty,pos,af,none⟩ fr=some true:=(rfl)
def qs:V→Bool→Option Bool
 | .d (.bool t),b=>some (t==b)
 | .cF [],_=>some false
 |_,_=>none
def Gx (d:Option Tmp) (fr:Fr) (b:Bool):Option Bool:=match d with|some t=>qs (fr t) b|none=>none
theorem DY (op:Op) (j:Nat) (b:Bool):goes all ⟨d,op,ty,pos,af,some (j,b)⟩ fr=Gx ((all[j]?).bind (·.dst)) fr b:=by
 simp only [goes,Gx]
 cases ((all[j]?).bind (·.dst)) with
 |none=>rfl
 |some q=>
  simp only [qs]
  cases fr q with
  |d y=>cases y<;>rfl
  |cF l=>cases l<;>rfl
  |_=>rfl
theorem Gy:qs (.d (.bool true)) true=some true:=(rfl)
theorem Gz:qs (.d (.bool true)) false=some false:=(rfl)
theorem GB:qs (.d (.bool false)) true=some false:=(rfl)
theorem GC:qs (.d (.bool false)) false=some true:=(rfl)
theorem DZ (b:Bool):qs (.cF []) b=some false:=(rfl)
theorem AI (t:Tmp) (b:Bool):Gx (some t) fr b=qs (fr t) b:=(rfl)
theorem Ke (i:Nat) (j:Nat):upd fr i v j=if j=i then v else fr j:=(rfl)
theorem D0 (i:Nat):eC fr (some i) v=upd fr i v:=(rfl)
theorem D1:eC fr none v=fr:=(rfl)
theorem AJ (k i:Nat) (ds:List Deferred):fC ⟨k,ds⟩ (some i)=decide (i<k):=(rfl)
theorem AK (n:NDs):fC n none=true:=(rfl)
theorem D2 (l:List V):dr (v::l) 0=v:=(rfl)
theorem D3 (l:List V):dr (v::l) 1=dr l 0:=(rfl)
theorem D4 (l:List V):dr (v::l) 2=dr l 1:=(rfl)
theorem GF (x):bP (.move x)=false:=(rfl)
theorem AL (x):bP (.assign x)=false:=(rfl)
theorem GG (x y z):bP (.pick x y z)=false:=(rfl)
theorem D6 (x):bP (.alloc x)=false:=(rfl)
theorem Kf (x y):bP (.box x y)=false:=(rfl)
theorem D7 (x y):bP (.build x y)=false:=(rfl)
theorem rZ (x y z):bP (.buildSlice x y z)=false:=(rfl)
theorem GI (x y):bP (.load x y)=false:=(rfl)
theorem D8 (x y z):bP (.store x y z)=false:=(rfl)
theorem vY (x):bP (.nilCheck x)=false:=(rfl)
theorem D9 (a b c d e):bP (.binOp a b c d e)=false:=(rfl)
theorem GJ (a b c):bP (.unOp a b c)=false:=(rfl)
theorem yg (a b c):bP (.convert a b c)=false:=(rfl)
theorem Kg (a b):bP (.makeInterface a b)=false:=(rfl)
theorem ent_mkF (a b c):bP (.makeFunc a b c)=false:=(rfl)
theorem Ea (a b c d e):bP (.slice a b c d e)=false:=(rfl)
theorem tZ (a b c):bP (.fieldAddr a b c)=false:=(rfl)
theorem Eb (a b c):bP (.field a b c)=false:=(rfl)
theorem ua (a b c):bP (.indexAddr a b c)=false:=(rfl)
theorem Ec (a b c):bP (.index a b c)=false:=(rfl)
theorem yh (a b):bP (.extract a b)=false:=(rfl)
theorem Ed (a b):bP (.range a b)=false:=(rfl)
theorem GK (a b):bP (.next a b)=false:=(rfl)
theorem AM (a b c d):bP (.typeAssert a b c d)=false:=(rfl)
theorem yj (b a t):bP (.call ⟨.builtin b,a,t⟩)=false:=(rfl)
theorem GL (f a t):bP (.call ⟨.value f,a,t⟩)=true:=(rfl)
theorem Ee (x):bP (.panic x)=true:=(rfl)
theorem NH (t:Tmp):ev fr (.tmp t)=fr t:=(rfl)
theorem NI (k:IntKind) (i:Int):ev fr (.const (.int k i))= .d (.int k i):=(rfl)
theorem Kh (b:Bool):ev fr (.const (.bool b))= .d (.bool b):=(rfl)
theorem NJ (s:ByteArray):ev fr (.const (.string s))= .d (.str s.data.toList):=(rfl)
theorem ev_nilp:ev fr (.const (.pointer none))= .d .eX:=(rfl)
theorem Ki:ev fr (.const (.slice none 0 0))= .bh:=(rfl)
theorem Kj:ev fr (.const .nilIface)= .d .fD:=(rfl)
theorem Kk (f:FuncId):ev fr (.func f)= .jE f []:=(rfl)
theorem Kl (x):evalOp P ⟨d,.move x,ty,pos,af,gd⟩ fr st=some (ev fr x,st):=(rfl)
theorem Ef (x):evalOp P ⟨d,.assign x,ty,pos,af,gd⟩ fr st=some (ev fr x,st):=(rfl)
def uP:V→V→V→St→Option (V×St)
 | .d (.bool t),x,y,st=>some (if t then x else y,st)
 |_,_,_,_=>none
theorem Km (c a b):evalOp P ⟨d,.pick c a b,ty,pos,af,gd⟩ fr st=uP (ev fr c) (ev fr a) (ev fr b) st:=by
 simp only [evalOp,uP]
 split<;>simp_all
theorem AN (x y:V):uP (.d (.bool true)) x y st=some (x,st):=(rfl)
theorem yl (x y:V):uP (.d (.bool false)) x y st=some (y,st):=(rfl)
theorem Eg (t b:Bool):uP (.d (.bool t)) (.d (.bool b)) (.d (.bool false)) st=some (.d (.bool (t&&b)),st):=by cases t<;>rfl
theorem pickX_or (t b:Bool):uP (.d (.bool t)) (.d (.bool true)) (.d (.bool b)) st=some (.d (.bool (t||b)),st):=by cases t<;>rfl
def GN:Option (List V)→St→Option (V×St)
 |some cs,st=>some (Ly st (.cells cs))
 |none,_=>none
def v7 (b:Bool) (e:TypeId):Option (List V)→St→Option (V×St)
 |some cs,st=>some (Ly st (if b=true then .tc e cs else .cells cs))
 |none,_=>none
theorem GO (e):evalOp P ⟨d,.alloc e,ty,pos,af,gd⟩ fr st=v7 (Eh P e) e (L2 P e) st:=by simp only [evalOp,v7,v8];split<;>simp_all
theorem GP (e:TypeId) (cs:List V):v7 false e (some cs) st=some (.ptr st.aj.length 0,⟨st.aj++[.cells cs],st.toks⟩):=(rfl)
theorem GR (e:TypeId) (cs:List V):v7 true e (some cs) st=some (.ptr st.aj.length 0,⟨st.aj++[.tc e cs],st.toks⟩):=(rfl)
theorem NK (e x):evalOp P ⟨d,.box e x,ty,pos,af,gd⟩ fr st=GN (ev fr x).cells st:=by simp only [evalOp,GN];split<;>simp_all
theorem AO (cs:List V):GN (some cs) st=some (.ptr st.aj.length 0,⟨st.aj++[.cells cs],st.toks⟩):=(rfl)
theorem GS (t parts):evalOp P ⟨d,.build t parts,ty,pos,af,gd⟩ fr st=(jF P t fr parts.toList).map (·,st):=(rfl)
theorem uc (t k parts):evalOp P ⟨d,.buildSlice t k parts,ty,pos,af,gd⟩ fr st=(eW P t k fr parts.toList).map (·,st):=(rfl)
theorem Kn (t a):evalOp P ⟨d,.load t a,ty,pos,af,gd⟩ fr st=(bn P t (ev fr a) st).map (·,st):=(rfl)
theorem GU (t a x):evalOp P ⟨d,.store t a x,ty,pos,af,gd⟩ fr st=(iJ P t (ev fr a) (ev fr x) st).map (.aU,·):=(rfl)
def NL:V→St→Option (V×St)
 | .ptr b off,st=>some (.ptr b off,st)
 | .ep cs off,st=>some (.ep cs off,st)
 | .jE f cap,st=>some (.jE f cap,st)
 |_,_=>none
theorem ym (x):evalOp P ⟨d,.nilCheck x,ty,pos,af,gd⟩ fr st=NL (ev fr x) st:=by simp only [evalOp,NL];split<;>simp_all
theorem GY (b off:Nat):NL (.ptr b off) st=some (.ptr b off,st):=(rfl)
theorem nilC_ep (cs:List D) (off:Nat):NL (.ep cs off) st=some (.ep cs off,st):=(rfl)
theorem GZ (op t x y u):evalOp P ⟨d,.binOp op t x y u,ty,pos,af,gd⟩ fr st=G0 (evalBin P op t (ev fr x) (ev fr y)) (kZ P op t (mc x||mc y) (ev fr x) (ev fr y)) st:=(rfl)
theorem Ei (z:V) (b:Option V):G0 (some z) b st=some (z,st):=(rfl)
theorem Ej (z:V):G0 none (some z) st=some (z,st):=(rfl)
theorem NM (op t):evalBin P op t (.d .nz) (.d .fD)=none:=by cases op<;>rfl
theorem NN (op t):evalBin P op t (.d .fD) (.d .fD)=none:=by cases op<;>rfl
theorem NO (op t k):kZ P op t k (.d .nz) (.d .fD)=AP op (isIface P t) true false:=(rfl)
theorem NP (op t k):kZ P op t k (.d .fD) (.d .fD)=AP op (isIface P t) k true:=(rfl)
theorem G1 (b:Bool):AP .eql (some true) true b=some (.d (.bool b)):=(rfl)
theorem Ko (v:Value):mc (.const v)=true:=(rfl)
theorem Kq (i:Nat):mc (.tmp i)=false:=(rfl)
theorem Kr (op t x):evalOp P ⟨d,.unOp op t x,ty,pos,af,gd⟩ fr st=(evalUn op (ev fr x)).map (·,st):=(rfl)
theorem AQ (s t x):evalOp P ⟨d,.convert s t x,ty,pos,af,gd⟩ fr st=(evalConv P s t (ev fr x)).map (·,st):=(rfl)
def NQ (b:Option Bool) (t:TypeId) (x:Option D) (st:St):Option (V×St):=
 match b,x with
 |some false,some y=>some (.d (.iface t y),st)
 |_,_=>none
theorem NR (t x):evalOp P ⟨d,.makeInterface t x,ty,pos,af,gd⟩ fr st=NQ (isIface P t) t (ev fr x).held st:=by
 simp only [evalOp,NQ]
 split
 ·rename_i h;rw [h];cases (ev fr x).held<;>rfl
 ·rename_i h;split<;>simp_all
theorem Ks (t:TypeId) (y:D):NQ (some false) t (some y) st=some (.d (.iface t y),st):=(rfl)
theorem eo_mkF (f c):evalOp P ⟨d,.makeFunc (.func f) #[] c,ty,pos,af,gd⟩ fr st=some (.jE f (c.toList.map (ev fr)),st):=(rfl)
theorem G2 (t x lo hi):evalOp P ⟨d,.slice t x lo hi none,ty,pos,af,gd⟩ fr st=(hO P t (ev fr x) fr lo hi).map (·,st):=(rfl)
theorem we (t x f):evalOp P ⟨d,.fieldAddr t x f,ty,pos,af,gd⟩ fr st=(eE P t (ev fr x) f).map (·,st):=(rfl)
theorem G3 (t x f):evalOp P ⟨d,.field t x f,ty,pos,af,gd⟩ fr st=(iK P t (ev fr x) f).map (·,st):=(rfl)
theorem wg (t x i):evalOp P ⟨d,.indexAddr t x i,ty,pos,af,gd⟩ fr st=(gl P t (ev fr x) (ev fr i)).map (·,st):=(rfl)
theorem G4 (t x i):evalOp P ⟨d,.index t x i,ty,pos,af,gd⟩ fr st=(kC P t (ev fr x) (ev fr i)).map (·,st):=(rfl)
theorem AR (x i):evalOp P ⟨d,.extract x i,ty,pos,af,gd⟩ fr st=(ji (ev fr x) i).map (·,st):=(rfl)
theorem G5 (t x):evalOp P ⟨d,.range t x,ty,pos,af,gd⟩ fr st=mT P t (ev fr x) st:=(rfl)
theorem Kt (x):evalOp P ⟨d,.next x true,ty,pos,af,gd⟩ fr st=evalNext (ev fr x) st:=(rfl)
theorem Ek (x t u ok):evalOp P ⟨d,.typeAssert x t u ok,ty,pos,af,gd⟩ fr st=(evalAssert P (ev fr x) u ok).map (·,st):=(rfl)
theorem AU (b a t):evalOp P ⟨d,.call ⟨.builtin b,a,t⟩,ty,pos,af,gd⟩ fr st=dP P b t.toList (a.toList.map (ev fr)) st:=(rfl)
theorem NT (t:TypeId) (x:V):dP P .len [t] [x] st=(gN P t x).map (·,st):=(rfl)
theorem eb_append (t:TypeId) (s x:V):dP P .append [t,t] [s,x] st=fu P t s x st:=by simp [dP]
theorem NU (t u:TypeId) (x y:V):dP P .max [t,u] [x,y] st=(oC x y).map (·,st):=(rfl)
theorem eb_min (t u:TypeId) (x y:V):dP P .min [t,u] [x,y] st=(DI x y).map (·,st):=(rfl)
theorem yp (k:IntKind) (a b:Int):oC (.d (.int k a)) (.d (.int k b))=some (.d (.int k (if b>a then b else a))):=by simp [oC]
theorem evalMin_int (k:IntKind) (a b:Int):DI (.d (.int k a)) (.d (.int k b))=some (.d (.int k (if b<a then b else a))):=by simp [DI]
def CR (b:Option Bool) (sz:Option Nat) (a:V) (st:St):Option V:=
 match b,sz with
 |some b,some sz=>match a with
  | .ptr k off=>match (st.aj[k]?).bind aJ.row with
   |some cs=>iL b cs off sz
   |none=>none
  | .ep cs off=>pG b cs off sz
  |_=>none
 |_,_=>none
def CS (b:Bool) (sz:Nat) (B:Option aJ) (off:Nat):Option V:=match B.bind aJ.row with|some cs=>iL b cs off sz|none=>none
theorem yq (t:TypeId) (a:V):bn P t a st=CR (dx P t) (ef P t) a st:=(rfl)
theorem Em (b:Bool) (sz k off:Nat):CR (some b) (some sz) (.ptr k off) st=CS b sz st.aj[k]? off:=by
 simp only [CR,CS]
theorem G6 (b:Bool) (sz:Nat) (cs:List D) (off:Nat):CR (some b) (some sz) (.ep cs off) st=pG b cs off sz:=(rfl)
theorem yt (b:Bool) (sz:Nat) (cs:List V) (off:Nat):CS b sz (some (.cells cs)) off=iL b cs off sz:=(rfl)
theorem G7 (b:Bool) (sz e:Nat) (cs:List V) (off:Nat):CS b sz (some (.tc e cs)) off=iL b cs off sz:=(rfl)
theorem AV (cs:List V) (off sz:Nat):iL false cs off sz=cs[off]?:=(rfl)
theorem AY (cs:List V) (off sz:Nat):iL true cs off sz=if off+sz≤cs.length then some (.agg ((cs.drop off).take sz)) else none:=(rfl)
theorem AZ (cs:List D) (off sz:Nat):pG false cs off sz=(cs[off]?).map .d:=(rfl)
theorem A0 (cs:List D) (off sz:Nat):pG true cs off sz=if off+sz≤cs.length then some (.agg (((cs.drop off).take sz).map .d)) else none:=(rfl)
def A1 (a:V) (sz:Option Nat) (l:Option (List V)) (st:St):Option St:=
 match a,sz,l with
 | .ptr k off,some sz,some l=>
  if l.length=sz∧l.all (·.one)=true then match st.aj[k]? with
   |some B=>putBlk B k off sz l st
   |none=>none
  else none
 |_,_,_=>none
def wj (B:Option aJ) (k off sz:Nat) (l:List V) (st:St):Option St:=match B with
 |some B=>putBlk B k off sz l st
 |none=>none
theorem wm (t:TypeId) (a x:V):iJ P t a x st=A1 a (ef P t) x.cells st:=(rfl)
theorem A2 (k off sz:Nat) (l:List V):A1 (.ptr k off) (some sz) (some l) st=if l.length=sz∧l.all (·.one)=true then wj st.aj[k]? k off sz l st else none:=by
 simp only [A1,wj]
theorem wo (k off sz:Nat) (cs l:List V):wj (some (.cells cs)) k off sz l st=if off+sz≤cs.length then some ⟨st.aj.set k (.cells (splice cs off l)),st.toks⟩ else none:=(rfl)
theorem En (k off sz e:Nat) (cs l:List V):wj (some (.tc e cs)) k off sz l st=if off+sz≤cs.length then some ⟨st.aj.set k (.tc e (splice cs off l)),st.toks⟩ else none:=(rfl)
theorem NV (l r:List aJ) (j:Nat):(l++r)[l.length+j]?=r[j]?:=by rw [aaO (by omega)];congr 1;omega
theorem Kw (l r:List aJ):(l++r)[l.length]?=r[0]?:=by rw [aaO (by omega)];congr 1;omega
theorem Kx (l r:List aJ) (j:Nat) (B:aJ):(l++r).set (l.length+j) B=l++r.set j B:=by
 rw [abf _ _ (by omega)];congr 2;omega
theorem G8 (l r:List aJ) (B:aJ):(l++r).set l.length B=l++r.set 0 B:=by
 rw [abf _ _ (by omega)];congr 2;omega
def G9 (b:Bool) (cs:Option (List V)) (P:Program) (t:TypeId) (fr:Fr) (parts:List (Nat×Operand)):Option V:=
 if b then match cs with
  |some cs=>(jN P t fr cs parts).map .agg
  |none=>none
 else none
theorem wq (t:TypeId) (parts:List (Nat×Operand)):jF P t fr parts=G9 (isStruct P t) (L2 P t) P t fr parts:=(rfl)
theorem Eo (t:TypeId) (cs:List V) (parts:List (Nat×Operand)):G9 true (some cs) P t fr parts=(jN P t fr cs parts).map .agg:=(rfl)
theorem Ep (t:TypeId) (cs:List V):jN P t fr cs []=some cs:=(rfl)
def M7 (f:Option (Nat×Nat×Bool)) (l:Option (List V)) (P:Program) (t:TypeId) (fr:Fr) (cs:List V) (r:List (Nat×Operand)):Option (List V):=
 match f,l with
 |some (off,sz,_),some l=>if l.length=sz∧off+l.length≤cs.length then jN P t fr (splice cs off l) r else none
 |_,_=>none
theorem A3 (t:TypeId) (cs:List V) (i:Nat) (x:Operand) (q:List (Nat×Operand)):jN P t fr cs ((i,x)::q)=M7 (k8 P t i) (ev fr x).cells P t fr cs q:=(rfl)
theorem He (t:TypeId) (cs l:List V) (off sz:Nat) (b:Bool) (q:List (Nat×Operand)):M7 (some (off,sz,b)) (some l) P t fr cs q=if l.length=sz∧off+l.length≤cs.length then jN P t fr (splice cs off l) q else none:=(rfl)
def CT (s:Option (Nat×Nat×Nat)) (k:Nat) (P:Program) (fr:Fr) (parts:List (Nat×Operand)):Option V:=
 match s with
 |some (e,sz,_)=>if parts.length=k∧k*sz≤16777216∧0<sz∧(dy P e).isSome=true then (rowsOf sz fr 0 parts).map fun rs=> .d (.sl rs) else none
 |none=>none
theorem oD (t k:Nat) (parts:List (Nat×Operand)):eW P t k fr parts=CT (mU P t) k P fr parts:=(rfl)
theorem A4 (e sz by_ k:Nat) (parts:List (Nat×Operand)):CT (some (e,sz,by_)) k P fr parts=if parts.length=k∧k*sz≤16777216∧0<sz∧(dy P e).isSome=true then (rowsOf sz fr 0 parts).map fun rs=> .d (.sl rs) else none:=(rfl)
theorem A5 (sz i:Nat):rowsOf sz fr i []=some []:=(rfl)
def M8 (l:Option (List D)) (rs:Option (List (List D))) (sz:Nat):Option (List (List D)):=
 match l,rs with
 |some l,some rs=>if l.length=sz then some (l::rs) else none
 |_,_=>none
theorem yu (sz i j:Nat) (x:Operand) (q:List (Nat×Operand)):rowsOf sz fr i ((j,x)::q)=if i=j then M8 (ev fr x).js (rowsOf sz fr (i+1) q) sz else none:=(rfl)
theorem Hf (sz:Nat) (l:List D) (rs:List (List D)):M8 (some l) (some rs) sz=if l.length=sz then some (l::rs) else none:=(rfl)
theorem Er (cs:List V):(V.agg cs).cells=some cs:=(rfl)
theorem Es (k:IntKind) (i:Int):(V.d (.int k i)).cells=some [.d (.int k i)]:=(rfl)
theorem A6 (b:Bool):(V.d (.bool b)).cells=some [.d (.bool b)]:=(rfl)
theorem Et (s:List UInt8):(V.d (.str s)).cells=some [.d (.str s)]:=(rfl)
theorem Hg (s:List (List D)):(V.d (.sl s)).cells=some [.d (.sl s)]:=(rfl)
theorem cells_nilp:(V.d .eX).cells=some [.d .eX]:=(rfl)
theorem A7:(V.bh).cells=some [.bh]:=(rfl)
theorem Eu (i:Nat) (es:List (List D)):(V.own i es).cells=some [.own i es]:=(rfl)
theorem cells_clo (f:FuncId) (cap:List V):(V.jE f cap).cells=some [.jE f cap]:=(rfl)
theorem Qr (x:D):(V.d x).me=some x:=(rfl)
theorem toD_nils:V.bh.me=some (.sl []):=(rfl)
theorem toD_own (i:Nat) (es:List (List D)):(V.own i es).me=some (.sl es):=(rfl)
theorem Ey (x:V):x.js=x.cells.bind oE:=(rfl)
theorem Hh:oE []=some []:=(rfl)
def Qs (x:Option D) (l:Option (List D)):Option (List D):=match x,l with|some x,some l=>some (x::l)|_,_=>none
theorem Ez (x:V) (l:List V):oE (x::l)=Qs x.me (oE l):=(rfl)
theorem Ky (x:D) (l:List D):Qs (some x) (some l)=some (x::l):=(rfl)
theorem Hi (l:List D):oE (l.map .d)=some l:=by induction l<;>simp_all [oE,V.me]
theorem wu (k:IntKind) (i:Int):(V.d (.int k i)).one=true:=(rfl)
theorem one_bool (b:Bool):(V.d (.bool b)).one=true:=(rfl)
theorem wv (s:List UInt8):(V.d (.str s)).one=true:=(rfl)
theorem A8 (s:List (List D)):(V.d (.sl s)).one=true:=(rfl)
theorem one_nilp:(V.d .eX).one=true:=(rfl)
theorem Hj:V.bh.one=true:=(rfl)
theorem Kz (i:Nat) (es:List (List D)):(V.own i es).one=true:=(rfl)
theorem Hl (cs:List V):(V.agg cs).held=(oE cs).map .agg:=(rfl)
theorem NW (x:D):(V.d x).held=some x:=(rfl)
theorem KA (x:D):(V.d x).share= .d x:=(rfl)
theorem A9:V.bh.share= .d (.sl []):=(rfl)
theorem EA (i:Nat) (es:List (List D)):(V.own i es).share= .d (.sl es):=(rfl)
theorem EB (b off:Nat):(V.ptr b off).share= .ptr b off:=(rfl)
theorem share_ep (cs:List D) (off:Nat):(V.ep cs off).share= .ep cs off:=(rfl)
theorem EC (f:FuncId) (cap:List V):(V.jE f cap).share= .jE f cap:=(rfl)
theorem jG (cs:List V):(V.agg cs).share= .agg (V.share.fL cs):=(rfl)
theorem uQ (cs:List V):(V.cF cs).share= .cF (V.share.fL cs):=(rfl)
theorem shareL_nil:V.share.fL []=[]:=(rfl)
theorem qt (x:V) (l:List V):V.share.fL (x::l)=x.share::V.share.fL l:=(rfl)
theorem iM (l:List D):V.share.fL (l.map .d)=l.map .d:=by induction l<;>simp_all [V.share.fL,V.share]
def Ul (f:Option (Nat×Nat×Bool)) (x:V):Option V:=
 match f with
 |some (off,sz,_)=>if sz=0 then none else match x with
  | .ptr k o=>some (.ptr k (o+off))
  | .ep cs o=>some (.ep cs (o+off))
  |_=>none
 |none=>none
theorem pH (t:TypeId) (x:V) (f:Nat):eE P t x f=Ul (k8 P t f) x:=(rfl)
theorem KB (off sz k i:Nat) (b:Bool):Ul (some (off,sz,b)) (.ptr k i)=if sz=0 then none else some (.ptr k (i+off)):=(rfl)
theorem NX (off sz i:Nat) (b:Bool) (cs:List D):Ul (some (off,sz,b)) (.ep cs i)=if sz=0 then none else some (.ep cs (i+off)):=(rfl)
def fX (f:Option (Nat×Nat×Bool)) (x:V):Option V:=
 match f,x with
 |some (off,sz,b),.agg cs=>iL b cs off sz
 |some (off,sz,b),.d (.agg cs)=>iL b (cs.map .d) off sz
 |_,_=>none
theorem wz (t:TypeId) (x:V) (f:Nat):iK P t x f=fX (k8 P t f) x:=by
 unfold iK fX
 cases k8 P t f with
 |none=>cases x<;>rfl
 |some q=>
  obtain ⟨a,b,c⟩:=q
  cases x with
  |d y=>cases y<;>rfl
  |_=>rfl
theorem yw {t e sz by_:Nat} (h:mU P t=some (e,sz,by_)) {x:V} {es:List (List D)} (hx:x.me=some (.sl es)) (k:IntKind) (i:Int):
  gl P t x (.d (.int k i))=if 0≤i∧i.toNat<es.length∧cr sz es=true then some (.ep (es.getD i.toNat []) 0) else none:=by
 simp only [gl,hx,h]
 by_cases h0:0≤i<;>simp [h0]
theorem qU (vs:List V) (i:Nat):ji (.cF vs) i=vs[i]?:=(rfl)
theorem yx (t:TypeId) (s:List UInt8):gN P t (.d (.str s))=if isStr P t then some (.d (.int .i64 s.length)) else none:=(rfl)
def yy (s:Option (Nat×Nat×Nat)) (k:Nat):Option V:=match s with|some _=>some (.d (.int .i64 k))|none=>none
theorem Ba (t:TypeId) (es:List (List D)):gN P t (.d (.sl es))=yy (mU P t) es.length:=by simp only [gN,yy,V.me];split<;>split<;>simp_all
theorem oG (t:TypeId):gN P t .bh=yy (mU P t) 0:=by simp only [gN,yy,V.me];split<;>split<;>simp_all
theorem qu (t i:Nat) (es:List (List D)):gN P t (.own i es)=yy (mU P t) es.length:=by simp only [gN,yy,V.me];split<;>split<;>simp_all
theorem ED (q:Nat×Nat×Nat) (k:Nat):yy (some q) k=some (.d (.int .i64 k)):=(rfl)
variable (k:IntKind) (a b:Int) (t:TypeId)
theorem KC:evalBin P .add t (.d (.int k a)) (.d (.int k b))=some (.d (.int k (k.wrap (a+b)))):=by simp [evalBin,kD]
theorem KD:evalBin P .sub t (.d (.int k a)) (.d (.int k b))=some (.d (.int k (k.wrap (a - b)))):=by simp [evalBin,kD]
theorem KE:evalBin P .mul t (.d (.int k a)) (.d (.int k b))=some (.d (.int k (k.wrap (a*b)))):=by simp [evalBin,kD]
theorem KF:evalBin P .quo t (.d (.int k a)) (.d (.int k b))=if b=0 then none else some (.d (.int k (k.wrap (a.tdiv b)))):=by simp [evalBin,kD];split<;>simp
theorem KG:evalBin P .rem t (.d (.int k a)) (.d (.int k b))=if b=0 then none else some (.d (.int k (a.tmod b))):=by simp [evalBin,kD];split<;>simp
theorem KH:evalBin P .eql t (.d (.int k a)) (.d (.int k b))=some (.d (.bool (a==b))):=by simp [evalBin,kD]
theorem KI:evalBin P .neq t (.d (.int k a)) (.d (.int k b))=some (.d (.bool (a !=b))):=by simp [evalBin,kD]
theorem KJ:evalBin P .lss t (.d (.int k a)) (.d (.int k b))=some (.d (.bool (decide (a<b)))):=by simp [evalBin,kD]
theorem KL:evalBin P .leq t (.d (.int k a)) (.d (.int k b))=some (.d (.bool (decide (a≤b)))):=by simp [evalBin,kD]
theorem KN:evalBin P .gtr t (.d (.int k a)) (.d (.int k b))=some (.d (.bool (decide (a>b)))):=by simp [evalBin,kD]
theorem KO:evalBin P .geq t (.d (.int k a)) (.d (.int k b))=some (.d (.bool (decide (a≥b)))):=by simp [evalBin,kD]
variable (x y:List UInt8)
theorem Hp:evalBin P .eql t (.d (.str x)) (.d (.str y))=some (.d (.bool (x==y))):=by simp [evalBin,kD]
theorem Hq:evalBin P .neq t (.d (.str x)) (.d (.str y))=some (.d (.bool (!(x==y)))):=by simp [evalBin,kD]
theorem Hr:evalBin P .lss t (.d (.str x)) (.d (.str y))=some (.d (.bool (Op.bytesLess x y))):=by simp [evalBin,kD]
theorem Hs:evalBin P .gtr t (.d (.str x)) (.d (.str y))=some (.d (.bool (!(Op.bytesLess x y||x==y)))):=by simp [evalBin,kD]
theorem NZ (p:Bool):evalUn .not (.d (.bool p))=some (.d (.bool (!p))):=(rfl)
theorem bin_and:evalBin P .and t (.d (.int k a)) (.d (.int k b))=some (.d (.int k (aaG .and k a b))):=by simp [evalBin,kD]
theorem bin_or:evalBin P .or t (.d (.int k a)) (.d (.int k b))=some (.d (.int k (aaG .or k a b))):=by simp [evalBin,kD]
theorem bin_xor:evalBin P .xor t (.d (.int k a)) (.d (.int k b))=some (.d (.int k (aaG .xor k a b))):=by simp [evalBin,kD]
theorem bin_andNot:evalBin P .andNot t (.d (.int k a)) (.d (.int k b))=some (.d (.int k (aaG .andNot k a b))):=by simp [evalBin,kD]
theorem bin_shl {k':IntKind}:evalBin P .shl t (.d (.int k a)) (.d (.int k' b))=if b<0 then none else some (.d (.int k (shlI k a b))):=by simp [evalBin,kD];split<;>simp
theorem bin_shr {k':IntKind}:evalBin P .shr t (.d (.int k a)) (.d (.int k' b))=if b<0 then none else some (.d (.int k (shrI k a b))):=by simp [evalBin,kD];split<;>simp
theorem un_xor:evalUn .xor (.d (.int k a))=some (.d (.int k (aaG .xor k (if k.signed then -1 else k.max) a))):=(rfl)
theorem un_neg:evalUn .neg (.d (.int k a))=some (.d (.int k (k.wrap (0 - a)))):=(rfl)
def M9 (s d:Option IntKind) (a:Int):Option V:=match s,d with|some _,some k=>some (.d (.int k (k.wrap a)))|_,_=>none
theorem Hu (s u:TypeId):evalConv P s u (.d (.int k a))=M9 (ud P s) (ud P u) a:=(rfl)
theorem Hv (k k':IntKind):M9 (some k) (some k') a=some (.d (.int k' (k'.wrap a))):=(rfl)
theorem conv_str (s u:TypeId):evalConv P s u (.d (.str x))=if isStr P s&&isStr P u then some (.d (.str x)) else none:=(rfl)
theorem KQ (s u:TypeId) (es:List (List D)):evalConv P s u (.d (.sl es))=if isBytes P s&&isStr P u then (bytesOf es).map fun l=> .d (.str l) else none:=(rfl)
theorem Bb (dflt:Nat):bound fr dflt none=some dflt:=(rfl)
def wA:V→Option Nat| .d (.int _ n)=>if 0≤n then some n.toNat else none|_=>none
theorem Bc (dflt:Nat) (z:Operand):bound fr dflt (some z)=wA (ev fr z):=by simp only [bound,wA];split<;>simp_all
def Bd (b:Bool) (l h:Option Nat) (s:List UInt8):Option V:=
 if b then match l,h with
  |some l,some h=>if l≤h∧h≤s.length then some (.d (.str ((s.take h).drop l))) else none
  |_,_=>none
 else none
theorem ue (lo hi:Option Operand):hO P t (.d (.str x)) fr lo hi=Bd (isStr P t) (bound fr 0 lo) (bound fr x.length hi) x:=(rfl)
def Be (s:Option (Nat×Nat×Nat)) (l h:Option Nat) (es:List (List D)):Option V:=
 match s with
 |some (_,sz,_)=>match l,h with
  |some l,some h=>if l≤h∧h≤es.length∧cr sz es=true then some (.d (.sl ((es.take h).drop l))) else none
  |_,_=>none
 |none=>none
theorem wC (es:List (List D)) (lo hi:Option Operand):hO P t (.d (.sl es)) fr lo hi=Be (mU P t) (bound fr 0 lo) (bound fr es.length hi) es:=by
 simp only [hO,Be,V.me];cases mU P t<;>rfl
def Hw (b:Bool) (s:List UInt8) (st:St):Option (V×St):=if b then some (.ptr st.aj.length 0,⟨st.aj++[.iter s 0],st.toks⟩) else none
theorem uf:mT P t (.d (.str x)) st=Hw (isStr P t) x st:=(rfl)
theorem EE:Hw true x st=some (.ptr st.aj.length 0,⟨st.aj++[.iter x 0],st.toks⟩):=(rfl)
def Na (B:Option aJ) (k:Nat) (st:St):Option (V×St):=match B with
 |some (.iter s pos)=>
   if pos<s.length then
    some (.cF [.d (.bool true),.d (.int .i64 pos),.d (.int .i32 (Utf8.decode ⟨s.toArray⟩ pos).1)],⟨st.aj.set k (.iter s (pos+(Utf8.decode ⟨s.toArray⟩ pos).2)),st.toks⟩)
   else some (.cF [.d (.bool false)],st)
 |_=>none
theorem wD (k:Nat):evalNext (.ptr k 0) st=Na st.aj[k]? k st:=(rfl)
theorem Bf (k pos:Nat):Na (some (.iter x pos)) k st=if pos<x.length then
    some (.cF [.d (.bool true),.d (.int .i64 pos),.d (.int .i32 (Utf8.decode ⟨x.toArray⟩ pos).1)],⟨st.aj.set k (.iter x (pos+(Utf8.decode ⟨x.toArray⟩ pos).2)),st.toks⟩)
   else some (.cF [.d (.bool false)],st):=rfl
end
theorem EF (l:List V) (off:Nat) (x:List V):splice l off x=l.take off++(x++l.drop (off+x.length)):=by simp [splice]
attribute [go_sem] Gu J9 Gv Ka Gw DT DU AH Kb DV DW Kc DX DY AI Gy Gz GB GC DZ Ke D0 D1 AJ AK D2 D3 D4 GF AL GG D6 Kf D7 rZ GI D8 vY D9 GJ yg Kg ent_mkF Ea tZ Eb ua Ec yh Ed GK AM yj GL Ee NH NI Kh NJ ev_nilp Ki Kj Kk Kl Ef Km AN yl Eg pickX_or GO GP GR NK AO GS uc Kn GU ym GY nilC_ep GZ Ei Ej NM NN NO NP G1 Ko Kq Kr AQ NR Ks eo_mkF G2 we G3 wg G4 AR G5 Kt Ek AU NT eb_append NU eb_min yp evalMin_int yq Em G6 yt G7 AV AY AZ A0 wm A2 wo En NV Kw Kx G8 wq Eo Ep A3 He oD A4 A5 yu Hf Er Es A6 Et Hg cells_nilp A7 Eu cells_clo Qr toD_nils toD_own Ey Hh Ez Ky Hi wu one_bool wv A8 one_nilp Hj Kz Hl NW KA A9 EA EB share_ep EC jG uQ shareL_nil qt iM pH KB NX wz qU yx Ba oG qu ED KC KD KE KJ KL KN KO Hr Hs bin_and bin_or bin_xor bin_andNot un_xor NZ un_neg Hu Hv conv_str KQ Bb Bc ue wC uf EE wD Bf EF
section congr
variable {P:Program} {fr fr':Fr}
theorem fillV_congr (t:TypeId):∀ (ps:List (Nat×Operand)) (cs:List V),(∀ p∈ps,ev fr p.2=ev fr' p.2)→jN P t fr cs ps=jN P t fr' cs ps
 |[],_,_=>rfl
 |(i,x)::r,cs,h=>by
  have h1:ev fr x=ev fr' x:=h (i,x) (by simp)
  have h2:=fun cs=>fillV_congr t r cs fun p hp=>h p (by simp [hp])
  simp only [jN,h1,h2]
theorem oH (sz:Nat):∀ (ps:List (Nat×Operand)) (i:Nat),(∀ p∈ps,ev fr p.2=ev fr' p.2)→rowsOf sz fr i ps=rowsOf sz fr' i ps
 |[],_,_=>rfl
 |(j,x)::r,i,h=>by
  have h1:ev fr x=ev fr' x:=h (j,x) (by simp)
  have h2:=fun i=>oH sz r i fun p hp=>h p (by simp [hp])
  simp only [rowsOf,h1,h2]
theorem qw (dflt:Nat) (o:Option Operand) (h:∀ x∈o,ev fr x=ev fr' x):bound fr dflt o=bound fr' dflt o:=by
 cases o with
 |none=>rfl
 |some x=>simp only [bound,h x rfl]
theorem wE (o:Oper) {st:St} (h:∀ x∈o.op.operands,ev fr x=ev fr' x):evalOp P o fr st=evalOp P o fr' st:=by
 obtain ⟨dst,op,type,pos,after,guard⟩:=o
 cases op<;>simp only [Op.operands] at h<;>simp only [evalOp]
 case build t ps=>
  simp only [jF,fillV_congr (P:=P) (fr:=fr) (fr':=fr') t ps.toList _ (fun p hp=>h p.2 (by simp;exact ⟨p.1,by simpa using hp⟩))]
 case buildSlice t n ps=>
  simp only [eW,oH (fr:=fr) (fr':=fr') _ ps.toList _ (fun p hp=>h p.2 (by simp;exact ⟨p.1,by simpa using hp⟩))]
 case makeFunc fn first captured=>
  have:captured.toList.map (ev fr)=captured.toList.map (ev fr'):=List.map_congr_left fun x hx=>h x (by simp at hx;simp [hx])
  cases fn<;>simp only [this]
 case slice t x lo hi mx=>
  have hx:=h x (by simp)
  have hlo:=fun d=>qw (fr:=fr) (fr':=fr') d lo fun y hy=>h y (by simp at hy;simp [hy])
  have hhi:=fun d=>qw (fr:=fr) (fr':=fr') d hi fun y hy=>h y (by simp at hy;simp [hy])
  cases mx<;>simp only [hO,hx,hlo,hhi]
 case call c=>
  obtain ⟨callee,args,ats⟩:=c
  have:args.toList.map (ev fr)=args.toList.map (ev fr'):=List.map_congr_left fun x hx=>h x (by simp at hx;simp [Call.operands,hx])
  cases callee<;>simp only [this]
 case next x b=>cases b<;>simp_all
 case makeMap t r=>cases r<;>rfl
 case pick c a b=>simp only [h c (by simp),h a (by simp),h b (by simp)]
 all_goals (first|rfl|(simp_all;done))
end congr
def eu:Op→Bool
 | .move _| .assign _| .pick .. | .build .. | .buildSlice .. | .nilCheck _| .binOp .. | .unOp .. | .convert .. | .makeInterface .. | .makeFunc .. | .slice .. | .fieldAddr .. | .field .. | .indexAddr .. | .index .. | .extract .. | .typeAssert .. =>true
 | .call { callee:= .builtin .len,.. }| .call { callee:= .builtin .max,.. }| .call { callee:= .builtin .min,.. }=>true
 |_=>false
theorem jj {α β:Type} {o:Option α} {s s':β} {v:α} (h:o.map (·,s)=some (v,s')):s'=s∧o=some v:=by
 cases o<;>simp_all
theorem wF {P:Program} {o:Oper} {fr:Fr} {st st':St} {v:V} (hq:eu o.op=true) (h:evalOp P o fr st=some (v,st')):
  st'=st∧∀ gD,evalOp P o fr gD=some (v,gD):=by
 obtain ⟨dst,op,type,pos,after,guard⟩:=o
 cases op<;>simp only [eu,abh] at hq<;>simp only [evalOp] at h ⊢
 case call c=>
  obtain ⟨callee,args,ats⟩:=c
  cases callee with
  |builtin b=>
   cases b<;>simp at hq<;>simp only [dP] at h ⊢ <;>
   ·split at h<;>first
     |(obtain ⟨rfl,h2⟩:=jj h;exact ⟨rfl,fun gD=>by simp_all⟩)
     |simp_all
  |_=>simp at hq
 case nilCheck x=>split at h<;>simp_all
 case pick a b c=>split at h<;>simp_all
 case makeFunc fn first captured=>cases fn<;>simp_all
 case slice t x lo hi mx=>
  cases mx with
  |none=>obtain ⟨rfl,h2⟩:=jj h;exact ⟨rfl,fun gD=>by simp only [];rw [h2];rfl⟩
  |some z=>simp at h
 case binOp op t x y u=>
  rw [wG] at h
  obtain ⟨rfl,h2⟩:=jj h
  exact ⟨rfl,fun gD=>by rw [wG,h2];rfl⟩
 case makeInterface t x=>
  split at h<;>simp_all
  obtain ⟨y,h1,h2⟩:=h
  simp_all
 all_goals first
  |(obtain ⟨rfl,h2⟩:=jj h;exact ⟨rfl,fun gD=>by rw [h2];rfl⟩)
  |(simp_all;done)
section
variable {P:Program} {G:World→Nat→Prop} {n:NDs}
inductive cL (P:Program) (G:World→Nat→Prop) (n:NDs) (all:Array Oper) (o:Oper) (fr:Fr) (st:St):V→St→Prop
 |op (v:V) (st':St):goes all o fr=some true→evalOp P o fr st=some (v,st')→fC n o.dst=true→cL P G n all o fr st v st'
 |skip:goes all o fr=some false→fC n o.dst=true→cL P G n all o fr st (.cF []) st
 |call (v:V) (st':St) (g:FuncId) (cap:List V) (x:Operand) (args:Array Operand) (ats:Array TypeId):goes all o fr=some true→
   o.op= .call { callee:= .value x,args:=args,argTypes:=ats }→ev fr x= .jE g cap→(∀ args w,(callFunc g args).run P w= .ok (.enter g args) w)→fC n o.dst=true→
   aa P G g (args.toList.map (fun o=>(ev fr o).share)++cap) st (fun q s=>q= .ret v∧s=st')→cL P G n all o fr st v st'
theorem sg {all:Array Oper} {o:Oper} {fr fr':Fr} (h:∀ t∈o.looksAt all,fr t=fr' t):goes all o fr=goes all o fr':=by
 unfold goes
 cases hg:o.guard with
 |none=>rfl
 |some p=>
  obtain ⟨j,b⟩:=p
  simp only
  cases hd:(all[j]?).bind (·.dst) with
  |none=>rfl
  |some d=>
   have:fr d=fr' d:=h d (by simp [Oper.looksAt,hg,hd])
   simp only [this]
theorem yB {all:Array Oper} {o:Oper} {fr fr':Fr} (h:∀ t∈o.looksAt all,fr t=fr' t):∀ x∈o.op.operands,ev fr x=ev fr' x:=by
 intro x hx
 cases x with
 |tmp t=>exact h t (by unfold Oper.looksAt;exact List.mem_append_left _ (List.mem_filterMap.2 ⟨.tmp t,by simpa using hx,rfl⟩))
 |_=>rfl
theorem cL.congr {all:Array Oper} {o:Oper} {fr fr':Fr} {st st':St} {v:V} (hs:cL P G n all o fr st v st') (h:∀ t∈o.looksAt all,fr t=fr' t):cL P G n all o fr' st v st':=by
 have hg:=sg h
 have he:=yB h
 cases hs with
 |op _ _ h1 h2 h3=>exact .op _ _ (hg▸h1) (by rw [←wE o he];exact h2) h3
 |skip h1 h2=>exact .skip (hg▸h1) h2
 |call _ _ g cap x args ats h1 h2 h3 h4 h5 h6=>
  have hx:=he x (by rw [h2];simp [Op.operands,Call.operands])
  have ha:args.toList.map (fun o=>(ev fr o).share)=args.toList.map (fun o=>(ev fr' o).share):=List.map_congr_left fun y hy=>by
   rw [he y (by rw [h2];simp at hy;simp [Op.operands,Call.operands,hy])]
  exact .call _ _ g cap x args ats (hg▸h1) h2 (hx▸h3) h4 h5 (ha▸h6)
theorem cL.quiet {all:Array Oper} {o:Oper} {fr:Fr} {st st':St} {v:V} (hs:cL P G n all o fr st v st') (hq:eu o.op=true):st'=st∧∀ gD,cL P G n all o fr gD v gD:=by
 cases hs with
 |op _ _ h1 h2 h3=>
  obtain ⟨h4,h5⟩:=wF hq h2
  exact ⟨h4,fun gD=> .op _ _ h1 (h5 gD) h3⟩
 |skip h1 h2=>exact ⟨rfl,fun gD=> .skip h1 h2⟩
 |call _ _ g cap x args ats h1 h2 h3 h4 h5 h6=>rw [h2] at hq;simp [eu] at hq
theorem uS {c:Ctx} {a:Act} {fr:Fr} {args:Array Operand} {arr:Array Value} {cap:List V} (hf:cC c a.tmps fr) (hcr:∀ i,i<cap.length→Rel c (arr.getD i undef) (cap.getD i .aU)):
  ∀ i,i< (args.toList.map (fun o=>(ev fr o).share)++cap).length→Rel c ((args.map a.eval++arr).getD i undef) ((args.toList.map (fun o=>(ev fr o).share)++cap).getD i .aU):=by
 intro i hi
 simp only [aaQ,aa9,abd] at hi
 by_cases hlt:i<args.size
 ·rw [show (args.map a.eval++arr).getD i undef=a.eval args[i] by
   simp [aaR,ab1,hlt]]
  rw [show (args.toList.map (fun o=>(ev fr o).share)++cap).getD i .aU=(ev fr args[i]).share by
   simp [aaK,List.getElem?_append,hlt]]
  exact (bJ hf _).share
 ·rw [show (args.map a.eval++arr).getD i undef=arr.getD (i - args.size) undef by
   simp [aaR,ab1,hlt]]
  rw [show (args.toList.map (fun o=>(ev fr o).share)++cap).getD i .aU=cap.getD (i - args.size) .aU by
   simp [aaK,List.getElem?_append,hlt]]
  exact hcr _ (by omega)
theorem wH {ops:Array Oper} {Q:Exit→Act→World→Prop} {i:Nat} {o:Oper} (ho:ops[i]?=some o) {c:Ctx} {a:Act} {w:World} {fr:Fr} {st st':St} {v:V} {K:Act→World→Prop}
  (hc:bf c w st) (hG:G c.w0 c.base) (hf:cC c a.tmps fr) (hs:a.tmps.size=n.sz) (hdf:a.defers=n.ds) (h:cL P G n ops o fr st v st')
  (hK:∀ c' a' w',Ext c c'→bf c' w' st'→cC c' a'.tmps (eC fr o.dst v)→a'.tmps.size=n.sz→a'.defers=n.ds→K a' w'):wpOp P ops Q i K a w:=by
 unfold wpOp
 simp only [ho]
 cases h with
 |op _ _ hg he hd=>
  obtain ⟨cv,w',c',hr,hv,hc',hext⟩:=oz (P:=P) hc o hf he
  rw [if_pos (ZC hf hg)]
  refine .inl ?_
  have hk:K (a.put o.dst cv) w':=hK c' _ w' hext hc' ((hf.mono hext).eC hs hd hv) ((iy _ _ _).trans hs) ((put_defers _ _ _).trans hdf)
  unfold Oper.wp
  rcases hr with hr|⟨hr,rfl⟩<;>rw [hr]<;>exact hk
 |skip hg hd=>
  rw [if_neg (by rw [ZC hf hg];simp)]
  exact hK c _ w (Ext.refl c) hc (hf.eC hs hd .Uk) ((iy _ _ _).trans hs) ((put_defers _ _ _).trans hdf)
 |call _ _ g cap x args ats hg ho2 hx hcall hd hA=>
  obtain ⟨dst,op,type,pos,after,guard⟩:=o
  simp only at ho2
  subst ho2
  have hxr:=bJ hf x
  rw [hx] at hxr
  generalize hq:a.eval x=q at hxr
  cases hxr with|jE _ arr _ hcs hcr=>?_
  rw [if_pos (ZC hf hg)]
  refine .inl ?_
  unfold Oper.wp
  have hexec:(execOp a.eval { dst:=dst,op:= .call { callee:= .value x,args:=args,argTypes:=ats },type:=type,pos:=pos,after:=after,guard:=guard }).run P w= .ok (.enter g (args.map a.eval++arr)) w:=by
   simp only [execOp,resolve,hq,Deferred.ofValue,Sem.run_bind,Sem.run_pure,Result.andThen_ok,invoke,hcall]
   simp
  rw [hexec,Oper.upon_enter]
  refine (hA c w (args.map a.eval++arr) hc hG (by simp [hcs]) (uS hf hcr)).mono ?_
  rintro e w' ⟨out,s1,c',⟨rfl,rfl⟩,hext,hc',hend⟩
  cases e<;>simp only [gT] at hend
  exact hK c' _ w' hext hc' ((hf.mono hext).eC hs hd hend) ((iy _ _ _).trans hs) ((put_defers _ _ _).trans hdf)
end
inductive rz (l:List Oper):Nat→Nat→Prop
 |one (j:Nat) (o:Oper) (e:Edge):l[j]?=some o→e∈o.after→Region.binds .any e=true→rz l e.on j
 |step (i j:Nat) (o:Oper) (e:Edge):l[j]?=some o→e∈o.after→Region.binds .any e=true→rz l i e.on→rz l i j
def CU (acc:List Nat):List Edge→Nat→Nat
 |[],s=>s
 |e::r,s=>CU acc r (if Region.binds .any e then s|||2^e.on|||acc.getD e.on 0 else s)
def masks:List Oper→List Nat→List Nat
 |[],acc=>acc
 |o::r,acc=>masks r (acc++[CU acc o.after.toList 0])
theorem si {acc:List Nat} {i:Nat}:∀ (es:List Edge) (s:Nat),(CU acc es s).testBit i=true→
  s.testBit i=true∨∃ e∈es,Region.binds .any e=true∧(i=e.on∨(acc.getD e.on 0).testBit i=true)
 |[],s,h=> .inl h
 |e::r,s,h=>by
  simp only [CU] at h
  rcases si r _ h with h1|⟨e',he,hb,h2⟩
  ·split at h1
   ·rename_i hb
    simp only [Nat.testBit_or,abo,Nat.testBit_two_pow,aaS] at h1
    rcases h1 with (h1|h1)|h1
    ·exact .inl h1
    ·exact .inr ⟨e,by simp,hb,.inl h1.symm⟩
    ·exact .inr ⟨e,by simp,hb,.inr h1⟩
   ·exact .inl h1
  ·exact .inr ⟨e',by simp [he],hb,h2⟩
theorem nX (l:List Oper):∀ (r:List Oper) (acc:List Nat),(∀ j o,r[j]?=some o→l[acc.length+j]?=some o)→
  (∀ i j,(acc.getD j 0).testBit i=true→rz l i j)→∀ i j,((masks r acc).getD j 0).testBit i=true→rz l i j
 |[],acc,_,h,i,j,hb=>h i j hb
 |o::r,acc,hl,h,i,j,hb=>by
  refine nX l r _ (fun j' o' hj=>?_) (fun i j h1=>?_) i j hb
  ·have:=hl (j'+1) o' (by simpa using hj)
   rw [aaQ,abg]
   rwa [show acc.length+1+j'=acc.length+(j'+1) by omega]
  ·have hlo:l[acc.length]?=some o:=hl 0 o rfl
   by_cases hlt:j<acc.length
   ·rw [aaK,aaU hlt,←aaK] at h1
    exact h i j h1
   ·by_cases heq:j=acc.length
    ·subst heq
     simp only [aaK,aaO (aaP _),Nat.sub_self,abZ,abu] at h1
     rcases si _ _ h1 with h2|⟨e,he,hbe,h2|h2⟩
     ·simp at h2
     ·subst h2
      exact .one _ o e hlo (by simpa using he) hbe
     ·exact .step _ _ o e hlo (by simpa using he) hbe (h _ _ h2)
    ·rw [aaK,List.getElem?_eq_none (by simp;omega)] at h1
     simp at h1
def iO (l:List Oper) (t:Nat):Option Nat:=l.findIdx? (fun o=>o.dst==some t)
def bp (muts:List Nat) (i:Nat) (o:Oper):Nat:=
 if muts.contains i then 2 else if eu o.op then 0 else match o.op with
  | .load .. =>1
  | .lookup .. =>1
  | .call { callee:= .value _,.. }=>1
  |_=>2
def oI (l:List Oper) (muts:List Nat) (ex:List (Nat×Nat)) (fs:List Nat) (m:Nat):Bool:=
 let b:=masks l []
 let F9 (i j:Nat):Bool:=(b.getD j 0).testBit i
 let is:=l.zipIdx
 is.all fun (o,j)=>
  (match o.op with| .select .. =>false|_=>true)&&
  (o.after.all fun e=> !Region.binds .any e||decide (e.on<j))&&
  (match o.dst with|none=>true|some d=>iO l d==some j)&&
  ((o.looksAt l.toArray).all fun t=>match iO l t with|none=>true|some i=>i==j||(decide (i<j)&&F9 i j)||(decide (j<i)&&F9 j i))&&
  (decide (j≤m)||F9 m j||(bp muts j o==0&&fs.contains j))&&
  (decide (m<j)||bp muts j o==0||is.all fun (o',i)=>bp muts i o' !=2||i==j||(decide (i<j)&&F9 i j)||(decide (j<i)&&F9 j i)||
   (bp muts j o==1&&ex.any fun (j',hi)=>j'==j&&decide (i<hi)))&&
  (ex.all fun p=>decide (p.1≤p.2))
def fM (l:List Oper) (muts:List Nat) (ex:List (Nat×Nat)) (m:Nat):Bool:=oI l muts ex [] m
section
variable {P:Program} {G:World→Nat→Prop} {n:NDs}
def valOf (l:List Oper) (fr0:Fr) (vs:Nat→V) (L:Nat→Bool):Fr:=fun t=>match iO l t with
 |some i=>if L i then vs i else fr0 t
 |none=>fr0 t
theorem fE {l:List Oper} {t i:Nat} (h:iO l t=some i):∃ o,l[i]?=some o∧o.dst=some t:=by
 obtain ⟨hi,h1,_⟩:=List.findIdx?_eq_some_iff_getElem.1 h
 exact ⟨l[i],by simp [hi],by simpa using h1⟩
structure EG (P:Program) (G:World→Nat→Prop) (n:NDs) (l:List Oper) (muts:List Nat) (ex:List (Nat×Nat)) (fs:List Nat) (m:Nat) (fr0:Fr) (vs:Nat→V) (S:Nat→St):Prop where
 ok:oI l muts ex fs m=true
 le:m≤l.length
 step:∀ i o,i<m→l[i]?=some o→cL P G n l.toArray o (valOf l fr0 vs (fun k=>decide (k<i))) (S i) (vs i) (S (i+1))
 still:∀ i o,i<m→l[i]?=some o→bp muts i o=1→S (i+1)=S i
 extra:∀ i hi o,(i,hi)∈ex→l[i]?=some o→i<m→∀ k,k≤hi→k≤m→cL P G n l.toArray o (valOf l fr0 vs (fun k=>decide (k<i))) (S k) (vs i) (S k)
 free:∀ j o,m<j→j∈fs→l[j]?=some o→∃ st st',cL P G n l.toArray o (valOf l fr0 vs (fun k=>decide (k<j))) st (vs j) st'
abbrev TX (P:Program) (G:World→Nat→Prop) (n:NDs) (l:List Oper) (muts:List Nat) (ex:List (Nat×Nat)) (m:Nat) (fr0:Fr) (vs:Nat→V) (S:Nat→St):Prop:=EG P G n l muts ex [] m fr0 vs S
structure CW (l:List Oper) (muts:List Nat) (ex:List (Nat×Nat)) (fs:List Nat) (m:Nat) (j:Nat) (o:Oper):Prop where
 Um:∀ e∈o.after,Region.binds .any e=true→e.on<j
 dst:∀ d,o.dst=some d→iO l d=some j
 look:∀ t∈o.looksAt l.toArray,∀ i,iO l t=some i→i=j∨(i<j∧rz l i j)∨(j<i∧rz l j i)
 late:j≤m∨rz l m j∨(m<j∧bp muts j o=0∧j∈fs)
 Un:∀ hi,(j,hi)∈ex→j≤hi
 wr:m<j∨bp muts j o=0∨∀ i o',l[i]?=some o'→bp muts i o'=2→i=j∨(i<j∧rz l i j)∨(j<i∧rz l j i)∨(bp muts j o=1∧∃ hi,(j,hi)∈ex∧i<hi)
theorem iY {l:List Oper} {muts fs:List Nat} {ex:List (Nat×Nat)} {m:Nat} (h:oI l muts ex fs m=true) {j:Nat} {o:Oper} (ho:l[j]?=some o):CW l muts ex fs m j o:=by
 have hb:∀ i j,((masks l []).getD j 0).testBit i=true→rz l i j:=nX l l [] (by simp) (by simp)
 simp only [oI,aa3] at h
 have hm:(o,j)∈l.zipIdx:=by rw [abH];exact ho
 have h1:=h (o,j) hm
 simp only [aaW,abo,aaS,beq_iff_eq] at h1
 obtain ⟨⟨⟨⟨⟨⟨_,h2⟩,h3⟩,h4⟩,h5⟩,h6⟩,h7⟩:=h1
 refine ⟨fun e he hbe=>?_,fun d hd=>?_,fun t ht i hi=>?_,?_,fun hi hmem=>?_,?_⟩
 ·have:=(Array.all_eq_true_iff_forall_mem.1 h2) e he
  simpa [hbe] using this
 ·simpa [hd] using h3
 ·have:=(aa3.1 h4) t ht
  rw [hi] at this
  simp only [abo,beq_iff_eq,aaW,aaS] at this
  rcases this with (h|h)|h
  ·exact .inl h
  ·exact .inr (.inl ⟨h.1,hb _ _ h.2⟩)
  ·exact .inr (.inr ⟨h.1,hb _ _ h.2⟩)
 ·rcases h5 with (h5|h5)|h5
  ·exact .inl h5
  ·exact .inr (.inl (hb _ _ h5))
  ·rcases abY m j with h8|h8
   ·exact .inr (.inr ⟨h8,h5.1,by simpa using h5.2⟩)
   ·exact .inl h8
 ·have:=(aa3.1 h7) (j,hi) hmem
  simpa using this
 ·rcases h6 with (h6|h6)|h7
  ·exact .inl h6
  ·exact .inr (.inl h6)
  refine .inr (.inr fun i o' ho' hk=>?_)
  have:=(aa3.1 h7) (o',i) (by rw [abH];exact ho')
  simp only [abo,beq_iff_eq,aaW,aaS,bne_iff_ne,ne_eq,hk,not_true_eq_false,false_or,List.any_eq_true] at this
  rcases this with ((h|h)|h)|⟨h,⟨j',hi⟩,h8,h9,h10⟩
  ·exact .inl h
  ·exact .inr (.inl ⟨h.1,hb _ _ h.2⟩)
  ·exact .inr (.inr (.inl ⟨h.1,hb _ _ h.2⟩))
  ·simp only at h9;subst h9
   exact .inr (.inr (.inr ⟨h,hi,h8,h10⟩))
theorem aaE {l:List Oper} {muts:List Nat} {ex:List (Nat×Nat)} {m:Nat} (h:fM l muts ex m=true) {j:Nat} {o:Oper} (ho:l[j]?=some o):CW l muts ex [] m j o:=iY h ho
structure Inv (l:List Oper) (muts fs:List Nat) (m:Nat) (S:Nat→St) (L:Array Bool) (k:Nat):Prop where
 size:L.size=l.length
 closed:∀ j o,l[j]?=some o→L.getD j false=true→∀ e∈o.after,Region.binds .any e=true→L.getD e.on false=true
 low:∀ j,L.getD j false=true→j<m∨(m<j∧j∈fs)
 phase:k≤m∧∀ i o,l[i]?=some o→bp muts i o=2→(L.getD i false=true↔i<k)
theorem Inv.F9 {l:List Oper} {muts fs:List Nat} {m:Nat} {S:Nat→St} {L:Array Bool} {k:Nat} (h:Inv l muts fs m S L k) {i j:Nat} (hb:rz l i j):
  (∃ o,l[j]?=some o∧∀ e∈o.after,Region.binds .any e=true→L.getD e.on false=true)→L.getD i false=true:=by
 induction hb with
 |one j o e ho he hbe=>
  rintro ⟨o',ho',hall⟩
  rw [ho] at ho'
  cases ho'
  exact hall e he hbe
 |step i j o e ho he hbe _ ih=>
  rintro ⟨o',ho',hall⟩
  rw [ho] at ho'
  cases ho'
  have h1:=hall e he hbe
  have hlt:e.on<l.length:=by
   rw [←h.size]
   rcases abY e.on L.size with h2|h2
   ·exact h2
   ·simp [ab0 h2] at h1
  exact ih ⟨l[e.on],by simp [hlt],fun e' he' hbe'=>h.closed e.on _ (by simp [hlt]) h1 e' he' hbe'⟩
theorem Inv.KS {l:List Oper} {muts fs:List Nat} {m:Nat} {S:Nat→St} {L:Array Bool} {k:Nat} (h:Inv l muts fs m S L k) {i j:Nat} (hb:rz l i j) (hj:L.getD j false=true):L.getD i false=true:=by
 have hlt:j<l.length:=by
  rw [←h.size]
  rcases abY j L.size with h2|h2
  ·exact h2
  ·simp [ab0 h2] at hj
 exact h.F9 hb ⟨l[j],by simp [hlt],fun e' he' hbe'=>h.closed j _ (by simp [hlt]) hj e' he' hbe'⟩
theorem nH {l:List Oper} {muts fs:List Nat} {ex:List (Nat×Nat)} {m:Nat} {fr0:Fr} {vs:Nat→V} {S:Nat→St} (R:EG P G n l muts ex fs m fr0 vs S):
  ∀ (d a:Nat),a+d≤m→(∀ i o,a≤i→i<a+d→l[i]?=some o→bp muts i o≠2)→S (a+d)=S a
 |0,a,_,_=>rfl
 |d+1,a,hm,h=>by
  have h1:=nH R d a (by omega) fun i o h1 h2=>h i o h1 (by omega)
  have hlt:a+d<l.length:=by have:=R.le;omega
  have ho:l[a+d]?=some l[a+d]:=by simp [hlt]
  have hk:=h (a+d) _ (by omega) (by omega) ho
  rw [←h1,show a+(d+1)=a+d+1 by omega]
  by_cases h2:bp muts (a+d) l[a+d]=1
  ·exact R.still _ _ (by omega) ho h2
  ·have h0:eu (l[a+d]).op=true:=by
    have h3:=hk
    have h4:=h2
    unfold bp at h3 h4
    split at h3
    ·simp at h3
    ·rename_i hc
     rw [if_neg hc] at h4
     split at h3
     ·assumption
     ·rename_i hq
      rw [if_neg hq] at h4
      split at h3<;>simp_all
   exact ((R.step _ _ (by omega) ho).quiet h0).1
theorem yC {l:List Oper} {muts fs:List Nat} {ex:List (Nat×Nat)} {m:Nat} {fr0:Fr} {vs:Nat→V} {S:Nat→St} {L:Array Bool} {k j:Nat} {o:Oper}
  (I:Inv l muts fs m S L k) (F:CW l muts ex fs m j o) (ho:l[j]?=some o) (hj:L.getD j false=false) (hr:∀ e∈o.after,Region.binds .any e=true→L.getD e.on false=true):
  ∀ t∈o.looksAt l.toArray,valOf l fr0 vs (fun k=>decide (k<j)) t=valOf l fr0 vs (fun k=>L.getD k false) t:=by
 intro t ht
 unfold valOf
 cases hw:iO l t with
 |none=>rfl
 |some i=>
  have:decide (i<j)=L.getD i false:=by
   rcases F.look t ht i hw with rfl|⟨h1,h2⟩|⟨h1,h2⟩
   ·rw [hj];simp
   ·rw [I.F9 h2 ⟨o,ho,hr⟩];simp [h1]
   ·cases hi:L.getD i false with
    |false=>simp;omega
    |true=>rw [I.KS h2 hi] at hj;simp at hj
  simp only [this]
theorem Bg {l:List Oper} {j:Nat} {o:Oper} {fr0:Fr} {vs:Nat→V} {L:Array Bool} (hsz:L.size=l.length) (ho:l[j]?=some o) (hd:∀ d,o.dst=some d→iO l d=some j):
  eC (valOf l fr0 vs (fun k=>L.getD k false)) o.dst (vs j)=valOf l fr0 vs (fun k=>(L.setIfInBounds j true).getD k false):=by
 have hlt:j<L.size:=by rw [hsz];exact (aaL.1 ho).1
 funext t
 have key:∀ i,i≠j→(L.setIfInBounds j true).getD i false=L.getD i false:=fun i hi=>getD_set_ne false (Ne.symm hi)
 have keyj:(L.setIfInBounds j true).getD j false=true:=by simp [hlt]
 unfold eC
 cases hdst:o.dst with
 |none=>
  simp only [valOf]
  cases hw:iO l t with
  |none=>rfl
  |some i=>
   have hi:i≠j:=by
    rintro rfl
    obtain ⟨o',h1,h2⟩:=fE hw
    rw [ho] at h1
    cases h1
    rw [hdst] at h2
    cases h2
   simp only [key i hi]
 |some d=>
  simp only [upd]
  split
  ·rename_i htd
   subst htd
   simp only [valOf,hd t hdst,keyj,if_true]
  ·rename_i htd
   simp only [valOf]
   cases hw:iO l t with
   |none=>rfl
   |some i=>
    have hi:i≠j:=by
     rintro rfl
     obtain ⟨o',h1,h2⟩:=fE hw
     rw [ho] at h1
     cases h1
     rw [hdst] at h2
     cases h2
     exact htd rfl
    simp only [key i hi]
theorem oJ {l:List Oper} {muts fs:List Nat} {ex:List (Nat×Nat)} {m:Nat} {fr0:Fr} {vs:Nat→V} {S:Nat→St} (R:EG P G n l muts ex fs m fr0 vs S) {a b:Nat} (hab:a≤b) (hb:b≤m)
  (h:∀ i o,a≤i→i<b→l[i]?=some o→bp muts i o≠2):S b=S a:=by
 have:=nH R (b - a) a (by omega) (fun i o h1 h2=>h i o h1 (by omega))
 rwa [show a+(b - a)=b by omega] at this
theorem Inv.rA {l:List Oper} {muts fs:List Nat} {ex:List (Nat×Nat)} {m:Nat} {fr0:Fr} {vs:Nat→V} {S:Nat→St} (R:EG P G n l muts ex fs m fr0 vs S) {L:Array Bool} {k j:Nat} {o:Oper}
  (I:Inv l muts fs m S L k) (F:CW l muts ex fs m j o) (ho:l[j]?=some o) (hjm:j≤m) (hj:L.getD j false=false) (hr:∀ e∈o.after,Region.binds .any e=true→L.getD e.on false=true)
  (hw:∀ i o',l[i]?=some o'→bp muts i o'=2→i=j∨(i<j∧rz l i j)∨(j<i∧rz l j i)) (hk1:bp muts j o=2∨True):S k=S j:=by
 rcases Nat.le_total k j with hle|hle
 ·refine (oJ R hle hjm fun i o' h1 h2 ho' h3=>?_).symm
  rcases hw i o' ho' h3 with rfl|⟨_,h4⟩|⟨h4,_⟩
  ·omega
  ·have:=(I.phase.2 i o' ho' h3).1 (I.F9 h4 ⟨o,ho,hr⟩)
   omega
  ·omega
 ·refine oJ R hle I.phase.1 fun i o' h1 h2 ho' h3=>?_
  have hi:=(I.phase.2 i o' ho' h3).2 h2
  rcases hw i o' ho' h3 with rfl|⟨h4,_⟩|⟨_,h4⟩
  ·rw [hi] at hj;simp at hj
  ·omega
  ·rw [I.KS h4 hi] at hj;simp at hj
theorem kE {l:List Oper} {muts fs:List Nat} {ex:List (Nat×Nat)} {m:Nat} {fr0:Fr} {vs:Nat→V} {S:Nat→St} (R:EG P G n l muts ex fs m fr0 vs S) {c0:Ctx} {Q:AX→Fr→St→Prop} (hG:G c0.w0 c0.base)
  (hend:(m=l.length∧Q .normal (valOf l fr0 vs (fun _=>true)) (S m))∨
   (∃ o,l[m]?=some o∧bp muts m o=2∧∃ (v:V) (Z:St→Prop) (g:FuncId) (cap:List V) (x:Operand) (args:Array Operand) (ats:Array TypeId),
    goes l.toArray o (valOf l fr0 vs (fun k=>decide (k<m)))=some true∧o.op= .call { callee:= .value x,args:=args,argTypes:=ats }∧ev (valOf l fr0 vs (fun k=>decide (k<m))) x= .jE g cap∧
    (∀ args w,(callFunc g args).run P w= .ok (.enter g args) w)∧
    aa P G g (args.toList.map (fun o=>(ev (valOf l fr0 vs (fun k=>decide (k<m))) o).share)++cap) (S m) (fun q s=>q= .dw v∧Z s)∧(∀ fr s,Z s→Q (.dw v) fr s))∨
   (∃ o,l[m]?=some o∧bp muts m o=2∧fs=[]∧(∀ i,i<m→rz l i m)∧∀ (fuel:Nat) (L:Array Bool) (a:Act) (w:World) (c:Ctx),L.size=l.length→(∀ i,L.getD i false=decide (i<m))→L.count false≤fuel+1→Ext c0 c→bf c w (S m)→
    cC c a.tmps (valOf l fr0 vs (fun k=>decide (k<m)))→a.tmps.size=n.sz→a.defers=n.ds→wpOp P l.toArray (nW c0 n Q) m (wpAny P .any l.toArray (nW c0 n Q) fuel (L.setIfInBounds m true)) a w)):
  ∀ (fuel:Nat) (L:Array Bool) (k:Nat) (a:Act) (w:World) (c:Ctx),Inv l muts fs m S L k→L.count false≤fuel→Ext c0 c→bf c w (S k)→cC c a.tmps (valOf l fr0 vs (fun i=>L.getD i false))→a.tmps.size=n.sz→a.defers=n.ds→
   wpAny P .any l.toArray (nW c0 n Q) fuel L a w:=by
 have hdone:∀ (L:Array Bool) (k:Nat) (a:Act) (w:World) (c:Ctx),Inv l muts fs m S L k→Ext c0 c→bf c w (S k)→cC c a.tmps (valOf l fr0 vs (fun i=>L.getD i false))→a.tmps.size=n.sz→a.defers=n.ds→
   Region.ready .any l.toArray L=[]→nW c0 n Q .normal a w:=by
  intro L k a w c I he hc hf hs hd hr
  have hall:∀ j,j<l.length→L.getD j false=true:=by
   intro j
   induction j using Nat.strongRecOn with
   |ind j ih=>
    intro hj
    cases hL:L.getD j false with
    |true=>rfl
    |false=>
     have hmem:j∈Region.ready .any l.toArray L:=by
      rw [mem_ready]
      have hjL:j<L.size:=by rw [I.size];exact hj
      refine ⟨by simp [hjL] at hL ⊢;exact hL,l[j],by simp [hj],fun e he hb=>?_⟩
      have:=(iY R.ok (show l[j]?=some l[j] by simp [hj])).Um e he hb
      exact ih e.on this (by omega)
     rw [hr] at hmem
     cases hmem
  rcases hend with ⟨hm,hQ⟩|⟨o,ho,_⟩|⟨o,ho,_⟩
  ·refine ⟨.normal,_,_,c,hQ,he,?_,?_,hs,hd,trivial⟩
   ·have:S m=S k:=oJ R I.phase.1 (aaP _) fun i o h1 h2 ho h3=>by
     have:=(I.phase.2 i o ho h3).1 (hall i (by omega))
     omega
    rw [this]
    exact hc
   ·have:valOf l fr0 vs (fun i=>L.getD i false)=valOf l fr0 vs (fun _=>true):=by
     funext t
     unfold valOf
     cases hw:iO l t with
     |none=>rfl
     |some i=>
      obtain ⟨o,h1,_⟩:=fE hw
      simp only [hall i (aaL.1 h1).1]
    rw [←this]
    exact hf
  all_goals
   have hlt:=(aaL.1 ho).1
   have:=I.low m (hall m hlt)
   omega
 intro fuel
 induction fuel with
 |zero=>
  intro L k a w c I hcnt he hc hf hs hd
  have hr:Region.ready .any l.toArray L=[]:=by
   rw [List.eq_nil_iff_forall_not_mem]
   intro j hj
   rw [mem_ready] at hj
   have h0:=hj.1
   have:false∈L:=by
    rcases abY j L.size with h|h
    ·simp [h] at h0
     exact h0▸Array.getElem_mem h
    ·simp [ab0 h] at h0
   have:=Array.count_pos_iff.2 this
   omega
  exact ⟨hr,hdone L k a w c I he hc hf hs hd hr⟩
 |succ fuel ih=>
  intro L k a w c I hcnt he hc hf hs hd
  refine ⟨hdone L k a w c I he hc hf hs hd,fun j hj=>?_⟩
  obtain ⟨h0,o,ho,hall⟩:=mem_ready.1 hj
  have ho':l[j]?=some o:=by simpa using ho
  have F:=iY R.ok ho'
  have hjL:j<L.size:=by rw [I.size];exact (aaL.1 ho').1
  have hjf:L.getD j false=false:=by simp [hjL] at h0 ⊢;exact h0
  have hjm:j≤m∨(m<j∧bp muts j o=0∧j∈fs):=by
   rcases F.late with h|h|h
   ·exact .inl h
   ·have:=I.low m (I.F9 h ⟨o,ho',hall⟩)
    omega
   ·exact .inr h
  have hlook:=yC (fr0:=fr0) (vs:=vs) I F ho' hjf hall
  have hGc:G c.w0 c.base:=by rw [he.w0,he.base];exact hG
  by_cases hlt:j≠m
  · -- an operation of the run
   have hphase:∃ st',cL P G n l.toArray o (valOf l fr0 vs (fun i=>L.getD i false)) (S k) (vs j) st'∧∃ k',S k'=st'∧Inv l muts fs m S (L.setIfInBounds j true) k':=by
    have mk:∀ k',k'≤m→(∀ i o',l[i]?=some o'→bp muts i o'=2→((L.setIfInBounds j true).getD i false=true↔i<k'))→Inv l muts fs m S (L.setIfInBounds j true) k':=by
     intro k' hk' hph
     refine ⟨by simpa using I.size,fun i o' hi' hi e he hb=>?_,fun i hi=>?_,hk',hph⟩
     ·by_cases hij:j=i
      ·subst hij
       rw [ho'] at hi'
       cases hi'
       exact getD_set_true (hall e he hb)
      ·rw [getD_set_ne false hij] at hi
       exact getD_set_true (I.closed i o' hi' hi e he hb)
     ·by_cases hij:j=i
      ·subst hij;exact hjm.imp (fun h=>by omega) (fun h=>⟨h.1,h.2.2⟩)
      ·rw [getD_set_ne false hij] at hi
       exact I.low i hi
    have hsame:bp muts j o≠2→Inv l muts fs m S (L.setIfInBounds j true) k:=fun hk2=>mk k I.phase.1 fun i o' hi' h3=>by
     have hij:j≠i:=by rintro rfl;rw [ho'] at hi';cases hi';exact hk2 h3
     rw [getD_set_ne false hij]
     exact I.phase.2 i o' hi' h3
    by_cases hk0:bp muts j o=0
    ·have hq:eu o.op=true:=by
      unfold bp at hk0
      split at hk0
      ·simp at hk0
      ·split at hk0
       ·assumption
       ·split at hk0<;>simp at hk0
     obtain ⟨s1,s2,hstep⟩:∃ s s',cL P G n l.toArray o (valOf l fr0 vs (fun k=>decide (k<j))) s (vs j) s':=by
      rcases hjm with h|h
      ·exact ⟨_,_,R.step j o (by omega) ho'⟩
      ·exact R.free j o h.1 h.2.2 ho'
     exact ⟨S k,((hstep.congr hlook).quiet hq).2 _,k,rfl,hsame (by omega)⟩
    ·have hjm:=hjm.resolve_right (fun h=>hk0 h.2.1)
     have hlt:j<m:=by omega
     have hstep:=(R.step j o hlt ho').congr hlook
     have hwr:=(F.wr.resolve_left (by omega)).resolve_left hk0
     by_cases hk1:bp muts j o=1
     ·by_cases hx:∃ hi,(j,hi)∈ex
      · -- a reader that the run follows through several states
       have hok:cL P G n l.toArray o (valOf l fr0 vs (fun i=>L.getD i false)) (S k) (vs j) (S k):=by
        by_cases hxk:∃ hi,(j,hi)∈ex∧k≤hi
        ·obtain ⟨hi,h1,h2⟩:=hxk
         exact (R.extra j hi o h1 ho' hlt k h2 I.phase.1).congr hlook
        · -- beyond every number:no writer lies between
         have hgen:∀ (d:Nat),d≤k→(∀ hi,(j,hi)∈ex→hi<k - d∨d=0∨True)→True:=fun _ _ _=>trivial
         obtain ⟨hi,h1⟩:=hx
         have hik:hi<k:=by
          rcases abY hi k with h|h
          ·exact h
          ·exact absurd ⟨hi,h1,h⟩ hxk
         have hmax:∃ H,(j,H)∈ex∧∀ h',(j,h')∈ex→h'≤H:=by
          have:∀ (q:Nat),(∀ h',(j,h')∈ex→h'<q)→(∃ h',(j,h')∈ex)→∃ H,(j,H)∈ex∧∀ h',(j,h')∈ex→h'≤H:=by
           intro q
           induction q with
           |zero=>intro h ⟨h',hh⟩;exact absurd (h h' hh) (by omega)
           |succ q ihq=>
            intro h hne
            by_cases hq:(j,q)∈ex
            ·exact ⟨q,hq,fun h' hh=>by have:=h h' hh;omega⟩
            ·exact ihq (fun h' hh=>by
              have h1:=h h' hh
              rcases abY h' q with h2|h2
              ·exact h2
              ·have:h'=q:=by omega
               subst this
               exact absurd hh hq) hne
          exact this k (fun h' hh=>by
           rcases abY h' k with h|h
           ·exact h
           ·exact absurd ⟨h',hh,h⟩ hxk) ⟨hi,h1⟩
         obtain ⟨H,hH,hHmax⟩:=hmax
         have hHk:H<k:=by
          rcases abY H k with h|h
          ·exact h
          ·exact absurd ⟨H,hH,h⟩ hxk
         have hSk:S k=S H:=oJ R (by omega) I.phase.1 fun i o' h2 h3 hoi hki=>by
          have hli:=(I.phase.2 i o' hoi hki).2 h3
          rcases hwr i o' hoi hki with rfl|⟨h4,h5⟩|⟨_,h4⟩|⟨_,h',h4,h5⟩
          ·rw [hli] at hjf;simp at hjf
          ·have:=F.Un H hH
           omega
          ·rw [I.KS h4 hli] at hjf;simp at hjf
          ·have:=hHmax h' h4
           omega
         rw [hSk]
         exact (R.extra j H o hH ho' hlt H (aaP _) (by have:=I.phase.1;omega)).congr hlook
       exact ⟨S k,hok,k,rfl,hsame (by omega)⟩
      ·have hw':∀ i o',l[i]?=some o'→bp muts i o'=2→i=j∨(i<j∧rz l i j)∨(j<i∧rz l j i):=fun i o' h1 h2=>by
        rcases hwr i o' h1 h2 with h|h|h|⟨_,hi,h,_⟩
        ·exact .inl h
        ·exact .inr (.inl h)
        ·exact .inr (.inr h)
        ·exact absurd ⟨hi,h⟩ hx
       have hS:=I.rA R F ho' hjm hjf hall hw' (.inr trivial)
       have h2:=R.still j o hlt ho' hk1
       rw [h2] at hstep
       rw [hS]
       exact ⟨S j,hstep,k,hS,hsame (by omega)⟩
     ·have hk2:bp muts j o=2:=by
       have:bp muts j o≤2:=by unfold bp;split<;>(try split)<;>(try split)<;>omega
       omega
      have hw':∀ i o',l[i]?=some o'→bp muts i o'=2→i=j∨(i<j∧rz l i j)∨(j<i∧rz l j i):=fun i o' h1 h2=>by
       rcases hwr i o' h1 h2 with h|h|h|⟨h,_⟩
       ·exact .inl h
       ·exact .inr (.inl h)
       ·exact .inr (.inr h)
       ·omega
      have hS:=I.rA R F ho' hjm hjf hall hw' (.inr trivial)
      rw [hS]
      refine ⟨S (j+1),hstep,j+1,rfl,mk (j+1) (by omega) fun i o' hi' h3=>?_⟩
      by_cases hij:j=i
      ·subst hij
       simp [hjL]
      ·rw [getD_set_ne false hij]
       rcases hw' i o' hi' h3 with h|⟨h4,h5⟩|⟨h4,h5⟩
       ·omega
       ·have:=I.F9 h5 ⟨o,ho',hall⟩
        rw [this]
        simp;omega
       ·cases hi:L.getD i false with
        |true=>rw [I.KS h5 hi] at hjf;simp at hjf
        |false=>simp;omega
   obtain ⟨st',hst,k',rfl,I'⟩:=hphase
   refine wH ho hc hGc hf hs hd hst fun c' a' w' hext hc' hf' hs' hd'=>?_
   refine ih _ k' a' w' c' I' ?_ (he.trans hext) hc' ?_ hs' hd'
   ·have h1:(L.setIfInBounds j true).count false+1=L.count false:=by
     have hLj:L[j]=false:=by simp [hjL] at h0;exact h0
     rw [Array.setIfInBounds,dif_pos hjL,Array.count_set]
     have:=Array.count_pos_iff.2 (hLj▸Array.getElem_mem hjL)
     simp [hLj]
     omega
    omega
   ·rw [←Bg I.size ho' F.dst]
    exact hf'
  · -- the operation that panics
   have hjm':j=m:=by omega
   subst hjm'
   rcases hend with ⟨hm,_⟩|⟨o2,ho2,hk2,v,Z,g,cap,x,args,ats,hg,hop,hx,hcall,hA,hQ⟩|⟨o2,ho2,hk2,hfs,hbef,hh⟩
   ·have:=(aaL.1 ho').1
    omega
   case inr.inr=>
    rw [ho'] at ho2
    cases ho2
    have hw':∀ i o',l[i]?=some o'→bp muts i o'=2→i=j∨(i<j∧rz l i j)∨(j<i∧rz l j i):=fun i o' h1 h2=>by
     rcases ((F.wr.resolve_left (by omega)).resolve_left (by omega)) i o' h1 h2 with h|h|h|⟨h,_⟩
     ·exact .inl h
     ·exact .inr (.inl h)
     ·exact .inr (.inr h)
     ·omega
    have hS:=I.rA R F ho' (aaP _) hjf hall hw' (.inr trivial)
    have hL:∀ i,L.getD i false=decide (i<j):=fun i=>by
     by_cases hi:i<j
     ·rw [I.F9 (hbef i hi) ⟨o,ho',hall⟩];simp [hi]
     ·cases h:L.getD i false with
      |true=>exact absurd ((I.low i h).resolve_right (by rw [hfs];simp)) hi
      |false=>simp [hi]
    refine hh fuel L a w c I.size hL hcnt he (hS▸hc) ?_ hs hd
    have:(fun i=>L.getD i false)=fun k=>decide (k<j):=funext hL
    rw [←this];exact hf
   rw [ho'] at ho2
   cases ho2
   have hwr:=(F.wr.resolve_left (by omega)).resolve_left (by omega)
   have hw':∀ i o',l[i]?=some o'→bp muts i o'=2→i=j∨(i<j∧rz l i j)∨(j<i∧rz l j i):=fun i o' h1 h2=>by
    rcases hwr i o' h1 h2 with h|h|h|⟨h,_⟩
    ·exact .inl h
    ·exact .inr (.inl h)
    ·exact .inr (.inr h)
    ·omega
   have hS:=I.rA R F ho' (aaP _) hjf hall hw' (.inr trivial)
   have hge:=sg hlook
   have hev:=yB hlook
   rw [hge] at hg
   rw [hev x (by rw [hop];simp [Op.operands,Call.operands])] at hx
   have ha:args.toList.map (fun o=>(ev (valOf l fr0 vs (fun k=>decide (k<j))) o).share)=args.toList.map (fun o=>(ev (valOf l fr0 vs (fun i=>L.getD i false)) o).share):=List.map_congr_left fun y hy=>by
    rw [hev y (by rw [hop];simp at hy;simp [Op.operands,Call.operands,hy])]
   rw [ha,←hS] at hA
   unfold wpOp
   simp only [ho]
   have hxr:=bJ hf x
   rw [hx] at hxr
   generalize hq:a.eval x=q at hxr
   cases hxr with|jE _ arr _ hcs hcr=>?_
   rw [if_pos (ZC hf hg)]
   refine .inl ?_
   unfold Oper.wp
   have hexec:(execOp a.eval o).run P w= .ok (.enter g (args.map a.eval++arr)) w:=by
    obtain ⟨dst,op,type,pos,after,guard⟩:=o
    simp only at hop
    subst hop
    simp only [execOp,resolve,hq,Deferred.ofValue,Sem.run_bind,Sem.run_pure,Result.andThen_ok,invoke,hcall]
    simp
   rw [hexec,Oper.upon_enter]
   refine (hA c w (args.map a.eval++arr) hc hGc (by simp [hcs]) (uS hf hcr)).mono ?_
   rintro e w' ⟨out,s1,c',⟨rfl,hz⟩,hext,hc',hend⟩
   cases e<;>simp only [gT] at hend
   exact ⟨.dw _,_,_,c',hQ _ _ hz,he.trans hext,hc',hf.mono hext,hs,hd,hend⟩
end
section
variable {P:Program} {G:World→Nat→Prop} {n:NDs} {aC:St} {Q:AX→Fr→St→Prop}
inductive Nb (P:Program) (G:World→Nat→Prop) (n:NDs) (all:Array Oper):List Oper→Fr→St→List V→List St→Fr→St→Prop
 |nil (fr:Fr) (st:St):Nb P G n all [] fr st [] [] fr st
 |cons (o:Oper) (r:List Oper) (fr:Fr) (st:St) (v:V) (gD:St) (vs:List V) (ss:List St) (fr':Fr) (st':St):cL P G n all o fr st v gD→(bp [] 0 o=1→gD=st)→
   Nb P G n all r (eC fr o.dst v) gD vs ss fr' st'→Nb P G n all (o::r) fr st (v::vs) (gD::ss) fr' st'
def OT (P:Program) (G:World→Nat→Prop) (n:NDs) (all:Array Oper) (l:List Oper) (fr:Fr) (st:St) (K:Fr→St→Prop):Prop:=
 ∃ vs ss fr' st',Nb P G n all l fr st vs ss fr' st'∧K fr' st'
theorem OT.nil {all:Array Oper} {fr:Fr} {st:St} {K:Fr→St→Prop} (h:K fr st):OT P G n all [] fr st K:=⟨_,_,_,_,.nil fr st,h⟩
theorem OT.cons {all:Array Oper} {o:Oper} {r:List Oper} {fr:Fr} {st gD:St} {v:V} {K:Fr→St→Prop} (h:cL P G n all o fr st v gD) (hk:bp [] 0 o=1→gD=st)
  (k:OT P G n all r (eC fr o.dst v) gD K):OT P G n all (o::r) fr st K:=
 let ⟨_,_,_,_,h1,h2⟩:=k
 ⟨_,_,_,_,.cons _ _ _ _ _ _ _ _ _ _ h hk h1,h2⟩
theorem iZ {o:Oper} {fr:Fr} {st gD:St} {v:V} (he:bP o.op=false) (h:evalOp P o fr st=some (v,gD)) (hk:bp [] 0 o=1):gD=st:=by
 obtain ⟨dst,op,type,pos,after,guard⟩:=o
 cases op<;>simp [bp,eu] at hk
 case load t a=>
  simp only [evalOp] at h
  exact (jj h).1
 case lookup t m x ok=>
  simp only [evalOp] at h
  exact (jj h).1
 case call c=>
  obtain ⟨callee,args,ats⟩:=c
  cases callee with
  |value x=>simp [bP] at he
  |invoke a b=>simp [bP] at he
  |builtin b=>cases b<;>simp at hk
theorem OT.run {all:Array Oper} {res:List Nat}:∀ {l:List Oper} {fr:Fr} {st:St} {rest:List Oper} {fr':Fr} {st':St} {K:Fr→St→Prop},cJ P n all res l fr st=some (rest,fr',st')→OT P G n all rest fr' st' K→OT P G n all l fr st K
 |[],fr,st,rest,fr',st',K,h,k=>by
  simp only [cJ,aaJ,aaZ] at h
  obtain ⟨rfl,rfl,rfl⟩:=h
  exact k
 |o::r,fr,st,rest,fr',st',K,h,k=>by
  simp only [cJ] at h
  split at h
  ·split at h
   ·rename_i hg
    split at h
    ·simp only [aaJ,aaZ] at h
     obtain ⟨rfl,rfl,rfl⟩:=h
     exact k
    ·rename_i hne
     split at h
     ·rename_i v gD he
      split at h
      ·rename_i hd
       exact OT.cons (.op _ _ hg he hd) (iZ (by simpa using hne) he) (OT.run h k)
      ·simp at h
     ·simp at h
   ·rename_i hg
    split at h
    ·rename_i hd
     exact OT.cons (.skip hg hd) (fun _=>rfl) (OT.run h k)
    ·simp at h
   ·simp at h
  ·simp only [aaJ,aaZ] at h
   obtain ⟨rfl,rfl,rfl⟩:=h
   exact k
theorem Nb.spec {all:Array Oper}:∀ {l:List Oper} {fr:Fr} {st:St} {vs:List V} {ss:List St} {fr':Fr} {st':St},Nb P G n all l fr st vs ss fr' st'→
  ∀ (pre:List Oper) (fr0:Fr) (W:Nat→V) (T:Nat→St),(∀ j o d,(pre++l)[j]?=some o→o.dst=some d→iO (pre++l) d=some j)→
   (∀ i,W (pre.length+i)=vs.getD i .aU)→(∀ i,T (pre.length+i)=(st::ss).getD i default)→fr=valOf (pre++l) fr0 W (fun k=>decide (k<pre.length))→
   (∀ i o,pre.length≤i→(pre++l)[i]?=some o→cL P G n all o (valOf (pre++l) fr0 W (fun k=>decide (k<i))) (T i) (W i) (T (i+1))∧(bp [] i o=1→T (i+1)=T i))∧
   fr'=valOf (pre++l) fr0 W (fun _=>true)∧st'=T (pre++l).length:=by
 intro l
 induction l with
 |nil=>
  intro fr st vs ss fr' st' h pre fr0 W T hd hW hT hfr
  cases h
  refine ⟨fun i o h1 h2=>?_,?_,?_⟩
  ·rw [aaO h1] at h2
   simp at h2
  ·rw [hfr]
   funext t
   unfold valOf
   cases hw:iO (pre++[]) t with
   |none=>rfl
   |some i=>
    obtain ⟨o,h1,_⟩:=fE hw
    have:=(aaL.1 h1).1
    simp only [aa7] at this
    simp [this]
  ·have:=hT 0
   simp at this ⊢
   exact this.symm
 |cons o r ih=>
  intro fr st vs ss fr' st' h pre fr0 W T hd hW hT hfr
  cases h with
  |cons _ _ _ _ v gD vs ss _ _ hs hk hr=>
   have heq:(pre++[o])++r=pre++o::r:=by simp
   have hlo:(pre++o::r)[pre.length]?=some o:=by simp
   have hput:eC fr o.dst v=valOf (pre++o::r) fr0 W (fun k=>decide (k<pre.length+1)):=by
    have hv:W pre.length=v:=by have:=hW 0;simpa using this
    funext t
    rw [hfr]
    unfold eC
    cases hdst:o.dst with
    |none=>
     simp only [valOf]
     cases hw:iO (pre++o::r) t with
     |none=>rfl
     |some i=>
      have hi:i≠pre.length:=by
       rintro rfl
       obtain ⟨o',h1,h2⟩:=fE hw
       rw [hlo] at h1
       cases h1
       rw [hdst] at h2
       cases h2
      have:(decide (i<pre.length))=decide (i<pre.length+1):=by simp;omega
      simp only [this]
    |some d=>
     simp only [upd]
     split
     ·rename_i htd
      subst htd
      simp only [valOf,hd pre.length o t hlo hdst]
      simp [hv]
     ·rename_i htd
      simp only [valOf]
      cases hw:iO (pre++o::r) t with
      |none=>rfl
      |some i=>
       have hi:i≠pre.length:=by
        rintro rfl
        obtain ⟨o',h1,h2⟩:=fE hw
        rw [hlo] at h1
        cases h1
        rw [hdst] at h2
        cases h2
        exact htd rfl
       have:(decide (i<pre.length))=decide (i<pre.length+1):=by simp;omega
       simp only [this]
   have:=ih hr (pre++[o]) fr0 W T (by rw [heq];exact hd) (fun i=>by
     have:=hW (i+1)
     rw [aaQ,abg,show pre.length+1+i=pre.length+(i+1) by omega,this]
     simp) (fun i=>by
     have:=hT (i+1)
     rw [aaQ,abg,show pre.length+1+i=pre.length+(i+1) by omega,this]
     simp) (by rw [heq,aaQ,abg];exact hput)
   rw [heq,aaQ,abg] at this
   obtain ⟨h1,h2,h3⟩:=this
   refine ⟨fun i o' hi ho'=>?_,h2,h3⟩
   by_cases he:i=pre.length
   ·subst he
    rw [hlo] at ho'
    cases ho'
    have t0:=hT 0
    have t1:=hT 1
    have w0:=hW 0
    simp at t0 t1 w0
    rw [t0,t1,w0,←hfr]
    exact ⟨hs,fun hk1=>hk (by simpa [bp] using hk1)⟩
   ·exact h1 i o' (by omega) ho'
theorem kF {c:Ctx} {w:World} {st:St} (h:bf c w st):bf c { w with drawn:=w.drawn+1 } st where
 cN:=h.cN
 dH:=h.dH
 cI:=h.cI
 mS:=h.mS
 blk:=h.blk
 cu:=h.cu
 cz:=h.cz
 cK:=h.cK
 cy:=h.cy
 below:=⟨h.below.os,h.below.tape,h.below.output,h.below.size,h.below.block⟩
 cw:=h.cw
theorem AW.drawn {id:Nat} {l:List Oper} {fr:Fr} {st:St} (hm:P.follows .mixedOrders=true) (hok:fM l [] [] l.length=true) (h:OT P G n l.toArray l fr st (Q .normal)):
  AW P G n aC (.region id l.toArray true) Q fr st:=by
 obtain ⟨vs,ss,fr',st',htr,hQ⟩:=h
 intro c0 c w a h0 he hc hg hf hs hd
 have hg0:G c0.w0 c0.base:=by rw [←he.w0,←he.base];exact hg
 obtain ⟨h1,h2,h3⟩:=htr.spec [] fr (fun i=>vs.getD i .aU) (fun i=>(st::ss).getD i default) (fun j o d ho hd=>(aaE hok ho).dst d hd) (by simp) (by simp) (by
  funext t;unfold valOf;cases iO ([]++l) t<;>simp)
 simp only [aa8,aaV,abt,true_implies] at h1 h2 h3
 have R:TX P G n l [] [] l.length fr (fun i=>vs.getD i .aU) (fun i=>(st::ss).getD i default):=
  ⟨hok,aaP _,fun i o hi ho=>(h1 i o ho).1,fun i o hi ho=>(h1 i o ho).2,by simp,fun _ _ _ h=>by cases h⟩
 refine wp_region_any hm ?_
 have hrep:∀ i,(Array.replicate l.toArray.size false).getD i false=false:=fun i=>by
  rw [aaR,abX]
  split<;>rfl
 refine kE R hg0 (.inl ⟨rfl,by rw [←h2,←h3];exact hQ⟩) _ _ 0 a _ c ?_ ?_ he (kF hc) ?_ hs hd
 ·refine ⟨by simp,fun j o _ hj=>?_,fun j hj=>?_,abt _,fun i o _ _=>?_⟩
  ·exact absurd hj (by rw [hrep];simp)
  ·exact absurd hj (by rw [hrep];simp)
  ·rw [hrep];simp
 ·exact abJ ace (by simp)
 ·intro t
  have:=hf t
  unfold valOf
  cases iO l t with
  |none=>exact this
  |some i=>simp only [hrep];exact this
