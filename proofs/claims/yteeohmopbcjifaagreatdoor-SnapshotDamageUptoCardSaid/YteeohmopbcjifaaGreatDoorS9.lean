import Derived.Test.YteeohmopbcjifaaGreatDoorS8
import Derived.Sort.Grow
import Derived.Deep.Draws
set_option linter.unusedSimpArgs false
set_option linter.unusedVariables false
section
namespace Go.Abs
open Go.RowKit
section
variable {P:Program} {G:World→Nat→Prop} {n:NDs} {aC:St} {Q:AX→Fr→St→Prop}
def OX (P:Program) (G:World→Nat→Prop) (n:NDs) (aC:St) (d:Bool) (_res:List Nat) (all:Array Oper) (Q:AX→Fr→St→Prop) (l:List Oper) (fr:Fr) (st:St):Prop:=
 match d with
 |false=>OW P G n aC all Q l fr st
 |true=>OT P G n all l fr st (Q .normal)
variable {d:Bool} {res:List Nat} {all:Array Oper}
theorem OX.nil {fr:Fr} {st:St} (h:Q .normal fr st):OX P G n aC d res all Q [] fr st:=by
 cases d
 ·exact OW.nil h
 ·exact OT.nil h
theorem OX.run {l rest:List Oper} {fr fr':Fr} {st st':St} (h:cJ P n all res l fr st=some (rest,fr',st')) (k:OX P G n aC d res all Q rest fr' st'):OX P G n aC d res all Q l fr st:=by
 cases d
 ·exact OW.run h k
 ·exact OT.run h k
theorem AW.Uo {id:Nat} {l rest:List Oper} {fr fr':Fr} {st st':St} (h:cJ P n l.toArray [] l fr st=some (rest,fr',st')) (k:OX P G n aC false [] l.toArray Q rest fr' st'):AW P G n aC (.region id l.toArray false) Q fr st:=
 AW.region (OW.run h k)
theorem AW.Up (hm:P.follows .mixedOrders=true) {id:Nat} {l rest:List Oper} (hok:fM l [] [] l.length=true) {fr fr':Fr} {st st':St} (h:cJ P n l.toArray [] l fr st=some (rest,fr',st')) (k:OX P G n aC true [] l.toArray Q rest fr' st'):AW P G n aC (.region id l.toArray true) Q fr st:=
 AW.drawn hm hok (OT.run h k)
theorem pJ {fr:Fr} {t:Nat} {v:V} (h:fr t=v):upd fr t v=fr:=by
 funext i
 unfold upd
 split
 ·rename_i hi;subst hi;exact h.symm
 ·rfl
theorem OX.split {dd:Option Tmp} {op:Op} {ty:TypeId} {pos:String} {after:Array Edge} {r:List Oper} {j:Nat} {want:Bool} {t:Tmp} {fr:Fr} {st:St} {b:Bool} (_hn:res.contains j=false) (_ht:(all[j]?).bind (·.dst)=some t) (hb:fr t= .d (.bool b))
  (h1:b=true→OX P G n aC d (j::res) all Q ({ dst:=dd,op:=op,type:=ty,pos:=pos,after:=after,guard:=some (j,want) }::r) (upd fr t (.d (.bool true))) st) (h2:b=false→OX P G n aC d (j::res) all Q ({ dst:=dd,op:=op,type:=ty,pos:=pos,after:=after,guard:=some (j,want) }::r) (upd fr t (.d (.bool false))) st):
  OX P G n aC d res all Q ({ dst:=dd,op:=op,type:=ty,pos:=pos,after:=after,guard:=some (j,want) }::r) fr st:=by
 cases b
 ·rw [pJ hb] at h2;exact h2 rfl
 ·rw [pJ hb] at h1;exact h1 rfl
theorem KT {K:Fr→St→Prop} {Q:AX→Fr→St→Prop} {fr:Fr} {st:St} (h:K fr st):bz K Q .normal fr st:=h
theorem KU {K:Fr→St→Prop} {Q:AX→Fr→St→Prop} {fr:Fr} {st:St} (h:Q .ret fr st):bz K Q .ret fr st:=h
theorem KV {K:Fr→St→Prop} {Q:AX→Fr→St→Prop} {i:Nat} {fr:Fr} {st:St} (h:Q (.exit i) fr st):bz K Q (.exit i) fr st:=h
theorem KW {K:Fr→St→Prop} {Q:AX→Fr→St→Prop} {v:V} {fr:Fr} {st:St} (h:Q (.dw v) fr st):bz K Q (.dw v) fr st:=h
theorem Hx {i:Nat} {Q:AX→Fr→St→Prop} {fr:Fr} {st:St} (h:Q .normal fr st):aY i Q .normal fr st:=h
theorem Hy {i:Nat} {Q:AX→Fr→St→Prop} {fr:Fr} {st:St} (h:Q .ret fr st):aY i Q .ret fr st:=h
theorem Hz {i:Nat} {Q:AX→Fr→St→Prop} {v:V} {fr:Fr} {st:St} (h:Q (.dw v) fr st):aY i Q (.dw v) fr st:=h
theorem HA {i:Nat} {Q:AX→Fr→St→Prop} {fr:Fr} {st:St} (h:Q .normal fr st):aY i Q (.exit i) fr st:=by simp only [aY,if_true];exact h
theorem HB {i j:Nat} {Q:AX→Fr→St→Prop} {fr:Fr} {st:St} (hne:j≠i) (h:Q (.exit j) fr st):aY i Q (.exit j) fr st:=by simp only [aY,if_neg hne];exact h
theorem OX.Uk {dd:Option Tmp} {op:Op} {ty:TypeId} {pos:String} {after:Array Edge} {r:List Oper} {j:Nat} {want:Bool} {t:Tmp} {fr:Fr} {st:St} (_hn:res.contains j=false) (_ht:(all[j]?).bind (·.dst)=some t) (_hb:fr t= .cF [])
  (h:OX P G n aC d (j::res) all Q ({ dst:=dd,op:=op,type:=ty,pos:=pos,after:=after,guard:=some (j,want) }::r) fr st):
  OX P G n aC d res all Q ({ dst:=dd,op:=op,type:=ty,pos:=pos,after:=after,guard:=some (j,want) }::r) fr st:=h
theorem OX.call {dd:Option Tmp} {x:Operand} {args:Array Operand} {ats:Array TypeId} {ty:TypeId} {pos:String} {after:Array Edge} {gd:Option (Nat×Bool)} {rest:List Oper} {g:FuncId} {cap xs:List V} {fr:Fr} {st:St} {v:V}
  (hcall:∀ args w,(callFunc g args).run P w= .ok (.enter g args) w)
  (hf:ev fr x= .jE g cap) (hg:goes all { dst:=dd,op:= .call { callee:= .value x,args:=args,argTypes:=ats },type:=ty,pos:=pos,after:=after,guard:=gd } fr=some true) (hd:fC n dd=true)
  (hx:args.toList.map (fun o=>(ev fr o).share)++cap=xs)
  (h:aa P G g xs st (fun q s=>q= .ret v∧s=st)) (k:OX P G n aC d res all Q rest (eC fr dd v) st):
  OX P G n aC d res all Q ({ dst:=dd,op:= .call { callee:= .value x,args:=args,argTypes:=ats },type:=ty,pos:=pos,after:=after,guard:=gd }::rest) fr st:=by
 subst hx
 cases d
 ·refine OW.call hg hf hcall hd (h.mono ?_)
  rintro o s ⟨rfl,rfl⟩
  exact k
 ·exact OT.cons (.call _ _ g cap x args ats hg rfl hf hcall hd h) (fun _=>rfl) k
theorem OX.panic {o:Oper} {x:Operand} {rest:List Oper} {fr:Fr} {st:St} {t:TypeId} {y:D} (ho:o.op= .panic x) (hg:goes all o fr=some true) (hx:ev fr x= .d (.iface t y)) (h:Q (.dw (.d (.iface t y))) fr st):
  OX P G n aC false res all Q (o::rest) fr st:=OW.panic hg ho hx h
def KX (v:Option V) (l:Option (List V)):Option (List V):=match v,l with
 |some v,some l=>some (v::l)
 |_,_=>none
theorem EH (fr:Fr) (st:St):eT P fr st []=some []:=(rfl)
theorem bQ (fr:Fr) (st:St) (t:Tmp) (r:List ResultVar):eT P fr st (.tmp t::r)=KX (some (fr t)) (eT P fr st r):=by simp only [eT,KX];cases eT P fr st r<;>rfl
theorem bZ (fr:Fr) (st:St) (a:Tmp) (t:TypeId) (r:List ResultVar):eT P fr st (.cell a t::r)=KX (bn P t (fr a) st) (eT P fr st r):=(rfl)
theorem KY (v:V) (l:List V):KX (some v) (some l)=some (v::l):=(rfl)
theorem HC (v:V):eD [v]=v:=(rfl)
theorem HD:eD []= .cF []:=(rfl)
theorem HE (v u:V) (l:List V):eD (v::u::l)= .cF (v::u::l):=(rfl)
theorem within_d (a b:Nat) (x:D):(V.d x).within a b=true:=(rfl)
theorem Bh (a b:Nat) (l:List V):(V.cF l).within a b=V.within.all a b l:=(rfl)
theorem nY (a b:Nat) (l:List V):(V.agg l).within a b=V.within.all a b l:=(rfl)
theorem Bi (a b:Nat) (f:FuncId) (l:List V):(V.jE f l).within a b=V.within.all a b l:=(rfl)
theorem Bj (a b i:Nat) (es:List (List D)):(V.own i es).within a b=decide (i<b):=(rfl)
theorem Bm (a b i o:Nat):(V.ptr i o).within a b=decide (i<a):=(rfl)
theorem qx (a b:Nat):V.bh.within a b=true:=(rfl)
theorem Bn (a b:Nat):V.within.all a b []=true:=(rfl)
theorem yD (a b:Nat) (x:V) (l:List V):V.within.all a b (x::l)=(x.within a b&&V.within.all a b l):=(rfl)
theorem nZ (a b:Nat) (l:List D):V.within.all a b (l.map .d)=true:=by induction l<;>simp_all [V.within.all,within_d]
theorem uT {fn:Func} {R:Out→St→Prop} {fr:Fr} {st st':St} {l:List V} {v:V} (hb:st'.aj.take st.aj.length=st.aj) (ht:st'.toks.take st.toks.length=st.toks)
  (h:eT P fr st' fn.results.toList=some l) (hv:(eD l).share=v) (hw:v.within st.aj.length st.toks.length=true) (hR:R (.ret v) st):bK P fn st R .ret fr st':=by
 subst hv
 refine ⟨st.toks.length,⟨aaP _,aaP _,fun b B h1 h2=> .inl ?_⟩,l,h,hw,?_⟩
 ·rw [←hb,abk h1];exact h2
 ·simp only [St.cut,hb,ht];exact hR
def sw (N M:Nat) (v:V):V:=if v.within N M=true then v else .aU
theorem ug (N M:Nat) (cs:List V):(aJ.cells cs).within N M=V.within.all N M cs:=(rfl)
theorem bwithin_tc (N M e:Nat) (cs:List V):(aJ.tc e cs).within N M=V.within.all N M cs:=(rfl)
theorem N0 (st:St):(⟨st.aj,st.toks⟩:St)=st:=(rfl)
attribute [go_sem] EH bQ bZ KY HC HD HE within_d Bi Bj Bm qx Bh nY Bn yD nZ ug bwithin_tc
end
def jO:List (Nat×V)→Fr
 |[]=>fun _=> .aU
 |(i,v)::r=>fun t=>if t=i then v else jO r t
theorem EI (i:Nat) (v:V) (r:List (Nat×V)) (t:Nat):jO ((i,v)::r) t=if t=i then v else jO r t:=(rfl)
def okF (fr:Fr):List (Nat×V)→Prop
 |[]=>True
 |(t,v)::r=>fr t=v∧okF fr r
def okW (N M:Nat):List (Nat×V)→Bool
 |[]=>true
 |(_,v)::r=>v.within N M&&okW N M r
theorem KZ (fr:Fr):okF fr []=True:=(rfl)
theorem HF (fr:Fr) (t:Nat) (v:V) (r:List (Nat×V)):okF fr ((t,v)::r)=(fr t=v∧okF fr r):=(rfl)
theorem okW_nil (N M:Nat):okW N M []=true:=(rfl)
theorem HH (N M:Nat) (t:Nat) (v:V) (r:List (Nat×V)):okW N M ((t,v)::r)=(v.within N M&&okW N M r):=(rfl)
theorem eG {fr:Fr}:∀ {l:List (Nat×V)},okF fr l→∀ t,jO l t=fr t∨jO l t= .aU
 |[],_,_=> .inr rfl
 |(i,v)::r,h,t=>by
  simp only [jO]
  split
  ·rename_i e;subst e;exact .inl h.1.symm
  ·exact eG h.2 t
theorem kG {fr:Fr} {N M:Nat}:∀ {l:List (Nat×V)},okF fr l→okW N M l=true→okF (oy N M fr) l
 |[],_,_=>trivial
 |(i,v)::r,h,hw=>by
  simp only [okW,aaW] at hw
  refine ⟨?_,kG h.2 hw.2⟩
  unfold oy
  rw [h.1,if_pos hw.1]
theorem aD {k:IntKind} {a b:Int} (h:a=b):V.d (D.int k a)=V.d (D.int k b):=by rw [h]
theorem aE {a b:List UInt8} (h:a=b):V.d (D.str a)=V.d (D.str b):=by rw [h]
theorem ax {i:Nat} {a b:List (List D)} (h:a=b):V.own i a=V.own i b:=by rw [h]
section loops
variable {P:Program} {G:World→Nat→Prop} {n:NDs} {aC:St} {Q:AX→Fr→St→Prop}
structure gk {τ:Type} (aC:St) (σ:τ→List (Nat×V)) (L:τ→List aJ) (U:τ→List (Nat×Nat×Nat)) (p:τ→Prop) (μ:τ→Nat) (x:τ) (fr:Fr) (st:St) (x':τ):Prop where
 slots:okF fr (σ x')
 ok:p x'
 less:μ x'<μ x
 aj:st.aj.take (aC.aj.length+(L x').length)=aC.aj++L x'
 toks:st.toks.take (aC.toks.length+(U x').length)=aC.toks++U x'
 win:okW (aC.aj.length+(L x').length) (aC.toks.length+(U x').length) (σ x')=true
 HI:(L x').all (fun B=>B.within (aC.aj.length+(L x').length) (aC.toks.length+(U x').length))=true
theorem AW.cD {τ:Type} (σ:τ→List (Nat×V)) (L:τ→List aJ) (U:τ→List (Nat×Nat×Nat)) (p:τ→Prop) (μ:τ→Nat) (x0:τ) {body:Code} {fr:Fr} {st:St}
  (hst:st=⟨aC.aj++L x0,aC.toks++U x0⟩) (h0:okF fr (σ x0)) (hp:p x0)
  (round:∀ x,p x→AW P G n aC body (bz (fun fr' st'=>∃ x',gk aC σ L U p μ x fr' st' x') Q) (jO (σ x)) ⟨aC.aj++L x,aC.toks++U x⟩):AW P G n aC (.loop body) Q fr st:=by
 subst hst
 refine AW.prune (jO (σ x0)) (eG h0) ?_
 intro c0 c w a h0' he0 hc hg hf hs hd
 refine wp_loop_ghost (fun k a w=>∃ x c1,p x∧μ x=k∧Ext c0 c1∧bf c1 w ⟨aC.aj++L x,aC.toks++U x⟩∧cC c1 a.tmps (jO (σ x))∧a.tmps.size=n.sz∧a.defers=n.ds) (μ x0)
  ⟨x0,c,hp,rfl,he0,hc,hf,hs,hd⟩ ?_
 rintro k a1 w1 ⟨x,c1,hI,rfl,he,hc1,hf1,hs1,hd1⟩
 refine wp_mono (round x hI c0 c1 w1 a1 h0' he hc1 (by rw [he.w0,he.base,←he0.w0,←he0.base];exact hg) hf1 hs1 hd1) ?_
 rintro e a2 w2 ⟨x2,fr2,st2,c2,hq,he2,hc2,hf2,hs2,hd2,hx⟩
 cases e<;>cases x2<;>simp only [lY] at hx
 ·obtain ⟨x',hN⟩:=hq
  have hcut:rV aC st2 (aC.aj.length+(L x').length) (aC.toks.length+(U x').length):=by
   refine ⟨by omega,by omega,fun b B hb hB=>?_⟩
   have hB':(aC.aj++L x')[b]?=some B:=by rw [←hN.aj,abk hb];exact hB
   by_cases hlt:b<aC.aj.length
   ·rw [aaU hlt] at hB'
    exact .inl hB'
   ·rw [aaO (by omega)] at hB'
    exact .inr ((aa3.1 hN.HI) B (abc hB'))
  obtain ⟨h1,h2⟩:=hcut.DS h0' he2 hc2
  refine ⟨_,hN.less,x',_,hN.ok,rfl,h2,?_,?_,hs2,hd2⟩
  ·have:st2.cut (aC.aj.length+(L x').length) (aC.toks.length+(U x').length)=⟨aC.aj++L x',aC.toks++U x'⟩:=by
    simp only [St.cut,hN.aj,hN.toks]
   rw [←this]
   exact h1
  ·have:=hf2.oy (aC.aj.length+(L x').length) (aC.toks.length+(U x').length)
   intro t
   rcases eG (kG hN.slots hN.win) t with e|e<;>rw [e]
   ·exact this t
   ·exact .aU _
 ·exact ⟨.exit _,fr2,st2,c2,hq,he2,hc2,hf2,hs2,hd2,hx⟩
 ·exact ⟨.ret,fr2,st2,c2,hq,he2,hc2,hf2,hs2,hd2,trivial⟩
 ·exact ⟨.dw _,fr2,st2,c2,hq,he2,hc2,hf2,hs2,hd2,hx⟩
end loops
section
variable {P:Program}
def Uq (b:Bool) (s:List UInt8) (i:Int):Option V:=if b&&decide (0≤i) then (s[i.toNat]?).map fun b=> .d (.int .u8 b.toNat) else none
theorem yE (t:TypeId) (s:List UInt8) (k:IntKind) (i:Int):kC P t (.d (.str s)) (.d (.int k i))=Uq (isStr P t) s i:=(rfl)
theorem N1 {s:List UInt8} {i:Int} (h0:0≤i) (h1:i.toNat<s.length):Uq true s i=some (.d (.int .u8 (s.getD i.toNat 0).toNat)):=by simp [Uq,h0,h1]
def wI (r:Bool) (es:List (List D)) (i:Int):Option V:=if 0≤i∧i.toNat<es.length∧r=true then some (.ep (es.getD i.toNat []) 0) else none
def Ur (s:Option (Nat×Nat×Nat)) (es:List (List D)) (i:Int):Option V:=match s with|some (_,sz,_)=>wI (cr sz es) es i|none=>none
theorem di {t e sz by_:Nat} (h:mU P t=some (e,sz,by_)) (es:List (List D)) (k:IntKind) (i:Int):gl P t (.d (.sl es)) (.d (.int k i))=wI (cr sz es) es i:=by
 rw [yw P h (x:= .d (.sl es)) rfl];rfl
theorem evalIndexAddr_own {t e sz by_:Nat} (h:mU P t=some (e,sz,by_)) (id:Nat) (es:List (List D)) (k:IntKind) (i:Int):gl P t (.own id es) (.d (.int k i))=wI (cr sz es) es i:=by
 rw [yw P h (x:= .own id es) rfl];rfl
theorem Bo {es:List (List D)} {i:Int} (h0:0≤i) (h1:i.toNat<es.length):wI true es i=some (.ep (es.getD i.toNat []) 0):=by simp [wI,h0,h1]
theorem CY {α:Type} [Inhabited α] {f:α→List D} {l:List α} {i:Int} (h0:0≤i) (h1:i.toNat<l.length):wI true (l.map f) i=some (.ep (f (l.getD i.toNat default)) 0):=by
 simp [wI,h0,h1,aaK]
theorem EJ {k:IntKind} {a:Int} (h:0≤a):wA (.d (.int k a))=some a.toNat:=by simp [wA,h]
theorem EK {l h:Nat} {x:List UInt8} (h1:l≤h) (h2:h≤x.length):Bd true (some l) (some h) x=some (.d (.str ((x.take h).drop l))):=by simp [Bd,h1,h2]
def Us (r:Bool) (l h:Nat) (es:List (List D)):Option V:=if l≤h∧h≤es.length∧r=true then some (.d (.sl ((es.take h).drop l))) else none
theorem HJ (e sz by_ l h:Nat) (es:List (List D)):Be (some (e,sz,by_)) (some l) (some h) es=Us (cr sz es) l h es:=(rfl)
theorem slR_map {α:Type} {f:α→List D} {l h:Nat} {es:List α} (h1:l≤h) (h2:h≤es.length):Us true l h (es.map f)=some (.d (.sl (((es.take h).drop l).map f))):=by simp [Us,h1,h2,List.map_take,List.map_drop]
variable (k:IntKind) (t:TypeId)
theorem bin_shl' {k':IntKind} {a b:Int} (h:0≤b):evalBin P .shl t (.d (.int k a)) (.d (.int k' b))=some (.d (.int k (shlI k a b))):=by rw [bin_shl,if_neg (by omega)]
theorem bin_shr' {k':IntKind} {a b:Int} (h:0≤b):evalBin P .shr t (.d (.int k a)) (.d (.int k' b))=some (.d (.int k (shrI k a b))):=by rw [bin_shr,if_neg (by omega)]
theorem HK {a b:Int} (h:b≠0):evalBin P .quo t (.d (.int k a)) (.d (.int k b))=some (.d (.int k (k.wrap (a.tdiv b)))):=by rw [KF,if_neg h]
theorem HL {a b:Int} (h:b≠0):evalBin P .rem t (.d (.int k a)) (.d (.int k b))=some (.d (.int k (a.tmod b))):=by rw [KG,if_neg h]
theorem HM (a b:Int):evalBin P .eql t (.d (.int k a)) (.d (.int k b))=some (.d (.bool (decide (a=b)))):=by
 rw [KH];by_cases h:a=b<;>simp [h]
theorem HN (a b:Int):evalBin P .neq t (.d (.int k a)) (.d (.int k b))=some (.d (.bool (decide (a≠b)))):=by
 rw [KI];by_cases h:a=b<;>simp [h]
theorem EL (x y:List UInt8):evalBin P .eql t (.d (.str x)) (.d (.str y))=some (.d (.bool (decide (x=y)))):=by
 rw [Hp];by_cases h:x=y<;>simp [h]
theorem EM (x y:List UInt8):evalBin P .neq t (.d (.str x)) (.d (.str y))=some (.d (.bool (decide (x≠y)))):=by
 rw [Hq];by_cases h:x=y<;>simp [h]
theorem Bp (p:Prop) [Decidable p]:(!decide p)=decide (¬ p):=by by_cases h:p<;>simp [h]
theorem wrap64 {n:Int} (h1: -9223372036854775808≤n) (h2:n≤9223372036854775807):IntKind.i64.wrap n=n:=Go.IntWalk.i64_in n ⟨h1,h2⟩
theorem Qu {n:Int} (h1:0≤n) (h2:n≤255):IntKind.u8.wrap n=n:=Go.IntWalk.u8_in n ⟨h1,h2⟩
theorem aB {α:Type} [Inhabited α] {l:List α} {i:Nat} (h:i<l.length):l.getD i default∈l:=by simp [aaK,h]
theorem getD_eq {α:Type} [Inhabited α] {l:List α} {i:Nat} (h:i<l.length):l.getD i default=l[i]:=by simp [aaK,h]
theorem wJ (i:Nat):(i:Int)+1=((i+1:Nat):Int):=(rfl)
theorem Bq (i:Nat):(i:Int)+2=((i+2:Nat):Int):=(rfl)
theorem Br (i:Nat):(i:Int)+3=((i+3:Nat):Int):=(rfl)
theorem HO (i j:Nat):(i:Int)+(j:Int)=((i+j:Nat):Int):=(rfl)
theorem cast_lt (i j:Nat):((i:Int)< (j:Int))=(i<j):=propext Int.ofNat_lt
theorem cast_le (i j:Nat):((i:Int)≤(j:Int))=(i≤j):=propext Int.ofNat_le
theorem cast_eq (i j:Nat):((i:Int)=(j:Int))=(i=j):=propext Int.ofNat_inj
theorem HP {i j:Nat} (h:j≤i):(i:Int) - (j:Int)=((i - j:Nat):Int):=by omega
theorem HQ {α:Type} (l m:List α) (k:Nat):(l++m).take (l.length+k)=l++m.take k:=by
 have:l.take (l.length+k)=l:=aa0 (by omega)
 simp [List.take_append,this]
attribute [go_sem] EI KZ HF okW_nil HH HQ wJ Bq Br HO cast_lt cast_le cast_eq HP yE N1 CY EJ EK HJ slR_map bin_shl' bin_shr' HK HL HM HN EL EM wrap64 Qu Bp
end
end Go.Abs
end
section
namespace Go.Abs
open Go.RowKit
section
variable {P:Program} {G:World→Nat→Prop} {n:NDs} {aC:St} {Q:AX→Fr→St→Prop} {fr:Fr} {st:St}
def cG (P:Program) (G:World→Nat→Prop) (n:NDs) (aC:St) (b:Bool) (x y:Code) (Q:AX→Fr→St→Prop) (fr:Fr) (st:St):Prop:=AW P G n aC (if b=true then x else y) Q fr st
theorem AW.Qv {x y:Code} {o:Operand} {b:Bool} (hb:ev fr o= .d (.bool b)) (h:cG P G n aC b x y Q fr st):AW P G n aC (.cond o x y) Q fr st:=AW.cond hb h
theorem condQ_t {x y:Code} (h:AW P G n aC x Q fr st):cG P G n aC true x y Q fr st:=h
theorem condQ_f {x y:Code} (h:AW P G n aC y Q fr st):cG P G n aC false x y Q fr st:=h
theorem yG {x y:Code} {p:Prop} [Decidable p] (hp:p) (h:AW P G n aC x Q fr st):cG P G n aC (decide p) x y Q fr st:=by
 rw [decide_eq_true hp];exact h
theorem yH {x y:Code} {p:Prop} [Decidable p] (hp:¬ p) (h:AW P G n aC y Q fr st):cG P G n aC (decide p) x y Q fr st:=by
 rw [decide_eq_false hp];exact h
theorem condQ_d {x y:Code} {p:Prop} [Decidable p] (ht:p→AW P G n aC x Q fr st) (hf:¬ p→AW P G n aC y Q fr st):cG P G n aC (decide p) x y Q fr st:=by
 by_cases hp:p
 ·exact yG hp (ht hp)
 ·exact yH hp (hf hp)
theorem HR {x y:Code} {b:Bool} (hb:b=true) (h:AW P G n aC x Q fr st):cG P G n aC b x y Q fr st:=by subst hb;exact h
theorem HT {x y:Code} {b:Bool} (hb:b=false) (h:AW P G n aC y Q fr st):cG P G n aC b x y Q fr st:=by subst hb;exact h
theorem condQ_b {x y:Code} {b:Bool} (ht:b=true→AW P G n aC x Q fr st) (hf:b=false→AW P G n aC y Q fr st):cG P G n aC b x y Q fr st:=by
 cases b
 ·exact hf rfl
 ·exact ht rfl
theorem HU {x y:Code} {b:Bool} (ht:b=false→AW P G n aC x Q fr st) (hf:b=true→AW P G n aC y Q fr st):cG P G n aC (!b) x y Q fr st:=by
 cases b
 ·exact ht rfl
 ·exact hf rfl
variable {d:Bool} {res:List Nat} {all:Array Oper}
def GQ (P:Program) (G:World→Nat→Prop) (n:NDs) (aC:St) (d:Bool) (res:List Nat) (all:Array Oper) (Q:AX→Fr→St→Prop) (v:V) (j t:Nat) (l:List Oper) (fr:Fr) (st:St):Prop:=
 fr t=v→OX P G n aC d res all Q l fr st
theorem OX.gd {dd:Option Tmp} {op:Op} {ty:TypeId} {pos:String} {after:Array Edge} {r:List Oper} {j:Nat} {want:Bool} {t:Tmp} {v:V} (_hn:res.contains j=false) (_ht:(all[j]?).bind (·.dst)=some t) (hb:fr t=v)
  (h:GQ P G n aC d res all Q v j t ({ dst:=dd,op:=op,type:=ty,pos:=pos,after:=after,guard:=some (j,want) }::r) fr st):
  OX P G n aC d res all Q ({ dst:=dd,op:=op,type:=ty,pos:=pos,after:=after,guard:=some (j,want) }::r) fr st:=h hb
theorem N3 {l:List Oper} {j t:Nat} (h:OX P G n aC d (j::res) all Q l fr st):GQ P G n aC d res all Q (.cF []) j t l fr st:=fun _=>h
theorem Ut {l:List Oper} {j t:Nat} (h:OX P G n aC d (j::res) all Q l fr st):GQ P G n aC d res all Q (.d (.bool true)) j t l fr st:=fun _=>h
theorem Uu {l:List Oper} {j t:Nat} (h:OX P G n aC d (j::res) all Q l fr st):GQ P G n aC d res all Q (.d (.bool false)) j t l fr st:=fun _=>h
theorem Qw {l:List Oper} {j t:Nat} {b:Bool} (h1:b=true→OX P G n aC d (j::res) all Q l (upd fr t (.d (.bool true))) st) (h2:b=false→OX P G n aC d (j::res) all Q l (upd fr t (.d (.bool false))) st):
  GQ P G n aC d res all Q (.d (.bool b)) j t l fr st:=by
 intro hb
 cases b
 ·rw [pJ hb] at h2;exact h2 rfl
 ·rw [pJ hb] at h1;exact h1 rfl
theorem N4 {l:List Oper} {j t:Nat} {p:Prop} [Decidable p] (h1:p→OX P G n aC d (j::res) all Q l (upd fr t (.d (.bool true))) st) (h2:¬ p→OX P G n aC d (j::res) all Q l (upd fr t (.d (.bool false))) st):
  GQ P G n aC d res all Q (.d (.bool (decide p))) j t l fr st:=
 Qw (fun h=>h1 (of_decide_eq_true h)) (fun h=>h2 (of_decide_eq_false h))
theorem Qx {l:List Oper} {j t:Nat} {p:Prop} [Decidable p] (hp:p) (h1:OX P G n aC d (j::res) all Q l (upd fr t (.d (.bool true))) st):
  GQ P G n aC d res all Q (.d (.bool (decide p))) j t l fr st:=N4 (fun _=>h1) fun h=>absurd hp h
theorem Qy {l:List Oper} {j t:Nat} {p:Prop} [Decidable p] (hp:¬ p) (h1:OX P G n aC d (j::res) all Q l (upd fr t (.d (.bool false))) st):
  GQ P G n aC d res all Q (.d (.bool (decide p))) j t l fr st:=N4 (fun h=>absurd h hp) fun _=>h1
structure Qz {τ:Type} (aC:St) (σ:τ→List (Nat×V)) (S:τ→St) (p:τ→Prop) (μ:τ→Nat) (x:τ) (fr:Fr) (st:St) (x':τ):Prop where
 slots:okF fr (σ x')
 ok:p x'
 less:μ x'<μ x
 state:st.cut (S x').aj.length (S x').toks.length=S x'
 aj:aC.aj.length≤(S x').aj.length
 toks:aC.toks.length≤(S x').toks.length
 win:okW (S x').aj.length (S x').toks.length (σ x')=true
 old:∀ (b:Nat) (B:aJ),(S x').aj[b]?=some B→aC.aj[b]?=some B∨B.within (S x').aj.length (S x').toks.length=true
theorem AW.Nc {τ:Type} (σ:τ→List (Nat×V)) (S:τ→St) (p:τ→Prop) (μ:τ→Nat) (x0:τ) {body:Code}
  (hst:st=S x0) (h0:okF fr (σ x0)) (hp:p x0)
  (round:∀ x,p x→AW P G n aC body (bz (fun fr' st'=>∃ x',Qz aC σ S p μ x fr' st' x') Q) (jO (σ x)) (S x)):AW P G n aC (.loop body) Q fr st:=by
 subst hst
 refine AW.prune (jO (σ x0)) (eG h0) ?_
 intro c0 c w a h0' he0 hc hg hf hs hd
 refine wp_loop_ghost (fun k a w=>∃ x c1,p x∧μ x=k∧Ext c0 c1∧bf c1 w (S x)∧cC c1 a.tmps (jO (σ x))∧a.tmps.size=n.sz∧a.defers=n.ds) (μ x0)
  ⟨x0,c,hp,rfl,he0,hc,hf,hs,hd⟩ ?_
 rintro k a1 w1 ⟨x,c1,hI,rfl,he,hc1,hf1,hs1,hd1⟩
 refine wp_mono (round x hI c0 c1 w1 a1 h0' he hc1 (by rw [he.w0,he.base,←he0.w0,←he0.base];exact hg) hf1 hs1 hd1) ?_
 rintro e a2 w2 ⟨x2,fr2,st2,c2,hq,he2,hc2,hf2,hs2,hd2,hx⟩
 cases e<;>cases x2<;>simp only [lY] at hx
 ·obtain ⟨x',hN⟩:=hq
  have hb:st2.aj.take (S x').aj.length=(S x').aj:=congrArg St.aj hN.state
  have hcut:rV aC st2 (S x').aj.length (S x').toks.length:=by
   refine ⟨hN.aj,hN.toks,fun b B hlt hB=>hN.old b B ?_⟩
   rw [←hb,abk hlt];exact hB
  obtain ⟨h1,h2⟩:=hcut.DS h0' he2 hc2
  refine ⟨_,hN.less,x',_,hN.ok,rfl,h2,?_,?_,hs2,hd2⟩
  ·rw [←hN.state];rw [←hN.state] at h1;simpa [hN.state] using h1
  ·have:=hf2.oy (S x').aj.length (S x').toks.length
   intro t
   rcases eG (kG hN.slots hN.win) t with e|e<;>rw [e]
   ·exact this t
   ·exact .aU _
 ·exact ⟨.exit _,fr2,st2,c2,hq,he2,hc2,hf2,hs2,hd2,hx⟩
 ·exact ⟨.ret,fr2,st2,c2,hq,he2,hc2,hf2,hs2,hd2,trivial⟩
 ·exact ⟨.dw _,fr2,st2,c2,hq,he2,hc2,hf2,hs2,hd2,hx⟩
theorem aM {fn:Func} {R:Out→St→Prop} {st' s1:St} {v:V} (hs:st'.cut st.aj.length st.toks.length=s1)
  (ho:∀ (b:Nat) (B:aJ),s1.aj[b]?=some B→st.aj[b]?=some B∨B.within st.aj.length st.toks.length=true)
  (hw:v.within st.aj.length st.toks.length=true) (hR:R (.dw v) s1):bK P fn st R (.dw v) fr st':=by
 subst hs
 refine ⟨st.toks.length,⟨aaP _,aaP _,fun b B h1 h2=>ho b B ?_⟩,hw,hR⟩
 simp only [St.cut]
 rw [abk h1];exact h2
end
attribute [go_sem] List.length_cons List.length_nil List.length_append List.length_map List.append_assoc List.cons_append List.nil_append List.append_nil List.getElem?_cons_zero List.getElem?_cons_succ List.take_succ_cons List.take_zero List.take_nil List.drop_succ_cons List.drop_zero List.drop_nil List.map_cons List.map_nil List.map_append List.all_cons List.all_nil List.set_cons_zero List.set_cons_succ Option.map_some Option.map_none Option.bind_some Option.bind_none Option.getD_some Nat.add_zero Nat.zero_add Nat.le_refl Option.isSome_some Int.toNat_natCast List.getElem?_toArray Nat.sub_self List.length_set List.take_length List.take_left' N0 Bool.true_or Bool.false_or Bool.or_true Bool.or_false Bool.not_true Bool.not_false Bool.and_false Bool.false_and decide_true decide_false decide_eq_true_eq Bool.false_eq_true Bool.true_and Bool.and_true true_and and_true if_true if_false and_self List.toList_toArray Int.zero_add Int.add_zero Int.mul_zero Int.zero_mul Int.sub_zero
end Go.Abs
namespace Go.Abs
open Go.RowKit
section
variable {P:Program} {G:World→Nat→Prop} {n:NDs} {aC:St} {Q:AX→Fr→St→Prop} {fr:Fr} {st:St}
theorem AW.Uv {x y:Code} (id:Nat) (σ:List (Nat×V)) (S:St) (h1:AW P G n aC (.block id x) (bz (fun fr' st'=>okF fr' σ∧st'=S) Q) fr st) (h2:AW P G n aC y Q (jO σ) S):AW P G n aC (.seq (.block id x) y) Q fr st:=by
 refine AW.seq (h1.mono fun e fr' st' hx=>?_)
 cases e<;>simp only [bz] at hx ⊢
 ·obtain ⟨ho,rfl⟩:=hx
  exact AW.prune (jO σ) (eG ho) h2
 all_goals exact hx
end
end Go.Abs
namespace Go.Abs
open Go.RowKit
section
variable {P:Program} {G:World→Nat→Prop} {n:NDs} {aC:St} {Q:AX→Fr→St→Prop} {fr:Fr} {st:St}
def bO (P:Program) (G:World→Nat→Prop) (n:NDs) (aC:St) (body:Code) (Q:AX→Fr→St→Prop):Nat→Fr→St→Prop
 |0,_,_=>False
 |k+1,fr,st=>AW P G n aC body (bz (bO P G n aC body Q k) Q) fr st
theorem wK {body:Code} {k:Nat} (h:AW P G n aC body (bz (bO P G n aC body Q k) Q) fr st):bO P G n aC body Q (k+1) fr st:=h
theorem AW.rounds {body:Code} (k:Nat) (h:bO P G n aC body Q k fr st):AW P G n aC (.loop body) Q fr st:=by
 intro c0 c w a h0' he0 hc hg hf hs hd
 refine wp_loop_ghost (fun k a w=>∃ c1 fr st,bO P G n aC body Q k fr st∧Ext c0 c1∧bf c1 w st∧cC c1 a.tmps fr∧a.tmps.size=n.sz∧a.defers=n.ds) k
  ⟨c,fr,st,h,he0,hc,hf,hs,hd⟩ ?_
 rintro k a1 w1 ⟨c1,fr1,gD,hI,he,hc1,hf1,hs1,hd1⟩
 cases k with
 |zero=>exact hI.elim
 |succ k=>
  refine wp_mono (hI c0 c1 w1 a1 h0' he hc1 (by rw [he.w0,he.base,←he0.w0,←he0.base];exact hg) hf1 hs1 hd1) ?_
  rintro e a2 w2 ⟨x2,fr2,st2,c2,hq,he2,hc2,hf2,hs2,hd2,hx⟩
  cases e<;>cases x2<;>simp only [lY] at hx
  ·exact ⟨k,Nat.lt_succ_self _,c2,fr2,st2,hq,he2,hc2,hf2,hs2,hd2⟩
  ·exact ⟨.exit _,fr2,st2,c2,hq,he2,hc2,hf2,hs2,hd2,hx⟩
  ·exact ⟨.ret,fr2,st2,c2,hq,he2,hc2,hf2,hs2,hd2,trivial⟩
  ·exact ⟨.dw _,fr2,st2,c2,hq,he2,hc2,hf2,hs2,hd2,hx⟩
end
end Go.Abs
namespace Go.Abs
open Go.RowKit
section
variable {P:Program} {G:World→Nat→Prop} {n:NDs} {aC:St} {Q:AX→Fr→St→Prop} {fr:Fr} {st:St}
structure XY (P:Program) (G:World→Nat→Prop) (n:NDs) (aC:St) (y:Code) (Q:AX→Fr→St→Prop) (K:Fr→St→Prop):Prop where
 use:∀ fr st,AW P G n aC y Q fr st→K fr st
theorem XY.go {y:Code} {K:Fr→St→Prop} (h:XY P G n aC y Q K) (k:AW P G n aC y Q fr st):K fr st:=h.use _ _ k
theorem AW.blockN {x:Code} {id:Nat} (h:AW P G n aC x (aY id Q) fr st):AW P G n aC (.block id x) Q fr st:=AW.block h
end
end Go.Abs
namespace Go.Abs
open Go.RowKit
section
variable {P:Program} {G:World→Nat→Prop} {n:NDs} {aC:St} {Q:AX→Fr→St→Prop} {fr:Fr} {st:St}
theorem AW.Gp {x y:Code} (id:Nat) (h:AW P G n aC (.seq (.block id x) y) Q fr st):AW P G n aC (.seq (.block id x) y) Q fr st:=h
theorem AW.Ga {x:Code} (h:AW P G n aC (.loop x) Q fr st):AW P G n aC (.loop x) Q fr st:=h
end
end Go.Abs
end
section
namespace Go.Abs
open Go.RowKit
def lz (id:Nat) (es:List (List D)):V:=match es with|[]=> .bh|es=> .own id es
def k9 (e sz:Nat) (es:List (List D)):List (Nat×Nat×Nat):=match es with|[]=>[]|es=>[(e,sz,es.length)]
theorem HV (id:Nat):lz id []= .bh:=(rfl)
theorem lzT_nil (e sz:Nat):k9 e sz []=[]:=(rfl)
section
variable {P:Program} {t:TypeId} {st:St}
theorem HW (id:Nat) (es:List (List D)):(lz id es).me=some (.sl es):=by cases es<;>rfl
theorem HY (id:Nat) (es:List (List D)):(lz id es).share= .d (.sl es):=by cases es<;>rfl
theorem N5 (id:Nat) (es:List (List D)):(lz id es).one=true:=by cases es<;>rfl
theorem HZ (id:Nat) (es:List (List D)):(lz id es).cells=some [lz id es]:=by cases es<;>rfl
theorem pK (N M:Nat) (e sz:Nat) (es:List (List D)):(lz M es).within N (M+(k9 e sz es).length)=true:=by cases es<;>simp [lz,k9,V.within]
theorem N6 (id:Nat) (es:List (List D)):gN P t (lz id es)=yy (mU P t) es.length:=by
 cases es
 ·exact oG P t
 ·exact qu P t id _
theorem lz_ix (id:Nat) (es:List (List D)) (k:IntKind) (i:Int):gl P t (lz id es) (.d (.int k i))=Ur (mU P t) es i:=by
 cases hs:mU P t with
 |none=>cases es<;>simp only [lz,gl,V.me,hs,Ur]<;>split<;>rfl
 |some g=>
  obtain ⟨e,sz,by_⟩:=g
  rw [yw P hs (x:=lz id es) (HW id es)];rfl
theorem H6 (e sz by_:Nat) (es:List (List D)) (i:Int):Ur (some (e,sz,by_)) es i=wI (cr sz es) es i:=(rfl)
def Bt (P:Program) (o:Option (Nat×Nat×Nat)) (X:Option D) (s:V) (st:St):Option (V×St):=
 match o,X with
 |some (e,sz,by_),some (.sl xs)=>
  if dA sz xs=true∧0<sz∧dy P e=some sz then match s with
   | .bh=>
    if xs.length*by_≤ff∧xs.length≤maxLen then
     if xs.isEmpty then some (.bh,st) else some (.own st.toks.length xs,{ st with toks:=st.toks++[(e,sz,xs.length)] })
    else none
   | .own id es=>
    if st.toks[id]?=some (e,sz,es.length)∧cr sz es=true∧(es.length+xs.length)*by_≤ff∧es.length+xs.length≤maxLen then
     if xs.isEmpty then some (.own id es,st) else some (.own id (es++xs),{ st with toks:=st.toks.set id (e,sz,es.length+xs.length) })
    else none
   |_=>none
  else none
 |_,_=>none
theorem N7 (s x:V):fu P t s x st=Bt P (mU P t) x.me s st:=(rfl)
def jt (z:Option Nat) (r l:Bool) (e sz by_:Nat) (xs:List (List D)) (s:V) (st:St):Option (V×St):=
  if r=true∧0<sz∧z=some sz then match s with
   | .bh=>
    if xs.length*by_≤ff∧xs.length≤maxLen then
     if xs.isEmpty then some (.bh,st) else some (.own st.toks.length xs,{ st with toks:=st.toks++[(e,sz,xs.length)] })
    else none
   | .own id es=>
    if st.toks[id]?=some (e,sz,es.length)∧l=true∧(es.length+xs.length)*by_≤ff∧es.length+xs.length≤maxLen then
     if xs.isEmpty then some (.own id es,st) else some (.own id (es++xs),{ st with toks:=st.toks.set id (e,sz,es.length+xs.length) })
    else none
   |_=>none
  else none
theorem N8 (e sz by_ id:Nat) (xs es:List (List D)):Bt P (some (e,sz,by_)) (some (.sl xs)) (lz id es) st=jt (dy P e) (dA sz xs) (cr sz es) e sz by_ xs (lz id es) st:=by cases es<;>rfl
theorem oK (e sz by_:Nat) (xs:List (List D)):Bt P (some (e,sz,by_)) (some (.sl xs)) .bh st=jt (dy P e) (dA sz xs) true e sz by_ xs .bh st:=(rfl)
theorem mV (e sz by_ id:Nat) (xs es:List (List D)):Bt P (some (e,sz,by_)) (some (.sl xs)) (.own id es) st=jt (dy P e) (dA sz xs) (cr sz es) e sz by_ xs (.own id es) st:=(rfl)
theorem CZ (e sz by_:Nat) (xs es:List (List D)) (B:List aJ) (T:List (Nat×Nat×Nat)) (h0:0<sz) (hx:0<xs.length) (h1:(es.length+xs.length)*by_≤140737488355328) (h2:es.length+xs.length≤9223372036854775807):
  jt (some sz) true true e sz by_ xs (lz T.length es) ⟨B,T++k9 e sz es⟩=some (lz T.length (es++xs),⟨B,T++k9 e sz (es++xs)⟩):=by
 have hm:maxLen=9223372036854775807:=by decide
 have hxe:xs.isEmpty=false:=by cases xs<;>simp_all
 cases es with
 |nil=>
  simp only [aaV,abl] at h1 h2
  cases xs with
  |nil=>simp at hx
  |cons x xs=>simp [jt,lz,k9,ff,hm,h0];simp at h1 h2;exact ⟨h1,h2⟩
 |cons y es=>
  simp only [jt,lz,k9,ff,hm,h0]
  rw [if_pos ⟨trivial,trivial,trivial⟩,if_pos ⟨by simp,trivial,by simpa using h1,by simpa using h2⟩,hxe]
  simp;omega
attribute [go_sem] HV lzT_nil HW HY N5 HZ pK N6 lz_ix H6 N7 N8 CZ
end
section
variable {P:Program} {G:World→Nat→Prop} {n:NDs} {aC:St} {Q:AX→Fr→St→Prop} {fr:Fr} {st:St} {d:Bool} {res:List Nat} {all:Array Oper}
attribute [go_sem] jG uQ shareL_nil qt iM
end
def xU:aJ→aJ
 | .cells cs=> .cells (V.share.fL cs)
 | .iter s p=> .iter s p
 | .mp kd n f=> .mp kd n f
 | .tc e cs=> .tc e (V.share.fL cs)
theorem EO (cs:List V):xU (.cells cs)= .cells (V.share.fL cs):=(rfl)
theorem eS.xU {c:Ctx} {o:Obj} {B:aJ} (r:eS c o B):eS c o (Abs.xU B):=by
 cases r with
 |cells arr elem cs hs hr=>
  refine .cells arr elem _ (by rw [aay];exact hs) fun i hi=>?_
  rw [aay] at hi
  rw [jh cs i hi]
  exact (hr i hi).share
 |tc arr elem cs hs hr=>
  refine .tc arr elem _ (by rw [aay];exact hs) fun i hi=>?_
  rw [aay] at hi
  rw [jh cs i hi]
  exact (hr i hi).share
 |iter s l pos e=>exact .iter s l pos e
 |mp es clock kd n f hf=>exact .mp es clock kd n f hf
theorem bf.xU {c:Ctx} {w:World} {bs bs':List aJ} {t:List (Nat×Nat×Nat)} (h:bf c w ⟨bs,t⟩) (hl:bs'.length=bs.length) (hb:∀ (i:Nat) (B B':aJ),bs[i]?=some B→bs'[i]?=some B'→B'=B∨B'=Abs.xU B):bf c w ⟨bs',t⟩ where
 cN:=by rw [h.cN];exact hl.symm
 dH:=h.dH
 cI:=h.cI
 mS:=h.mS
 blk:=by
  intro b k B hk hB
  have hlt:b<bs.length:=by rw [←hl];exact (aaL.1 hB).1
  obtain ⟨o,ho,hr⟩:=h.blk b k bs[b] hk (aaT hlt)
  rcases hb b bs[b] B (aaT hlt) hB with rfl|rfl
  ·exact ⟨o,ho,hr⟩
  ·exact ⟨o,ho,hr.xU⟩
 cu:=h.cu
 cz:=h.cz
 cK:=h.cK
 cy:=h.cy
 below:=h.below
 cw:=h.cw
section
variable {P:Program} {G:World→Nat→Prop} {n:NDs} {aC:St} {Q:AX→Fr→St→Prop} {fr:Fr} {st:St}
structure wL {τ:Type} (aC:St) (σ:τ→List (Nat×V)) (L:τ→List aJ) (U:τ→List (Nat×Nat×Nat)) (p:τ→Prop) (μ:τ→Nat) (x:τ) (fr:Fr) (st:St) (x':τ):Prop where
 slots:okF fr (σ x')
 ok:p x'
 less:μ x'<μ x
 aj:∃ M,st.aj.take (aC.aj.length+(L x').length)=aC.aj++M∧M.map xU=L x'
 toks:st.toks.take (aC.toks.length+(U x').length)=aC.toks++U x'
 win:okW (aC.aj.length+(L x').length) (aC.toks.length+(U x').length) (σ x')=true
 HI:∀ M,M.map xU=L x'→st.aj.take (aC.aj.length+(L x').length)=aC.aj++M→M.all (fun B=>B.within (aC.aj.length+(L x').length) (aC.toks.length+(U x').length))=true
end
attribute [go_sem] EO
section
variable {P:Program} {G:World→Nat→Prop} {n:NDs} {aC:St} {Q:AX→Fr→St→Prop}
inductive jZ (P:Program) (G:World→Nat→Prop) (n:NDs) (all:Array Oper) (muts:List Nat):Nat→List Oper→Fr→St→List V→List St→Fr→St→Prop
 |nil (i:Nat) (fr:Fr) (st:St):jZ P G n all muts i [] fr st [] [] fr st
 |cons (i:Nat) (o:Oper) (r:List Oper) (fr:Fr) (st:St) (v:V) (gD:St) (vs:List V) (ss:List St) (fr':Fr) (st':St):cL P G n all o fr st v gD→(bp muts i o=1→gD=st)→
   jZ P G n all muts (i+1) r (eC fr o.dst v) gD vs ss fr' st'→jZ P G n all muts i (o::r) fr st (v::vs) (gD::ss) fr' st'
theorem Nb.toM {all:Array Oper} {l:List Oper} {fr fr':Fr} {st st':St} {vs:List V} {ss:List St} (h:Nb P G n all l fr st vs ss fr' st'):∀ i,jZ P G n all [] i l fr st vs ss fr' st':=by
 induction h with
 |nil fr st=>intro i;exact .nil i fr st
 |cons o r fr st v gD vs ss fr' st' h1 h2 _ ih=>intro i;exact .cons i o r fr st v gD vs ss fr' st' h1 (fun hk=>h2 (by simpa [bp] using hk)) (ih (i+1))
theorem jZ.run {all:Array Oper} {muts:List Nat} {res:List Nat}:∀ {l:List Oper} {fr:Fr} {st:St} {rest:List Oper} {fr':Fr} {st':St} {fr'':Fr} {st'':St} {i:Nat} {vs ss},
  cJ P n all res l fr st=some (rest,fr',st')→jZ P G n all muts (i+(l.length - rest.length)) rest fr' st' vs ss fr'' st''→∃ vs ss,jZ P G n all muts i l fr st vs ss fr'' st''
 |[],fr,st,rest,fr',st',fr'',st'',i,vs,ss,h,k=>by
  simp only [cJ,aaJ,aaZ] at h
  obtain ⟨rfl,rfl,rfl⟩:=h
  exact ⟨vs,ss,by simpa using k⟩
 |o::r,fr,st,rest,fr',st',fr'',st'',i,vs,ss,h,k=>by
  simp only [cJ] at h
  split at h
  ·split at h
   ·rename_i hg
    split at h
    ·simp only [aaJ,aaZ] at h
     obtain ⟨rfl,rfl,rfl⟩:=h
     exact ⟨vs,ss,by simpa using k⟩
    ·rename_i hne
     split at h
     ·rename_i v gD he
      split at h
      ·rename_i hd
       have hlen:=jP h
       obtain ⟨vs1,ss1,h1⟩:=jZ.run (i:=i+1) (vs:=vs) (ss:=ss) h (by
        have:i+1+(r.length - rest.length)=i+((o::r).length - rest.length):=by simp only [aaM];omega
        rw [this];exact k)
       exact ⟨_,_,.cons i o r fr st v gD _ _ _ _ (.op _ _ hg he hd) (fun hk=>iZ (by simpa using hne) he (wM hk)) h1⟩
      ·simp at h
     ·simp at h
   ·rename_i hg
    split at h
    ·rename_i hd
     have hlen:=jP h
     obtain ⟨vs1,ss1,h1⟩:=jZ.run (i:=i+1) (vs:=vs) (ss:=ss) h (by
        have:i+1+(r.length - rest.length)=i+((o::r).length - rest.length):=by simp only [aaM];omega
        rw [this];exact k)
     exact ⟨_,_,.cons i o r fr st _ st _ _ _ _ (.skip hg hd) (fun _=>rfl) h1⟩
    ·simp at h
   ·simp at h
  ·simp only [aaJ,aaZ] at h
   obtain ⟨rfl,rfl,rfl⟩:=h
   exact ⟨vs,ss,by simpa using k⟩
where
 jP:∀ {l:List Oper} {fr:Fr} {st:St} {rest:List Oper} {fr':Fr} {st':St},cJ P n all res l fr st=some (rest,fr',st')→rest.length≤l.length
 |[],fr,st,rest,fr',st',h=>by
  simp only [cJ,aaJ,aaZ] at h
  obtain ⟨rfl,rfl,rfl⟩:=h
  exact aaP _
 |o::r,fr,st,rest,fr',st',h=>by
  simp only [cJ] at h
  split at h
  ·split at h
   ·split at h
    ·simp only [aaJ,aaZ] at h
     obtain ⟨rfl,rfl,rfl⟩:=h
     exact aaP _
    ·split at h
     ·split at h
      ·have:=jP h;simp only [aaM];omega
      ·simp at h
     ·simp at h
   ·split at h
    ·have:=jP h;simp only [aaM];omega
    ·simp at h
   ·simp at h
  ·simp only [aaJ,aaZ] at h
   obtain ⟨rfl,rfl,rfl⟩:=h
   exact aaP _
 wM {i:Nat} {o:Oper} (h:bp muts i o=1):bp [] 0 o=1:=by
  unfold bp at h ⊢
  split at h
  ·simp at h
  ·simpa using h
theorem jZ.spec {all:Array Oper} {muts:List Nat}:∀ {l:List Oper} {fr:Fr} {st:St} {vs:List V} {ss:List St} {fr':Fr} {st':St} {q:Nat},jZ P G n all muts q l fr st vs ss fr' st'→
  ∀ (pre:List Oper) (fr0:Fr) (W:Nat→V) (T:Nat→St),pre.length=q→(∀ j o d,(pre++l)[j]?=some o→o.dst=some d→iO (pre++l) d=some j)→
   (∀ i,W (pre.length+i)=vs.getD i .aU)→(∀ i,T (pre.length+i)=(st::ss).getD i default)→fr=valOf (pre++l) fr0 W (fun k=>decide (k<pre.length))→
   (∀ i o,pre.length≤i→(pre++l)[i]?=some o→cL P G n all o (valOf (pre++l) fr0 W (fun k=>decide (k<i))) (T i) (W i) (T (i+1))∧(bp muts i o=1→T (i+1)=T i))∧
   fr'=valOf (pre++l) fr0 W (fun _=>true)∧st'=T (pre++l).length:=by
 intro l
 induction l with
 |nil=>
  intro fr st vs ss fr' st' q h pre fr0 W T hq hd hW hT hfr
  cases h
  refine ⟨fun i o h1 h2=>?_,?_,?_⟩
  ·rw [aaO h1] at h2
   simp at h2
  ·rw [hfr]
   funext t
   unfold valOf
   cases hw:iO (pre++[]) t with
   |none=>rfl
   |some i=>
    obtain ⟨o,h1,_⟩:=fE hw
    have:=(aaL.1 h1).1
    simp only [aa7] at this
    simp [this]
  ·have:=hT 0
   simp at this ⊢
   exact this.symm
 |cons o r ih=>
  intro fr st vs ss fr' st' q h pre fr0 W T hq hd hW hT hfr
  cases h with
  |cons _ _ _ _ _ v gD vs ss _ _ hs hk hr=>
   subst hq
   have heq:(pre++[o])++r=pre++o::r:=by simp
   have hlo:(pre++o::r)[pre.length]?=some o:=by simp
   have hput:eC fr o.dst v=valOf (pre++o::r) fr0 W (fun k=>decide (k<pre.length+1)):=by
    have hv:W pre.length=v:=by have:=hW 0;simpa using this
    funext t
    rw [hfr]
    unfold eC
    cases hdst:o.dst with
    |none=>
     simp only [valOf]
     cases hw:iO (pre++o::r) t with
     |none=>rfl
     |some i=>
      have hi:i≠pre.length:=by
       rintro rfl
       obtain ⟨o',h1,h2⟩:=fE hw
       rw [hlo] at h1
       cases h1
       rw [hdst] at h2
       cases h2
      have:(decide (i<pre.length))=decide (i<pre.length+1):=by simp;omega
      simp only [this]
    |some d=>
     simp only [upd]
     split
     ·rename_i htd
      subst htd
      simp only [valOf,hd pre.length o t hlo hdst]
      simp [hv]
     ·rename_i htd
      simp only [valOf]
      cases hw:iO (pre++o::r) t with
      |none=>rfl
      |some i=>
       have hi:i≠pre.length:=by
        rintro rfl
        obtain ⟨o',h1,h2⟩:=fE hw
        rw [hlo] at h1
        cases h1
        rw [hdst] at h2
        cases h2
        exact htd rfl
       have:(decide (i<pre.length))=decide (i<pre.length+1):=by simp;omega
       simp only [this]
   have:=ih hr (pre++[o]) fr0 W T (by simp) (by rw [heq];exact hd) (fun i=>by
     have:=hW (i+1)
     rw [aaQ,abg,show pre.length+1+i=pre.length+(i+1) by omega,this]
     simp) (fun i=>by
     have:=hT (i+1)
     rw [aaQ,abg,show pre.length+1+i=pre.length+(i+1) by omega,this]
     simp) (by rw [heq,aaQ,abg];exact hput)
   rw [heq,aaQ,abg] at this
   obtain ⟨h1,h2,h3⟩:=this
   refine ⟨fun i o' hi ho'=>?_,h2,h3⟩
   by_cases he:i=pre.length
   ·subst he
    rw [hlo] at ho'
    cases ho'
    have t0:=hT 0
    have t1:=hT 1
    have w0:=hW 0
    simp at t0 t1 w0
    rw [t0,t1,w0,←hfr]
    exact ⟨hs,hk⟩
   ·exact h1 i o' (by omega) ho'
theorem jZ.len {all:Array Oper} {muts:List Nat} {q:Nat} {l:List Oper} {fr fr':Fr} {st st':St} {vs:List V} {ss:List St} (h:jZ P G n all muts q l fr st vs ss fr' st'):vs.length=l.length∧ss.length=l.length:=by
 induction h with
 |nil=>exact ⟨rfl,rfl⟩
 |cons i o r fr st v gD vs ss fr' st' h1 h2 h3 ih=>simp [ih.1,ih.2]
structure Bu (P:Program) (l:List Oper) (fr':Fr) (S:Nat→St) (i hi:Nat):Prop where
 ex:∃ o t ty,l[i]?=some o∧o.op= .load ty (.tmp t)∧o.guard=none∧(∀ j,iO l t=some j→j<i)∧∀ k,k≤hi→∀ v s,bn P ty (fr' t) (S i)=some v→s=S k→bn P ty (fr' t) s=some v
theorem AW.wN {id:Nat} {l:List Oper} {fr:Fr} {st:St} {muts:List Nat} {ex:List (Nat×Nat)} (hm:P.follows .mixedOrders=true) (hok:fM l muts ex l.length=true)
  {vs:List V} {ss:List St} {fr':Fr} {st':St} (htr:jZ P G n l.toArray muts 0 l fr st vs ss fr' st') (hx:∀ i hi,(i,hi)∈ex→Bu P l fr' (fun k=>(st::ss).getD k default) i hi) (hQ:Q .normal fr' st'):
  AW P G n aC (.region id l.toArray true) Q fr st:=by
 intro c0 c w a h0 he hc hg hf hs hd
 have hg0:G c0.w0 c0.base:=by rw [←he.w0,←he.base];exact hg
 obtain ⟨h1,h2,h3⟩:=htr.spec [] fr (fun i=>vs.getD i .aU) (fun i=>(st::ss).getD i default) rfl (fun j o d ho hd=>(aaE hok ho).dst d hd) (by simp) (by simp) (by
  funext t;unfold valOf;cases iO ([]++l) t<;>simp)
 simp only [aa8,aaV,abt,true_implies] at h1 h2 h3
 have R:TX P G n l muts ex l.length fr (fun i=>vs.getD i .aU) (fun i=>(st::ss).getD i default):=by
  refine ⟨hok,aaP _,fun i o hi ho=>(h1 i o ho).1,fun i o hi ho=>(h1 i o ho).2,?_,fun _ _ _ h=>by cases h⟩
  intro i hi o hmem ho hil k hk hkm
  obtain ⟨o',t,ty,e1,e2,e3,e4,e5⟩:=(hx i hi hmem).ex
  rw [ho] at e1;cases e1
  obtain ⟨dst,op,type,pos,after,guard⟩:=o
  simp only at e2 e3
  subst e2 e3
  have hfr:fr' t=valOf l fr (fun i=>vs.getD i .aU) (fun k=>decide (k<i)) t:=by
   rw [h2];unfold valOf
   cases hw:iO l t with
   |none=>rfl
   |some j=>simp only [if_true,decide_eq_true (e4 j hw)]
  have hs:cL P G n l.toArray _ (valOf l fr (fun i=>vs.getD i .aU) (fun k=>decide (k<i))) ((st::ss).getD i default) (vs.getD i .aU) ((st::ss).getD (i+1) default):=(h1 i _ ho).1
  show cL P G n l.toArray _ (valOf l fr (fun i=>vs.getD i .aU) (fun k=>decide (k<i))) ((st::ss).getD k default) (vs.getD i .aU) ((st::ss).getD k default)
  generalize hq:valOf l fr (fun i=>vs.getD i .aU) (fun k=>decide (k<i))=fq at hs hfr ⊢
  generalize vs.getD i .aU=vv at hs ⊢
  generalize hS:(st::ss).getD i default=S1 at hs
  generalize (st::ss).getD (i+1) default=S2 at hs
  have e5:∀ v s,bn P ty (fr' t) ((st::ss).getD i default)=some v→s=(st::ss).getD k default→bn P ty (fr' t) s=some v:=e5 k hk
  rw [hS] at e5
  cases hs with
  |op _ _ g1 g2 g3=>
   refine .op _ _ rfl ?_ g3
   simp only [evalOp,ev] at g2 ⊢
   obtain ⟨q1,q2⟩:=jj g2
   rw [←hfr] at q2 ⊢
   rw [e5 _ _ q2 rfl];rfl
  |skip g1 g2=>simp [goes] at g1
  |call _ _ g cap x args ats _ hop=>cases hop
 refine wp_region_any hm ?_
 have hrep:∀ i,(Array.replicate l.toArray.size false).getD i false=false:=fun i=>by
  rw [aaR,abX]
  split<;>rfl
 refine kE R hg0 (.inl ⟨rfl,by rw [←h2,←h3];exact hQ⟩) _ _ 0 a _ c ?_ ?_ he (kF hc) ?_ hs hd
 ·refine ⟨by simp,fun j o _ hj=>?_,fun j hj=>?_,abt _,fun i o _ _=>?_⟩
  ·exact absurd hj (by rw [hrep];simp)
  ·exact absurd hj (by rw [hrep];simp)
  ·rw [hrep];simp
 ·exact abJ ace (by simp)
 ·intro t
  have:=hf t
  unfold valOf
  cases iO l t with
  |none=>exact this
  |some i=>simp only [hrep];exact this
def QB (l:List Oper) (fr:Fr) (i:Nat):Bool:=
 match l[i]? with
 |some ⟨_,.load _ (.tmp t),_,_,_,none⟩=>(match iO l t with|some j=>decide (j<i)|none=>true)&& (match fr t with| .ep _ _=>true|_=>false)
 |_=>false
theorem N9 {l:List Oper} {fr:Fr} {i:Nat} {S:Nat→St} (hi:Nat) (h:QB l fr i=true):Bu P l fr S i hi:=by
 unfold QB at h
 split at h
 ·rename_i a ty t b c d he
  simp only [aaW] at h
  refine ⟨_,t,ty,he,rfl,rfl,fun j hj=>by rw [hj] at h;simpa using h.1,fun k hk v s hv hs=>?_⟩
  have h2:=h.2
  split at h2
  ·rename_i cs off he2
   rw [he2] at hv ⊢
   unfold bn at hv ⊢
   exact hv
  ·cases h2
 ·cases h
theorem AW.QC (hm:P.follows .mixedOrders=true) {id:Nat} {l rest:List Oper} (ex:List (Nat×Nat)) (hok:fM l [] ex l.length=true) {fr fr':Fr} {st st':St} (h:cJ P n l.toArray [] l fr st=some (rest,fr',st'))
  (k:OX P G n aC true [] l.toArray (fun x fr st=>(ex.all fun p=>QB l fr p.1)=true∧Q x fr st) rest fr' st'):AW P G n aC (.region id l.toArray true) Q fr st:=by
 obtain ⟨vs,ss,fr'',st'',htr,hb,hQ⟩:=OT.run h k
 exact AW.wN hm hok (htr.toM 0) (fun i hi hmem=>N9 hi (aa3.1 hb (i,hi) hmem)) hQ
theorem Ng {ex:List (Nat×Nat)} {l:List Oper} {fr:Fr} {q:Prop} (h:(ex.all fun p=>QB l fr p.1)=true) (k:q):(ex.all fun p=>QB l fr p.1)=true∧q:=⟨h,k⟩
theorem AW.Au {l:Array Oper} (id:Nat) {fr:Fr} {st:St} (h:AW P G n aC (.region id l true) Q fr st):AW P G n aC (.region id l true) Q fr st:=h
end
def Ctx.kill (c:Ctx) (id:Nat) (t:Tok):Ctx:= { c with tok:=c.tok.set id { t with val:= .slice none 0 0,len:=maxLen+1 } }
theorem ld (w:World) (g n k:Nat) (h:k≠g):(w.freeze ⟨g,0,none⟩ n).heap[k]?=w.heap[k]?:=by
 unfold World.freeze
 split
 ·rfl
 ·simp only [abW]
  rw [if_neg (fun e=>h e.symm)]
theorem yJ (w:World) (p:Addr) (n:Nat) (a:Addr):(w.freeze p n).cell? a=w.cell? a:=by
 unfold World.freeze
 split
 ·rfl
 ·simp only [World.cell?,abW]
  by_cases e:p.block=a.block
  ·rw [if_pos e]
   cases w.heap[a.block]? with
   |none=>rfl
   |some o=>cases o<;>rfl
  ·rw [if_neg e]
theorem bf.kill {c:Ctx} {w:World} {st:St} (h:bf c w st) {id:Nat} {t:Tok} (ht:c.tok[id]?=some t) (hl:t.len≤maxLen) {g:Nat} (hg:t.val.ownBlock=some g) (n:Nat):
  bf (c.kill id t) (w.drew.freeze ⟨g,0,none⟩ n) { st with toks:=st.toks.set id (t.e,t.sz,maxLen+1) }∧Ext c (c.kill id t):=by
 have hid:id<c.tok.length:=(aaL.1 ht).1
 have hext:Ext c (c.kill id t):=by
  refine ⟨fun _ _ _ h=>h,fun _ _ h=>h,fun j s hj=>?_,rfl,rfl⟩
  by_cases hji:j=id
  ·subst hji
   rw [ht] at hj
   have:s=t:=(Option.some.inj hj).symm
   subst this
   exact ⟨{ s with val:= .slice none 0 0,len:=maxLen+1 },by simp only [Ctx.kill];rw [abp hid],rfl,by simp only;omega,fun e=>by simp only at e;omega⟩
  ·exact ⟨s,by simp only [Ctx.kill];rw [abx (Ne.symm hji)];exact hj,rfl,aaP _,fun _=>rfl⟩
 obtain ⟨h0,hdd|⟨xs,ho,hgg⟩⟩:=h.cz id t ht
 ·have:=hdd.1;omega
 obtain ⟨_,_,hgmu⟩:=hgg g hg
 have hbg:=(ho.lt g hg).1
 have hsz:(w.drew.freeze ⟨g,0,none⟩ n).heap.size=w.heap.size:=by
  unfold World.freeze;split
  ·rfl
  ·simp
 have hos:(w.drew.freeze ⟨g,0,none⟩ n).os=w.os∧(w.drew.freeze ⟨g,0,none⟩ n).tape=w.tape∧(w.drew.freeze ⟨g,0,none⟩ n).output=w.output:=by
  unfold World.freeze;split<;>exact ⟨rfl,rfl,rfl⟩
 have hgr:w.grownBy (w.drew.freeze ⟨g,0,none⟩ n) (some g):=⟨hos.1,hos.2.1,hos.2.2,by omega,fun k _ hk=>ld w.drew g n k (fun e=>hk (by rw [e]))⟩
 refine ⟨{
  cN:=h.cN
  dH:=h.dH
  cI:=h.cI
  mS:=h.mS
  blk:=?_
  cu:=by simp only [Ctx.kill,List.map_set,h.cu]
  cz:=?_
  cK:=?_
  cy:=?_
  below:=h.below.trans ⟨hos.1,hos.2.1,hos.2.2,by omega,fun k hk=>ld w.drew g n k (by simp only [Ctx.kill] at*;omega)⟩
  cw:=by rw [hsz];exact h.cw },hext⟩
 ·intro b k B hk hB
  obtain ⟨o,ho',hr⟩:=h.blk b k B hk hB
  have hne:k≠g:=fun e=>hgmu (e▸abc hk)
  exact ⟨o,by rw [ld w.drew g n k hne];exact ho',hr.mono hext⟩
 ·intro j s hj
  by_cases hji:j=id
  ·subst hji
   simp only [Ctx.kill,abp hid,aaJ] at hj
   subst hj
   exact ⟨h0,.inl ⟨Nat.lt_succ_self _,rfl⟩⟩
  ·simp only [Ctx.kill,abx (Ne.symm hji)] at hj
   obtain ⟨h1,hd|⟨ys,ho',hg'⟩⟩:=h.cz j s hj
   ·exact ⟨h1,.inl hd⟩
   ·refine ⟨h1,.inr ⟨ys,ho'.kept hgr ?_,hg'⟩⟩
    cases hb:s.val.ownBlock with
    |none=>exact .inl rfl
    |some g'=>
     refine .inr fun e=>hji ?_
     have:g'=g:=Option.some.inj e
     subst this
     exact h.cK j id s t g' hj ht hb hg
 ·intro i j s u g' hi hj hs hu
  by_cases hii:i=id
  ·subst hii
   simp only [Ctx.kill,abp hid,aaJ] at hi
   subst hi
   simp [Value.ownBlock] at hs
  ·by_cases hjj:j=id
   ·subst hjj
    simp only [Ctx.kill,abp hid,aaJ] at hj
    subst hj
    simp [Value.ownBlock] at hu
   ·simp only [Ctx.kill,abx (Ne.symm hii)] at hi
    simp only [Ctx.kill,abx (Ne.symm hjj)] at hj
    exact h.cK i j s u g' hi hj hs hu
 ·intro k o v hv
  rw [yJ]
  exact h.cy k o v hv
section
variable {P:Program} {G:World→Nat→Prop} {n:NDs} {aC:St} {Q:AX→Fr→St→Prop} {fr:Fr} {st:St}
theorem aV {fn:Func} {R:Out→St→Prop} {st' s1:St} {l:List V} {v:V} (m:Nat) (hm:st.toks.length≤m) (hs:st'.cut st.aj.length m=s1)
  (ho:∀ (b:Nat) (B:aJ),s1.aj[b]?=some B→st.aj[b]?=some B∨B.within st.aj.length m=true)
  (h:eT P fr st' fn.results.toList=some l) (hv:(eD l).share=v) (hw:v.within st.aj.length m=true) (hR:R (.ret v) s1):bK P fn st R .ret fr st':=by
 subst hv hs
 refine ⟨m,⟨aaP _,hm,fun b B h1 h2=>ho b B ?_⟩,l,h,hw,hR⟩
 simp only [St.cut]
 rw [abk h1];exact h2
theorem kH {fn:Func} {R:Out→St→Prop} {st':St} (h:bK P fn st R .ret fr st'):bK P fn st R .normal fr st':=h
theorem fy {α:Type} (l:List α) (i:Nat) (x:α):(l.set i x).take l.length=l.set i x:=aa0 (by simp)
theorem aR {N M b:Nat} {B':aJ} {bs:List aJ} (hw:B'.within N M=true):∀ (i:Nat) (B:aJ),(bs.set b B')[i]?=some B→bs[i]?=some B∨B.within N M=true:=by
 intro i B h
 by_cases hi:i=b
 ·subst hi
  by_cases hlt:i<bs.length
  ·rw [abp hlt,aaJ] at h;subst h;exact .inr hw
  ·rw [List.getElem?_eq_none (by simp;omega)] at h;cases h
 ·rw [abx (Ne.symm hi)] at h;exact .inl h
end
section
variable {P:Program} {G:World→Nat→Prop} {n:NDs} {aC:St} {Q:AX→Fr→St→Prop}
theorem jZ.run' {all:Array Oper} {muts:List Nat} {res:List Nat}:∀ {l:List Oper} {fr:Fr} {st:St} {rest:List Oper} {fr':Fr} {st':St} {fr'':Fr} {st'':St} {i:Nat} {vs ss},
  cJ P n all res l fr st=some (rest,fr',st')→jZ P G n all muts (i+(l.length - rest.length)) rest fr' st' vs ss fr'' st''→∃ vs1 ss1,ss1.length=l.length - rest.length∧jZ P G n all muts i l fr st (vs1++vs) (ss1++ss) fr'' st''
 |[],fr,st,rest,fr',st',fr'',st'',i,vs,ss,h,k=>by
  simp only [cJ,aaJ,aaZ] at h
  obtain ⟨rfl,rfl,rfl⟩:=h
  exact ⟨[],[],by simp,by simpa using k⟩
 |o::r,fr,st,rest,fr',st',fr'',st'',i,vs,ss,h,k=>by
  simp only [cJ] at h
  split at h
  ·split at h
   ·rename_i hg
    split at h
    ·simp only [aaJ,aaZ] at h
     obtain ⟨rfl,rfl,rfl⟩:=h
     exact ⟨[],[],by simp,by simpa using k⟩
    ·rename_i hne
     split at h
     ·rename_i v gD he
      split at h
      ·rename_i hd
       have hlen:=jZ.run.jP h
       obtain ⟨vs1,ss1,h0,h1⟩:=jZ.run' (i:=i+1) (vs:=vs) (ss:=ss) h (by
        have:i+1+(r.length - rest.length)=i+((o::r).length - rest.length):=by simp only [aaM];omega
        rw [this];exact k)
       exact ⟨v::vs1,gD::ss1,by simp only [aaM,h0];omega,.cons i o r fr st v gD _ _ _ _ (.op _ _ hg he hd) (fun hk=>iZ (by simpa using hne) he (jZ.run.wM hk)) h1⟩
      ·simp at h
     ·simp at h
   ·rename_i hg
    split at h
    ·rename_i hd
     have hlen:=jZ.run.jP h
     obtain ⟨vs1,ss1,h0,h1⟩:=jZ.run' (i:=i+1) (vs:=vs) (ss:=ss) h (by
        have:i+1+(r.length - rest.length)=i+((o::r).length - rest.length):=by simp only [aaM];omega
        rw [this];exact k)
     exact ⟨.cF []::vs1,st::ss1,by simp only [aaM,h0];omega,.cons i o r fr st _ st _ _ _ _ (.skip hg hd) (fun _=>rfl) h1⟩
    ·simp at h
   ·simp at h
  ·simp only [aaJ,aaZ] at h
   obtain ⟨rfl,rfl,rfl⟩:=h
   exact ⟨[],[],by simp,by simpa using k⟩
def uU (l:List Oper) (muts:List Nat) (i:Nat):Bool:=l.zipIdx.all fun (o,j)=>decide (i≤j)||bp muts j o !=2
structure Qf (P:Program) (l:List Oper) (fr':Fr) (st st2:St) (m:Nat) (p:Nat×Nat):Prop where
 lt:p.1<m
 hi:p.2≤m+1
 ex:∃ o t ty,l[p.1]?=some o∧o.op= .load ty (.tmp t)∧o.guard=none∧(∀ j,iO l t=some j→j<p.1)∧bn P ty (fr' t) st=bn P ty (fr' t) st2
theorem AW.uh (hm:P.follows .mixedOrders=true) {id:Nat} {l post:List Oper} (m:Nat) (ex:List (Nat×Nat)) (hok:fM l [m] ex l.length=true) (hcalm:uU l [m] m=true)
  {dd:Option Tmp} {args:Array Operand} {ats:Array TypeId} {ty:TypeId} {pos:String} {after:Array Edge} {gd:Option (Nat×Bool)} {g:FuncId} {xs:List V} {v:V} {fr fr1 fr3:Fr} {st st2 rB:St}
  (h1:cJ P n l.toArray [] l fr st=some ({ dst:=dd,op:= .call { callee:= .value (.func g),args:=args,argTypes:=ats },type:=ty,pos:=pos,after:=after,guard:=gd }::post,fr1,st)) (hl:l.length - (post.length+1)=m)
  (hcall:∀ args w,(callFunc g args).run P w= .ok (.enter g args) w)
  (hg:goes l.toArray { dst:=dd,op:= .call { callee:= .value (.func g),args:=args,argTypes:=ats },type:=ty,pos:=pos,after:=after,guard:=gd } fr1=some true) (hd:fC n dd=true)
  (hx:args.toList.map (fun o=>(ev fr1 o).share)=xs)
  (h:aa P G g xs st (fun q s=>q= .ret v∧s=st2))
  (h2:cJ P n l.toArray [] post (eC fr1 dd v) st2=some ([],fr3,rB)) (hex:∀ p∈ex,Qf P l fr3 st st2 m p) (k:Q .normal fr3 rB):AW P G n aC (.region id l.toArray true) Q fr st:=by
 subst hx
 have hkind:bp [m] m { dst:=dd,op:= .call { callee:= .value (.func g),args:=args,argTypes:=ats },type:=ty,pos:=pos,after:=after,guard:=gd }=2:=by simp [bp]
 obtain ⟨vs2,ss2,_,hB⟩:=jZ.run' (G:=G) (muts:=[m]) (i:=m+1) (vs:=[]) (ss:=[]) h2 (.nil _ _ _)
 have hstep:=jZ.cons m _ post fr1 st v st2 _ _ _ _ (cL.call v st2 g [] (.func g) args ats hg rfl rfl hcall hd (by rw [aa7];exact h)) (fun hk=>by rw [hkind] at hk;omega) hB
 obtain ⟨vs1,ss1,hlen1,hA⟩:=jZ.run' (G:=G) (muts:=[m]) (i:=0) h1 (by simp only [aaM,abl,hl];exact hstep)
 simp only [aaM,hl] at hlen1
 refine AW.wN hm hok hA (fun i hi hmem=>?_) k
 have hE:=hex (i,hi) hmem
 obtain ⟨o,t,ty',e1,e2,e3,e4,e5⟩:=hE.ex
 have hspec:=hA.spec [] fr (fun i=>(vs1++(v::(vs2++[]))).getD i .aU) (fun i=>(st::(ss1++(st2::(ss2++[])))).getD i default) rfl (fun j o d ho hd=>(aaE hok ho).dst d hd) (by simp) (by simp) (by
  funext t;unfold valOf;cases iO ([]++l) t<;>simp)
 simp only [aa8,aaV,abt,true_implies] at hspec
 have hsame:∀ k,k≤m→(st::(ss1++(st2::(ss2++[])))).getD k default=st:=by
  intro k
  induction k with
  |zero=>intro _;rfl
  |succ k ih=>
   intro hk
   have ih:=ih (by omega)
   have hkl:k<l.length:=by omega
   obtain ⟨s1,s2⟩:=hspec.1 k l[k] (by simp [hkl])
   have hc:=aa3.1 hcalm (l[k],k) (by rw [abH];simp [hkl])
   simp only [abo,aaS,bne_iff_ne,ne_eq] at hc
   have hk2:bp [m] k l[k]≠2:=hc.resolve_left (by omega)
   by_cases hk0:bp [m] k l[k]=0
   ·have hq:eu l[k].op=true:=by
     unfold bp at hk0
     split at hk0
     ·simp at hk0
     ·split at hk0
      ·assumption
      ·split at hk0<;>simp at hk0
    have:=(s1.quiet hq).1
    exact this.trans ih
   ·have hk1:bp [m] k l[k]=1:=by
     have:bp [m] k l[k]=0∨bp [m] k l[k]=1∨bp [m] k l[k]=2:=by
      unfold bp
      split
      ·simp
      ·split
       ·simp
       ·split<;>simp
     omega
    exact (s2 hk1).trans ih
 have hafter:(st::(ss1++(st2::(ss2++[])))).getD (m+1) default=st2:=by
  simp [aaK,hlen1]
 refine ⟨o,t,ty',e1,e2,e3,e4,fun k hk v' s hv hs=>?_⟩
 have hEl:=hE.lt
 have hEh:=hE.hi
 simp only at hEl hEh
 subst hs
 rw [hsame i (by omega)] at hv
 by_cases hkm:k≤m
 ·show bn P ty' (fr3 t) ((st::(ss1++(st2::(ss2++[])))).getD k default)=some v'
  rw [hsame k hkm];exact hv
 ·have:k=m+1:=by omega
  subst this
  show bn P ty' (fr3 t) ((st::(ss1++(st2::(ss2++[])))).getD (m+1) default)=some v'
  rw [hafter,←e5];exact hv
theorem jZ.C0 {all:Array Oper} {muts:List Nat} (L:List Oper) (fr0:Fr) (W:Nat→V) (T:Nat→St) (hd:∀ j o d,L[j]?=some o→o.dst=some d→iO L d=some j):
  ∀ {l:List Oper} {fr:Fr} {st:St} {vs:List V} {ss:List St} {fr':Fr} {st':St} {q:Nat},jZ P G n all muts q l fr st vs ss fr' st'→(∀ i,i<l.length→L[q+i]?=l[i]?)→
   (∀ i,i<l.length→W (q+i)=vs.getD i .aU)→(∀ i,i≤l.length→T (q+i)=(st::ss).getD i default)→fr=valOf L fr0 W (fun k=>decide (k<q))→
   (∀ i o,q≤i→i<q+l.length→L[i]?=some o→cL P G n all o (valOf L fr0 W (fun k=>decide (k<i))) (T i) (W i) (T (i+1))∧(bp muts i o=1→T (i+1)=T i))∧
   fr'=valOf L fr0 W (fun k=>decide (k<q+l.length))∧st'=T (q+l.length):=by
 intro l
 induction l with
 |nil=>
  intro fr st vs ss fr' st' q h hL hW hT hfr
  cases h
  refine ⟨fun i o h1 h2=>by simp at h2;omega,by simpa using hfr,?_⟩
  have:=hT 0 (aaP _)
  simpa using this.symm
 |cons o r ih=>
  intro fr st vs ss fr' st' q h hL hW hT hfr
  cases h with
  |cons _ _ _ _ _ v gD vs ss _ _ hs hk hr=>
   have hlo:L[q]?=some o:=by have:=hL 0 (by simp);simpa using this
   have hv:W q=v:=by have:=hW 0 (by simp);simpa using this
   have t0:T q=st:=by have:=hT 0 (by simp);simpa using this
   have t1:T (q+1)=gD:=by have:=hT 1 (by simp);simpa using this
   have hput:eC fr o.dst v=valOf L fr0 W (fun k=>decide (k<q+1)):=by
    funext t
    rw [hfr]
    unfold eC
    cases hdst:o.dst with
    |none=>
     simp only [valOf]
     cases hw:iO L t with
     |none=>rfl
     |some i=>
      have hi:i≠q:=by
       rintro rfl
       obtain ⟨o',h1,h2⟩:=fE hw
       rw [hlo] at h1
       cases h1
       rw [hdst] at h2
       cases h2
      have:(decide (i<q))=decide (i<q+1):=by simp;omega
      simp only [this]
    |some d=>
     simp only [upd]
     split
     ·rename_i htd
      subst htd
      simp only [valOf,hd q o t hlo hdst]
      simp [hv]
     ·rename_i htd
      simp only [valOf]
      cases hw:iO L t with
      |none=>rfl
      |some i=>
       have hi:i≠q:=by
        rintro rfl
        obtain ⟨o',h1,h2⟩:=fE hw
        rw [hlo] at h1
        cases h1
        rw [hdst] at h2
        cases h2
        exact htd rfl
       have:(decide (i<q))=decide (i<q+1):=by simp;omega
       simp only [this]
   obtain ⟨h1,h2,h3⟩:=ih hr (fun i hi=>by have:=hL (i+1) (by simpa using hi);rw [show q+1+i=q+(i+1) by omega,this];simp) (fun i hi=>by
     have:=hW (i+1) (by simpa using hi)
     rw [show q+1+i=q+(i+1) by omega,this];simp) (fun i hi=>by
     have:=hT (i+1) (by simpa using hi)
     rw [show q+1+i=q+(i+1) by omega,this];simp) hput
   have hlen:q+1+r.length=q+(o::r).length:=by simp only [aaM];omega
   rw [hlen] at h1 h2 h3
   refine ⟨fun i o' hi hi2 ho'=>?_,h2,h3⟩
   by_cases he:i=q
   ·subst he
    rw [hlo] at ho'
    cases ho'
    rw [t0,t1,hv,←hfr]
    exact ⟨hs,hk⟩
   ·exact h1 i o' (by omega) hi2 ho'
theorem pL {all:Array Oper} {res:List Nat} {muts:List Nat}:∀ {l rest:List Oper} {fr fr':Fr} {st st':St} (i:Nat),cJ P n all res l fr st=some (rest,fr',st')→
  ∃ vs ss pre,l=pre++rest∧ss.length=pre.length∧jZ P G n all muts i pre fr st vs ss fr' st'
 |[],rest,fr,fr',st,st',i,h=>by
  simp only [cJ,aaJ,aaZ] at h
  obtain ⟨rfl,rfl,rfl⟩:=h
  exact ⟨[],[],[],rfl,rfl,.nil _ _ _⟩
 |o::r,rest,fr,fr',st,st',i,h=>by
  simp only [cJ] at h
  split at h
  ·split at h
   ·rename_i hg
    split at h
    ·simp only [aaJ,aaZ] at h
     obtain ⟨rfl,rfl,rfl⟩:=h
     exact ⟨[],[],[],rfl,rfl,.nil _ _ _⟩
    ·rename_i hne
     split at h
     ·rename_i v gD he
      split at h
      ·rename_i hd
       obtain ⟨vs,ss,pre,e1,e2,e3⟩:=pL (i+1) h
       exact ⟨v::vs,gD::ss,o::pre,by rw [e1];rfl,by simp [e2],.cons i o pre fr st v gD _ _ _ _ (.op _ _ hg he hd) (fun hk=>iZ (by simpa using hne) he (jZ.run.wM hk)) e3⟩
      ·simp at h
     ·simp at h
   ·rename_i hg
    split at h
    ·rename_i hd
     obtain ⟨vs,ss,pre,e1,e2,e3⟩:=pL (i+1) h
     exact ⟨.cF []::vs,st::ss,o::pre,by rw [e1];rfl,by simp [e2],.cons i o pre fr st _ st _ _ _ _ (.skip hg hd) (fun _=>rfl) e3⟩
    ·simp at h
   ·simp at h
  ·simp only [aaJ,aaZ] at h
   obtain ⟨rfl,rfl,rfl⟩:=h
   exact ⟨[],[],[],rfl,rfl,.nil _ _ _⟩
theorem AW.Nh (hm:P.follows .mixedOrders=true) {id:Nat} {l post:List Oper} (m:Nat) (ex:List (Nat×Nat)) (k:Nat) (hok:oI l [m] ex ((List.range k).map fun i=>m+1+i) m=true) (hcalm:uU l [m] m=true)
  {dd:Option Tmp} {args:Array Operand} {ats:Array TypeId} {ty:TypeId} {pos:String} {after:Array Edge} {gd:Option (Nat×Bool)} {g:FuncId} {xs:List V} {v:V} {fr fr1 fr5:Fr} {st:St} {Z:St→Prop}
  (h1:cJ P n l.toArray [] l fr st=some ({ dst:=dd,op:= .call { callee:= .value (.func g),args:=args,argTypes:=ats },type:=ty,pos:=pos,after:=after,guard:=gd }::post,fr1,st)) (hl:l.length - (post.length+1)=m)
  (hcall:∀ args w,(callFunc g args).run P w= .ok (.enter g args) w)
  (hg:goes l.toArray { dst:=dd,op:= .call { callee:= .value (.func g),args:=args,argTypes:=ats },type:=ty,pos:=pos,after:=after,guard:=gd } fr1=some true)
  (hx:args.toList.map (fun o=>(ev fr1 o).share)=xs)
  (h3:cJ P n l.toArray [] (post.take k) fr1 st=some ([],fr5,st)) (h:aa P G g xs st (fun q s=>q= .dw v∧Z s)) (kk:∀ fr s,Z s→Q (.dw v) fr s):AW P G n aC (.region id l.toArray true) Q fr st:=by
 subst hx
 obtain ⟨vs,ss,pre,e1,e2,hA⟩:=pL (G:=G) (muts:=[m]) 0 h1
 have hpl:pre.length=m:=by
  have:=congrArg List.length e1
  simp only [aaQ,aaM] at this
  omega
 have hlm:l[m]?=some { dst:=dd,op:= .call { callee:= .value (.func g),args:=args,argTypes:=ats },type:=ty,pos:=pos,after:=after,guard:=gd }:=by rw [e1,←hpl];simp
 have hml:m<l.length:=(aaL.1 hlm).1
 have hdst:∀ j o d,l[j]?=some o→o.dst=some d→iO l d=some j:=fun j o d ho hd=>(iY hok ho).dst d hd
 obtain ⟨vsB,ssB,hlB,hB⟩:=jZ.run' (G:=G) (muts:=[m]) (i:=m+1) (vs:=[]) (ss:=[]) h3 (.nil _ _ _)
 let W:Nat→V:=fun i=>if i<m then vs.getD i .aU else if i=m then (match dd with|some d=>fr d|none=> .aU) else (vsB++[]).getD (i - (m+1)) .aU
 have W0:∀ i,i<m→W i=vs.getD i .aU:=fun i h=>if_pos h
 have Wm:W m=(match dd with|some d=>fr d|none=> .aU):=by show (if m<m then _ else if m=m then _ else _)=_;rw [if_neg (by omega),if_pos rfl]
 have W1:∀ i,W (m+1+i)=(vsB++[]).getD i .aU:=fun i=>by show (if m+1+i<m then _ else if m+1+i=m then _ else _)=_;rw [if_neg (by omega),if_neg (by omega),show m+1+i - (m+1)=i by omega]
 obtain ⟨s1,s2,s3⟩:=hA.C0 l fr W (fun i=>(st::ss).getD i default) hdst (fun i hi=>by rw [e1,abl,aaU hi]) (fun i hi=>by rw [abl];exact W0 i (by omega)) (by simp) (by
  funext t;unfold valOf;cases iO l t<;>simp)
 simp only [abl,hpl,abt,true_implies] at s1 s2 s3
 have hfr:fr1=valOf l fr W (fun i=>decide (i<m+1)):=by
  rw [s2]
  funext t
  unfold valOf
  cases hw:iO l t with
  |none=>rfl
  |some i=>
   by_cases him:i=m
   ·subst him
    obtain ⟨o',q1,q2⟩:=fE hw
    rw [hlm] at q1
    cases q1
    simp only at q2
    subst q2
    simp [Wm]
   ·have:decide (i<m)=decide (i<m+1):=by simp;omega
    simp only [this]
 obtain ⟨f1,_,_⟩:=hB.C0 l fr W (fun i=>(st::(ssB++[])).getD (i - (m+1)) default) hdst (fun i hi=>by
  rw [e1,aaO (by omega),hpl,show m+1+i - m=i+1 by omega,abR,abM,if_pos (by rw [aaN] at hi;omega)]) (fun i _=>W1 i) (fun i _=>by
  show (st::(ssB++[])).getD (m+1+i - (m+1)) default=_
  rw [show m+1+i - (m+1)=i by omega]) hfr
 have hsame:∀ k,k≤m→(st::ss).getD k default=st:=by
  intro k
  induction k with
  |zero=>intro _;rfl
  |succ k ih=>
   intro hk
   have ih:=ih (by omega)
   have hkl:k<l.length:=by omega
   obtain ⟨q1,q2⟩:=s1 k l[k] (by omega) (by simp [hkl])
   have hc:=aa3.1 hcalm (l[k],k) (by rw [abH];simp [hkl])
   simp only [abo,aaS,bne_iff_ne,ne_eq] at hc
   have hk2:bp [m] k l[k]≠2:=hc.resolve_left (by omega)
   by_cases hk0:bp [m] k l[k]=0
   ·have hq:eu l[k].op=true:=by
     unfold bp at hk0
     split at hk0
     ·simp at hk0
     ·split at hk0
      ·assumption
      ·split at hk0<;>simp at hk0
    exact ((q1.quiet hq).1).trans ih
   ·have hk1:bp [m] k l[k]=1:=by
     have:bp [m] k l[k]=0∨bp [m] k l[k]=1∨bp [m] k l[k]=2:=by
      unfold bp
      split
      ·simp
      ·split
       ·simp
       ·split<;>simp
     omega
    exact (q2 hk1).trans ih
 intro c0 c w a h0 he hc hgg hf hs hdf
 have hg0:G c0.w0 c0.base:=by rw [←he.w0,←he.base];exact hgg
 have R:EG P G n l [m] ex ((List.range k).map fun i=>m+1+i) m fr W (fun i=>(st::ss).getD i default):=by
  refine ⟨hok,by omega,fun i o hi ho=>(s1 i o hi ho).1,fun i o hi ho=>(s1 i o hi ho).2,?_,fun j o hj hmem ho=>?_⟩
  case refine_2=>
   obtain ⟨i,hi,rfl⟩:=abT.1 hmem
   have hi:=List.mem_range.1 hi
   have hil:=(aaL.1 ho).1
   have:i< (post.take k).length:=by
    rw [aaN]
    rw [e1,aaQ,aaM,hpl] at hil
    omega
   exact ⟨_,_,(f1 (m+1+i) o (by omega) (by omega) ho).1⟩
  intro i hi o hmem ho him k hk hkm
  have:=(s1 i o him ho).1
  have t1:=hsame i (by omega)
  have t2:=hsame (i+1) (by omega)
  have t3:=hsame k hkm
  rw [t1,t2] at this
  show cL P G n l.toArray o _ ((st::ss).getD k default) (W i) ((st::ss).getD k default)
  rw [t3];exact this
 refine wp_region_any hm ?_
 have hrep:∀ i,(Array.replicate l.toArray.size false).getD i false=false:=fun i=>by
  rw [aaR,abX]
  split<;>rfl
 refine kE R hg0 (.inr (.inl ⟨_,hlm,by simp [bp],v,Z,g,[],.func g,args,ats,by rw [←s2];exact hg,rfl,rfl,hcall,?_,kk⟩)) _ _ 0 a _ c ?_ ?_ he (kF hc) ?_ hs hdf
 ·have t1:=hsame m (aaP _)
  rw [aa7,←s2]
  show aa P G g _ ((st::ss).getD m default) _
  rw [t1];exact h
 ·refine ⟨by simp,fun j o _ hj=>?_,fun j hj=>?_,abt _,fun i o _ _=>?_⟩
  ·exact absurd hj (by rw [hrep];simp)
  ·exact absurd hj (by rw [hrep];simp)
  ·rw [hrep];simp
 ·exact abJ ace (by simp)
 ·intro t
  have:=hf t
  unfold valOf
  cases iO l t with
  |none=>exact this
  |some i=>simp only [hrep];exact this
theorem AW.Ni (hm:P.follows .mixedOrders=true) {id:Nat} {l post:List Oper} (m:Nat) (ex:List (Nat×Nat)) (hok:fM l [m] ex m=true) (hcalm:uU l [m] m=true)
  {dd:Option Tmp} {args:Array Operand} {ats:Array TypeId} {ty:TypeId} {pos:String} {after:Array Edge} {gd:Option (Nat×Bool)} {g:FuncId} {xs:List V} {v:V} {fr fr1:Fr} {st:St} {Z:St→Prop}
  (h1:cJ P n l.toArray [] l fr st=some ({ dst:=dd,op:= .call { callee:= .value (.func g),args:=args,argTypes:=ats },type:=ty,pos:=pos,after:=after,guard:=gd }::post,fr1,st)) (hl:l.length - (post.length+1)=m)
  (hcall:∀ args w,(callFunc g args).run P w= .ok (.enter g args) w)
  (hg:goes l.toArray { dst:=dd,op:= .call { callee:= .value (.func g),args:=args,argTypes:=ats },type:=ty,pos:=pos,after:=after,guard:=gd } fr1=some true)
  (hx:args.toList.map (fun o=>(ev fr1 o).share)=xs)
  (h:aa P G g xs st (fun q s=>q= .dw v∧Z s)) (k:∀ fr s,Z s→Q (.dw v) fr s):AW P G n aC (.region id l.toArray true) Q fr st:=
 AW.Nh hm m ex 0 hok hcalm h1 hl hcall hg hx rfl h k
theorem AW.H7 (hm:P.follows .mixedOrders=true) {id:Nat} {l post:List Oper} (m:Nat) (ex:List (Nat×Nat)) (hok:fM l [m] ex m=true) (hcalm:uU l [m] m=true)
  {dd:Option Tmp} {args:Array Operand} {ats:Array TypeId} {ty:TypeId} {pos:String} {after:Array Edge} {gd:Option (Nat×Bool)} {g:FuncId} {xs:List V} {v:V} {fr fr1:Fr} {st st2:St}
  (h1:cJ P n l.toArray [] l fr st=some ({ dst:=dd,op:= .call { callee:= .value (.func g),args:=args,argTypes:=ats },type:=ty,pos:=pos,after:=after,guard:=gd }::post,fr1,st)) (hl:l.length - (post.length+1)=m)
  (hcall:∀ args w,(callFunc g args).run P w= .ok (.enter g args) w)
  (hg:goes l.toArray { dst:=dd,op:= .call { callee:= .value (.func g),args:=args,argTypes:=ats },type:=ty,pos:=pos,after:=after,guard:=gd } fr1=some true)
  (hx:args.toList.map (fun o=>(ev fr1 o).share)=xs)
  (h:aa P G g xs st (fun q s=>q= .dw v∧s=st2)) (k:∀ fr,Q (.dw v) fr st2):AW P G n aC (.region id l.toArray true) Q fr st:=
 AW.Ni hm m ex hok hcalm h1 hl hcall hg hx h fun fr s e=>e▸k fr
theorem iz {l:List Oper} {fr':Fr} {st st2:St} {m:Nat}:∀ p∈([]:List (Nat×Nat)),Qf P l fr' st st2 m p:=fun _ h=>by cases h
theorem fF {l:List Oper} {fr':Fr} {st st2:St} {m i hi:Nat} {ps:List (Nat×Nat)} {dd:Option Tmp} {ty:TypeId} {t:Tmp} {tt:TypeId} {pos:String} {after:Array Edge} (h1:i<m) (h2:hi≤m+1)
  (h3:l[i]?=some ⟨dd,.load ty (.tmp t),tt,pos,after,none⟩) (h4:(match iO l t with|some j=>decide (j<i)|none=>true)=true) (h5:bn P ty (fr' t) st=bn P ty (fr' t) st2)
  (hr:∀ p∈ps,Qf P l fr' st st2 m p):∀ p∈(i,hi)::ps,Qf P l fr' st st2 m p:=by
 intro p hp
 rcases aby.1 hp with rfl|hp
 ·exact ⟨h1,h2,_,t,ty,h3,rfl,rfl,fun j hj=>by rw [hj] at h4;simpa using h4,h5⟩
 ·exact hr p hp
end
end Go.Abs
end
section
namespace Go.Abs
open Go.RowKit
open Go.Sort (grow heap_grow_old size_grow)
theorem bf.later {c:Ctx} {w w':World} {st:St} (h:bf c w st) (hb:Below w.heap.size w w'):bf c w' st where
 cN:=h.cN
 dH:=h.dH
 cI:=h.cI
 mS:=h.mS
 blk:=fun b k B hk hB=>let ⟨o,ho,hr⟩:=h.blk b k B hk hB;⟨o,by rw [hb.block k (h.mult hk)];exact ho,hr⟩
 cu:=h.cu
 cz:=by
  intro id t ht
  obtain ⟨h0,hd|⟨xs,⟨hx,ho⟩,hg⟩⟩:=h.cz id t ht
  ·exact ⟨h0,.inl hd⟩
  ·refine ⟨h0,.inr ⟨xs,⟨hx,?_⟩,hg⟩⟩
   rcases ho with ho|⟨g,cap,cur,hv,hbg,hh,hrest⟩
   ·exact .inl ho
   ·refine .inr ⟨g,cap,cur,hv,hbg,?_,hrest⟩
    rw [hb.block g (abB.1 hh).1]
    exact hh
 cK:=h.cK
 cy:=by
  intro k o v hv
  have:=h.cy k o v hv
  rw [World.cell?_of_block (hb.block k (World.block_lt_of_cell? w _ this))]
  exact this
 below:=h.below.trans (hb.mono h.cw)
 cw:=abJ h.cw hb.size
end Go.Abs
end
section
namespace Go.Abs
open Go.RowKit
def yK (M N:List aJ):Prop:=N.length=M.length∧∀ (i:Nat) (B B':aJ),M[i]?=some B→N[i]?=some B'→B'=B∨B'=xU B
theorem yK.refl (M:List aJ):yK M M:=⟨rfl,fun i B B' h1 h2=> .inl (by rw [h1] at h2;injection h2 with h;exact h.symm)⟩
theorem yK.app {M N L L':List aJ} (h:yK M N) (hl:L.map xU=L'):yK (M++L) (N++L'):=by
 subst hl
 refine ⟨by simp [h.1],fun i B B' h1 h2=>?_⟩
 by_cases hi:i<M.length
 ·rw [aaU hi] at h1
  rw [aaU (by rw [h.1];exact hi)] at h2
  exact h.2 i B B' h1 h2
 ·rw [aaO (by omega)] at h1
  rw [aaO (by rw [h.1];omega),abj,h.1,h1] at h2
  exact .inr (by simpa using h2.symm)
section
variable {P:Program} {G:World→Nat→Prop} {n:NDs} {aC:St} {Q:AX→Fr→St→Prop} {fr:Fr} {st:St}
structure H8 {τ:Type} (aC:St) (σ:τ→List (Nat×V)) (S:τ→St) (p:τ→Prop) (μ:τ→Nat) (x:τ) (fr:Fr) (st:St) (x':τ):Prop where
 slots:okF fr (σ x')
 ok:p x'
 less:μ x'<μ x
 state:∃ M,st.cut (S x').aj.length (S x').toks.length=⟨M,(S x').toks⟩∧yK M (S x').aj∧∀ (b:Nat) (B:aJ),M[b]?=some B→aC.aj[b]?=some B∨B.within (S x').aj.length (S x').toks.length=true
 aj:aC.aj.length≤(S x').aj.length
 toks:aC.toks.length≤(S x').toks.length
 win:okW (S x').aj.length (S x').toks.length (σ x')=true
theorem AW.Bz {τ:Type} (σ:τ→List (Nat×V)) (S:τ→St) (p:τ→Prop) (μ:τ→Nat) (x0:τ) {body:Code} {M0:List aJ}
  (hst:st=⟨M0,(S x0).toks⟩) (hM:yK M0 (S x0).aj) (h0:okF fr (σ x0)) (hp:p x0)
  (round:∀ x,p x→AW P G n aC body (bz (fun fr' st'=>∃ x',H8 aC σ S p μ x fr' st' x') Q) (jO (σ x)) (S x)):AW P G n aC (.loop body) Q fr st:=by
 subst hst
 refine AW.prune (jO (σ x0)) (eG h0) ?_
 intro c0 c w a h0' he0 hc hg hf hs hd
 refine wp_loop_ghost (fun k a w=>∃ x c1,p x∧μ x=k∧Ext c0 c1∧bf c1 w (S x)∧cC c1 a.tmps (jO (σ x))∧a.tmps.size=n.sz∧a.defers=n.ds) (μ x0)
  ⟨x0,c,hp,rfl,he0,hc.xU hM.1 hM.2,hf,hs,hd⟩ ?_
 rintro k a1 w1 ⟨x,c1,hI,rfl,he,hc1,hf1,hs1,hd1⟩
 refine wp_mono (round x hI c0 c1 w1 a1 h0' he hc1 (by rw [he.w0,he.base,←he0.w0,←he0.base];exact hg) hf1 hs1 hd1) ?_
 rintro e a2 w2 ⟨x2,fr2,st2,c2,hq,he2,hc2,hf2,hs2,hd2,hx⟩
 cases e<;>cases x2<;>simp only [lY] at hx
 ·obtain ⟨x',hN⟩:=hq
  obtain ⟨M,hst,hsh,hold⟩:=hN.state
  have hb:st2.aj.take (S x').aj.length=M:=congrArg St.aj hst
  have hcut:rV aC st2 (S x').aj.length (S x').toks.length:=by
   refine ⟨hN.aj,hN.toks,fun b B hlt hB=>hold b B ?_⟩
   rw [←hb,abk hlt];exact hB
  obtain ⟨h1,h2⟩:=hcut.DS h0' he2 hc2
  refine ⟨_,hN.less,x',_,hN.ok,rfl,h2,?_,?_,hs2,hd2⟩
  ·rw [hst] at h1;exact h1.xU hsh.1 hsh.2
  ·have:=hf2.oy (S x').aj.length (S x').toks.length
   intro t
   rcases eG (kG hN.slots hN.win) t with e|e<;>rw [e]
   ·exact this t
   ·exact .aU _
 ·exact ⟨.exit _,fr2,st2,c2,hq,he2,hc2,hf2,hs2,hd2,hx⟩
 ·exact ⟨.ret,fr2,st2,c2,hq,he2,hc2,hf2,hs2,hd2,trivial⟩
 ·exact ⟨.dw _,fr2,st2,c2,hq,he2,hc2,hf2,hs2,hd2,hx⟩
