import Derived.Test.YteeohmopbcjifaaGreatDoorS16
set_option linter.unusedSimpArgs false
set_option linter.unusedVariables false
section
namespace Go.Abs
open Go.RowKit
section
variable {P:Program} {G:World→Nat→Prop} {n:NDs} {aC:St} {Q:AX→Fr→St→Prop} {fr:Fr} {st:St}
class zX (P:Program) (G:World→Nat→Prop) (g:FuncId) (xs:List V) (st:St) (pre:outParam Prop) (r:outParam (Out×St)):Prop where
 h:pre→aa P G g xs st (fun q s=>(q,s)=r)
def xw (K Kp:V→St→Prop):Out×St→Prop
 |(.ret v,s)=>K v s
 |(.dw v,s)=>Kp v s
theorem PW (K Kp:V→St→Prop) (s:St) (v:V):xw K Kp (.ret v,s)=K v s:=(rfl)
variable {g:FuncId} {xs:List V} {K Kp:V→St→Prop} {pre:Prop}
theorem PZ {r:Out×St} (h:aa P G g xs st (fun q s=>(q,s)=r)):dQ P G false g xs st K Kp=@cq (xw K Kp r) ⟨dQ P G false g xs st K Kp⟩:=cq.of fun k=>by
 obtain ⟨o,s⟩:=r
 cases o
 ·exact (aW (h.mono fun q t e=>by cases e;exact ⟨rfl,rfl⟩) (Wk.o k)).out
 ·exact (cA (h.mono fun q t e=>by cases e;exact ⟨rfl,rfl⟩) (Wk.o k)).out
theorem Mv {r:Out×St} [c:zX P G g xs st pre r]:dQ P G false g xs st K Kp=@cq (@aZ ⟨pre⟩ (xw K Kp r)) ⟨dQ P G false g xs st K Kp⟩:=cq.of fun k=>by
 have:=PZ (K:=K) (Kp:=Kp) (c.h k.o.1)
 rw [this];exact cq.l k.o.2
def fB {τ:Type} (K:τ→Prop):Prop:=∀ j,K j
theorem fB.i {τ:Type} {K:τ→Prop} (h:∀ j,K j):fB K:=h
def dU [i:Bx (Out→St→Prop)] (o:Out) (s:St):Prop:=i.v o s
theorem dU.i {R:Out→St→Prop} {o:Out} {s:St} (h:R o s): @dU ⟨R⟩ o s:=h
def kj (P:Program) (fn:Func) (st:St) (R:Out→St→Prop):AX→Fr→St→Prop:=bK P fn st R
theorem aa.iG {f:FuncId} {fn:Func} {code:Code} {args:List V} {R:Out→St→Prop} {k:Nat} (hf:P.funcs[f]?=some fn) (hb:fn.body=some code) (hn:fn.ntmps=k) (hargs:args.length≤k)
  (h:∀ Q',Q'=kj P fn st R→ @SB P G ⟨k,[]⟩ st ⟨code⟩ Q' (dr args) st):aa P G f args st R:=aa.body hf hb hn hargs (Wk.go h)
def ux (B L:List aJ) (K:List (Nat×Nat×Nat)) (st':St) (p:aJ→Prop):Option aJ→Prop
 |some z=>(st'.aj.take (B.length+(L.length+1))=B++z::L∧st'.toks.take K.length=K)∧oL (z.within (B.length+(L.length+1)) K.length) (p z)
 |none=>False
def tf [i:Bx (Out→St→Prop)] (B L:List aJ) (K:List (Nat×Nat×Nat)) (o:Option (List V)) (z:aJ):Prop:=match o with
 |some l=>oL ((eD l).share.within (B.length+(L.length+1)) K.length) (@dU i (.ret (eD l).share) ⟨B++z::L,K⟩)
 |none=>False
def zY [i:Bx (Out→St→Prop)] (B L:List aJ) (K:List (Nat×Nat×Nat)) (v:V) (z:aJ):Prop:=oL (v.within (B.length+(L.length+1)) K.length) (@dU i (.dw v) ⟨B++z::L,K⟩)
variable {fn:Func} {R:Out→St→Prop} {st':St} {B L:List aJ} {z0:aJ} {T:List (Nat×Nat×Nat)}
theorem vt (h:ux B L T st' (@tf ⟨R⟩ B L T (eT P fr st' fn.results.toList)) st'.aj[B.length]?):kj P fn ⟨B++z0::L,T⟩ R .ret fr st':=by
 unfold ux at h
 split at h
 ·rename_i z hz
  obtain ⟨⟨h1,h2⟩,h3⟩:=h
  obtain ⟨h3,h4⟩:=mg h3
  unfold tf at h4
  split at h4
  ·rename_i l hl
   obtain ⟨h5,h6⟩:=mg h4
   have:=Tt (P:=P) (fn:=fn) (R:=R) (fr:=fr) (st:=⟨B++z0::L,T⟩) (st':=st') (T:=T) (z0:=z0) z rfl ⟨⟨h1,h2,aaP _,h3⟩,hl,rfl,h5⟩ h6
   have:=Tu.o this
   unfold nM at this
   exact this
  ·exact h4.elim
 ·exact h.elim
theorem FP (h:ux B L T st' (@tf ⟨R⟩ B L T (eT P fr st' fn.results.toList)) st'.aj[B.length]?):kj P fn ⟨B++z0::L,T⟩ R .normal fr st':=by
 have:=vt (z0:=z0) h
 exact this
theorem qd {v:V} (h:ux B L T st' (@zY ⟨R⟩ B L T v) st'.aj[B.length]?):kj P fn ⟨B++z0::L,T⟩ R (.dw v) fr st':=by
 unfold ux at h
 split at h
 ·rename_i z hz
  obtain ⟨⟨h1,h2⟩,h3⟩:=h
  obtain ⟨h3,h4⟩:=mg h3
  unfold zY at h4
  obtain ⟨h5,h6⟩:=mg h4
  refine aM (s1:=⟨B++z::L,T⟩) ?_ (fun i X hX=>?_) (by simpa using h5) h6
  ·simp only [St.cut,aaQ,aaM,h1,h2]
  ·have:=PT (z0:=z0) (L:=L) (M:=[]) (B:=B) h3 rfl i X (by simpa using hX)
   simpa using this
 ·exact h.elim
instance T7:Pn (kj P fn ⟨B++z0::L,T⟩ R) .ret fr st' (ux B L T st' (@tf ⟨R⟩ B L T (eT P fr st' fn.results.toList)) st'.aj[B.length]?):=⟨vt⟩
instance T8:Pn (kj P fn ⟨B++z0::L,T⟩ R) .normal fr st' (ux B L T st' (@tf ⟨R⟩ B L T (eT P fr st' fn.results.toList)) st'.aj[B.length]?):=⟨FP⟩
instance T9 {v:V}:Pn (kj P fn ⟨B++z0::L,T⟩ R) (.dw v) fr st' (ux B L T st' (@zY ⟨R⟩ B L T v) st'.aj[B.length]?):=⟨qd⟩
theorem XF {e:AX} {p:Prop} [k:Pn (kj P fn ⟨B++z0::L,T⟩ R) e fr st' p]:kj P fn ⟨B++z0::L,T⟩ R e fr st'=@cq p ⟨kj P fn ⟨B++z0::L,T⟩ R e fr st'⟩:=cq.of k.h
theorem P0 (p:aJ→Prop) (z:aJ):ux B L T st' p (some z)=((st'.aj.take (B.length+(L.length+1))=B++z::L∧st'.toks.take T.length=T)∧oL (z.within (B.length+(L.length+1)) T.length) (p z)):=(rfl)
theorem Mw (i:Bx (Out→St→Prop)) (l:List V) (z:aJ): @tf i B L T (some l) z=oL ((eD l).share.within (B.length+(L.length+1)) T.length) (@dU i (.ret (eD l).share) ⟨B++z::L,T⟩):=(rfl)
theorem tg {v:V} (h:(st'.aj.take st.aj.length=st.aj∧st'.toks.take st.toks.length=st.toks)∧oL (v.within st.aj.length st.toks.length) (@dU ⟨R⟩ (.dw v) st)):bK P fn st R (.dw v) fr st':=by
 obtain ⟨⟨h1,h2⟩,h3⟩:=h
 obtain ⟨h3,h4⟩:=mg h3
 exact aM (s1:=st) (by simp only [St.cut,h1,h2]) (fun _ _ h=> .inl h) h3 h4
instance Ua {v:V}:Pn (bK P fn st R) (.dw v) fr st' ((st'.aj.take st.aj.length=st.aj∧st'.toks.take st.toks.length=st.toks)∧oL (v.within st.aj.length st.toks.length) (@dU ⟨R⟩ (.dw v) st)):=⟨tg⟩
theorem XG {v:V}:bK P fn st R (.dw v) fr st'=@cq ((st'.aj.take st.aj.length=st.aj∧st'.toks.take st.toks.length=st.toks)∧oL (v.within st.aj.length st.toks.length) (@dU ⟨R⟩ (.dw v) st)) ⟨bK P fn st R (.dw v) fr st'⟩:=cq.of tg
end
attribute [irreducible] dU kj ux tf zY xw
attribute [go_sem] PW P0 Mw
abbrev Yr (P:Program):Prop:=
 (∀ (G:World→Nat→Prop) (g:FuncId) (xs:List V) (st:St) (K Kp:V→St→Prop) (pre:Prop) (r:Out×St) [zX P G g xs st pre r],dQ P G false g xs st K Kp=@cq (@aZ ⟨pre⟩ (xw K Kp r)) ⟨dQ P G false g xs st K Kp⟩)∧
 (∀ (fn:Func) (R:Out→St→Prop) (fr:Fr) (st':St) (B L:List aJ) (z0:aJ) (T:List (Nat×Nat×Nat)) (e:AX) (p:Prop) [Pn (kj P fn ⟨B++z0::L,T⟩ R) e fr st' p],kj P fn ⟨B++z0::L,T⟩ R e fr st'=@cq p ⟨kj P fn ⟨B++z0::L,T⟩ R e fr st'⟩)∧
 (∀ (fn:Func) (R:Out→St→Prop) (fr:Fr) (st st':St) (v:V),bK P fn st R (.dw v) fr st'=@cq ((st'.aj.take st.aj.length=st.aj∧st'.toks.take st.toks.length=st.toks)∧oL (v.within st.aj.length st.toks.length) (@dU ⟨R⟩ (.dw v) st)) ⟨bK P fn st R (.dw v) fr st'⟩)
theorem P1 (P:Program):Yr P:=⟨fun _ _ _ _ _ _ _ _=>Mv,fun _ _ _ _ _ _ _ _ _ _=>XF,fun _ _ _ _ _ _=>XG⟩
end Go.Abs
end
section
namespace Go.Proofs.YteeohmopbcjifaaGreatDoor
open Tryz
open Go.Abs
attribute [local irreducible] AW OX cG GQ bK bO bz aY aa
variable {G:World→Nat→Prop} {n:NDs} {aC:St} {Q:AX→Fr→St→Prop} {fr:Fr} {st:St}
theorem wk:Yq prog:=Tr _
attribute [go_sem] wk bx
attribute [go_sem ↓] bu TQ_n aq
theorem wr:Yr prog:=P1 _
theorem wd {id:Nat} {l:List Oper} (h:Jz l):AW prog G n aC (.region id l.toArray true) Q fr st=@cq (RX prog G n aC true [] l.toArray Q (cJ prog n l.toArray [] l fr st)) ⟨AW prog G n aC (.region id l.toArray true) Q fr st⟩:=XB mx h
end Go.Proofs.YteeohmopbcjifaaGreatDoor
end
section
namespace Go.Proofs.YteeohmopbcjifaaGreatDoor
open Tryz
open Go.Abs
attribute [local irreducible] AW OX cG GQ bK bO bz aY aa
def encIs (l:List Int):List (List D):=l.map fun k=>[int k]
theorem rowsLen_I (l:List Int):cr 1 (encIs l)=true:=ZJ (fun k=>[int k]) 1 (fun _=>rfl) l
@[simp] theorem encIs_len (l:List Int):(encIs l).length=l.length:=by simp [encIs]
theorem ixI {l:List Int} {i:Int} (h0:0≤i) (h1:i.toNat<l.length):wI true (encIs l) i=some (.ep [int (l.getD i.toNat default)] 0):=CY (f:=fun k=>[int k]) h0 h1
attribute [go_sem] rowsLen_I encIs_len ixI
structure Vr where
 name:cx
 value:aX
 deriving Inhabited
def Vr.enc (x:Vr):List D:=[.str x.name]++x.value.enc
theorem Vr.aP (x:Vr):x.enc=[.str x.name,int x.value.kind,.bool x.value.bool,int x.value.int,.str x.value.str,.sl (x.value.list.map aX.enc),.sl (bt x.value.keys)]:=by simp only [Vr.enc,aX.aP];rfl
theorem Vr.dN (x:Vr):x.enc.length=7:=by rw [Vr.aP];rfl
def vVr (x:Vr):V:= .agg (x.enc.map .d)
theorem vVr_cells (x:Vr):(vVr x).cells=some (x.enc.map .d):=(rfl)
theorem one_Vr (x:Vr):((x.enc.map V.d).all fun x=>x.one)=true:=by rw [Vr.aP];rfl
theorem vVr_fold (x:Vr):V.agg (x.enc.map .d)=vVr x:=(rfl)
theorem Vrg0 (x:Vr):(x.enc)[0]?=some (.str x.name):=by rw [Vr.aP];rfl
theorem Vrs1_6 (x:Vr):(x.enc.drop 1).take 6=x.value.enc:=by rw [Vr.aP,aX.aP];rfl
theorem Vrt1_6 (x:Vr):((x.enc.map V.d).drop 1).take 6=x.value.enc.map .d:=by rw [←Vrs1_6];simp
theorem Vrw (x:Vr):(x.enc).take 7=x.enc:=by rw [←Vr.dN x,aaY]
theorem rowsLen_Vr (l:List Vr):cr 7 (l.map Vr.enc)=true:=ZJ _ _ Vr.dN l
attribute [go_sem] Vr.dN vVr_cells one_Vr vVr_fold Vrg0 Vrs1_6 Vrt1_6 Vrw rowsLen_Vr
structure Stp where
 op:Int
 name:cx
 text:cx
 n:Int
 deriving Inhabited
def Stp.enc (x:Stp):List D:=[int x.op,.str x.name,.str x.text,int x.n]
theorem Stp.aP (x:Stp):x.enc=[int x.op,.str x.name,.str x.text,int x.n]:=by rfl
theorem Stp.dN (x:Stp):x.enc.length=4:=by rw [Stp.aP];rfl
def vStp (x:Stp):V:= .agg (x.enc.map .d)
theorem vStp_cells (x:Stp):(vStp x).cells=some (x.enc.map .d):=(rfl)
theorem one_Stp (x:Stp):((x.enc.map V.d).all fun x=>x.one)=true:=by rw [Stp.aP];rfl
theorem vStp_fold (x:Stp):V.agg (x.enc.map .d)=vStp x:=(rfl)
theorem Stpg0 (x:Stp):(x.enc)[0]?=some (int x.op):=by rw [Stp.aP];rfl
theorem Stpg1 (x:Stp):(x.enc)[1]?=some (.str x.name):=by rw [Stp.aP];rfl
theorem Stpg2 (x:Stp):(x.enc)[2]?=some (.str x.text):=by rw [Stp.aP];rfl
theorem Stpg3 (x:Stp):(x.enc)[3]?=some (int x.n):=by rw [Stp.aP];rfl
theorem Stpw (x:Stp):(x.enc).take 4=x.enc:=by rw [←Stp.dN x,aaY]
theorem rowsLen_Stp (l:List Stp):cr 4 (l.map Stp.enc)=true:=ZJ _ _ Stp.dN l
attribute [go_sem] Stp.dN vStp_cells one_Stp vStp_fold Stpg0 Stpg1 Stpg2 Stpg3 Stpw rowsLen_Stp
structure Rty where
 max:Int
 classes:List Int
 base:Int
 cap:Int
 deriving Inhabited
def Rty.enc (x:Rty):List D:=[int x.max,.sl (encIs x.classes),int x.base,int x.cap]
theorem Rty.aP (x:Rty):x.enc=[int x.max,.sl (encIs x.classes),int x.base,int x.cap]:=by rfl
theorem Rty.dN (x:Rty):x.enc.length=4:=by rw [Rty.aP];rfl
theorem Rtyg0 (x:Rty):(x.enc)[0]?=some (int x.max):=by rw [Rty.aP];rfl
theorem Rtyg1 (x:Rty):(x.enc)[1]?=some (.sl (encIs x.classes)):=by rw [Rty.aP];rfl
theorem Rtyg2 (x:Rty):(x.enc)[2]?=some (int x.base):=by rw [Rty.aP];rfl
theorem Rtyg3 (x:Rty):(x.enc)[3]?=some (int x.cap):=by rw [Rty.aP];rfl
attribute [go_sem] Rty.dN Rtyg0 Rtyg1 Rtyg2 Rtyg3
structure Csh where
 key:cx
 restore:List cx
 files:List cx
 deriving Inhabited
def Csh.enc (x:Csh):List D:=[.str x.key,.sl (bt x.restore),.sl (bt x.files)]
theorem Csh.aP (x:Csh):x.enc=[.str x.key,.sl (bt x.restore),.sl (bt x.files)]:=by rfl
theorem Csh.dN (x:Csh):x.enc.length=3:=by rw [Csh.aP];rfl
def vCsh (x:Csh):V:= .agg (x.enc.map .d)
theorem vCsh_cells (x:Csh):(vCsh x).cells=some (x.enc.map .d):=(rfl)
theorem one_Csh (x:Csh):((x.enc.map V.d).all fun x=>x.one)=true:=by rw [Csh.aP];rfl
theorem vCsh_fold (x:Csh):V.agg (x.enc.map .d)=vCsh x:=(rfl)
theorem Cshg0 (x:Csh):(x.enc)[0]?=some (.str x.key):=by rw [Csh.aP];rfl
theorem Cshg1 (x:Csh):(x.enc)[1]?=some (.sl (bt x.restore)):=by rw [Csh.aP];rfl
theorem Cshg2 (x:Csh):(x.enc)[2]?=some (.sl (bt x.files)):=by rw [Csh.aP];rfl
theorem Cshw (x:Csh):(x.enc).take 3=x.enc:=by rw [←Csh.dN x,aaY]
theorem rowsLen_Csh (l:List Csh):cr 3 (l.map Csh.enc)=true:=ZJ _ _ Csh.dN l
attribute [go_sem] Csh.dN vCsh_cells one_Csh vCsh_fold Cshg0 Cshg1 Cshg2 Cshw rowsLen_Csh
structure Gsp where
 approvals:Int
 aaj:List cx
 expiry:Int
 deriving Inhabited
def Gsp.enc (x:Gsp):List D:=[int x.approvals,.sl (bt x.aaj),int x.expiry]
theorem Gsp.aP (x:Gsp):x.enc=[int x.approvals,.sl (bt x.aaj),int x.expiry]:=by rfl
theorem Gsp.dN (x:Gsp):x.enc.length=3:=by rw [Gsp.aP];rfl
def vGsp (x:Gsp):V:= .agg (x.enc.map .d)
theorem vGsp_cells (x:Gsp):(vGsp x).cells=some (x.enc.map .d):=(rfl)
theorem one_Gsp (x:Gsp):((x.enc.map V.d).all fun x=>x.one)=true:=by rw [Gsp.aP];rfl
theorem vGsp_fold (x:Gsp):V.agg (x.enc.map .d)=vGsp x:=(rfl)
theorem Gspg0 (x:Gsp):(x.enc)[0]?=some (int x.approvals):=by rw [Gsp.aP];rfl
theorem Gspg1 (x:Gsp):(x.enc)[1]?=some (.sl (bt x.aaj)):=by rw [Gsp.aP];rfl
theorem Gspg2 (x:Gsp):(x.enc)[2]?=some (int x.expiry):=by rw [Gsp.aP];rfl
attribute [go_sem] Gsp.dN vGsp_cells one_Gsp vGsp_fold Gspg0 Gspg1 Gspg2
structure Jb where
 id:cx
 aae:List cx
 when:Ex
 vars:List Vr
 steps:List Stp
 labels:List cx
 group:cx
 policy:Int
 priority:Int
 cost:Int
 timeout:Int
 retry:Rty
 aaF:List cx
 uses:List cx
 aak:List cx
 caches:List Csh
 secrets:List cx
 environment:cx
 hasGate:Bool
 gate:Gsp
 tests:List cx
 shard:Int
 shards:Int
 allowFail:Bool
 child:Bool
 deriving Inhabited
def Jb.enc (x:Jb):List D:=[.str x.id,.sl (bt x.aae)]++x.when.enc++[.sl (x.vars.map Vr.enc),.sl (x.steps.map Stp.enc),.sl (bt x.labels),.str x.group,int x.policy,int x.priority,int x.cost,int x.timeout]++x.retry.enc++[.sl (bt x.aaF),.sl (bt x.uses),.sl (bt x.aak),.sl (x.caches.map Csh.enc),.sl (bt x.secrets),.str x.environment,.bool x.hasGate]++x.gate.enc++[.sl (bt x.tests),int x.shard,int x.shards,.bool x.allowFail,.bool x.child]
theorem Jb.aP (x:Jb):x.enc=[.str x.id,.sl (bt x.aae),int x.when.kind,.str x.when.name,int x.when.value.kind,.bool x.when.value.bool,int x.when.value.int,.str x.when.value.str,.sl (x.when.value.list.map aX.enc),.sl (bt x.when.value.keys),.sl (x.when.args.map Ex.enc),.sl (bt x.when.keys),.sl (x.vars.map Vr.enc),.sl (x.steps.map Stp.enc),.sl (bt x.labels),.str x.group,int x.policy,int x.priority,int x.cost,int x.timeout,int x.retry.max,.sl (encIs x.retry.classes),int x.retry.base,int x.retry.cap,.sl (bt x.aaF),.sl (bt x.uses),.sl (bt x.aak),.sl (x.caches.map Csh.enc),.sl (bt x.secrets),.str x.environment,.bool x.hasGate,int x.gate.approvals,.sl (bt x.gate.aaj),int x.gate.expiry,.sl (bt x.tests),int x.shard,int x.shards,.bool x.allowFail,.bool x.child]:=by simp only [Jb.enc,Ex.aP,aX.aP,Rty.enc,Gsp.enc];rfl
theorem Jb.dN (x:Jb):x.enc.length=39:=by rw [Jb.aP];rfl
def vJb (x:Jb):V:= .agg (x.enc.map .d)
theorem vJb_cells (x:Jb):(vJb x).cells=some (x.enc.map .d):=(rfl)
theorem one_Jb (x:Jb):((x.enc.map V.d).all fun x=>x.one)=true:=by rw [Jb.aP];rfl
theorem vJb_share (x:Jb):(vJb x).share=vJb x:=by simp [vJb,jG,iM]
theorem vJb_fold (x:Jb):V.agg (x.enc.map .d)=vJb x:=(rfl)
theorem Jbg0 (x:Jb):(x.enc)[0]?=some (.str x.id):=by rw [Jb.aP];rfl
theorem Jbg1 (x:Jb):(x.enc)[1]?=some (.sl (bt x.aae)):=by rw [Jb.aP];rfl
theorem Jbg12 (x:Jb):(x.enc)[12]?=some (.sl (x.vars.map Vr.enc)):=by rw [Jb.aP];rfl
theorem Jbg13 (x:Jb):(x.enc)[13]?=some (.sl (x.steps.map Stp.enc)):=by rw [Jb.aP];rfl
theorem Jbg14 (x:Jb):(x.enc)[14]?=some (.sl (bt x.labels)):=by rw [Jb.aP];rfl
theorem Jbg15 (x:Jb):(x.enc)[15]?=some (.str x.group):=by rw [Jb.aP];rfl
theorem Jbg16 (x:Jb):(x.enc)[16]?=some (int x.policy):=by rw [Jb.aP];rfl
theorem Jbg17 (x:Jb):(x.enc)[17]?=some (int x.priority):=by rw [Jb.aP];rfl
theorem Jbg18 (x:Jb):(x.enc)[18]?=some (int x.cost):=by rw [Jb.aP];rfl
theorem Jbg19 (x:Jb):(x.enc)[19]?=some (int x.timeout):=by rw [Jb.aP];rfl
theorem Jbg20 (x:Jb):(x.enc)[20]?=some (int x.retry.max):=by rw [Jb.aP];rfl
theorem Jbg21 (x:Jb):(x.enc)[21]?=some (.sl (encIs x.retry.classes)):=by rw [Jb.aP];rfl
theorem Jbg22 (x:Jb):(x.enc)[22]?=some (int x.retry.base):=by rw [Jb.aP];rfl
theorem Jbg23 (x:Jb):(x.enc)[23]?=some (int x.retry.cap):=by rw [Jb.aP];rfl
theorem Jbg24 (x:Jb):(x.enc)[24]?=some (.sl (bt x.aaF)):=by rw [Jb.aP];rfl
theorem Jbg25 (x:Jb):(x.enc)[25]?=some (.sl (bt x.uses)):=by rw [Jb.aP];rfl
theorem Jbg26 (x:Jb):(x.enc)[26]?=some (.sl (bt x.aak)):=by rw [Jb.aP];rfl
theorem Jbg27 (x:Jb):(x.enc)[27]?=some (.sl (x.caches.map Csh.enc)):=by rw [Jb.aP];rfl
theorem Jbg28 (x:Jb):(x.enc)[28]?=some (.sl (bt x.secrets)):=by rw [Jb.aP];rfl
theorem Jbg29 (x:Jb):(x.enc)[29]?=some (.str x.environment):=by rw [Jb.aP];rfl
theorem Jbg30 (x:Jb):(x.enc)[30]?=some (.bool x.hasGate):=by rw [Jb.aP];rfl
theorem Jbg32 (x:Jb):(x.enc)[32]?=some (.sl (bt x.gate.aaj)):=by rw [Jb.aP];rfl
theorem Jbg34 (x:Jb):(x.enc)[34]?=some (.sl (bt x.tests)):=by rw [Jb.aP];rfl
theorem Jbg35 (x:Jb):(x.enc)[35]?=some (int x.shard):=by rw [Jb.aP];rfl
theorem Jbg36 (x:Jb):(x.enc)[36]?=some (int x.shards):=by rw [Jb.aP];rfl
theorem Jbg37 (x:Jb):(x.enc)[37]?=some (.bool x.allowFail):=by rw [Jb.aP];rfl
theorem Jbg38 (x:Jb):(x.enc)[38]?=some (.bool x.child):=by rw [Jb.aP];rfl
theorem Jbs2_10 (x:Jb):(x.enc.drop 2).take 10=x.when.enc:=by rw [Jb.aP,Ex.aP,aX.aP];rfl
theorem Jbt2_10 (x:Jb):((x.enc.map V.d).drop 2).take 10=x.when.enc.map .d:=by rw [←Jbs2_10];simp
theorem Jbs20_4 (x:Jb):(x.enc.drop 20).take 4=x.retry.enc:=by rw [Jb.aP,Rty.aP];rfl
theorem Jbs31_3 (x:Jb):(x.enc.drop 31).take 3=x.gate.enc:=by rw [Jb.aP,Gsp.aP];rfl
theorem Jbt31_3 (x:Jb):((x.enc.map V.d).drop 31).take 3=x.gate.enc.map .d:=by rw [←Jbs31_3];simp
theorem Jbw (x:Jb):(x.enc).take 39=x.enc:=by rw [←Jb.dN x,aaY]
theorem Jbx (x:Jb):(x.enc.map V.d).take 39=x.enc.map .d:=by rw [←Jb.dN x,←List.map_take,aaY]
theorem rowsLen_Jb (l:List Jb):cr 39 (l.map Jb.enc)=true:=ZJ _ _ Jb.dN l
attribute [go_sem] Jb.dN vJb_cells one_Jb vJb_share vJb_fold Jbg0 Jbg1 Jbg12 Jbg13 Jbg14 Jbg15 Jbg16 Jbg17 Jbg18 Jbg19 Jbg20 Jbg21 Jbg22 Jbg23 Jbg24 Jbg25 Jbg26 Jbg27 Jbg28 Jbg29 Jbg30 Jbg32 Jbg34 Jbg35 Jbg36 Jbg37 Jbg38 Jbs2_10 Jbt2_10 Jbs20_4 Jbs31_3 Jbt31_3 Jbw Jbx rowsLen_Jb
structure Pln where
 name:cx
 jobs:List Jb
 deriving Inhabited
def Pln.enc (x:Pln):List D:=[.str x.name,.sl (x.jobs.map Jb.enc)]
theorem Pln.aP (x:Pln):x.enc=[.str x.name,.sl (x.jobs.map Jb.enc)]:=by rfl
theorem Pln.dN (x:Pln):x.enc.length=2:=by rw [Pln.aP];rfl
def vPln (x:Pln):V:= .agg (x.enc.map .d)
theorem vPln_cells (x:Pln):(vPln x).cells=some (x.enc.map .d):=(rfl)
theorem vPln_share (x:Pln):(vPln x).share=vPln x:=by simp [vPln,jG,iM]
theorem vPln_fold (x:Pln):V.agg (x.enc.map .d)=vPln x:=(rfl)
theorem Plng0 (x:Pln):(x.enc)[0]?=some (.str x.name):=by rw [Pln.aP];rfl
theorem Plng1 (x:Pln):(x.enc)[1]?=some (.sl (x.jobs.map Jb.enc)):=by rw [Pln.aP];rfl
attribute [go_sem] Pln.dN vPln_cells vPln_share vPln_fold Plng0 Plng1
structure Org where
 aar:cx
 ref:cx
 fork:Bool
 deriving Inhabited
def Org.enc (x:Org):List D:=[.str x.aar,.str x.ref,.bool x.fork]
theorem Org.aP (x:Org):x.enc=[.str x.aar,.str x.ref,.bool x.fork]:=by rfl
theorem Org.dN (x:Org):x.enc.length=3:=by rw [Org.aP];rfl
theorem Orgg0 (x:Org):(x.enc)[0]?=some (.str x.aar):=by rw [Org.aP];rfl
theorem Orgg1 (x:Org):(x.enc)[1]?=some (.str x.ref):=by rw [Org.aP];rfl
theorem Orgg2 (x:Org):(x.enc)[2]?=some (.bool x.fork):=by rw [Org.aP];rfl
attribute [go_sem] Org.dN Orgg0 Orgg1 Orgg2
structure Tmg where
 name:cx
 time:Int
 deriving Inhabited
def Tmg.enc (x:Tmg):List D:=[.str x.name,int x.time]
theorem Tmg.aP (x:Tmg):x.enc=[.str x.name,int x.time]:=by rfl
theorem Tmg.dN (x:Tmg):x.enc.length=2:=by rw [Tmg.aP];rfl
theorem Tmgg0 (x:Tmg):(x.enc)[0]?=some (.str x.name):=by rw [Tmg.aP];rfl
theorem Tmgg1 (x:Tmg):(x.enc)[1]?=some (int x.time):=by rw [Tmg.aP];rfl
theorem Tmgw (x:Tmg):(x.enc).take 2=x.enc:=by rw [←Tmg.dN x,aaY]
theorem rowsLen_Tmg (l:List Tmg):cr 2 (l.map Tmg.enc)=true:=ZJ _ _ Tmg.dN l
attribute [go_sem] Tmg.dN Tmgg0 Tmgg1 Tmgw rowsLen_Tmg
structure Otp where
 name:cx
 digest:Int
 size:Int
 deriving Inhabited
def Otp.enc (x:Otp):List D:=[.str x.name,.int .u64 x.digest,int x.size]
theorem Otp.aP (x:Otp):x.enc=[.str x.name,.int .u64 x.digest,int x.size]:=by rfl
theorem Otp.dN (x:Otp):x.enc.length=3:=by rw [Otp.aP];rfl
theorem Otpg0 (x:Otp):(x.enc)[0]?=some (.str x.name):=by rw [Otp.aP];rfl
theorem Otpg1 (x:Otp):(x.enc)[1]?=some (.int .u64 x.digest):=by rw [Otp.aP];rfl
theorem Otpg2 (x:Otp):(x.enc)[2]?=some (int x.size):=by rw [Otp.aP];rfl
theorem Otpw (x:Otp):(x.enc).take 3=x.enc:=by rw [←Otp.dN x,aaY]
theorem rowsLen_Otp (l:List Otp):cr 3 (l.map Otp.enc)=true:=ZJ _ _ Otp.dN l
attribute [go_sem] Otp.dN Otpg0 Otpg1 Otpg2 Otpw rowsLen_Otp
structure Tsr where
 name:cx
 status:Int
 time:Int
 deriving Inhabited
def Tsr.enc (x:Tsr):List D:=[.str x.name,int x.status,int x.time]
theorem Tsr.aP (x:Tsr):x.enc=[.str x.name,int x.status,int x.time]:=by rfl
theorem Tsr.dN (x:Tsr):x.enc.length=3:=by rw [Tsr.aP];rfl
theorem Tsrg0 (x:Tsr):(x.enc)[0]?=some (.str x.name):=by rw [Tsr.aP];rfl
theorem Tsrg1 (x:Tsr):(x.enc)[1]?=some (int x.status):=by rw [Tsr.aP];rfl
theorem Tsrg2 (x:Tsr):(x.enc)[2]?=some (int x.time):=by rw [Tsr.aP];rfl
theorem Tsrw (x:Tsr):(x.enc).take 3=x.enc:=by rw [←Tsr.dN x,aaY]
theorem rowsLen_Tsr (l:List Tsr):cr 3 (l.map Tsr.enc)=true:=ZJ _ _ Tsr.dN l
attribute [go_sem] Tsr.dN Tsrg0 Tsrg1 Tsrg2 Tsrw rowsLen_Tsr
structure Rsl where
 status:Int
 class_:Int
 aaF:List Otp
 aak:List Otp
 tests:List Tsr
 child:cx
 deriving Inhabited
def Rsl.enc (x:Rsl):List D:=[int x.status,int x.class_,.sl (x.aaF.map Otp.enc),.sl (x.aak.map Otp.enc),.sl (x.tests.map Tsr.enc),.str x.child]
theorem Rsl.aP (x:Rsl):x.enc=[int x.status,int x.class_,.sl (x.aaF.map Otp.enc),.sl (x.aak.map Otp.enc),.sl (x.tests.map Tsr.enc),.str x.child]:=by rfl
theorem Rsl.dN (x:Rsl):x.enc.length=6:=by rw [Rsl.aP];rfl
theorem Rslg0 (x:Rsl):(x.enc)[0]?=some (int x.status):=by rw [Rsl.aP];rfl
theorem Rslg1 (x:Rsl):(x.enc)[1]?=some (int x.class_):=by rw [Rsl.aP];rfl
theorem Rslg2 (x:Rsl):(x.enc)[2]?=some (.sl (x.aaF.map Otp.enc)):=by rw [Rsl.aP];rfl
theorem Rslg3 (x:Rsl):(x.enc)[3]?=some (.sl (x.aak.map Otp.enc)):=by rw [Rsl.aP];rfl
theorem Rslg4 (x:Rsl):(x.enc)[4]?=some (.sl (x.tests.map Tsr.enc)):=by rw [Rsl.aP];rfl
theorem Rslg5 (x:Rsl):(x.enc)[5]?=some (.str x.child):=by rw [Rsl.aP];rfl
attribute [go_sem] Rsl.dN Rslg0 Rslg1 Rslg2 Rslg3 Rslg4 Rslg5
structure Atm where
 n:Int
 token:Int
 worker:cx
 began:Int
 ended:Int
 status:Int
 class_:Int
 deriving Inhabited
def Atm.enc (x:Atm):List D:=[int x.n,int x.token,.str x.worker,int x.began,int x.ended,int x.status,int x.class_]
theorem Atm.aP (x:Atm):x.enc=[int x.n,int x.token,.str x.worker,int x.began,int x.ended,int x.status,int x.class_]:=by rfl
theorem Atm.dN (x:Atm):x.enc.length=7:=by rw [Atm.aP];rfl
theorem Atmg0 (x:Atm):(x.enc)[0]?=some (int x.n):=by rw [Atm.aP];rfl
theorem Atmg1 (x:Atm):(x.enc)[1]?=some (int x.token):=by rw [Atm.aP];rfl
theorem Atmg2 (x:Atm):(x.enc)[2]?=some (.str x.worker):=by rw [Atm.aP];rfl
theorem Atmg3 (x:Atm):(x.enc)[3]?=some (int x.began):=by rw [Atm.aP];rfl
theorem Atmg4 (x:Atm):(x.enc)[4]?=some (int x.ended):=by rw [Atm.aP];rfl
theorem Atmg5 (x:Atm):(x.enc)[5]?=some (int x.status):=by rw [Atm.aP];rfl
theorem Atmg6 (x:Atm):(x.enc)[6]?=some (int x.class_):=by rw [Atm.aP];rfl
theorem Atmw (x:Atm):(x.enc).take 7=x.enc:=by rw [←Atm.dN x,aaY]
theorem rowsLen_Atm (l:List Atm):cr 7 (l.map Atm.enc)=true:=ZJ _ _ Atm.dN l
attribute [go_sem] Atm.dN Atmg0 Atmg1 Atmg2 Atmg3 Atmg4 Atmg5 Atmg6 Atmw rowsLen_Atm
structure Gte where
 spec:Gsp
 opened:Int
 yes:List cx
 state:Int
 deriving Inhabited
def Gte.enc (x:Gte):List D:=x.spec.enc++[int x.opened,.sl (bt x.yes),int x.state]
theorem Gte.aP (x:Gte):x.enc=[int x.spec.approvals,.sl (bt x.spec.aaj),int x.spec.expiry,int x.opened,.sl (bt x.yes),int x.state]:=by simp only [Gte.enc,Gsp.enc];rfl
theorem Gte.dN (x:Gte):x.enc.length=6:=by rw [Gte.aP];rfl
theorem Gteg3 (x:Gte):(x.enc)[3]?=some (int x.opened):=by rw [Gte.aP];rfl
theorem Gteg4 (x:Gte):(x.enc)[4]?=some (.sl (bt x.yes)):=by rw [Gte.aP];rfl
theorem Gteg5 (x:Gte):(x.enc)[5]?=some (int x.state):=by rw [Gte.aP];rfl
theorem Gtes0_3 (x:Gte):(x.enc.drop 0).take 3=x.spec.enc:=by rw [Gte.aP,Gsp.aP];rfl
attribute [go_sem] Gte.dN Gteg3 Gteg4 Gteg5 Gtes0_3
structure Jst where
 id:cx
 phase:Int
 due:Int
 attempts:List Atm
 gate:Gte
 result:Rsl
 deriving Inhabited
def Jst.enc (x:Jst):List D:=[.str x.id,int x.phase,int x.due,.sl (x.attempts.map Atm.enc)]++x.gate.enc++x.result.enc
theorem Jst.aP (x:Jst):x.enc=[.str x.id,int x.phase,int x.due,.sl (x.attempts.map Atm.enc),int x.gate.spec.approvals,.sl (bt x.gate.spec.aaj),int x.gate.spec.expiry,int x.gate.opened,.sl (bt x.gate.yes),int x.gate.state,int x.result.status,int x.result.class_,.sl (x.result.aaF.map Otp.enc),.sl (x.result.aak.map Otp.enc),.sl (x.result.tests.map Tsr.enc),.str x.result.child]:=by simp only [Jst.enc,Gte.enc,Gsp.enc,Rsl.enc];rfl
theorem Jst.dN (x:Jst):x.enc.length=16:=by rw [Jst.aP];rfl
def vJst (x:Jst):V:= .agg (x.enc.map .d)
theorem vJst_cells (x:Jst):(vJst x).cells=some (x.enc.map .d):=(rfl)
theorem one_Jst (x:Jst):((x.enc.map V.d).all fun x=>x.one)=true:=by rw [Jst.aP];rfl
theorem vJst_fold (x:Jst):V.agg (x.enc.map .d)=vJst x:=(rfl)
theorem Jstg0 (x:Jst):(x.enc)[0]?=some (.str x.id):=by rw [Jst.aP];rfl
theorem Jstg1 (x:Jst):(x.enc)[1]?=some (int x.phase):=by rw [Jst.aP];rfl
theorem Jstg2 (x:Jst):(x.enc)[2]?=some (int x.due):=by rw [Jst.aP];rfl
theorem Jstg3 (x:Jst):(x.enc)[3]?=some (.sl (x.attempts.map Atm.enc)):=by rw [Jst.aP];rfl
theorem Jstg5 (x:Jst):(x.enc)[5]?=some (.sl (bt x.gate.spec.aaj)):=by rw [Jst.aP];rfl
theorem Jstg8 (x:Jst):(x.enc)[8]?=some (.sl (bt x.gate.yes)):=by rw [Jst.aP];rfl
theorem Jstg12 (x:Jst):(x.enc)[12]?=some (.sl (x.result.aaF.map Otp.enc)):=by rw [Jst.aP];rfl
theorem Jstg13 (x:Jst):(x.enc)[13]?=some (.sl (x.result.aak.map Otp.enc)):=by rw [Jst.aP];rfl
theorem Jstg14 (x:Jst):(x.enc)[14]?=some (.sl (x.result.tests.map Tsr.enc)):=by rw [Jst.aP];rfl
theorem Jsts4_6 (x:Jst):(x.enc.drop 4).take 6=x.gate.enc:=by rw [Jst.aP,Gte.aP];rfl
theorem Jsts10_6 (x:Jst):(x.enc.drop 10).take 6=x.result.enc:=by rw [Jst.aP,Rsl.aP];rfl
theorem Jstw (x:Jst):(x.enc).take 16=x.enc:=by rw [←Jst.dN x,aaY]
theorem rowsLen_Jst (l:List Jst):cr 16 (l.map Jst.enc)=true:=ZJ _ _ Jst.dN l
attribute [go_sem] Jst.dN vJst_cells one_Jst vJst_fold Jstg0 Jstg1 Jstg2 Jstg3 Jstg5 Jstg8 Jstg12 Jstg13 Jstg14 Jsts4_6 Jsts10_6 Jstw rowsLen_Jst
structure Rn where
 id:cx
 number:Int
 origin:Org
 trust:Int
 created:Int
 plan:Pln
 times:List Tmg
 cancel:Int
 jobs:List Jst
 deriving Inhabited
def Rn.enc (x:Rn):List D:=[.str x.id,int x.number]++x.origin.enc++[int x.trust,int x.created]++x.plan.enc++[.sl (x.times.map Tmg.enc),int x.cancel,.sl (x.jobs.map Jst.enc)]
theorem Rn.aP (x:Rn):x.enc=[.str x.id,int x.number,.str x.origin.aar,.str x.origin.ref,.bool x.origin.fork,int x.trust,int x.created,.str x.plan.name,.sl (x.plan.jobs.map Jb.enc),.sl (x.times.map Tmg.enc),int x.cancel,.sl (x.jobs.map Jst.enc)]:=by simp only [Rn.enc,Org.enc,Pln.enc];rfl
theorem Rn.dN (x:Rn):x.enc.length=12:=by rw [Rn.aP];rfl
def vRn (x:Rn):V:= .agg (x.enc.map .d)
theorem vRn_cells (x:Rn):(vRn x).cells=some (x.enc.map .d):=(rfl)
theorem one_Rn (x:Rn):((x.enc.map V.d).all fun x=>x.one)=true:=by rw [Rn.aP];rfl
theorem vRn_share (x:Rn):(vRn x).share=vRn x:=by simp [vRn,jG,iM]
theorem vRn_within (N M:Nat) (x:Rn):(vRn x).within N M=true:=by rw [vRn,Rn.aP];rfl
theorem vRn_fold (x:Rn):V.agg (x.enc.map .d)=vRn x:=(rfl)
theorem Rng0 (x:Rn):(x.enc)[0]?=some (.str x.id):=by rw [Rn.aP];rfl
theorem Rng1 (x:Rn):(x.enc)[1]?=some (int x.number):=by rw [Rn.aP];rfl
theorem Rng5 (x:Rn):(x.enc)[5]?=some (int x.trust):=by rw [Rn.aP];rfl
theorem Rng6 (x:Rn):(x.enc)[6]?=some (int x.created):=by rw [Rn.aP];rfl
theorem Rng7 (x:Rn):(x.enc)[7]?=some (.str x.plan.name):=by rw [Rn.aP];rfl
theorem Rng9 (x:Rn):(x.enc)[9]?=some (.sl (x.times.map Tmg.enc)):=by rw [Rn.aP];rfl
theorem Rng10 (x:Rn):(x.enc)[10]?=some (int x.cancel):=by rw [Rn.aP];rfl
theorem Rng11 (x:Rn):(x.enc)[11]?=some (.sl (x.jobs.map Jst.enc)):=by rw [Rn.aP];rfl
theorem Rns2_3 (x:Rn):(x.enc.drop 2).take 3=x.origin.enc:=by rw [Rn.aP,Org.aP];rfl
theorem Rns7_2 (x:Rn):(x.enc.drop 7).take 2=x.plan.enc:=by rw [Rn.aP,Pln.aP];rfl
theorem Rnt7_2 (x:Rn):((x.enc.map V.d).drop 7).take 2=x.plan.enc.map .d:=by rw [←Rns7_2];simp
theorem Rnw (x:Rn):(x.enc).take 12=x.enc:=by rw [←Rn.dN x,aaY]
theorem Rnx (x:Rn):(x.enc.map V.d).take 12=x.enc.map .d:=by rw [←Rn.dN x,←List.map_take,aaY]
theorem rowsLen_Rn (l:List Rn):cr 12 (l.map Rn.enc)=true:=ZJ _ _ Rn.dN l
attribute [go_sem] Rn.dN vRn_cells one_Rn vRn_share vRn_within vRn_fold Rng0 Rng1 Rng5 Rng6 Rng7 Rng9 Rng10 Rng11 Rns2_3 Rns7_2 Rnt7_2 Rnw Rnx rowsLen_Rn
end Go.Proofs.YteeohmopbcjifaaGreatDoor
end
section
namespace Go.Proofs.YteeohmopbcjifaaGreatDoor
open Tryz
def fFlag (b:Bool):tD:=Ta (if b then 1 else 0)
def fStrs (l:List cx):tD:=l5 (l.map aaw)
def fInts (l:List Int):tD:=l5 (l.map Ta)
def fDig (n:Int):tD:=Ta (IntKind.i64.wrap n)
def frVal:aX→tD
 | .mk k b i s l ks=>l5 [Ta k,fFlag b,Ta i,aaw s,l5 (frL l),fStrs ks]
where frL:List aX→List tD
 |[]=>[]
 |v::r=>frVal v::frL r
def frEx:Ex→tD
 | .mk k n v l ks=>l5 [Ta k,aaw n,frVal v,l5 (frL l),fStrs ks]
where frL:List Ex→List tD
 |[]=>[]
 |v::r=>frEx v::frL r
theorem frVal_L (l:List aX):frVal.frL l=l.map frVal:=by induction l<;>simp_all [frVal.frL]
theorem frEx_L (l:List Ex):frEx.frL l=l.map frEx:=by induction l<;>simp_all [frEx.frL]
theorem frVal_eq (v:aX):frVal v=l5 [Ta v.kind,fFlag v.bool,Ta v.int,aaw v.str,l5 (v.list.map frVal),fStrs v.keys]:=by
 cases v;simp only [frVal,frVal_L,aX.kind,aX.bool,aX.int,aX.str,aX.list,aX.keys]
theorem frEx_eq (v:Ex):frEx v=l5 [Ta v.kind,aaw v.name,frVal v.value,l5 (v.args.map frEx),fStrs v.keys]:=by
 cases v;simp only [frEx,frEx_L,Ex.kind,Ex.name,Ex.value,Ex.args,Ex.keys]
def frVr (x:Vr):tD:=l5 [aaw x.name,frVal x.value]
def frTmg (x:Tmg):tD:=l5 [aaw x.name,Ta x.time]
def frOtp (x:Otp):tD:=l5 [aaw x.name,fDig x.digest,Ta x.size]
def frTsr (x:Tsr):tD:=l5 [aaw x.name,Ta x.status,Ta x.time]
def frOrg (x:Org):tD:=l5 [aaw x.aar,aaw x.ref,fFlag x.fork]
def frRsl (x:Rsl):tD:=l5 [Ta x.status,Ta x.class_,l5 (x.aaF.map frOtp),l5 (x.aak.map frOtp),l5 (x.tests.map frTsr),aaw x.child]
def frStp (x:Stp):tD:=l5 [Ta x.op,aaw x.name,aaw x.text,Ta x.n]
def frRty (x:Rty):tD:=l5 [Ta x.max,fInts x.classes,Ta x.base,Ta x.cap]
def frCsh (x:Csh):tD:=l5 [aaw x.key,fStrs x.restore,fStrs x.files]
def frGsp (x:Gsp):tD:=l5 [Ta x.approvals,fStrs x.aaj,Ta x.expiry]
def frJb (x:Jb):tD:=l5 [aaw x.id,fStrs x.aae,frEx x.when,l5 (x.vars.map frVr),l5 (x.steps.map frStp),fStrs x.labels,aaw x.group,Ta x.policy,Ta x.priority,Ta x.cost,Ta x.timeout,frRty x.retry,
 fStrs x.aaF,fStrs x.uses,fStrs x.aak,l5 (x.caches.map frCsh),fStrs x.secrets,aaw x.environment,fFlag x.hasGate,frGsp x.gate,fStrs x.tests,Ta x.shard,Ta x.shards,fFlag x.allowFail,fFlag x.child]
def frPln (x:Pln):tD:=l5 [aaw x.name,l5 (x.jobs.map frJb)]
def frAtm (x:Atm):tD:=l5 [Ta x.n,Ta x.token,aaw x.worker,Ta x.began,Ta x.ended,Ta x.status,Ta x.class_]
def frGte (x:Gte):tD:=l5 [frGsp x.spec,Ta x.opened,fStrs x.yes,Ta x.state]
def frJst (x:Jst):tD:=l5 [aaw x.id,Ta x.phase,Ta x.due,l5 (x.attempts.map frAtm),frGte x.gate,frRsl x.result]
def aan (x:Rn):tD:=l5 [aaw x.id,Ta x.number,frOrg x.origin,Ta x.trust,Ta x.created,frPln x.plan,l5 (x.times.map frTmg),Ta x.cancel,l5 (x.jobs.map frJst)]
end Go.Proofs.YteeohmopbcjifaaGreatDoor
end
section
namespace Go.Proofs.YteeohmopbcjifaaGreatDoor
open Tryz
open Go.Abs
attribute [local irreducible] AW OX cG GQ bK bO bz aY aa
def tD.enc:tD→List D
 | .mk k n s l=>[Abs.D.int .i64 k,Abs.D.int .i64 n,.str s,.sl (oM l)]
where oM:List tD→List (List D)
 |[]=>[]
 |f::r=>f.enc::oM r
theorem tD.mh (l:List tD):tD.enc.oM l=l.map tD.enc:=by induction l<;>simp_all [tD.enc.oM]
theorem tD.aP (f:tD):f.enc=[Abs.D.int .i64 f.kind,Abs.D.int .i64 f.int,.str f.str,.sl (f.list.map tD.enc)]:=by
 cases f;simp [tD.enc,tD.mh,tD.kind,tD.int,tD.str,tD.list]
theorem tD.dN (f:tD):f.enc.length=4:=by rw [tD.aP];rfl
def vFld (f:tD):V:= .agg (f.enc.map .d)
abbrev vFl (l:List tD):V:= .d (.sl (l.map tD.enc))
theorem vFld_cells (f:tD):(vFld f).cells=some (f.enc.map .d):=(rfl)
theorem one_Fld (f:tD):((f.enc.map V.d).all fun x=>x.one)=true:=by rw [tD.aP];rfl
theorem vFld_share (f:tD):(vFld f).share=vFld f:=by simp [vFld,jG,iM]
theorem vFld_within (N M:Nat) (f:tD):(vFld f).within N M=true:=by rw [vFld,tD.aP];rfl
theorem vFld_fold (f:tD):V.agg (f.enc.map .d)=vFld f:=(rfl)
theorem Fg0 (f:tD):(f.enc)[0]?=some (int f.kind):=by rw [tD.aP];rfl
theorem Fg1 (f:tD):(f.enc)[1]?=some (int f.int):=by rw [tD.aP];rfl
theorem Fg2 (f:tD):(f.enc)[2]?=some (.str f.str):=by rw [tD.aP];rfl
theorem Fg3 (f:tD):(f.enc)[3]?=some (.sl (f.list.map tD.enc)):=by rw [tD.aP];rfl
theorem Fw (f:tD):(f.enc).take 4=f.enc:=by rw [←tD.dN f,aaY]
theorem Fw' (f:tD):(f.enc.map V.d).take 4=f.enc.map .d:=by rw [←tD.dN f,←List.map_take,aaY]
theorem rowsLen_Fld (l:List tD):cr 4 (l.map tD.enc)=true:=ZJ _ _ tD.dN l
theorem rows_F1 (f:tD):dA 4 [f.enc]=true:=by rw [tD.aP];rfl
attribute [go_sem] tD.dN vFld_cells one_Fld vFld_share vFld_within vFld_fold Fg0 Fg1 Fg2 Fg3 Fw Fw' rowsLen_Fld rows_F1
end Go.Proofs.YteeohmopbcjifaaGreatDoor
end
section
namespace Go.Proofs.YteeohmopbcjifaaGreatDoor
open Tryz
open Go.Abs Go
theorem bvN {w n:Nat} (h:n<2^w):(BitVec.ofInt w (n:Int)).toNat=n:=by
 rw [BitVec.toNat_ofInt,←Int.natCast_emod,Int.toNat_natCast,Nat.mod_eq_of_lt h]
theorem wrapU32 {n:Nat} (h:n<4294967296):IntKind.u32.wrap (n:Int)=n:=Go.IntWalk.u32_in n ⟨by omega,by omega⟩
theorem wrapU64 {n:Nat} (h:n<18446744073709551616):IntKind.u64.wrap (n:Int)=n:=Go.IntWalk.u64_in n ⟨by omega,by omega⟩
theorem bits_xor32 {a b:Nat} (ha:a<4294967296) (hb:b<4294967296):aaG .xor .u32 a b=((a^^^b:Nat):Int):=by
 show IntKind.u32.wrap ((BitVec.ofInt 32 a^^^BitVec.ofInt 32 b).toNat:Int)=_
 rw [BitVec.toNat_xor,bvN ha,bvN hb,wrapU32 (Nat.xor_lt_two_pow (n:=32) ha hb)]
theorem bits_and1 {a:Nat} (ha:a<4294967296):aaG .and .u32 a 1=((a % 2:Nat):Int):=by
 show IntKind.u32.wrap ((BitVec.ofInt 32 a&&&BitVec.ofInt 32 ((1:Nat):Int)).toNat:Int)=_
 rw [BitVec.toNat_and,bvN ha,bvN (by decide),Nat.and_one_is_mod,wrapU32 (by omega)]
theorem bits_not32 {a:Nat} (ha:a<4294967296):aaG .xor .u32 4294967295 a=((4294967295 - a:Nat):Int):=by
 have e:(4294967295^^^a)=4294967295 - a:=by
  have:=Nat.testBit_two_pow_sub_succ (n:=32) (x:=a) ha
  refine Nat.eq_of_testBit_eq fun i=>?_
  rw [Nat.testBit_xor,show (4294967295 - a:Nat)=2^32 - (a+1) by omega,this i,show (4294967295:Nat)=2^32 - 1 by decide,Nat.testBit_two_pow_sub_one]
  by_cases hi:i<32
  ·simp [hi]
  ·have:a.testBit i=false:=Nat.testBit_lt_two_pow (Nat.lt_of_lt_of_le (show a<2^32 from ha) (Nat.pow_le_pow_right (by decide) (by omega)))
   simp [hi,this]
 show IntKind.u32.wrap ((BitVec.ofInt 32 ((4294967295:Nat):Int)^^^BitVec.ofInt 32 a).toNat:Int)=_
 rw [BitVec.toNat_xor,bvN (n:=a) ha,bvN (n:=4294967295) (by decide),e,wrapU32 (by omega)]
theorem shr_nat (k:IntKind) (a s:Nat) (hs:s≤k.bits):shrI k a s=((a / 2^s:Nat):Int):=by
 unfold shrI
 rw [Int.toNat_natCast,Nat.min_eq_left hs,Int.fdiv_eq_ediv_of_nonneg _ (Int.pow_nonneg (by decide)),Int.natCast_ediv,Int.natCast_pow]
 rfl
theorem crcBits_snoc:∀ (k n:Nat),crcBits (k+1) n=crcBit (crcBits k n)
 |0,_=>rfl
 |k+1,n=>by rw [crcBits,crcBits_snoc k,←crcBits]
theorem crcReg_snoc {s:cx} {i:Nat} (h:i<s.length) (n:Nat):crcReg n (s.take (i+1))=crcByte (crcReg n (s.take i)) (s.getD i default):=by
 have e:s.take (i+1)=s.take i++[s.getD i default]:=by
  rw [List.take_succ_eq_append_getElem h];simp [aaK,h]
 rw [e,crcReg_app];rfl
end Go.Proofs.YteeohmopbcjifaaGreatDoor
end
section
set_option maxHeartbeats 8000000
set_option maxRecDepth 20000
namespace Go.Proofs.YteeohmopbcjifaaGreatDoor
open Tryz
open Go.Abs
attribute [local irreducible] AW OX cG GQ bK bO bz aY aa
variable {G:World→Nat→Prop}
abbrev u32 (n:Nat):V:= .d (.int .u32 (n:Int))
abbrev vBs (s:cx):V:= .d (.sl (s.map fun b=>[D.int .u8 (b.toNat:Int)]))
theorem rowsLen_by (s:cx):cr 1 (s.map fun b=>[D.int .u8 (b.toNat:Int)])=true:=ZJ (fun b:UInt8=>[D.int .u8 (b.toNat:Int)]) 1 (fun _=>rfl) s
attribute [go_sem] rowsLen_by
theorem wrap32b (c:UInt8):IntKind.u32.wrap ((c.toNat:Nat):Int)=((c.toNat:Nat):Int):=wrapU32 (by have:=c.toNat_lt;omega)
theorem xor_c {n:Nat} (c:UInt8) (h:n<4294967296):aaG .xor .u32 ↑n ↑c.toNat=((n^^^c.toNat:Nat):Int):=bits_xor32 h (by have:=c.toNat_lt;omega)
theorem xor_p {n:Nat} (h:n<4294967296):aaG .xor .u32 ↑(n / 2) 3988292384=((n / 2^^^3988292384:Nat):Int):=bits_xor32 (b:=3988292384) (by omega) (by omega)
theorem shr_1 (n:Nat):shrI .u32 ↑n 1=((n / 2:Nat):Int):=shr_nat .u32 n 1 (by decide)
theorem c_crc (s:cx) (hs:s.length≤1099511627776):b8 G 24 [vBs s] (ai ↑(crcF s)):=by
 intro st
 have e0:crcReg 4294967295 []=4294967295:=rfl
 refine aa.start func24 rfl ntmps24 (by simp) fun _ ag=>?_
 simp (disch:=omega) only [go_sem,seval,cX ag];all_goals (try subst ag)
 refine AW.lp (fun i:Nat=>[(6,vBs s),(7,ai ↑s.length),(3,u32 (crcReg 4294967295 (s.take i))),(8,ai ↑i)]) (fun i=>i≤s.length) (fun i=>s.length - i) 0 (by simp (disch:=omega) only [go_sem,seval,e0,List.take_zero,aa9,V.d.injEq,D.int.injEq]<;>omega) (by simp) ?_
 intro i hi
 have r:=crcReg_lt (s.take i) (n:=4294967295) (by omega)
 by_cases hil:i<s.length
 ·have x1:=xor_c (s.getD i default) r
  have x2:=xor_lt32 r (show (s.getD i default).toNat<4294967296 by have:=(s.getD i default).toNat_lt;omega)
  refine Wk.go fun _ ag=>?_;simp (disch:=omega) only [go_sem,seval,cX ag,x1,wrap32b];(repeat' refine cE.i fun hc=>?_)<;>try subst ag
  refine AW.lp (fun k:Nat=>[(6,vBs s),(7,ai ↑s.length),(3,u32 (crcBits k (crcReg 4294967295 (s.take i)^^^ (s.getD i default).toNat))),(8,ai ↑i),(16,ai ↑k)]) (fun k=>k≤8) (fun k=>8 - k) 0 (by simp (disch:=omega) only [go_sem,seval,crcBits]<;>omega) (by simp) ?_
  intro k hk
  have y:=crcBits_lt k x2
  by_cases hk8:k<8
  ·have z1:=bits_and1 y
   have z2:=xor_p y
   have z3:=crcBits_snoc k (crcReg 4294967295 (s.take i)^^^ (s.getD i default).toNat)
   refine Wk.go fun _ ag=>?_;simp (disch:=omega) only [go_sem,seval,cX ag,z1,z2,shr_1];(repeat' first|apply cq.l|apply bg.i|refine cE.i fun hc=>?_)<;>try subst ag
   ·have z4:crcBit (crcBits k (crcReg 4294967295 (s.take i)^^^ (s.getD i default).toNat))=crcBits k (crcReg 4294967295 (s.take i)^^^ (s.getD i default).toNat) / 2^^^3988292384:=if_pos (by omega)
    refine Pr.i ⟨k+1,⟨by simp (disch:=omega) only [go_sem,seval,z3,z4]<;>omega,?_,?_⟩⟩
    all_goals omega
   ·have z4:crcBit (crcBits k (crcReg 4294967295 (s.take i)^^^ (s.getD i default).toNat))=crcBits k (crcReg 4294967295 (s.take i)^^^ (s.getD i default).toNat) / 2:=if_neg (by omega)
    refine Pr.i ⟨k+1,⟨by simp (disch:=omega) only [go_sem,seval,z3,z4]<;>omega,?_,?_⟩⟩
    all_goals omega
  ·obtain rfl:k=8:=by omega
   have z:=crcReg_snoc hil 4294967295
   refine Wk.go fun _ ag=>?_;simp (disch:=omega) only [go_sem,seval,cX ag];(repeat' first|apply cq.l|apply Pr.o)<;>try subst ag
   refine Pr.i ⟨i+1,⟨by simp (disch:=omega) only [go_sem,seval,z,crcByte]<;>omega,?_,?_⟩⟩
   all_goals omega
 ·obtain rfl:i=s.length:=by omega
  rw [aaY] at*
  have z:=bits_not32 r
  refine Wk.go fun _ ag=>?_;simp (disch:=omega) only [go_sem,seval,cX ag,z,crcF];(repeat' first|apply cq.l|refine cE.i fun hc=>?_|refine aQ.i ⟨?_,rfl⟩)<;>try subst ag
  have e:(if IntKind.u32.signed=true then (-1:Int) else IntKind.u32.max)=4294967295:=by decide
  rw [e,z,wrap64 (by omega) (by omega)]
end Go.Proofs.YteeohmopbcjifaaGreatDoor
end
section
namespace Go.Abs
open Go.RowKit
section
variable {P:Program} {c:Ctx} {w:World} {st:St}
theorem qN {t sz:Nat} (hz:ef P t=some sz) {k off:Nat} {arr:Array Value} {e:TypeId} {w:World} (hh:w.heap[k]?=some (.cells arr e (0,0))) {xv:Value} (hs:xv.cells.size=sz) (hle:off+sz≤arr.size) (h1:∀ v∈xv.cells.toList,v.oneCell'=true):
  (Instr.storeAt t (.pointer (some ⟨k,off,none⟩)) xv).run P w= .ok () (w.setRow k (splice arr.toList off xv.cells.toList).toArray):=by
 have hst:=run_storeCells_at P k off e xv.cells.toList 0 arr w hh (by simp [hs];omega) h1
 simp only [Nat.add_zero] at hst
 simp only [Instr.storeAt,Instr.sureAddr,Sem.run_bind,Sem.run_pure,Result.andThen_ok,storeVar,gr hz]
 rw [if_neg (by rw [hs];simp)]
 simpa [splice] using hst
theorem zZ {w:World} {a b:Nat} (h:a≠b) (x y:Array Value):(w.setRow a x).setRow b y=(w.setRow b y).setRow a x:=by
 unfold World.setRow
 congr 1
 apply Array.ext_getElem?
 intro i
 simp only [abW]
 by_cases h1:b=i
 ·subst h1;simp [h]
 ·by_cases h2:a=i
  ·subst h2;simp [h1]
  ·simp [h1,h2]
theorem z6 (hc:bf c w st) {t ty e:TypeId} {sz by_:Nat} (hsl:mU P t=some (e,sz,by_)) (hz:dy P e=some sz)
  {id:Nat} {tk:Tok} (htk:c.tok[id]?=some tk) (he:tk.e=e) (hsz:tk.sz=sz) {es:List (List D)} (hlen:es.length=tk.len) (hes:∀ r∈es,r.length=sz)
  (hval:de c.H tk.val (.sl es)) {zv:Value} {zr xr:List D} (hx:de c.H zv (.sl [zr])) (hzs:dA sz [zr]=true) (hxs:dA sz [xr]=true)
  (hb:(es.length+1)*by_≤ff) (hm:es.length+1≤maxLen) {xv:Value} (hxc:xv.cells.size=sz) (hxd:∀ j,j<sz→de c.H (xv.cells.getD j undef) (xr.getD j .eX)):
  ∃ g cap cur w1,(Builtin.append_ #[t,t] ty #[tk.val,zv]).run P w= .ok (.slice (some ⟨g,0,none⟩) (es.length+1) cap) w1∧w1.heap[g]?=some (.cells cur e (0,0))∧(es.length+1)*sz≤cur.size∧es.length+1≤cap∧
   (∀ (b k:Nat),c.mu[b]?=some k→k≠g∧w1.heap[k]?=w.heap[k]?)∧
   ∃ c',Rel c' (.slice (some ⟨g,0,none⟩) (es.length+1) cap) (.own id (es++[xr]))∧bf c' (w1.setRow g (splice cur.toList (es.length*sz) xv.cells.toList).toArray) { st with toks:=st.toks.set id (e,sz,es.length+1) }∧Ext c c':=by
 obtain ⟨hu,ie,hie,hsz',hby⟩:=kz hsl
 unfold dy at hz
 obtain ⟨z,hz1,hz2⟩:=abv.1 hz
 have hz3:ie.zero=some z:=by
  unfold zeroOf at hz1
  rw [hie] at hz1
  simpa using hz1
 obtain ⟨hsz0,hdd|⟨old,hold,hgg⟩⟩:=hc.cz id tk htk
 ·exfalso;have:=hdd.1;omega
 subst he
 cases hx with
 |sl k off m cap0 sz2 vs _ h1 h2 h3 h4 h5=>
  have hm1:m=1:=by rw [←h1];rfl
  subst hm1
  have hsz2:sz2=sz:=by rw [←h3 zr (by simp),(rowsOK_mem hzs (by simp:zr∈[zr])).1]
  subst hsz2
  have hszp:0<sz2:=by omega
  obtain ⟨news,hn1,hn2,hn3⟩:=tr (w:=w) hc.cy vs hszp h4
  have hone:∀ u∈news,u.oneCell'=true:=by
   intro u hu
   obtain ⟨q,hq,rfl⟩:=abn.1 hu
   have hq':q<sz2:=by omega
   have:=hn3 0 q (by omega) hq'
   rw [Nat.zero_mul,abl,aaT hq] at this
   simp only [aaJ] at this
   rw [this]
   refine (h5 0 q (by omega) hq').one ?_
   obtain ⟨hl,ho⟩:=rowsOK_mem hzs (by simp:zr∈[zr])
   refine ho _ ?_
   simp only [abU]
   rw [aaK,aaT (by omega),abu]
   exact abq _
  have hold':w.ownsRow c.base tk.e ie.size tk.val tk.len old:=by rw [hsz',←hsz];exact hold
  obtain ⟨w',row,g,cap,hrun,hown,hgr,hcap,hrow⟩:=lU (P:=P) c.base t ty tk.e ie z hu hie hz3 (by rw [hz2,hsz']) tk.val tk.len old hold' ⟨k,off,none⟩ 1 cap0 news (by rw [hn1,hsz']) hn2 hone (by omega)
   (by omega) (by rw [hby,←hlen];exact hb) hc.cw
  rw [hsz',←hsz] at hown
  rw [←hlen] at hrun
  obtain ⟨ho1,hx|⟨g1,cap1,cur,hv,hbg,hgc,hc1,hc2,hc3,hc4⟩⟩:=hown
  ·simp at hx
  simp only [Value.slice.injEq,aaJ,Addr.mk.injEq] at hv
  obtain ⟨⟨rfl,_,_⟩,_,rfl⟩:=hv
  have hsub:tk.sz=xv.cells.size:=by omega
  have hfit:(tk.len+1)*tk.sz≤cur.size:=by rw [hc3];exact abK _ hcap
  have hfit2:tk.len*tk.sz+tk.sz≤cur.size:=by rw [abC,Nat.one_mul] at hfit;exact hfit
  have hkg:∀ (b k:Nat),c.mu[b]?=some k→k≠g∧w'.heap[k]?=w.heap[k]?:=by
   intro b k hk
   have hB:b<st.aj.length:=by rw [←hc.cN];exact (aaL.1 hk).1
   obtain ⟨o,ho,_⟩:=hc.blk b k _ hk (aaT hB)
   have hlt:k<w.heap.size:=(abB.1 ho).1
   rcases hrow with ⟨rfl,hge⟩|⟨rfl,hob⟩
   ·exact ⟨by omega,hgr.block k hlt (by simp)⟩
   ·have hne:k≠g:=fun e=>(hgg g hob).2.2 (e▸abc hk)
    exact ⟨hne,hgr.block k hlt (by simpa using hne)⟩
  have hsp:(splice cur.toList (es.length*tk.sz) xv.cells.toList).length=cur.size:=by
   rw [cQ cur.toList _ xv.cells.toList (by simp only [abd];rw [hlen,←hsub];exact hfit2)];simp
  have htk':(splice cur.toList (es.length*tk.sz) xv.cells.toList).take ((tk.len+1)*tk.sz)=old++xv.cells.toList:=by
   have hol:old=cur.toList.take (tk.len*tk.sz):=by
    have:=congrArg (List.take (tk.len*tk.sz)) hc4
    rw [List.take_take,Nat.min_eq_left (abK _ (by omega))] at this
    rw [this,List.take_append_of_le_length (by rw [hold.1];omega),aa0 (by rw [hold.1];omega)]
   unfold splice
   rw [hlen,←hol,List.take_append_of_le_length (by simp only [aaQ,hold.1,abd];rw [←hsub,abC,Nat.one_mul];omega),aa0 (by simp only [aaQ,hold.1,abd];rw [←hsub,abC,Nat.one_mul];omega)]
  have hown2:(w'.setRow g (splice cur.toList (es.length*tk.sz) xv.cells.toList).toArray).ownsRow c.base tk.e tk.sz (.slice (some ⟨g,0,none⟩) (tk.len+1) cap) (tk.len+1) (old++xv.cells.toList):=by
   refine ⟨?_,.inr ⟨g,cap,_,rfl,hbg,setRow_heap w' g cur _ tk.e (0,0) hgc,hcap,hc2,?_,by simpa using htk'⟩⟩
   ·rw [aaQ,hold.1,abd,←hsub,abC,Nat.one_mul]
   ·simp only [abD,hsp,hc3]
  have hgr2:w.grownBy (w'.setRow g (splice cur.toList (es.length*tk.sz) xv.cells.toList).toArray) row:=by
   refine ⟨hgr.os,hgr.tape,hgr.output,by simpa [World.setRow] using hgr.size,fun k hk hne=>?_⟩
   have hkg':k≠g:=by
    rcases hrow with ⟨rfl,hge⟩|⟨rfl,hob⟩
    ·omega
    ·simpa using hne
   rw [setRow_other _ _ _ _ hkg']
   exact hgr.block k hk hne
  obtain ⟨c',k1,k2,k3⟩:=mN (vs:=fun _ j=>xv.cells.getD j undef) (news:=xv.cells.toList) hc htk hsz hlen hes hval hxs (m:=1) rfl (by omega) (by rw [abd,hxc];omega)
   (fun i j hi hj=>by
    obtain rfl:i=0:=by omega
    rw [Nat.zero_mul,abl,ab3]
    rw [aaR,abI (by omega)];rfl)
   (fun i j hi hj=>by
    obtain rfl:i=0:=by omega
    exact hxd j hj) hold hgg hown2 hgr2 hcap hrow
  refine ⟨g,cap,cur,w',hrun,hgc,by rw [←hsz,hlen];exact hfit,by omega,hkg,c',by rw [hlen];exact k1,?_,k3⟩
  rw [←hsz,hlen] at*
  exact k2
end
section
variable {P:Program} {G:World→Nat→Prop} {n:NDs} {aC:St} {Q:AX→Fr→St→Prop} {fr:Fr} {st:St}
theorem AW.XI (hm:P.follows .mixedOrders=true) {id m:Nat} {l:List Oper} {muts:List Nat} {ex:List (Nat×Nat)} (hok:fM l muts ex m=true) {oA:Oper} (ho:l[m]?=some oA) (hk2:bp muts m oA=2)
  (hbef:((List.range m).all fun i=>((masks l []).getD m 0).testBit i)=true) {vs:List V} {ss:List St} {frA:Fr} {stA:St} (hA:jZ P G n l.toArray muts 0 (l.take m) fr st vs ss frA stA)
  (hx:∀ i hi,(i,hi)∈ex→Bu P l frA (fun k=>(st::ss).getD k default) i hi)
  (hh:∀ (c0 c:Ctx) (fuel:Nat) (L:Array Bool) (a:Act) (w:World),L.size=l.length→(∀ i,L.getD i false=decide (i<m))→L.count false≤fuel+1→Ext c0 c→bf c w stA→cC c a.tmps frA→a.tmps.size=n.sz→a.defers=n.ds→
   wpOp P l.toArray (nW c0 n Q) m (wpAny P .any l.toArray (nW c0 n Q) fuel (L.setIfInBounds m true)) a w):AW P G n aC (.region id l.toArray true) Q fr st:=by
 intro c0 c w a h0 he hc hg hf hs hd
 have hg0:G c0.w0 c0.base:=by rw [←he.w0,←he.base];exact hg
 have hml:m<l.length:=(aaL.1 ho).1
 have htl:(l.take m).length=m:=by rw [aaN];omega
 obtain ⟨h1,h2,h3⟩:=hA.C0 l fr (fun i=>vs.getD i .aU) (fun i=>(st::ss).getD i default) (fun j o d ho hd=>(aaE hok ho).dst d hd) (fun i hi=>by rw [abl,abM,if_pos (by omega)]) (by simp) (by simp) (by
  funext t;unfold valOf;cases iO l t<;>simp)
 simp only [abl,htl,abt,true_implies] at h1 h2 h3
 have R:TX P G n l muts ex m fr (fun i=>vs.getD i .aU) (fun i=>(st::ss).getD i default):=by
  refine ⟨hok,by omega,fun i o hi ho=>(h1 i o hi ho).1,fun i o hi ho=>(h1 i o hi ho).2,?_,fun _ _ _ h=>by cases h⟩
  intro i hi o hmem ho hil k hk hkm
  obtain ⟨o',t,ty,e1,e2,e3,e4,e5⟩:=(hx i hi hmem).ex
  rw [ho] at e1;cases e1
  obtain ⟨dst,op,type,pos,after,guard⟩:=o
  simp only at e2 e3
  subst e2 e3
  have hfr:frA t=valOf l fr (fun i=>vs.getD i .aU) (fun k=>decide (k<i)) t:=by
   rw [h2];unfold valOf
   cases hw:iO l t with
   |none=>rfl
   |some j=>have:=e4 j hw;simp only [decide_eq_true this,decide_eq_true (show j<m by omega)]
  have hs:cL P G n l.toArray _ (valOf l fr (fun i=>vs.getD i .aU) (fun k=>decide (k<i))) ((st::ss).getD i default) (vs.getD i .aU) ((st::ss).getD (i+1) default):=(h1 i _ hil ho).1
  show cL P G n l.toArray _ (valOf l fr (fun i=>vs.getD i .aU) (fun k=>decide (k<i))) ((st::ss).getD k default) (vs.getD i .aU) ((st::ss).getD k default)
  generalize hq:valOf l fr (fun i=>vs.getD i .aU) (fun k=>decide (k<i))=fq at hs hfr ⊢
  generalize vs.getD i .aU=vv at hs ⊢
  generalize hS:(st::ss).getD i default=S1 at hs
  generalize (st::ss).getD (i+1) default=S2 at hs
  have e5:∀ v s,bn P ty (frA t) ((st::ss).getD i default)=some v→s=(st::ss).getD k default→bn P ty (frA t) s=some v:=e5 k hk
  rw [hS] at e5
  cases hs with
  |op _ _ g1 g2 g3=>
   refine .op _ _ rfl ?_ g3
   simp only [evalOp,ev] at g2 ⊢
   obtain ⟨q1,q2⟩:=jj g2
   rw [←hfr] at q2 ⊢
   rw [e5 _ _ q2 rfl];rfl
  |skip g1 g2=>simp [goes] at g1
  |call _ _ g cap x args ats _ hop=>cases hop
 refine wp_region_any hm ?_
 have hrep:∀ i,(Array.replicate l.toArray.size false).getD i false=false:=fun i=>by
  rw [aaR,abX]
  split<;>rfl
 refine kE R hg0 (.inr (.inr ⟨oA,ho,hk2,rfl,fun i hi=>?_,fun fuel L a w c e1 e2 e3 e4 e5 e6 e7 e8=>hh c0 c fuel L a w e1 e2 e3 e4 (by rw [h3];exact e5) (by rw [h2];exact e6) e7 e8⟩)) _ _ 0 a _ c ?_ ?_ he (kF hc) ?_ hs hd
 ·exact nX l l [] (by simp) (by simp) i m (aa3.1 hbef i (List.mem_range.2 hi))
 ·refine ⟨by simp,fun j o _ hj=>?_,fun j hj=>?_,abt _,fun i o _ _=>?_⟩
  ·exact absurd hj (by rw [hrep];simp)
  ·exact absurd hj (by rw [hrep];simp)
  ·rw [hrep];simp
 ·exact abJ ace (by simp)
 ·intro t
  have:=hf t
  unfold valOf
  cases iO l t with
  |none=>exact this
  |some i=>simp only [hrep];exact this
end
def Av (m p q:Nat):Array Bool:=((List.range (m+6)).map fun i=>decide (i≤m)||(decide (m<i)&&decide (i≤m+p))||(decide (m+2<i)&&decide (i≤m+2+q))).toArray
def xz (l:List Oper) (m:Nat):Bool:=(List.range 3).all fun p=>(List.range 4).all fun q=>
 Region.ready .any l.toArray (Av m p q)==(if p<2 then [m+1+p] else [])++(if q<3 then [m+3+q] else [])&&
 (decide (2≤p)||(Av m p q).setIfInBounds (m+1+p) true==Av m (p+1) q)&& (decide (3≤q)||(Av m p q).setIfInBounds (m+3+q) true==Av m p (q+1))
theorem qg {l:List Oper} {m p q:Nat} (h:xz l m=true) (hp:p<3) (hq:q<4):Region.ready .any l.toArray (Av m p q)=(if p<2 then [m+1+p] else [])++(if q<3 then [m+3+q] else [])∧
  (p<2→(Av m p q).setIfInBounds (m+1+p) true=Av m (p+1) q)∧(q<3→(Av m p q).setIfInBounds (m+3+q) true=Av m p (q+1)):=by
 have h:=aa3.1 (aa3.1 h p (List.mem_range.2 hp)) q (List.mem_range.2 hq)
 simp only [aaW,abo,aaS,beq_iff_eq] at h
 obtain ⟨⟨h1,h2⟩,h3⟩:=h
 exact ⟨h1,fun k=>h2.resolve_left (by omega),fun k=>h3.resolve_left (by omega)⟩
section
variable {P:Program} {G:World→Nat→Prop} {n:NDs} {aC:St} {Q:AX→Fr→St→Prop} {fr:Fr} {st:St}
theorem Act.rH {a:Act} {d t:Nat} {v:Value} (hd:d<a.tmps.size):(a.put (some d) v).eval (.tmp t)=if t=d then v else a.eval (.tmp t):=by
 by_cases h:t=d
 ·subst h;simp [Act.put,Act.eval,Array.getD,hd]
 ·rw [if_neg h,Act.eval_put (fun d' hd' hx=>h (by cases hd';cases hx;rfl))]
theorem o8 {ops:Array Oper} {Q:Exit→Act→World→Prop} {i:Nat} {o:Oper} (ho:ops[i]?=some o) (hg:o.guard=none) {a:Act} {w w':World} {v:Value} {K:Act→World→Prop} (h:(execOp a.eval o).run P w= .ok (.value v) w')
  (k:K (a.put o.dst v) w'):wpOp P ops Q i K a w:=by
 unfold wpOp
 simp only [ho]
 rw [if_pos (by simp [Region.wanted,hg])]
 refine .inl ?_
 unfold Oper.wp
 rw [h];exact k
theorem z7 {ops:Array Oper} {Q:Exit→Act→World→Prop} {i:Nat} {o:Oper} (ho:ops[i]?=some o) (hg:o.guard=none) (hn:o.dst=none) {a:Act} {w w':World} {K:Act→World→Prop} (h:(execOp a.eval o).run P w= .ok .skip w')
  (k:K a w'):wpOp P ops Q i K a w:=by
 unfold wpOp
 simp only [ho]
 rw [if_pos (by simp [Region.wanted,hg])]
 refine .inl ?_
 unfold Oper.wp
 rw [h,Oper.upon_skip,hn];exact k
structure HS (n:NDs) (c:Ctx) (frJ:Fr) (W:Nat→Nat→World) (tA tI tN tF tv:Nat) (sv iv nv fv xv:Value) (p q:Nat) (a:Act) (w:World):Prop where
 sz:a.tmps.size=n.sz
 ds:a.defers=n.ds
 fr:cC c a.tmps frJ
 eA:a.eval (.tmp tA)=sv
 eV:a.eval (.tmp tv)=xv
 eI:1≤p→a.eval (.tmp tI)=iv
 eN:1≤q→a.eval (.tmp tN)=nv
 eF:2≤q→a.eval (.tmp tF)=fv
 w:w=W p q
theorem FR {l:List Oper} {m:Nat} (hole:xz l m=true) {tA tI tN tF tv tl tb ts te tst f:Nat} {yI yS yN yF yT:TypeId} {pI pS pN pF pT:String} {aI aS aN aF aT:Array Edge}
  (hd:l.drop (m+1)=[⟨some tI,.indexAddr ts (.tmp tA) (.tmp tl),yI,pI,aI,none⟩,⟨none,.store te (.tmp tI) (.tmp tv),yS,pS,aS,none⟩,⟨some tN,.nilCheck (.tmp tb),yN,pN,aN,none⟩,
   ⟨some tF,.fieldAddr tst (.tmp tN) f,yF,pF,aF,none⟩,⟨none,.store ts (.tmp tF) (.tmp tA),yT,pT,aT,none⟩])
  {c0 c:Ctx} {frJ:Fr} {W:Nat→Nat→World} {sv iv fv xv:Value} {k:Nat}
  (hne:tA≠tI∧tA≠tN∧tA≠tF∧tv≠tI∧tv≠tN∧tv≠tF∧tI≠tN∧tI≠tF∧tN≠tF) (hsz:tI<n.sz∧tN<n.sz∧tF<n.sz) (hJ:frJ tI= .aU∧frJ tN= .aU∧frJ tF= .aU)
  {b:Nat} (hb:frJ tb= .ptr b 0) (hk:c.mu[b]?=some k) {ln:Int} (hln:frJ tl= .d (.int .i64 ln))
  (xI:∀ w,(Instr.indexAt ts sv (.int .i64 ln)).run P w= .ok iv w)
  (xF:∀ w,(Instr.fieldAt tst (.pointer (some ⟨k,0,none⟩)) f).run P w= .ok fv w)
  (xS:∀ q,q<4→(Instr.storeAt te iv xv).run P (W 1 q)= .ok () (W 2 q))
  (xT:∀ p,p<3→(Instr.storeAt ts fv sv).run P (W p 2)= .ok () (W p 3))
  (hW:W 0=W 1∧∀ p,W p 0=W p 1∧W p 1=W p 2)
  (hend:∀ (a:Act),a.tmps.size=n.sz→a.defers=n.ds→cC c a.tmps frJ→nW c0 n Q .normal a (W 2 3)):
  ∀ (fuel p q:Nat) (a:Act) (w:World),p<3→q<4→5≤fuel+p+q→HS n c frJ W tA tI tN tF tv sv iv (.pointer (some ⟨k,0,none⟩)) fv xv p q a w→wpAny P .any l.toArray (nW c0 n Q) fuel (Av m p q) a w:=by
 have hat:∀ j,l[m+1+j]?=(l.drop (m+1))[j]?:=fun j=>by rw [List.getElem?_drop]
 have hfin:∀ (p q:Nat) (a:Act) (w:World),p<3→q<4→HS n c frJ W tA tI tN tF tv sv iv (.pointer (some ⟨k,0,none⟩)) fv xv p q a w→Region.ready .any l.toArray (Av m p q)=[]→nW c0 n Q .normal a w:=by
  intro p q a w hp hq h hr
  rw [(qg hole hp hq).1] at hr
  have h1:p=2:=by
   by_cases h:p<2
   ·rw [if_pos h] at hr;simp at hr
   ·omega
  have h2:q=3:=by
   by_cases h:q<3
   ·rw [if_pos h] at hr;simp at hr
   ·omega
  subst h1 h2
  rw [h.w];exact hend a h.sz h.ds h.fr
 have puts:∀ (p q:Nat) (a:Act) (w:World) (t:Nat) (v:Value),t<n.sz→frJ t= .aU→HS n c frJ W tA tI tN tF tv sv iv (.pointer (some ⟨k,0,none⟩)) fv xv p q a w→
   cC c (a.put (some t) v).tmps frJ:=by
  intro p q a w t v ht hj h u
  by_cases hu:u=t
  ·subst hu;rw [hj];exact .aU _
  ·have:=h.fr u
   have e:(a.put (some t) v).tmps.getD u undef=a.tmps.getD u undef:=by
    have:=Act.rH (a:=a) (d:=t) (t:=u) (v:=v) (by rw [h.sz];exact ht)
    rw [if_neg hu] at this
    exact this
   rw [e];exact this
 intro fuel
 induction fuel with
 |zero=>
  intro p q a w hp hq hle h
  have h1:p=2:=by omega
  have h2:q=3:=by omega
  have hr:Region.ready .any l.toArray (Av m p q)=[]:=by rw [(qg hole hp hq).1,if_neg (by omega),if_neg (by omega)];rfl
  exact ⟨hr,hfin p q a w hp hq h hr⟩
 |succ fuel ih=>
  intro p q a w hp hq hle h
  refine ⟨hfin p q a w hp hq h,fun i hi=>?_⟩
  obtain ⟨s1,s2,s3⟩:=qg hole hp hq
  rw [s1,abF] at hi
  obtain ⟨n1,n2,n3,n4,n5,n6,n7,n8,n9⟩:=hne
  obtain ⟨z1,z2,z3⟩:=hsz
  obtain ⟨j1,j2,j3⟩:=hJ
  have szs:∀ t v,(a.put t v).tmps.size=n.sz:=fun t v=>(iy _ _ _).trans h.sz
  have dss:∀ t v,(a.put t v).defers=n.ds:=fun t v=>(put_defers _ _ _).trans h.ds
  have pt:∀ t u v,t<n.sz→(a.put (some t) v).eval (.tmp u)=if u=t then v else a.eval (.tmp u):=fun t u v ht=>Act.rH (by rw [h.sz];exact ht)
  rcases hi with hi|hi
  ·by_cases hp2:p<2
   ·rw [if_pos hp2,abz] at hi
    subst hi
    rw [s2 hp2]
    rcases (show p=0∨p=1 by omega) with rfl|rfl
    ·refine o8 (by rw [ab2,hat 0,hd];rfl) rfl (v:=iv) (w':=w) ?_ (ih 1 q _ _ (by omega) hq (by omega) ⟨szs _ _,dss _ _,puts _ _ _ _ _ _ z1 j1 h,?_,?_,fun _=>?_,fun hq=>?_,fun hq=>?_,?_⟩)
     ·have hl:a.eval (.tmp tl)= .int .i64 ln:=by
       have:=h.fr tl
       rw [hln] at this
       generalize hv:a.tmps.getD tl undef=v at this
       cases this with|d _ _ r=>?_
       cases r with|int _ _=>?_
       exact hv
      simp only [execOp,h.eA,hl,Sem.run_bind,xI,Result.andThen_ok,Sem.run_pure]
     ·rw [pt _ _ _ z1,if_neg n1];exact h.eA
     ·rw [pt _ _ _ z1,if_neg n4];exact h.eV
     ·rw [pt _ _ _ z1,if_pos rfl]
     ·rw [pt _ _ _ z1,if_neg (Ne.symm n7)];exact h.eN hq
     ·rw [pt _ _ _ z1,if_neg (Ne.symm n8)];exact h.eF hq
     ·rw [h.w,hW.1]
    ·refine z7 (by rw [ab2,hat 1,hd];rfl) rfl rfl (w':=W 2 q) ?_ (ih 2 q _ _ (by omega) hq (by omega) ⟨h.sz,h.ds,h.fr,h.eA,h.eV,fun _=>h.eI (by omega),h.eN,h.eF,rfl⟩)
     simp only [execOp,h.eI (aaP 1),h.eV,h.w,Sem.run_bind,xS q hq,Result.andThen_ok,Sem.run_pure]
   ·rw [if_neg hp2] at hi;cases hi
  ·by_cases hq3:q<3
   ·rw [if_pos hq3,abz] at hi
    subst hi
    rw [s3 hq3]
    rcases (show q=0∨q=1∨q=2 by omega) with rfl|rfl|rfl
    ·refine o8 (by rw [ab2,show m+3+0=m+1+2 by omega,hat 2,hd];rfl) rfl (v:= .pointer (some ⟨k,0,none⟩)) (w':=w) ?_ (ih p 1 _ _ hp (by omega) (by omega) ⟨szs _ _,dss _ _,puts _ _ _ _ _ _ z2 j2 h,?_,?_,fun hp=>?_,fun _=>?_,fun hq=>?_,?_⟩)
     ·have hl:a.eval (.tmp tb)= .pointer (some ⟨k,0,none⟩):=by
       have:=h.fr tb
       rw [hb] at this
       generalize hv:a.tmps.getD tb undef=v at this
       cases this with|ptr _ k' _ hk'=>?_
       rw [hk] at hk';cases hk'
       exact hv
      simp only [execOp,hl,Sem.run_pure]
     ·rw [pt _ _ _ z2,if_neg n2];exact h.eA
     ·rw [pt _ _ _ z2,if_neg n5];exact h.eV
     ·rw [pt _ _ _ z2,if_neg n7];exact h.eI hp
     ·rw [pt _ _ _ z2,if_pos rfl]
     ·omega
     ·rw [h.w,(hW.2 p).1]
    ·refine o8 (by rw [ab2,show m+3+1=m+1+3 by omega,hat 3,hd];rfl) rfl (v:=fv) (w':=w) ?_ (ih p 2 _ _ hp (by omega) (by omega) ⟨szs _ _,dss _ _,puts _ _ _ _ _ _ z3 j3 h,?_,?_,fun hp=>?_,fun _=>?_,fun hq=>?_,?_⟩)
     ·simp only [execOp,h.eN (aaP 1),Sem.run_bind,xF,Result.andThen_ok,Sem.run_pure]
     ·rw [pt _ _ _ z3,if_neg n3];exact h.eA
     ·rw [pt _ _ _ z3,if_neg n6];exact h.eV
     ·rw [pt _ _ _ z3,if_neg n8];exact h.eI hp
     ·rw [pt _ _ _ z3,if_neg n9];exact h.eN (aaP 1)
     ·rw [pt _ _ _ z3,if_pos rfl]
     ·rw [h.w,(hW.2 p).2]
    ·refine z7 (by rw [ab2,show m+3+2=m+1+4 by omega,hat 4,hd];rfl) rfl rfl (w':=W p 3) ?_ (ih p 3 _ _ hp (by omega) (by omega) ⟨h.sz,h.ds,h.fr,h.eA,h.eV,h.eI,fun _=>h.eN (by omega),fun _=>h.eF (by omega),rfl⟩)
     simp only [execOp,h.eF (aaP 2),h.eA,h.w,Sem.run_bind,xT p hp,Result.andThen_ok,Sem.run_pure]
   ·rw [if_neg hq3] at hi;cases hi
abbrev lM (frA:Fr) (tA tI tN tF:Nat) (v:V):Fr:=upd (upd (upd (upd frA tA v) tI .aU) tN .aU) tF .aU
theorem AW.XJ (hm:P.follows .mixedOrders=true) {id m:Nat} {l:List Oper} {muts:List Nat} {ex:List (Nat×Nat)} (hok:fM l muts ex m=true) (hole:(xz l m&& (List.range m).all fun i=>((masks l []).getD m 0).testBit i)=true)
  {tA tI tN tF tv tl tb ts te tst f:Nat} {x z:Operand} {yA yI yS yN yF yT:TypeId} {pA pI pS pN pF pT:String} {aA aI aS aN aF aT:Array Edge}
  (hd:l.drop m=[⟨some tA,.call ⟨.builtin .append,#[x,z],#[ts,ts]⟩,yA,pA,aA,none⟩,⟨some tI,.indexAddr ts (.tmp tA) (.tmp tl),yI,pI,aI,none⟩,⟨none,.store te (.tmp tI) (.tmp tv),yS,pS,aS,none⟩,⟨some tN,.nilCheck (.tmp tb),yN,pN,aN,none⟩,
   ⟨some tF,.fieldAddr tst (.tmp tN) f,yF,pF,aF,none⟩,⟨none,.store ts (.tmp tF) (.tmp tA),yT,pT,aT,none⟩])
  (hll:l.length=m+6) (hmm:muts.contains m=true)
  (hne:((tA≠tI∧tA≠tN∧tA≠tF∧tv≠tI∧tv≠tN∧tv≠tF∧tI≠tN∧tI≠tF∧tN≠tF)∧tv≠tA∧(tl≠tA∧tl≠tI∧tl≠tN∧tl≠tF)∧tb≠tA∧tb≠tI∧tb≠tN∧tb≠tF)∧tA<n.sz∧tI<n.sz∧tN<n.sz∧tF<n.sz)
  {vs:List V} {ss:List St} {frA:Fr} {stA:St} (hA:jZ P G n l.toArray muts 0 (l.take m) fr st vs ss frA stA)
  (hx:∀ i hi,(i,hi)∈ex→Bu P l frA (fun k=>(st::ss).getD k default) i hi)
  {i b sz by_ off:Nat} {es:List (List D)} {zr xr:List D} {cs:List V}
  (hev:ev frA x= .own i es∧ev frA z= .d (.sl [zr])∧frA tl= .d (.int .i64 es.length)∧(frA tv).js=some xr∧frA tb= .ptr b 0)
  (hty:mU P ts=some (te,sz,by_)∧dy P te=some sz∧ef P ts=some 1∧eE P tst (.ptr b 0) f=some (.ptr b off))
  (hrw:dA sz [zr]=true∧dA sz [xr]=true∧cr sz es=true) (htok:stA.toks[i]?=some (te,sz,es.length)) (hbl:(es.length+1)*by_≤ff∧es.length+1≤maxLen)
  (hB:stA.aj[b]?=some (.cells cs)) (hoff:off+1≤cs.length)
  (hQ:Q .normal (lM frA tA tI tN tF (.own i (es++[xr]))) (dY { stA with toks:=stA.toks.set i (te,sz,es.length+1) } b (.cells (splice cs off [.own i (es++[xr])])))):AW P G n aC (.region id l.toArray true) Q fr st:=by
 simp only [aaW] at hole
 have hat:l[m]?=some ⟨some tA,.call ⟨.builtin .append,#[x,z],#[ts,ts]⟩,yA,pA,aA,none⟩:=by
  have:l[m+0]?=(l.drop m)[0]?:=by rw [List.getElem?_drop]
  rw [hd] at this;exact this
 refine AW.XI hm hok hat (by unfold bp;rw [if_pos hmm]) hole.2 hA hx fun c0 c fuel L a w hL hLi hcnt he hc hf hs hds=>?_
 obtain ⟨⟨hne1,n1,⟨n2,n3,n4,n5⟩,n6,n7,n8,n9⟩,z0,z1,z2,z3⟩:=hne
 obtain ⟨e1,e2,e3,e4,e5⟩:=hev
 obtain ⟨t1,t2,t3,t4⟩:=hty
 obtain ⟨r1,r2,r3⟩:=hrw
 obtain ⟨hu,ie,hie,hsz',hby⟩:=kz t1
 have hx1:=bJ hf x
 rw [e1] at hx1
 have hz1:=bJ hf z
 rw [e2] at hz1
 have hv1:=hf tv
 have hb1:=hf tb
 rw [e5] at hb1
 generalize hxv:a.tmps.getD tv undef=xv at hv1
 generalize a.tmps.getD tb undef=bv at hb1
 have hzv:de c.H (a.eval z) (.sl [zr]):=hz1.me rfl
 have hes:∀ r∈es,r.length=sz:=fun r hr=>by simpa using aa3.1 r3 r hr
 obtain ⟨tk,htk,hte,htsz,htl⟩:∃ tk,c.tok[i]?=some tk∧tk.e=te∧tk.sz=sz∧tk.len=es.length:=by
  rw [←hc.cu,abj] at htok
  obtain ⟨tk,h1,h2⟩:=abv.1 htok
  simp only [aaZ] at h2
  exact ⟨tk,h1,h2⟩
 have hval:de c.H tk.val (.sl es)∧a.eval x=tk.val:=by
  generalize a.eval x=v at hx1
  cases hx1 with|own _ _ _ t q1 q2 q3 q4 q5=>?_
  rw [htk] at q2;cases q2
  have:=q5 htl.symm
  exact ⟨this▸q1,this⟩
 obtain ⟨ha1,ha2⟩:=CK hv1 e4
 cases hb1 with|ptr _ k _ hk=>?_
 have hxl:xr.length=sz:=(rowsOK_mem r2 (by simp:xr∈[xr])).1
 obtain ⟨g,cap,cur,w1,hrun,hg,hcur,hcap,hoth,c',hrel,hconf,hext⟩:=z6 hc (ty:=yA) t1 t2 htk hte htsz htl.symm hes hval.1 hzv r1 r2 hbl.1 hbl.2 (xv:=xv) (by omega) (fun j hj=>ha2 j (by omega))
 obtain ⟨arr2,el,hh2,hs2,hr2,_⟩:=hc.rowAt hk hB rfl
 obtain ⟨hkg,hheap⟩:=hoth b k hk
 have hh3:w1.heap[k]?=some (.cells arr2 el (0,0)):=hheap.trans hh2
 generalize hrg:(splice cur.toList (es.length*sz) xv.cells.toList).toArray=rg at hconf
 generalize hsv:Value.slice (some ⟨g,0,none⟩) (es.length+1) cap=sv at hrun hrel
 let rk:Array Value:=(splice arr2.toList off sv.cells.toList).toArray
 have hsvc:sv.cells= #[sv]:=by subst hsv;rfl
 let W:Nat→Nat→World:=fun p q=>if q=3 then (if p=2 then w1.setRow g rg else w1).setRow k rk else if p=2 then w1.setRow g rg else w1
 have hWg:∀ q,(W 1 q).heap[g]?=some (.cells cur te (0,0)):=fun q=>by
  show (if q=3 then (if 1=2 then w1.setRow g rg else w1).setRow k rk else if 1=2 then w1.setRow g rg else w1).heap[g]?=_
  split
  ·rw [setRow_other _ _ _ _ (Ne.symm hkg)];exact hg
  ·exact hg
 have hWk:∀ p,(W p 2).heap[k]?=some (.cells arr2 el (0,0)):=fun p=>by
  show (if 2=3 then (if p=2 then w1.setRow g rg else w1).setRow k rk else if p=2 then w1.setRow g rg else w1).heap[k]?=_
  rw [if_neg (by omega)]
  split
  ·rw [setRow_other _ _ _ _ hkg];exact hh3
  ·exact hh3
 have hxF:∀ w,(Instr.fieldAt tst (.pointer (some ⟨k,0,none⟩)) f).run P w= .ok (.pointer (some ⟨k,off,none⟩)) w:=fun w=>by
  obtain ⟨cv,q1,q2⟩:=jx (P:=P) (c:=c) (w:=w) tst f (.ptr b k 0 hk) t4
  cases q2 with|ptr _ k' _ hk'=>?_
  rw [hk] at hk';cases hk'
  exact q1
 have key:=FR (n:=n) (Q:=Q) (c0:=c0) (c:=c') (frJ:=lM frA tA tI tN tF (.own i (es++[xr]))) (W:=W) (sv:=sv) (iv:= .pointer (some ⟨g,es.length*sz,none⟩)) (fv:= .pointer (some ⟨k,off,none⟩)) (xv:=xv) (k:=k) (b:=b) (ln:=es.length) (P:=P)
  hole.1 (by
   have:l.drop (m+1)=(l.drop m).drop 1:=by rw [ab7]
   rw [this,hd];rfl) hne1 ⟨z1,z2,z3⟩ ?_ ?_ (hext.mu b k hk) ?_ ?_ hxF ?_ ?_ ?_ ?_
 ·have hLl:L.toList=List.replicate m true++List.replicate 6 false:=by
   refine List.ext_getElem (by simp [hL,hll]) fun j h1 h2=>?_
   have h3:=hLi j
   rw [aaR,←ab3,aaT h1,abu] at h3
   rw [h3]
   by_cases hj:j<m
   ·rw [List.getElem_append_left (by simpa using hj)];simp [hj]
   ·rw [List.getElem_append_right (by simp;omega),List.getElem_replicate];simp [hj]
  have hLe:L.setIfInBounds m true=Av m 0 0:=by
   have hL6:L.size=m+6:=by rw [hL,hll]
   refine Array.ext (by simp [Av,hL6]) fun j h1 h2=>?_
   have h3:=hLi j
   have hj:j<L.size:=by simpa using h1
   rw [aaR,abI hj,abu] at h3
   rw [Array.getElem_setIfInBounds hj,h3]
   simp only [Av,List.getElem_toArray,List.getElem_map,List.getElem_range]
   by_cases h4:m=j
   ·simp [h4]
   ·rw [if_neg h4]
    by_cases h5:j<m
    ·simp [h5,show j≤m by omega]
    ·simp [h5,show ¬ j≤m by omega]
  have hcn:5≤fuel:=by
   rw [←Array.count_toList,hLl,List.count_append,List.count_replicate,List.count_replicate] at hcnt
   simp at hcnt;omega
  have hexec:execOp a.eval ⟨some tA,.call ⟨.builtin .append,#[x,z],#[ts,ts]⟩,yA,pA,aA,none⟩=(do pure (.value (←Builtin.append_ #[ts,ts] yA #[a.eval x,a.eval z])):Sem Next):=by
   simp only [execOp,resolve,pure_bind,invoke]
   simp [builtin]
  refine o8 (by rw [ab2];exact hat) rfl (v:=sv) (w':=w1) ?_ ?_
  ·rw [hexec,hval.2]
   simp only [Sem.run_bind,hrun,Result.andThen_ok,Sem.run_pure]
  ·rw [hLe]
   refine key fuel 0 0 _ _ (by omega) (by omega) (by omega) ⟨(iy _ _ _).trans hs,(put_defers _ _ _).trans hds,fun u=>?_,?_,?_,fun h=>by omega,fun h=>by omega,fun h=>by omega,rfl⟩
   ·have h1:=(hf.mono hext).put (i:=tA) (by rw [hs];exact z0) hrel u
    have h2:lM frA tA tI tN tF (.own i (es++[xr])) u= .aU∨lM frA tA tI tN tF (.own i (es++[xr])) u=upd frA tA (.own i (es++[xr])) u:=by
     simp only [lM,upd]
     grind
    rcases h2 with h2|h2<;>rw [h2]
    ·exact .aU _
    ·exact h1
   ·rw [Act.rH (by rw [hs];exact z0),if_pos rfl]
   ·rw [Act.rH (by rw [hs];exact z0),if_neg n1];exact hxv
 ·simp [lM,upd]
 ·simp [lM,upd,n6,n7,n8,n9,e5]
 ·simp [lM,upd,n2,n3,n4,n5,e3]
 ·intro w
  subst hsv
  simp only [Instr.indexAt,asIntOf,Sem.run_bind,Sem.run_pure,Result.andThen_ok,run_underlying hu]
  rw [if_pos ⟨by omega,by omega⟩]
  simp [sizeOf,typeInfo,hie,hsz',addr_add]
 ·intro q hq
  have hszt:ef P te=some sz:=by unfold ef;rw [hie];exact congrArg some hsz'
  have hst:=qN (P:=P) hszt (hWg q) (xv:=xv) (off:=es.length*sz) (by omega) (by rw [abC,Nat.one_mul] at hcur;exact hcur) (fun v hv=>by
   obtain ⟨j,hj,rfl⟩:=abn.1 hv
   have hj':j<xr.length:=by rw [←ha1];simpa using hj
   have h1:=ha2 j hj'
   rw [aaR,abI (by omega),abu] at h1
   refine (by simpa using h1:de c.H xv.cells.toList[j] _).one ?_
   refine (rowsOK_mem r2 (by simp:xr∈[xr])).2 _ ?_
   simp only [aaK,aaT hj',abu]
   exact abq _)
  rw [hrg] at hst
  rw [hst]
  congr 1
  show (if q=3 then (if 1=2 then w1.setRow g rg else w1).setRow k rk else if 1=2 then w1.setRow g rg else w1).setRow g rg=(if q=3 then (if 2=2 then w1.setRow g rg else w1).setRow k rk else if 2=2 then w1.setRow g rg else w1)
  split
  ·simp only [if_true];rw [zZ hkg];simp
  ·simp
 ·intro p hp
  have hst:=qN (P:=P) t3 (hWk p) (xv:=sv) (off:=off) (by rw [hsvc];rfl) (by rw [hs2];exact hoff) (fun v hv=>by rw [hsvc] at hv;simp only [abz] at hv;subst hv;subst hsv;rfl)
  rw [hst]
  congr 1
 ·refine ⟨rfl,fun p=>⟨rfl,rfl⟩⟩
 ·intro a ha1' ha2' ha3'
  refine ⟨.normal,_,_,c',hQ,he.trans hext,?_,ha3',ha1',ha2',trivial⟩
  have hk':=hext.mu b k hk
  have hB':({ stA with toks:=stA.toks.set i (te,sz,es.length+1) }:St).aj[b]?=some (.cells cs):=hB
  refine hconf.setRow hk' hB' (by rw [setRow_other _ _ _ _ hkg];exact hh3) (arr':=rk) (cs':=splice cs off [.own i (es++[xr])]) ?_ ?_ (.inl rfl)
  ·show ((splice arr2.toList off sv.cells.toList).toArray).size=_
   rw [hsvc]
   simp [cQ arr2.toList off [sv] (by simp [hs2];omega),cQ cs off [V.own i (es++[xr])] (by simp;omega),hs2]
  ·intro j hj
   rw [cQ cs off _ (by simp;omega)] at hj
   show Rel c' ((splice arr2.toList off sv.cells.toList).toArray.getD j undef) _
   rw [hsvc,aK,gv arr2.toList off [sv] undef (by simp [hs2];omega) j,gv cs off [V.own i (es++[xr])] .aU (by simp;omega) j]
   simp only [abg]
   split
   ·rw [←aK];exact (hr2 j hj).mono hext
   ·split
    ·rw [show j - off=0 by omega];exact hrel
    ·rw [←aK];exact (hr2 j hj).mono hext
end
section
variable {P:Program} {G:World→Nat→Prop} {n:NDs} {aC:St} {Q:AX→Fr→St→Prop} {fr:Fr} {st:St}
theorem bf.token {c:Ctx} {w:World} (hc:bf c w st) {b i e sz:Nat} {cs:List V} (hB:st.aj[b]?=some (.cells cs)) (hi:cs[i]?=some .bh) (hsz:0<sz):
  bf (c.e9 e sz) w ⟨st.aj.set b (.cells (cs.set i (.own st.toks.length []))),st.toks++[(e,sz,0)]⟩:=by
 have h:=hc.e9 e hsz
 have hlen:st.toks.length=c.tok.length:=by rw [←hc.cu];simp
 refine ⟨?_,h.dH,h.cI,h.mS,?_,h.cu,h.cz,h.cK,h.cy,h.below,h.cw⟩
 ·have:=h.cN;simpa using this
 ·intro b' k B hk hB'
  simp only [ab9] at hB'
  split at hB'
  ·rename_i hbb
   subst hbb
   obtain ⟨o,ho,hr⟩:=h.blk b k _ hk hB
   split at hB'
   ·simp only [aaJ] at hB'
    subst hB'
    cases hr with|cells arr elem _ hs hr=>?_
    refine ⟨_,ho,.cells arr elem _ (by simpa using hs) fun j hj=>?_⟩
    have hj':j<cs.length:=by simpa using hj
    have hj1:=hr j hj'
    by_cases hij:i=j
    ·subst hij
     rw [aaK,hi] at hj1
     rw [aaK,abp hj']
     simp only [abu] at hj1 ⊢
     generalize arr.getD i undef=v at hj1
     cases hj1
     exact .own _ _ _ ⟨.slice none 0 0,e,sz,0⟩ .slnil (by rw [hlen];simp [Ctx.e9]) (by simp) (by simp) (fun _=>rfl)
    ·rw [aaK,abx hij,←aaK]
     exact hj1
   ·simp at hB'
  ·exact h.blk b' k B hk hB'
theorem AW.token {code:Code} (b i e sz:Nat) {cs:List V} (hB:st.aj[b]?=some (.cells cs)) (hi:cs[i]?=some .bh) (hsz:0<sz)
  (h:AW P G n aC code Q fr ⟨st.aj.set b (.cells (cs.set i (.own st.toks.length []))),st.toks++[(e,sz,0)]⟩):AW P G n aC code Q fr st:=
 fun c0 c w a h0 he hc hg hf hs hd=>h c0 _ w a h0 (he.trans (Ext.e9 c e sz)) (hc.token hB hi hsz) hg (hf.mono (Ext.e9 c e sz)) hs hd
theorem kQ {y:Code} {Q2:AX→Fr→St→Prop} (h:∀ Q',Q'=Q→ @SB P G n aC ⟨y⟩ Q' fr st):bz (@SB P G n aC ⟨y⟩ Q) Q2 .normal fr st:=h Q rfl
theorem XK {B L M:List aJ} {z0 z y0 y:aJ} {N m:Nat} (hz:z.within N m=true) (hy:y.within N m=true) (i:Nat) (X:aJ) (h:(B++z::(L++y::M))[i]?=some X):(B++z0::(L++y0::M))[i]?=some X∨X.within N m=true:=by
 by_cases h1:i<B.length
 ·rw [aaU h1] at h
  exact .inl (by rw [aaU h1];exact h)
 ·rw [aaO (by omega)] at h
  rw [aaO (by omega)]
  cases hk:i - B.length with
  |zero=>rw [hk,abZ] at h;injection h with h;exact .inr (h▸hz)
  |succ k=>
   rw [hk,abR] at h
   rw [abR]
   by_cases h2:k<L.length
   ·rw [aaU h2] at h
    exact .inl (by rw [aaU h2];exact h)
   ·rw [aaO (by omega)] at h
    rw [aaO (by omega)]
    cases hj:k - L.length with
    |zero=>rw [hj,abZ] at h;injection h with h;exact .inr (h▸hy)
    |succ j=>rw [hj,abR] at h;rw [abR];exact .inl h
theorem NA {fn:Func} {R:Out→St→Prop} {st':St} {B L M:List aJ} {z0 y0:aJ} {K T:List (Nat×Nat×Nat)} {l:List V} {v:V} (z y:aJ) (h0:st=⟨B++z0::(L++y0::M),K⟩)
  (h:(st'.aj.take (B.length+(L.length+(M.length+1)+1))=B++z::(L++y::M)∧st'.toks.take T.length=T∧K.length≤T.length∧z.within (B.length+(L.length+(M.length+1)+1)) T.length=true∧y.within (B.length+(L.length+(M.length+1)+1)) T.length=true)∧
   eT P fr st' fn.results.toList=some l∧(eD l).share=v∧v.within (B.length+(L.length+(M.length+1)+1)) T.length=true)
  (hR:R (.ret v) ⟨B++z::(L++y::M),T⟩): @qc ⟨nM P fn st R⟩ .ret fr st':=by
 subst h0
 obtain ⟨⟨h1,h2,h3,h4,h8⟩,h5,h6,h7⟩:=h
 refine qc.i (by
  unfold nM
  refine aV T.length h3 (s1:=⟨B++z::(L++y::M),T⟩) ?_ (fun i X hX=>?_) h5 h6 (by simpa using h7) hR
  ·simp only [St.cut,aaQ,aaM,h1,h2]
  ·have:=XK (z0:=z0) (y0:=y0) h4 h8 i X hX
   simpa using this)
theorem AW.token' {code:Code} {st':St} (b i e sz:Nat) {cs:List V} (hB:st.aj[b]?=some (.cells cs)) (hi:cs[i]?=some .bh) (hsz:0<sz) (hst:(⟨st.aj.set b (.cells (cs.set i (.own st.toks.length []))),st.toks++[(e,sz,0)]⟩:St)=st')
  (h:AW P G n aC code Q fr st'):AW P G n aC code Q fr st:=AW.token b i e sz hB hi hsz (hst▸h)
