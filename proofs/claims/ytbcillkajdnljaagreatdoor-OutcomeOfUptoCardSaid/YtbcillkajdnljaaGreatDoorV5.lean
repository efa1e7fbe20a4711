import Derived.Test.YtbcillkajdnljaaGreatDoorVA
import Derived.WalkKit
import Derived.WalkLawsBesides
import Derived.Orders
import Derived.Below
import Derived.Test.YtbcillkajdnljaaGreatDoorChecked
set_option linter.all false
section
namespace Go.Abs
open Go.RowKit
inductive D where
 |bool (b:Bool)
 |int (k:IntKind) (n:Int)
 |str (s:List UInt8)
 |eX
 |Am
 |fD
 |An
 |nz
 |iface (t:TypeId) (v:D)
 |agg (cs:List D)
 |sl (es:List (List D))
 deriving Inhabited
inductive V where
 |aU
 |d (x:D)
 |bh
 |own (id:Nat) (es:List (List D))
 |ptr (b off:Nat)
 |ep (cs:List D) (off:Nat)
 |jE (f:FuncId) (cap:List V)
 |agg (cs:List V)
 |cF (vs:List V)
 |mp (b:Nat)
 |win (b n cap:Nat)
 deriving Inhabited
abbrev GH:=Nat→Nat→Option Value
inductive de (H:GH):Value→D→Prop where
 |bool (b:Bool):de H (.bool b) (.bool b)
 |int (k:IntKind) (n:Int):de H (.int k n) (.int k n)
 |str (s:ByteArray) (l:List UInt8):s.data.toList=l→de H (.string s) (.str l)
 |eX:de H (.pointer none) .eX
 |Am:de H .nilFunc .Am
 |fD:de H .nilIface .fD
 |An:de H (.map none) .An
 |nz (t:TypeId) (v:Value):de H (.iface t v) .nz
 |iface (t:TypeId) (v:Value) (x:D):de H v x→de H (.iface t v) (.iface t x)
 |agg (arr:Array Value) (cs:List D):arr.size=cs.length→(∀ i,i<cs.length→de H (arr.getD i undef) (cs.getD i .eX))→de H (.agg arr) (.agg cs)
 |slnil:de H (.slice none 0 0) (.sl [])
 |uV (a:Addr):de H (.slice (some a) 0 0) (.sl [])
 |sl (k off n cap sz:Nat) (vs:Nat→Nat→Value) (es:List (List D)):es.length=n→n≤cap→(∀ r∈es,r.length=sz)→
   (∀ i j,i<n→j<sz→H k (off+i*sz+j)=some (vs i j))→
   (∀ i j,i<n→j<sz→de H (vs i j) ((es.getD i []).getD j .eX))→
   de H (.slice (some ⟨k,off,none⟩) n cap) (.sl es)
structure Tok where
 val:Value
 e:TypeId
 sz:Nat
 len:Nat
structure Ctx where
 H:GH
 mu:List Nat
 tok:List Tok
 base:Nat
 w0:World
inductive Rel (c:Ctx):Value→V→Prop where
 |aU (v:Value):Rel c v .aU
 |d (v:Value) (x:D):de c.H v x→Rel c v (.d x)
 |bh:Rel c (.slice none 0 0) .bh
 |own (v:Value) (id:Nat) (es:List (List D)) (t:Tok):de c.H v (.sl es)→c.tok[id]?=some t→(∀ r∈es,r.length=t.sz)→es.length≤t.len→
   (es.length=t.len→v=t.val)→Rel c v (.own id es)
 |ptr (b k off:Nat):c.mu[b]?=some k→Rel c (.pointer (some ⟨k,off,none⟩)) (.ptr b off)
 |ep (k base off:Nat) (vs:Nat→Value) (cs:List D):(∀ j,j<cs.length→c.H k (base+j)=some (vs j))→
   (∀ j,j<cs.length→de c.H (vs j) (cs.getD j .eX))→Rel c (.pointer (some ⟨k,base+off,none⟩)) (.ep cs off)
 |jE (f:FuncId) (arr:Array Value) (cap:List V):arr.size=cap.length→(∀ i,i<cap.length→Rel c (arr.getD i undef) (cap.getD i .aU))→Rel c (.func (.func f) #[] arr) (.jE f cap)
 |agg (arr:Array Value) (cs:List V):arr.size=cs.length→(∀ i,i<cs.length→Rel c (arr.getD i undef) (cs.getD i .aU))→Rel c (.agg arr) (.agg cs)
 |cF (arr:Array Value) (vs:List V):arr.size=vs.length→(∀ i,i<vs.length→Rel c (arr.getD i undef) (vs.getD i .aU))→Rel c (.tuple arr) (.cF vs)
 |mp (b k:Nat):c.mu[b]?=some k→Rel c (.map (some k)) (.mp b)
 |win (b k n cap:Nat):c.mu[b]?=some k→n≤cap→Rel c (.slice (some ⟨k,0,none⟩) n cap) (.win b n cap)
inductive KK where
 |str
 |int (q:IntKind)
 |bool
 deriving DecidableEq,Inhabited
def Qb:KK→Value→Prop
 | .str,.string s=>s.size≤maxLen
 | .int q,.int q' n=>q'=q∧(Lit.int q n).wf=true
 | .bool,.bool _=>True
 |_,_=>False
def qj:D→Option Value
 | .str l=>some (.string ⟨l.toArray⟩)
 | .int k n=>some (.int k n)
 | .bool b=>some (.bool b)
 |_=>none
structure rI (H:GH) (es:Array MapEntry) (kd:KK) (n:Nat) (f:D→Option D):Prop where
 size:es.size≤n
 keys:∀ x∈es.toList,Qb kd x.key
 nodup:(es.toList.map (·.key)).Nodup
 get:∀ y d,f y=some d→∃ x∈es.toList,qj y=some x.key∧de H x.val d
 dom:∀ x∈es.toList,∀ y,qj y=some x.key→f y≠none
inductive ec where
 |cells (cs:List V)
 |iter (s:List UInt8) (pos:Nat)
 |tc (e:TypeId) (cs:List V)
 |mp (kd:KK) (n:Nat) (f:D→Option D)
 deriving Inhabited
structure St where
 aj:List ec
 toks:List (Nat×Nat×Nat)
 deriving Inhabited
inductive L2 (c:Ctx):Obj→ec→Prop where
 |cells (arr:Array Value) (elem:TypeId) (cs:List V):arr.size=cs.length→(∀ i,i<cs.length→Rel c (arr.getD i undef) (cs.getD i .aU))→L2 c (.cells arr elem (0,0)) (.cells cs)
 |iter (s:ByteArray) (l:List UInt8) (pos:Nat):s.data.toList=l→L2 c (.stringIter s pos) (.iter l pos)
 |tc (arr:Array Value) (elem:TypeId) (cs:List V):arr.size=cs.length→(∀ i,i<cs.length→Rel c (arr.getD i undef) (cs.getD i .aU))→L2 c (.cells arr elem (0,0)) (.tc elem cs)
 |mp (es:Array MapEntry) (clock:Nat) (kd:KK) (n:Nat) (f:D→Option D):rI c.H es kd n f→L2 c (.map es clock) (.mp kd n f)
structure bf (c:Ctx) (w:World) (st:St):Prop where
 cN:c.mu.length=st.aj.length
 dH:∀ (i j k:Nat),c.mu[i]?=some k→c.mu[j]?=some k→i=j
 cI:∀ (i k:Nat),c.mu[i]?=some k→c.base≤k
 mS:∀ (i k o:Nat),c.mu[i]?=some k→c.H k o=none
 blk:∀ (b k:Nat) (B:ec),c.mu[b]?=some k→st.aj[b]?=some B→∃ o,w.heap[k]?=some o∧L2 c o B
 cu:c.tok.map (fun t=>(t.e,t.sz,t.len))=st.toks
 cz:∀ (id:Nat) (t:Tok),c.tok[id]?=some t→0<t.sz∧((maxLen<t.len∧t.val.ownBlock=none)∨∃ xs,w.ownsRow c.base t.e t.sz t.val t.len xs∧
   (∀ g,t.val.ownBlock=some g→(∀ o,o<t.len*t.sz→c.H g o=xs[o]?)∧(∀ o,t.len*t.sz≤o→c.H g o=none)∧g ∉ c.mu))
 cK:∀ (i j:Nat) (s t:Tok) (g:Nat),c.tok[i]?=some s→c.tok[j]?=some t→s.val.ownBlock=some g→t.val.ownBlock=some g→i=j
 cy:∀ k o v,c.H k o=some v→w.cell? ⟨k,o,none⟩=some v
 below:Below c.base c.w0 w
 cw:c.base≤w.heap.size
structure Ext (c c':Ctx):Prop where
 H:∀ k o v,c.H k o=some v→c'.H k o=some v
 mu:∀ (i k:Nat),c.mu[i]?=some k→c'.mu[i]?=some k
 tok:∀ (id:Nat) (t:Tok),c.tok[id]?=some t→∃ t',c'.tok[id]?=some t'∧t'.sz=t.sz∧t.len≤t'.len∧(t.len=t'.len→t'=t)
 base:c'.base=c.base
 w0:c'.w0=c.w0
def Ext.refl (c:Ctx):Ext c c:=⟨fun _ _ _ h=>h,fun _ _ h=>h,fun _ t h=>⟨t,h,rfl,aat _,fun _=>rfl⟩,rfl,rfl⟩
def Ext.trans {a b c:Ctx} (h:Ext a b) (k:Ext b c):Ext a c:=by
 refine ⟨fun x o v hv=>k.H _ _ _ (h.H _ _ _ hv),fun i x hx=>k.mu _ _ (h.mu _ _ hx),fun id t ht=>?_,k.base.trans h.base,k.w0.trans h.w0⟩;obtain ⟨t1,h1,s1,l1,e1⟩:=h.tok id t ht;obtain ⟨t2,h2,s2,l2,e2⟩:=k.tok id t1 h1;refine ⟨t2,h2,s2.trans s1,abj l1 l2,fun e=>?_⟩;have:t.len=t1.len:=by omega
 have h1':=e1 this;subst h1';exact e2 (by omega)
def de.mono {H H':GH} (h:∀ k o v,H k o=some v→H' k o=some v) {v:Value} {x:D} (r:de H v x):de H' v x:=by
 induction r with
 |bool b=>exact .bool b
 |int k n=>exact .int k n
 |str s l e=>exact .str s l e
 |eX=>exact .eX
 |Am=>exact .Am
 |fD=>exact .fD
 |An=>exact .An
 |nz t v=>exact .nz t v
 |iface t v x _ ih=>exact .iface t v x ih
 |agg arr cs hs _ ih=>exact .agg arr cs hs ih
 |slnil=>exact .slnil
 |uV a=>exact .uV a
 |sl k off n cap sz vs es h1 h2 h3 h4 _ ih=>exact .sl k off n cap sz vs es h1 h2 h3 (fun i j hi hj=>h _ _ _ (h4 i j hi hj)) ih
def rI.mono {H H':GH} (h:∀ k o v,H k o=some v→H' k o=some v) {es:Array MapEntry} {kd:KK} {n:Nat} {f:D→Option D} (r:rI H es kd n f):rI H' es kd n f:=
 ⟨r.size,r.keys,r.nodup,fun y d hy=>by obtain ⟨x,h1,h2,h3⟩:=r.get y d hy;exact ⟨x,h1,h2,h3.mono h⟩,r.dom⟩
def Rel.mono {c c':Ctx} (h:Ext c c') {v:Value} {x:V} (r:Rel c v x):Rel c' v x:=by
 induction r with
 |aU v=>exact .aU v
 |d v x r=>exact .d v x (r.mono h.H)
 |bh=>exact .bh
 |own v id es t r ht hsz hle heq=>
  obtain ⟨t',ht',hs,hl,he⟩:=h.tok id t ht
  refine .own v id es t' (r.mono h.H) ht' (fun r hr=>(hsz r hr).trans hs.symm) (abj hle hl) fun e=>?_
  have:t.len=t'.len:=by omega
  rw [he this]
  exact heq (by omega)
 |ptr b k off hb=>exact .ptr b k off (h.mu _ _ hb)
 |ep k base off vs cs h1 h2=>exact .ep k base off vs cs (fun j hj=>h.H _ _ _ (h1 j hj)) (fun j hj=>(h2 j hj).mono h.H)
 |jE f arr cap hs _ ih=>exact .jE f arr cap hs ih
 |agg arr cs hs _ ih=>exact .agg arr cs hs ih
 |cF arr cs hs _ ih=>exact .cF arr cs hs ih
 |mp b k hb=>exact .mp b k (h.mu _ _ hb)
 |win b k n cap hb hn=>exact .win b k n cap (h.mu _ _ hb) hn
def L2.mono {c c':Ctx} (h:Ext c c') {o:Obj} {B:ec} (r:L2 c o B):L2 c' o B:=by
 cases r with
 |cells arr elem cs hs hr=>exact .cells arr elem cs hs fun i hi=>(hr i hi).mono h
 |iter s l pos e=>exact .iter s l pos e
 |tc arr elem cs hs hr=>exact .tc arr elem cs hs fun i hi=>(hr i hi).mono h
 |mp es clock kd n f hf=>exact .mp es clock kd n f (hf.mono h.H)
abbrev Fr:=Nat→V
def cC (c:Ctx) (tmps:Array Value) (fr:Fr):Prop:=∀ t,Rel c (tmps.getD t undef) (fr t)
def cC.mono {c c':Ctx} (h:Ext c c') {tmps:Array Value} {fr:Fr} (r:cC c tmps fr):cC c' tmps fr:=fun t=>(r t).mono h
def upd (fr:Fr) (i:Nat) (v:V):Fr:=fun j=>if j=i then v else fr j
@[simp] def upd_same (fr:Fr) (i:Nat) (v:V):upd fr i v i=v:=by simp [upd]
def F3 (fr:Fr) (i j:Nat) (v:V) (h:j≠i):upd fr i v j=fr j:=by simp [upd,h]
def cC.put {c:Ctx} {tmps:Array Value} {fr:Fr} (r:cC c tmps fr) {i:Nat} (hi:i<tmps.size) {v:Value} {x:V} (h:Rel c v x):
  cC c (tmps.setIfInBounds i v) (upd fr i x):=by
 intro t
 by_cases ht:t=i
 ·subst ht
  simp [Array.getD,hi,h]
 ·rw [F3 _ _ _ _ ht]
  have:=r t
  simpa [aap,abu (Ne.symm ht)] using this
def ef (P:Program) (t:TypeId):Option Nat:=(P.info? t).map (·.size)
def dx (P:Program) (t:TypeId):Option Bool:=(P.underlying t).map fun| .struct _| .array _ _=>true|_=>false
def zeroOf (P:Program) (t:TypeId):Option Value:=(P.info? t).bind (·.zero)
def dy (P:Program) (t:TypeId):Option Nat:=(zeroOf P t).map (·.cells.size)
def k8 (P:Program) (t:TypeId) (f:Nat):Option (Nat×Nat×Bool):=
 match P.underlying t with
 |some (.struct fs)=>match fs[f]? with
  |some g=>match ef P g.type,dx P g.type with
   |some s,some b=>some (g.offset,s,b)
   |_,_=>none
  |none=>none
 |_=>none
def mU (P:Program) (t:TypeId):Option (TypeId×Nat×Nat):=
 match P.underlying t with
 |some (.slice e)=>(P.info? e).map fun i=>(e,i.size,i.bytes)
 |_=>none
def Uh (P:Program) (t:TypeId):Option (Nat×Nat×Bool):=
 match P.underlying t with
 |some (.array n e)=>match ef P e,dx P e with
  |some s,some b=>some (n,s,b)
  |_,_=>none
 |_=>none
def isStr (P:Program) (t:TypeId):Bool:=match P.underlying t with|some .string=>true|_=>false
def isBool (P:Program) (t:TypeId):Bool:=match P.underlying t with|some .bool=>true|_=>false
def ud (P:Program) (t:TypeId):Option IntKind:=match P.underlying t with|some (.int k)=>some k|_=>none
def isIface (P:Program) (t:TypeId):Option Bool:=(P.underlying t).map fun| .interface _=>true|_=>false
def isBytes (P:Program) (t:TypeId):Bool:=match P.underlying t with
 |some (.slice e)=>(match P.underlying e with|some (.int .u8)=>true|_=>false)
 |_=>false
def tJ:Value→Option V
 | .bool b=>some (.d (.bool b))
 | .int k n=>some (.d (.int k n))
 | .string s=>some (.d (.str s.data.toList))
 | .pointer none=>some (.d .eX)
 | .slice none 0 0=>some .bh
 | .nilFunc=>some (.d .Am)
 | .nilIface=>some (.d .fD)
 | .map none=>some (.d .An)
 |_=>none
def ny:List Value→Option (List V)
 |[]=>some []
 |v::r=>match tJ v,ny r with
  |some x,some l=>some (x::l)
  |_,_=>none
def ofConst:Value→V
 | .agg cs=>match ny cs.toList with
  |some l=> .agg l
  |none=> .aU
 |v=>(tJ v).getD .aU
def ev (fr:Fr):Operand→V
 | .tmp t=>fr t
 | .const v=>ofConst v
 | .func f=> .jE f []
 | .global _=> .aU
def eU (P:Program) (t:TypeId):Option (List V):=(zeroOf P t).bind fun z=>ny z.cells.toList
def V.me:V→Option D
 | .d x=>some x
 | .bh=>some (.sl [])
 | .own _ es=>some (.sl es)
 |_=>none
def oE:List V→Option (List D)
 |[]=>some []
 |v::r=>match v.me,oE r with
  |some x,some l=>some (x::l)
  |_,_=>none
def V.cells:V→Option (List V)
 | .agg cs=>some cs
 | .d (.agg cs)=>some (cs.map .d)
 | .aU=>none
 | .cF _=>none
 |v=>some [v]
def V.cellsD (v:V):Option (List D):=v.cells.bind oE
def D.one:D→Bool
 | .agg _=>false
 |_=>true
def V.one:V→Bool
 | .aU| .agg _| .cF _=>false
 | .d x=>x.one
 |_=>true
def V.held:V→Option D
 | .agg cs=>(oE cs).map .agg
 |v=>v.me
def splice {α:Type} (l:List α) (off:Nat) (x:List α):List α:=l.take off++x++l.drop (off+x.length)
def NY:Int:=9223372036854775807
def Ta (op:BinOp) (k:IntKind) (x y:Int):Int:=k.wrap (match op with
 | .and=>BitVec.ofInt k.bits x&&&BitVec.ofInt k.bits y
 | .or=>BitVec.ofInt k.bits x|||BitVec.ofInt k.bits y
 | .xor=>BitVec.ofInt k.bits x^^^BitVec.ofInt k.bits y
 |_=>BitVec.ofInt k.bits x&&& ~~~ BitVec.ofInt k.bits y).toNat
def shlI (k:IntKind) (x y:Int):Int:=k.wrap (x*2^ (min y.toNat k.bits))
def shrI (k:IntKind) (x y:Int):Int:=x.fdiv (2^ (min y.toNat k.bits))
def kD (op:BinOp):D→D→Option D
 | .int k a,.int k' b=>match op with
  | .shl=>if b<0 then none else some (.int k (shlI k a b))
  | .shr=>if b<0 then none else some (.int k (shrI k a b))
  |op=>
   if k=k' then match op with
    | .add=>some (.int k (k.wrap (a+b)))
    | .sub=>some (.int k (k.wrap (a - b)))
    | .mul=>some (.int k (k.wrap (a*b)))
    | .quo=>if b=0 then none else some (.int k (k.wrap (a.tdiv b)))
    | .rem=>if b=0 then none else some (.int k (a.tmod b))
    | .and=>some (.int k (Ta .and k a b))
    | .or=>some (.int k (Ta .or k a b))
    | .xor=>some (.int k (Ta .xor k a b))
    | .andNot=>some (.int k (Ta .andNot k a b))
    | .eql=>some (.bool (a==b))
    | .neq=>some (.bool (a !=b))
    | .lss=>some (.bool (decide (a<b)))
    | .leq=>some (.bool (decide (a≤b)))
    | .gtr=>some (.bool (decide (a>b)))
    | .geq=>some (.bool (decide (a≥b)))
    |_=>none
   else none
 | .str a,.str b=>match op with
  | .add=>if ((a.length+b.length:Nat):Int)≤NY then some (.str (a++b)) else none
  | .eql=>some (.bool (a==b))
  | .neq=>some (.bool (!(a==b)))
  | .lss=>some (.bool (Op.bytesLess a b))
  | .leq=>some (.bool (Op.bytesLess a b||a==b))
  | .gtr=>some (.bool (!(Op.bytesLess a b||a==b)))
  | .geq=>some (.bool (!(Op.bytesLess a b)))
  |_=>none
 |_,_=>none
def evalBin (P:Program) (op:BinOp) (t:TypeId) (x y:V):Option V:=
 match x,y with
 | .d (.bool a),.d (.bool b)=>
  if isBool P t then match op with
   | .eql=>some (.d (.bool (a==b)))
   | .neq=>some (.d (.bool (!(a==b))))
   |_=>none
  else none
 | .d a,.d b=>(kD op a b).map .d
 |_,_=>none
def mc:Operand→Bool
 | .const _=>true
 |_=>false
def AP (op:BinOp) (i:Option Bool) (k b:Bool):Option V:=
 if i=some true then (if k then match op with
  | .eql=>some (.d (.bool b))
  | .neq=>some (.d (.bool (!b)))
  |_=>none
  else none) else none
def eqFld (P:Program) (f:Field) (i:Nat) (a b:D):Option Bool:=
 if (f.name== "_" ||f.offset !=i)=true then none else match P.underlying f.type,a,b with
  |some .string,.str x,.str y=>some (x==y)
  |some (.int _),.int k x,.int k' y=>if k=k' then some (x==y) else none
  |_,_,_=>none
def eq3 (P:Program) (t:TypeId) (a b:List V):Option Bool:=
 if (P.stoodInHeld t||P.eqGuardType P.depth t)=true then none else
 match P.underlying t,a,b with
 |some (.struct fs),[.d a0,.d a1,.d a2],[.d b0,.d b1,.d b2]=>match fs.toList with
  |[f0,f1,f2]=>match eqFld P f0 0 a0 b0,eqFld P f1 1 a1 b1,eqFld P f2 2 a2 b2 with
   |some r0,some r1,some r2=>some (r0&&r1&&r2)
   |_,_,_=>none
  |_=>none
 |_,_,_=>none
def kZ (P:Program) (op:BinOp) (t:TypeId) (k:Bool) (x y:V):Option V:=
 match x,y with
 | .d .nz,.d .fD=>AP op (isIface P t) true false
 | .d .fD,.d .fD=>AP op (isIface P t) k true
 | .agg a,.agg b=>match op with
  | .neq=>(eq3 P t a b).map fun r=> .d (.bool (!r))
  |_=>none
 |_,_=>none
def G0 (a b:Option V) (st:St):Option (V×St):=
 match a with
 |some z=>some (z,st)
 |none=>b.map (·,st)
def evalUn (op:UnOp) (x:V):Option V:=
 match op,x with
 | .not,.d (.bool b)=>some (.d (.bool (!b)))
 | .neg,.d (.int k n)=>some (.d (.int k (k.wrap (0 - n))))
 | .xor,.d (.int k n)=>some (.d (.int k (Ta .xor k (if k.signed then -1 else k.max) n)))
 |_,_=>none
def byteOf:List D→Option UInt8
 |[.int .u8 n]=>some (UInt8.ofNat n.toNat)
 |_=>none
def bytesOf:List (List D)→Option (List UInt8)
 |[]=>some []
 |r::rs=>match byteOf r,bytesOf rs with
  |some b,some l=>some (b::l)
  |_,_=>none
def evalConv (P:Program) (src dst:TypeId) (x:V):Option V:=
 match x with
 | .d (.int _ n)=>match ud P src,ud P dst with
  |some _,some k=>some (.d (.int k (k.wrap n)))
  |_,_=>none
 | .d (.str s)=>if isStr P src&&isStr P dst then some (.d (.str s)) else none
 |x=>match x.me with
  |some (.sl es)=>if isBytes P src&&isStr P dst then (bytesOf es).map fun l=> .d (.str l) else none
  |_=>none
def ec.row:ec→Option (List V)
 | .cells cs=>some cs
 | .tc _ cs=>some cs
 |_=>none
def ec.putRow:ec→List V→ec
 | .cells _,cs=> .cells cs
 | .tc e _,cs=> .tc e cs
 | .iter s p,_=> .iter s p
 | .mp kd n f,_=> .mp kd n f
def iL (b:Bool) (cs:List V) (off sz:Nat):Option V:=
 if b then if off+sz≤cs.length then some (.agg ((cs.drop off).take sz)) else none
 else cs[off]?
def pG (b:Bool) (cs:List D) (off sz:Nat):Option V:=
 if b then if off+sz≤cs.length then some (.agg (((cs.drop off).take sz).map .d)) else none
 else (cs[off]?).map .d
def bn (P:Program) (t:TypeId) (a:V) (st:St):Option V:=
 match dx P t,ef P t with
 |some b,some sz=>match a with
  | .ptr k off=>match (st.aj[k]?).bind ec.row with
   |some cs=>iL b cs off sz
   |none=>none
  | .ep cs off=>pG b cs off sz
  |_=>none
 |_,_=>none
def dY (st:St) (k:Nat) (B:ec):St:= { st with aj:=st.aj.set k B }
def putBlk (B:ec) (k off sz:Nat) (l:List V) (st:St):Option St:=
 match B.row with
 |some cs=>if off+sz≤cs.length then some (dY st k (B.putRow (splice cs off l))) else none
 |none=>none
def iJ (P:Program) (t:TypeId) (a x:V) (st:St):Option St:=
 match a,ef P t,x.cells with
 | .ptr k off,some sz,some l=>
  if l.length=sz∧l.all (·.one)=true then match st.aj[k]? with
   |some B=>putBlk B k off sz l st
   |none=>none
  else none
 |_,_,_=>none
def Eh (P:Program) (e:TypeId):Bool:=match eU P e with
 |some [.d .eX,.bh]=>true
 |_=>false
def v8 (P:Program) (e:TypeId) (cs:List V):ec:=if Eh P e=true then .tc e cs else .cells cs
def c7 (st:St) (B:ec):V×St:=(.ptr st.aj.length 0,{ st with aj:=st.aj++[B] })
def jN (P:Program) (t:TypeId) (fr:Fr):List V→List (Nat×Operand)→Option (List V)
 |cs,[]=>some cs
 |cs,(i,x)::r=>match k8 P t i,(ev fr x).cells with
  |some (off,sz,_),some l=>if l.length=sz∧off+l.length≤cs.length then jN P t fr (splice cs off l) r else none
  |_,_=>none
def isStruct (P:Program) (t:TypeId):Bool:=match P.underlying t with|some (.struct fs)=>fs.toList.all fun f=>(ef P f.type).isSome|_=>false
def jF (P:Program) (t:TypeId) (fr:Fr) (parts:List (Nat×Operand)):Option V:=
 if isStruct P t then match eU P t with
  |some cs=>(jN P t fr cs parts).map .agg
  |none=>none
 else none
def rowsOf (sz:Nat) (fr:Fr):Nat→List (Nat×Operand)→Option (List (List D))
 |_,[]=>some []
 |i,(j,x)::r=>if i=j then match (ev fr x).cellsD,rowsOf sz fr (i+1) r with
   |some l,some rs=>if l.length=sz then some (l::rs) else none
   |_,_=>none
  else none
def eW (P:Program) (t:TypeId) (n:Nat) (fr:Fr) (parts:List (Nat×Operand)):Option V:=
 match mU P t with
 |some (e,sz,_)=>if parts.length=n∧n*sz≤16777216∧0<sz∧(dy P e).isSome=true then (rowsOf sz fr 0 parts).map fun rs=> .d (.sl rs) else none
 |none=>none
def cr (sz:Nat) (es:List (List D)):Bool:=es.all (·.length==sz)
def bound (fr:Fr) (dflt:Nat):Option Operand→Option Nat
 |none=>some dflt
 |some x=>match ev fr x with
  | .d (.int _ n)=>if 0≤n then some n.toNat else none
  |_=>none
def Lx (P:Program) (t:TypeId) (x:V) (fr:Fr) (lo hi:Option Operand):Option V:=
 match x with
 | .d (.str s)=>
  if isStr P t then match bound fr 0 lo,bound fr s.length hi with
   |some l,some h=>if l≤h∧h≤s.length then some (.d (.str ((s.take h).drop l))) else none
   |_,_=>none
  else none
 |x=>match x.me,mU P t with
  |some (.sl es),some (_,sz,_)=>match bound fr 0 lo,bound fr es.length hi with
   |some l,some h=>if l≤h∧h≤es.length∧cr sz es=true then some (.d (.sl ((es.take h).drop l))) else none
   |_,_=>none
  |none,some _=>(match x with
   | .win b n cap=>(match bound fr 0 lo,bound fr n hi with
    |some 0,some h=>if h≤n then some (.win b h cap) else none
    |_,_=>none)
   |_=>none)
  |_,_=>none
def xT (P:Program) (t:TypeId) (x:V) (f:Nat):Option V:=
 match k8 P t f with
 |some (off,sz,_)=>if sz=0 then none else match x with
  | .ptr k o=>some (.ptr k (o+off))
  | .ep cs o=>some (.ep cs (o+off))
  |_=>none
 |none=>none
def iK (P:Program) (t:TypeId) (x:V) (f:Nat):Option V:=
 match k8 P t f,x.cells with
 |some (off,sz,b),some cs=>(match x with| .agg _| .d (.agg _)=>iL b cs off sz|_=>none)
 |_,_=>none
def aI (P:Program) (t:TypeId) (x i:V):Option V:=
 match i with
 | .d (.int _ n)=>
  if 0≤n then match x.me,mU P t with
   |some (.sl es),some (_,sz,_)=>if n.toNat<es.length∧cr sz es=true then some (.ep (es.getD n.toNat []) 0) else none
   |_,_=>match x,Uh P t with
    | .ptr k off,some (m,sz,_)=>if n<m then some (.ptr k (off+n.toNat*sz)) else none
    | .ep cs off,some (m,sz,_)=>if n<m then some (.ep cs (off+n.toNat*sz)) else none
    | .win b m _,_=>(match mU P t with
     |some (_,sz,_)=>if n<m then some (.ptr b (n.toNat*sz)) else none
     |none=>none)
    |_,_=>none
  else none
 |_=>none
def kC (P:Program) (t:TypeId) (x i:V):Option V:=
 match i,x with
 | .d (.int _ n),.d (.str s)=>if isStr P t&&decide (0≤n) then (s[n.toNat]?).map fun b=> .d (.int .u8 b.toNat) else none
 |_,_=>none
def ji (x:V) (i:Nat):Option V:=
 match x with
 | .cF vs=>vs[i]?
 |_=>none
def gN (P:Program) (t:TypeId) (x:V):Option V:=
 match x with
 | .d (.str s)=>if isStr P t then some (.d (.int .i64 s.length)) else none
 |x=>match x.me,mU P t with
  |some (.sl es),some _=>some (.d (.int .i64 es.length))
  |none,some _=>(match x with
   | .win _ n _=>some (.d (.int .i64 n))
   |_=>none)
  |_,_=>none
def dA (sz:Nat) (xs:List (List D)):Bool:=xs.all fun r=>r.length==sz&&r.all D.one
def rS:Nat:=140737488355328
def fu (P:Program) (t:TypeId) (s x:V) (st:St):Option (V×St):=
 match mU P t,x.me with
 |some (e,sz,by_),some (.sl xs)=>
  if dA sz xs=true∧0<sz∧dy P e=some sz then match s with
   | .bh=>
    if xs.length*by_≤rS∧xs.length≤maxLen then
     if xs.isEmpty then some (.bh,st) else some (.own st.toks.length xs,{ st with toks:=st.toks++[(e,sz,xs.length)] })
    else none
   | .own id es=>
    if st.toks[id]?=some (e,sz,es.length)∧cr sz es=true∧(es.length+xs.length)*by_≤rS∧es.length+xs.length≤maxLen then
     if xs.isEmpty then some (.own id es,st) else some (.own id (es++xs),{ st with toks:=st.toks.set id (e,sz,es.length+xs.length) })
    else none
   |_=>none
  else none
 |_,_=>none
def aH (l:List UInt8):List (List D):=l.map fun b=>[.int .u8 b.toNat]
def wh (P:Program) (t:TypeId):Bool:=match mU P t with
 |some (e,1,1)=>(match zeroOf P e with|some (.int .u8 0)=>true|_=>false)
 |_=>false
def oB (P:Program) (t u:TypeId) (s x:V) (st:St):Option (V×St):=
 match x with
 | .d (.str l)=>if isStr P u=true∧wh P t=true then fu P t s (.d (.sl (aH l))) st else none
 |_=>none
def oC (x y:V):Option V:=
 match x,y with
 | .d (.int k a),.d (.int k' b)=>if k=k' then some (.d (.int k (if b>a then b else a))) else none
 |_,_=>none
def DI (x y:V):Option V:=
 match x,y with
 | .d (.int k a),.d (.int k' b)=>if k=k' then some (.d (.int k (if b<a then b else a))) else none
 |_,_=>none
def mT (P:Program) (t:TypeId) (x:V) (st:St):Option (V×St):=
 match x with
 | .d (.str s)=>if isStr P t then some (c7 st (.iter s 0)) else none
 |_=>none
def evalNext (x:V) (st:St):Option (V×St):=
 match x with
 | .ptr k 0=>match st.aj[k]? with
  |some (.iter s pos)=>
   if pos<s.length then
    some (.cF [.d (.bool true),.d (.int .i64 pos),.d (.int .i32 (Utf8.decode ⟨s.toArray⟩ pos).1)],dY st k (.iter s (pos+(Utf8.decode ⟨s.toArray⟩ pos).2)))
   else some (.cF [.d (.bool false)],st)
  |_=>none
 |_=>none
def yI (P:Program) (x:V) (asT:TypeId) (ok:Bool):Option V:=
 match x,isIface P asT with
 | .d .fD,some false=>if ok then match zeroOf P asT with
   |some z=>some (.cF [ofConst z,.d (.bool false)])
   |none=>none
  else none
 | .d (.iface t v),some false=>if t=asT then (if ok then some (.cF [.d v,.d (.bool true)]) else some (.d v)) else none
 |_,_=>none
def dP (P:Program) (b:Builtin) (ts:List TypeId) (args:List V) (st:St):Option (V×St):=
 match b,ts,args with
 | .len,[t],[x]=>(gN P t x).map (·,st)
 | .append,[t,t'],[s,x]=>if t=t' then fu P t s x st else oB P t t' s x st
 | .max,_,[x,y]=>(oC x y).map (·,st)
 | .min,_,[x,y]=>(DI x y).map (·,st)
 |_,_,_=>none
def mM (P:Program) (t:TypeId):Option (KK×TypeId):=match P.underlying t with
 |some (.map k e)=>(match P.underlying k with
  |some .string=>some (.str,e)
  |some (.int q)=>some (.int q,e)
  |some .bool=>some (.bool,e)
  |_=>none)
 |_=>none
def zW:KK→D→Bool
 | .str,.str l=>decide (l.length≤maxLen)
 | .int q,.int q' n=>decide (q'=q)&& (Lit.int q n).wf
 | .bool,.bool _=>true
 |_,_=>false
def J2 (ok:Bool) (v:V) (b:Bool):V:=if ok then .cF [v,.d (.bool b)] else v
def vq (ok:Bool) (z:Option V) (o:Option D):Option V:=z.map fun z=>match o with
 |some d=>J2 ok (.d d) true
 |none=>J2 ok z false
def iU (P:Program) (t:TypeId) (m x:V) (ok:Bool) (st:St):Option V:=
 match mM P t,m,x with
 |some (kd,e),.mp b,.d y=>match st.aj[b]? with
  |some (.mp kd' _ f)=>if kd'=kd∧zW kd y=true then vq ok ((zeroOf P e).map ofConst) (f y) else none
  |_=>none
 |_,_,_=>none
def vr:D→D→Bool
 | .str a,.str b=>decide (a=b)
 | .int k n,.int k' m=>decide (k=k'∧n=m)
 | .bool a,.bool b=>decide (a=b)
 |_,_=>false
def ri (f:D→Option D) (y d:D):D→Option D:=fun x=>if vr x y=true then some d else f x
def iV (P:Program) (t:TypeId) (m x v:V) (st:St):Option St:=
 match mM P t,m,x,v.held with
 |some (kd,_),.mp b,.d y,some d=>match st.aj[b]? with
  |some (.mp kd' n f)=>if kd'=kd∧zW kd y=true then some (dY st b (.mp kd (n+1) (ri f y d))) else none
  |_=>none
 |_,_,_,_=>none
def evalMake (P:Program) (t:TypeId) (l c:V) (st:St):Option (V×St):=
 match mU P t,l,c with
 |some (e,sz,by_),.d (.int _ n),.d (.int _ m)=>
  if n=0∧0≤m∧m.toNat*by_≤rS∧m.toNat≤maxLen∧0<sz∧(dy P e).isSome=true then some (.own st.toks.length [],{ st with toks:=st.toks++[(e,sz,0)] }) else none
 |_,_,_=>none
def evalOp (P:Program) (o:Oper) (fr:Fr) (st:St):Option (V×St):=
 match o.op with
 | .move x| .assign x=>some (ev fr x,st)
 | .pick c a b=>match ev fr c with
  | .d (.bool t)=>some (if t then ev fr a else ev fr b,st)
  |_=>none
 | .alloc e=>match eU P e with
  |some cs=>some (c7 st (v8 P e cs))
  |none=>none
 | .box _ x=>match (ev fr x).cells with
  |some cs=>some (c7 st (.cells cs))
  |none=>none
 | .build t parts=>(jF P t fr parts.toList).map (·,st)
 | .buildSlice t n parts=>(eW P t n fr parts.toList).map (·,st)
 | .load t a=>(bn P t (ev fr a) st).map (·,st)
 | .store t a x=>(iJ P t (ev fr a) (ev fr x) st).map fun st'=>(.aU,st')
 | .nilCheck x=>match ev fr x with
  | .ptr b off=>some (.ptr b off,st)
  | .ep cs off=>some (.ep cs off,st)
  | .jE f cap=>some (.jE f cap,st)
  |_=>none
 | .binOp op t x y _=>G0 (evalBin P op t (ev fr x) (ev fr y)) (kZ P op t (mc x||mc y) (ev fr x) (ev fr y)) st
 | .unOp op _ x=>(evalUn op (ev fr x)).map (·,st)
 | .convert s d x=>(evalConv P s d (ev fr x)).map (·,st)
 | .makeInterface t x=>if isIface P t=some false then (ev fr x).held.map fun d=>(.d (.iface t d),st) else none
 | .makeFunc (.func f) first captured=>if first.isEmpty then some (.jE f (captured.toList.map (ev fr)),st) else none
 | .slice t x lo hi none=>(Lx P t (ev fr x) fr lo hi).map (·,st)
 | .fieldAddr t x f=>(xT P t (ev fr x) f).map (·,st)
 | .field t x f=>(iK P t (ev fr x) f).map (·,st)
 | .indexAddr t x i=>(aI P t (ev fr x) (ev fr i)).map (·,st)
 | .index t x i=>(kC P t (ev fr x) (ev fr i)).map (·,st)
 | .extract x i=>(ji (ev fr x) i).map (·,st)
 | .range t x=>mT P t (ev fr x) st
 | .next x true=>evalNext (ev fr x) st
 | .makeMap t none=>match mM P t with
  |some (kd,_)=>some (.mp st.aj.length,(c7 st (.mp kd 0 fun _=>none)).2)
  |none=>none
 | .lookup t m x ok=>(iU P t (ev fr m) (ev fr x) ok st).map (·,st)
 | .mapUpdate t m x v=>(iV P t (ev fr m) (ev fr x) (ev fr v) st).map fun st'=>(.aU,st')
 | .typeAssert x _ asT ok=>(yI P (ev fr x) asT ok).map (·,st)
 | .call { callee:= .builtin b,args,argTypes }=>dP P b argTypes.toList (args.toList.map (ev fr)) st
 | .makeSlice t l c=>evalMake P t (ev fr l) (ev fr c) st
 |_=>none
end Go.Abs
end
section
namespace Go.Proofs.YtbcillkajdnljaaGreatDoor.T
open Tryz
open Go.Abs
set_option maxRecDepth 100000
def aC:isStr prog 0=false:=by kernel_rfl
def uV:mU prog 0=none:=by kernel_rfl
def Uw:ef prog 1=some 1:=by kernel_rfl
def gD:isStr prog 1=false:=by kernel_rfl
def rB:isStr prog 3=false:=by kernel_rfl
def Kf0:ef prog 3=some 1∧dx prog 3=some false∧ud prog 3=some .i64∧Eh prog 3=false∧dy prog 3=some 1∧eU prog 3=some [.d (.int .i64 0)]∧ef prog 4=some 1∧dx prog 4=some false∧isBool prog 4=true:=by and_intros<;>kernel_rfl
def Kf1:ef prog 5=some 1∧dx prog 5=some false∧ud prog 5=some .u8∧dy prog 5=some 1∧ef prog 9=some 1∧dx prog 9=some false∧isStr prog 9=true∧dy prog 9=some 1∧ef prog 24=some 1:=by and_intros<;>kernel_rfl
def sl24:mU prog 24=some (72,39,600):=by kernel_rfl
def Kf2:dx prog 24=some false∧ef prog 26=some 2∧dx prog 26=some true∧k8 prog 26 0=some (0,1,false)∧k8 prog 26 1=some (1,1,false)∧ef prog 27=some 1∧dx prog 27=some false∧mU prog 27=some (641,2,24)∧ef prog 28=some 1:=by and_intros<;>kernel_rfl
def sl28:mU prog 28=some (54,16,240):=by kernel_rfl
def sl31:mU prog 31=some (56,7,120):=by kernel_rfl
def Kf3:dx prog 28=some false∧ef prog 30=some 12∧dx prog 30=some true∧k8 prog 30 5=some (7,2,true)∧k8 prog 30 6=some (9,1,false)∧k8 prog 30 8=some (11,1,false)∧ef prog 31=some 1∧dx prog 31=some false∧ef prog 33=some 2:=by and_intros<;>kernel_rfl
def Kf4:dx prog 33=some true∧isStruct prog 33=true∧k8 prog 33 0=some (0,1,false)∧k8 prog 33 1=some (1,1,false)∧Eh prog 33=false∧eU prog 33=some [.d (.int .i64 0),.bh]∧ef prog 36=some 1∧dx prog 36=some false∧Eh prog 36=false:=by and_intros<;>kernel_rfl
def sl43:mU prog 43=some (98,7,64):=by kernel_rfl
def sl44:mU prog 44=some (9,1,16):=by kernel_rfl
def Kf5:eU prog 36=some [.d (.int .i64 0)]∧ef prog 43=some 1∧dx prog 43=some false∧ef prog 44=some 1∧dx prog 44=some false∧ef prog 46=some 3∧dx prog 46=some true∧k8 prog 46 0=some (0,1,false)∧k8 prog 46 1=some (1,1,false):=by and_intros<;>kernel_rfl
def sl49:mU prog 49=some (125,3,32):=by kernel_rfl
def Kf6:k8 prog 46 2=some (2,1,false)∧Eh prog 46=false∧eU prog 46=some [.d (.int .i64 0),.bh,.d (.int .i64 0)]∧k8 prog 48 0=some (0,3,true)∧k8 prog 48 2=some (4,1,false)∧ef prog 49=some 1∧dx prog 49=some false∧ef prog 50=some 1∧dx prog 50=some false:=by and_intros<;>kernel_rfl
def sl50:mU prog 50=some (128,3,32):=by kernel_rfl
def Kf7:ef prog 52=some 6∧dx prog 52=some true∧k8 prog 52 0=some (0,1,false)∧k8 prog 52 1=some (1,1,false)∧k8 prog 52 2=some (2,1,false)∧k8 prog 52 3=some (3,1,false)∧k8 prog 52 4=some (4,1,false)∧k8 prog 52 5=some (5,1,false)∧Eh prog 52=false:=by and_intros<;>kernel_rfl
def Kf8:eU prog 52=some [.d (.int .i64 0),.d (.int .i64 0),.bh,.bh,.bh,.d (.str [])]∧ef prog 54=some 16∧dx prog 54=some true∧isStruct prog 54=true∧k8 prog 54 0=some (0,1,false)∧k8 prog 54 1=some (1,1,false)∧k8 prog 54 3=some (3,1,false)∧k8 prog 54 4=some (4,6,true)∧k8 prog 54 5=some (10,6,true):=by and_intros<;>kernel_rfl
def Kf9:Eh prog 54=false∧eU prog 54=some [.d (.str []),.d (.int .i64 0),.d (.int .i64 0),.bh,.d (.int .i64 0),.bh,.d (.int .i64 0),.d (.int .i64 0),.bh,.d (.int .i64 0),.d (.int .i64 0),.d (.int .i64 0),.bh,.bh,.bh,.d (.str [])]∧ef prog 56=some 7∧dx prog 56=some true∧isStruct prog 56=true∧k8 prog 56 0=some (0,1,false)∧k8 prog 56 1=some (1,6,true)∧Eh prog 56=false∧dy prog 56=some 7:=by and_intros<;>kernel_rfl
def sl59:mU prog 59=some (61,6,88):=by kernel_rfl
def Kf10:eU prog 56=some [.d (.str []),.d (.int .i64 0),.d (.int .i64 0),.bh,.bh,.bh,.d (.str [])]∧ef prog 59=some 1∧dx prog 59=some false∧ef prog 61=some 6∧dx prog 61=some true∧isStruct prog 61=true∧k8 prog 61 0=some (0,1,false)∧k8 prog 61 1=some (1,1,false)∧k8 prog 61 2=some (2,1,false):=by and_intros<;>kernel_rfl
def sl62:mU prog 62=some (64,10,160):=by kernel_rfl
def Kf11:k8 prog 61 3=some (3,1,false)∧k8 prog 61 4=some (4,1,false)∧k8 prog 61 5=some (5,1,false)∧Eh prog 61=false∧eU prog 61=some [.d (.int .i64 0),.d (.bool false),.d (.int .i64 0),.d (.str []),.bh,.bh]∧ef prog 62=some 1∧dx prog 62=some false∧ef prog 64=some 10∧dx prog 64=some true:=by and_intros<;>kernel_rfl
def Kf12:isStruct prog 64=true∧k8 prog 64 0=some (0,1,false)∧k8 prog 64 1=some (1,1,false)∧k8 prog 64 2=some (2,6,true)∧k8 prog 64 3=some (8,1,false)∧k8 prog 64 4=some (9,1,false)∧Eh prog 64=false∧dy prog 64=some 10∧eU prog 64=some [.d (.int .i64 0),.d (.str []),.d (.int .i64 0),.d (.bool false),.d (.int .i64 0),.d (.str []),.bh,.bh,.bh,.bh]:=by and_intros<;>kernel_rfl
def sl65:mU prog 65=some (173,7,104):=by kernel_rfl
def sl66:mU prog 66=some (182,4,48):=by kernel_rfl
def sl67:mU prog 67=some (3,1,8):=by kernel_rfl
def Kf13:ef prog 65=some 1∧dx prog 65=some false∧ef prog 66=some 1∧dx prog 66=some false∧ef prog 67=some 1∧dx prog 67=some false∧k8 prog 69 0=some (0,1,false)∧k8 prog 69 1=some (1,1,false)∧k8 prog 69 2=some (2,1,false):=by and_intros<;>kernel_rfl
def sl70:mU prog 70=some (254,3,64):=by kernel_rfl
def Kf14:k8 prog 69 3=some (3,1,false)∧ef prog 70=some 1∧dx prog 70=some false∧ef prog 72=some 39∧dx prog 72=some true∧isStruct prog 72=true∧k8 prog 72 0=some (0,1,false)∧k8 prog 72 1=some (1,1,false)∧k8 prog 72 2=some (2,10,true):=by and_intros<;>kernel_rfl
def Kf15:k8 prog 72 3=some (12,1,false)∧k8 prog 72 4=some (13,1,false)∧k8 prog 72 5=some (14,1,false)∧k8 prog 72 6=some (15,1,false)∧k8 prog 72 7=some (16,1,false)∧k8 prog 72 8=some (17,1,false)∧k8 prog 72 9=some (18,1,false)∧k8 prog 72 10=some (19,1,false)∧k8 prog 72 11=some (20,4,true):=by and_intros<;>kernel_rfl
def Kf16:k8 prog 72 12=some (24,1,false)∧k8 prog 72 13=some (25,1,false)∧k8 prog 72 14=some (26,1,false)∧k8 prog 72 15=some (27,1,false)∧k8 prog 72 16=some (28,1,false)∧k8 prog 72 17=some (29,1,false)∧k8 prog 72 18=some (30,1,false)∧k8 prog 72 19=some (31,3,true)∧k8 prog 72 20=some (34,1,false):=by and_intros<;>kernel_rfl
def Kf17:k8 prog 72 21=some (35,1,false)∧k8 prog 72 22=some (36,1,false)∧k8 prog 72 23=some (37,1,false)∧Eh prog 72=false∧eU prog 72=some [.d (.str []),.bh,.d (.int .i64 0),.d (.str []),.d (.int .i64 0),.d (.bool false),.d (.int .i64 0),.d (.str []),.bh,.bh,.bh,.bh,.bh,.bh,.bh,.d (.str []),.d (.int .i64 0),.d (.int .i64 0),.d (.int .i64 0),.d (.int .i64 0),.d (.int .i64 0),.bh,.d (.int .i64 0),.d (.int .i64 0),.bh,.bh,.bh,.bh,.bh,.d (.str []),.d (.bool false),.d (.int .i64 0),.bh,.d (.int .i64 0),.bh,.d (.int .i64 0),.d (.int .i64 0),.d (.bool false),.d (.bool false)]∧ef prog 91=some 1∧dx prog 91=some false∧ef prog 92=some 1∧dx prog 92=some false:=by and_intros<;>kernel_rfl
def Kf18:ef prog 94=some 2∧dx prog 94=some true∧isStruct prog 94=true∧k8 prog 94 0=some (0,1,false)∧k8 prog 94 1=some (1,1,false)∧Eh prog 94=false∧eU prog 94=some [.bh,.d .An]∧ef prog 98=some 7∧dx prog 98=some true:=by and_intros<;>kernel_rfl
def Kf19:isStruct prog 98=true∧k8 prog 98 0=some (0,1,false)∧k8 prog 98 1=some (1,1,false)∧k8 prog 98 2=some (2,1,false)∧k8 prog 98 3=some (3,1,false)∧k8 prog 98 4=some (4,1,false)∧k8 prog 98 5=some (5,1,false)∧k8 prog 98 6=some (6,1,false)∧Eh prog 98=false:=by and_intros<;>kernel_rfl
def sl116:mU prog 116=some (118,4,56):=by kernel_rfl
def Kf20:eU prog 98=some [.d (.int .i64 0),.d (.int .i64 0),.d (.str []),.d (.int .i64 0),.d (.int .i64 0),.d (.int .i64 0),.d (.int .i64 0)]∧ef prog 116=some 1∧dx prog 116=some false∧ef prog 118=some 4∧dx prog 118=some true∧isStruct prog 118=true∧k8 prog 118 0=some (0,1,false)∧k8 prog 118 1=some (1,1,false)∧k8 prog 118 2=some (2,1,false):=by and_intros<;>kernel_rfl
def Kf21:k8 prog 118 3=some (3,1,false)∧Eh prog 118=false∧dy prog 118=some 4∧eU prog 118=some [.d (.int .i64 0),.d (.int .i64 0),.d (.str []),.bh]∧ef prog 122=some 1∧dx prog 122=some false∧ef prog 123=some 1∧dx prog 123=some false∧ud prog 123=some .u64:=by and_intros<;>kernel_rfl
def Kf22:ef prog 125=some 3∧dx prog 125=some true∧k8 prog 125 0=some (0,1,false)∧k8 prog 125 1=some (1,1,false)∧k8 prog 125 2=some (2,1,false)∧ef prog 128=some 3∧dx prog 128=some true∧k8 prog 128 0=some (0,1,false)∧k8 prog 128 1=some (1,1,false):=by and_intros<;>kernel_rfl
def sl136:mU prog 136=some (5,1,1):=by kernel_rfl
def sl142:mU prog 142=some (147,3,32):=by kernel_rfl
def Kf23:k8 prog 128 2=some (2,1,false)∧ef prog 136=some 1∧dx prog 136=some false∧isStr prog 136=false∧ef prog 142=some 1∧dx prog 142=some false∧ef prog 147=some 3∧dx prog 147=some true∧isStruct prog 147=true:=by and_intros<;>kernel_rfl
def sl171:mU prog 171=some (179,3,48):=by kernel_rfl
def Kf24:k8 prog 147 0=some (0,1,false)∧k8 prog 147 1=some (1,1,false)∧k8 prog 147 2=some (2,1,false)∧Eh prog 147=false∧dy prog 147=some 3∧eU prog 147=some [.d (.int .i64 0),.d (.str []),.d (.int .i64 0)]∧ef prog 173=some 7∧dx prog 173=some true∧isStruct prog 173=true:=by and_intros<;>kernel_rfl
def sl174:mU prog 174=some (176,2,32):=by kernel_rfl
def Kf25:k8 prog 173 0=some (0,1,false)∧k8 prog 173 1=some (1,6,true)∧Eh prog 173=false∧dy prog 173=some 7∧eU prog 173=some [.d (.str []),.d (.int .i64 0),.d (.bool false),.d (.int .i64 0),.d (.str []),.bh,.bh]∧ef prog 174=some 1∧dx prog 174=some false∧dy prog 174=some 1∧ef prog 176=some 2:=by and_intros<;>kernel_rfl
def Kf26:dx prog 176=some true∧isStruct prog 176=true∧k8 prog 176 0=some (0,1,false)∧k8 prog 176 1=some (1,1,false)∧Eh prog 176=false∧dy prog 176=some 2∧eU prog 176=some [.d (.int .i64 0),.bh]∧ef prog 179=some 3∧dx prog 179=some true:=by and_intros<;>kernel_rfl
def Kf27:isStruct prog 179=true∧k8 prog 179 0=some (0,1,false)∧k8 prog 179 1=some (1,2,true)∧Eh prog 179=false∧dy prog 179=some 3∧eU prog 179=some [.d (.str []),.d (.int .i64 0),.bh]∧ef prog 182=some 4∧dx prog 182=some true∧k8 prog 182 0=some (0,1,false):=by and_intros<;>kernel_rfl
def Kf28:k8 prog 182 1=some (1,1,false)∧k8 prog 182 2=some (2,1,false)∧k8 prog 182 3=some (3,1,false)∧Eh prog 182=false∧eU prog 182=some [.d (.int .i64 0),.d (.str []),.d (.str []),.d (.int .i64 0)]∧mU prog 249=some (328,7,40)∧ef prog 254=some 3∧dx prog 254=some true∧k8 prog 254 0=some (0,1,false):=by and_intros<;>kernel_rfl
def Kf29:k8 prog 254 1=some (1,1,false)∧k8 prog 254 2=some (2,1,false)∧Eh prog 254=false∧eU prog 254=some [.d (.str []),.bh,.bh]∧ef prog 255=some 1∧dx prog 255=some false∧mU prog 255=some (342,12,184)∧ef prog 320=some 4∧dx prog 320=some true:=by and_intros<;>kernel_rfl
def Kf30:isStruct prog 320=true∧k8 prog 320 0=some (0,1,false)∧k8 prog 320 1=some (1,1,false)∧k8 prog 320 2=some (2,1,false)∧k8 prog 320 3=some (3,1,false)∧Eh prog 320=false∧eU prog 320=some [.d (.bool false),.d (.bool false),.d (.bool false),.d (.bool false)]∧ef prog 326=some 4∧dx prog 326=some true:=by and_intros<;>kernel_rfl
def Kf31:Uh prog 326=some (4,1,false)∧Eh prog 326=false∧eU prog 326=some [.d (.int .u64 0),.d (.int .u64 0),.d (.int .u64 0),.d (.int .u64 0)]∧ef prog 328=some 7∧dx prog 328=some true∧isStruct prog 328=true∧k8 prog 328 0=some (0,4,true)∧k8 prog 328 1=some (4,1,false)∧k8 prog 328 2=some (5,1,false):=by and_intros<;>kernel_rfl
def Kf32:k8 prog 328 3=some (6,1,false)∧Eh prog 328=false∧dy prog 328=some 7∧eU prog 328=some [.d (.int .u64 0),.d (.int .u64 0),.d (.int .u64 0),.d (.int .u64 0),.d (.bool false),.d (.bool false),.d (.int .u8 0)]∧ef prog 331=some 1∧k8 prog 333 0=some (0,1,false)∧k8 prog 333 1=some (1,1,false)∧Eh prog 333=true∧eU prog 333=some [.d .eX,.bh]:=by and_intros<;>kernel_rfl
def sl475:mU prog 475=some (174,1,24):=by kernel_rfl
def Kf33:k8 prog 335 0=some (0,1,false)∧k8 prog 335 1=some (1,2,true)∧isIface prog 337=some true∧isStruct prog 342=true∧k8 prog 342 0=some (0,1,false)∧k8 prog 342 1=some (1,1,false)∧k8 prog 342 2=some (2,10,true)∧eU prog 342=some [.d (.str []),.d (.bool false),.d (.int .i64 0),.d (.str []),.d (.int .i64 0),.d (.bool false),.d (.int .i64 0),.d (.str []),.bh,.bh,.bh,.bh]∧ef prog 526=some 8:=by and_intros<;>kernel_rfl
def Kf34:Uh prog 526=some (8,1,false)∧Eh prog 526=false∧eU prog 526=some [.d (.str []),.d (.str []),.d (.str []),.d (.str []),.d (.str []),.d (.str []),.d (.str []),.d (.str [])]∧isStruct prog 530=true∧k8 prog 530 0=some (0,1,false)∧k8 prog 530 1=some (1,1,false)∧eU prog 530=some [.bh,.d (.int .i64 0)]∧ef prog 532=some 2∧isIface prog 532=some false:=by and_intros<;>kernel_rfl
def Kf35:isStruct prog 532=true∧k8 prog 532 0=some (0,1,false)∧k8 prog 532 1=some (1,1,false)∧Eh prog 532=false∧eU prog 532=some [.d (.int .i64 0),.d (.int .i64 0)]:=by and_intros<;>kernel_rfl
attribute [go_sem] aC uV Uw gD rB Kf0 Kf1 sl24 Kf2 sl28 sl31 Kf3 sl43 Kf4 sl44 Kf5 sl49 Kf6 sl50 Kf7 Kf8 Kf9 sl59 sl62 Kf10 Kf11 sl65 Kf12 sl66 sl67 Kf13 sl70 Kf14 Kf15 Kf16 Kf17 Kf18 Kf19 sl116 Kf20 Kf21 Kf22 sl136 sl142 Kf23 sl171 Kf24 sl174 Kf25 Kf26 Kf27 Kf28 Kf29 Kf30 Kf31 Kf32 sl475 Kf33 Kf34 Kf35
end Go.Proofs.YtbcillkajdnljaaGreatDoor.T
end
section
namespace Go.Abs
open Go.RowKit
variable {c:Ctx} {w:World} {st:St}
def Rel.me {v:Value} {x:V} {y:D} (r:Rel c v x) (h:x.me=some y):de c.H v y:=by
 cases r with
 |d v x r=>simp only [V.me,aal] at h;exact h▸r
 |bh=>simp only [V.me,aal] at h;subst h;exact .slnil
 |own v id es t r ht hsz hle heq=>simp only [V.me,aal] at h;subst h;exact r
 |_=>simp [V.me] at h
def Rel.cells {v:Value} {x:V} {l:List V} (r:Rel c v x) (h:x.cells=some l):
  v.cells.size=l.length∧∀ i,i<l.length→Rel c (v.cells.getD i undef) (l.getD i .aU):=by
 have one:∀ (v:Value) (y:V),Rel c v y→v.cells= #[v]→l=[y]→v.cells.size=l.length∧∀ i,i<l.length→Rel c (v.cells.getD i undef) (l.getD i .aU):=by
  intro v y r hv hl;subst hl;rw [hv];refine ⟨rfl,fun i hi=>?_⟩;have:i=0:=by simpa using hi
  subst this;simpa using r
 cases r with
 |aU v=>simp [V.cells] at h
 |d v x r=>
  cases r with
  |agg arr cs hs hr=>
   simp only [V.cells,aal] at h
   subst h
   refine ⟨by simpa [Value.cells] using hs,fun i hi=>?_⟩
   simp only [aaC] at hi
   have:=hr i hi
   simp only [Value.cells]
   rw [show (cs.map V.d).getD i .aU= .d (cs.getD i .eX) by simp [aam,aaV,aaw hi]]
   exact .d _ _ this
  |bool b=>exact one _ _ (.d _ _ (.bool b)) rfl (by simpa [V.cells] using h.symm)
  |int k n=>exact one _ _ (.d _ _ (.int k n)) rfl (by simpa [V.cells] using h.symm)
  |str s l' e=>exact one _ _ (.d _ _ (.str s l' e)) rfl (by simpa [V.cells] using h.symm)
  |eX=>exact one _ _ (.d _ _ .eX) rfl (by simpa [V.cells] using h.symm)
  |Am=>exact one _ _ (.d _ _ .Am) rfl (by simpa [V.cells] using h.symm)
  |fD=>exact one _ _ (.d _ _ .fD) rfl (by simpa [V.cells] using h.symm)
  |An=>exact one _ _ (.d _ _ .An) rfl (by simpa [V.cells] using h.symm)
  |nz t v=>exact one _ _ (.d _ _ (.nz t v)) rfl (by simpa [V.cells] using h.symm)
  |iface t v x r=>exact one _ _ (.d _ _ (.iface t v x r)) rfl (by simpa [V.cells] using h.symm)
  |slnil=>exact one _ _ (.d _ _ .slnil) rfl (by simpa [V.cells] using h.symm)
  |uV a=>exact one _ _ (.d _ _ (.uV a)) rfl (by simpa [V.cells] using h.symm)
  |sl k off n cap sz vs es h1 h2 h3 h4 h5=>exact one _ _ (.d _ _ (.sl k off n cap sz vs es h1 h2 h3 h4 h5)) rfl (by simpa [V.cells] using h.symm)
 |bh=>exact one _ _ .bh rfl (by simpa [V.cells] using h.symm)
 |own v id es t r ht hsz hle heq=>
  refine one _ _ (.own v id es t r ht hsz hle heq) ?_ (by simpa [V.cells] using h.symm)
  cases r<;>rfl
 |ptr b k off hb=>exact one _ _ (.ptr b k off hb) rfl (by simpa [V.cells] using h.symm)
 |ep k base off vs cs h1 h2=>exact one _ _ (.ep k base off vs cs h1 h2) rfl (by simpa [V.cells] using h.symm)
 |jE f arr cap hs hr=>exact one _ _ (.jE f arr cap hs hr) rfl (by simpa [V.cells] using h.symm)
 |agg arr cs hs hr=>
  simp only [V.cells,aal] at h
  subst h
  exact ⟨hs,hr⟩
 |cF arr vs hs hr=>simp [V.cells] at h
 |mp b k hb=>exact one _ _ (.mp b k hb) rfl (by simpa [V.cells] using h.symm)
 |win b k n cap hb hn=>exact one _ _ (.win b k n cap hb hn) rfl (by simpa [V.cells] using h.symm)
def de.one {H:GH} {v:Value} {x:D} (r:de H v x) (h:x.one=true):v.oneCell'=true:=by
 cases r<;>first|rfl|(simp [D.one] at h)
def Rel.one {v:Value} {x:V} (r:Rel c v x) (h:x.one=true):v.oneCell'=true:=by
 cases r with
 |aU v=>simp [V.one] at h
 |d v x r=>exact r.one h
 |bh=>rfl
 |own v id es t r ht hsz hle heq=>cases r<;>rfl
 |ptr b k off hb=>rfl
 |ep k base off vs cs h1 h2=>rfl
 |jE f arr cap hs hr=>rfl
 |agg arr cs hs hr=>simp [V.one] at h
 |cF arr vs hs hr=>simp [V.one] at h
 |mp b k hb=>rfl
 |win b k n cap hb hn=>rfl
def tK {v:Value} {x:V} (h:tJ v=some x):Rel c v x:=by
 unfold tJ at h;split at h<;>simp only [aal,reduceCtorEq] at h<;>subst h
 ·exact .d _ _ (.bool _)
 ·exact .d _ _ (.int _ _)
 ·exact .d _ _ (.str _ _ rfl)
 ·exact .d _ _ .eX
 ·exact .bh
 ·exact .d _ _ .Am
 ·exact .d _ _ .fD
 ·exact .d _ _ .An
theorem ko:∀ {l:List Value} {xs:List V},ny l=some xs→l.length=xs.length∧∀ i,i<xs.length→Rel c (l.getD i undef) (xs.getD i .aU)
 |[],xs,h=>by simp only [ny,aal] at h;subst h;simp
 |v::r,xs,h=>by
  simp only [ny] at h;split at h<;>simp only [aal,reduceCtorEq] at h;rename_i x l h1 h2;subst h;obtain ⟨h3,h4⟩:=ko h2;refine ⟨by simp [h3],fun i hi=>?_⟩;cases i with
  |zero=>simpa using tK h1
  |succ i=>simpa using h4 i (by simpa using hi)
def aK (arr:Array Value) (i:Nat):arr.getD i undef=arr.toList.getD i undef:=by
 simp [aap,aam]
def mO (v:Value):Rel c v (ofConst v):=by
 unfold ofConst;split
 ·rename_i cs;split
  ·rename_i l h;obtain ⟨h1,h2⟩:=ko (c:=c) h;exact .agg _ _ (by simpa using h1) fun i hi=>by rw [aK];exact h2 i hi
  ·exact .aU _
 ·cases h:tJ v with
  |none=>exact .aU _
  |some x=>exact tK h
def bJ {a:Act} {fr:Fr} (h:cC c a.tmps fr) (x:Operand):Rel c (a.eval x) (ev fr x):=by
 cases x with
 |tmp t=>exact h t
 |const v=>exact mO v
 |global g=>exact .aU _
 |func f=>exact .jE f #[] [] rfl (fun i hi=>by simp at hi)
theorem tL:∀ {l:List V} {ds:List D},oE l=some ds→l.length=ds.length∧∀ {vs:List Value},(∀ i,i<l.length→Rel c (vs.getD i undef) (l.getD i .aU))→∀ i,i<ds.length→de c.H (vs.getD i undef) (ds.getD i .eX)
 |[],ds,h=>by simp only [oE,aal] at h;subst h;simp
 |v::r,ds,h=>by
  simp only [oE] at h;split at h<;>simp only [aal,reduceCtorEq] at h;rename_i x l h1 h2;subst h;obtain ⟨h3,h4⟩:=tL h2;refine ⟨by simp [h3],fun {vs} hv i hi=>?_⟩;cases i with
  |zero=>simpa using (hv 0 (by simp)).me (by simpa using h1)
  |succ i=>
   have:=h4 (vs:=vs.tail) (fun j hj=>by
    have:=hv (j+1) (by simpa using hj);cases vs<;>simpa using this) i (by simpa using hi)
   cases vs<;>simpa using this
def bf.fresh (h:bf c w st) {k:Nat} (hk:w.heap.size≤k) (o:Nat):c.H k o=none:=by
 cases hv:c.H k o with
 |none=>rfl
 |some v=>
  have:=World.block_lt_of_cell? w _ (h.cy k o v hv)
  simp at this
  omega
def bf.mult (h:bf c w st) {i k:Nat} (hk:c.mu[i]?=some k):k<w.heap.size:=by
 have hi:i<st.aj.length:=by rw [←h.cN];exact (aao.1 hk).1
 obtain ⟨o,ho,_⟩:=h.blk i k _ hk (aaw hi);exact (aa8.1 ho).1
def bf.BX (h:bf c w st) {id:Nat} {t:Tok} (ht:c.tok[id]?=some t) {g:Nat} (hg:t.val.ownBlock=some g):c.base≤g∧g<w.heap.size:=by
 obtain ⟨_,⟨_,hd⟩|⟨xs,ho,_⟩⟩:=h.cz id t ht
 ·rw [hd] at hg;cases hg
 exact ho.lt g hg
def gV {α:Type} {l:List α} {x y:α} {i:Nat} (h:l[i]?=some y):(l++[x])[i]?=some y:=by
 rw [aaz (aao.1 h).1];exact h
def bH {α:Type} {l:List α} {x y:α} {i:Nat} (h:(l++[x])[i]?=some y):l[i]?=some y∨(i=l.length∧y=x):=by
 by_cases hi:i<l.length
 ·rw [aaz hi] at h;exact .inl h
 ·rw [aay (by omega)] at h;have:i - l.length=0:=by
   rcases Nat.eq_zero_or_pos (i - l.length) with h'|h'
   ·exact h'
   ·rw [List.getElem?_eq_none (by simp;omega)] at h;simp at h
  rw [this] at h;simp at h;exact .inr ⟨by omega,h.symm⟩
def Ctx.c7 (c:Ctx) (k:Nat):Ctx:= { c with mu:=c.mu++[k] }
def Ext.c7 (c:Ctx) (k:Nat):Ext c (c.c7 k):=
 ⟨fun _ _ _ h=>h,fun _ _ h=>gV h,fun _ t h=>⟨t,h,rfl,aat _,fun _=>rfl⟩,rfl,rfl⟩
def bf.alloc (h:bf c w st) {o:Obj} {B:ec} (hb:L2 c o B):
  bf (c.c7 w.heap.size) (w.alloc o) { st with aj:=st.aj++[B] } where
 cN:=by simp [Ctx.c7,h.cN]
 dH:=by
  intro i j k hi hj;rcases bH hi with hi|⟨hi,hk⟩<;>rcases bH hj with hj|⟨hj,hk'⟩
  ·exact h.dH i j k hi hj
  ·subst hk';have:=h.mult hi;omega
  ·subst hk;have:=h.mult hj;omega
  ·omega
 cI:=by
  intro i k hi;rcases bH hi with hi|⟨_,hk⟩
  ·exact h.cI i k hi
  ·subst hk;exact h.cw
 mS:=by
  intro i k o hi;rcases bH hi with hi|⟨_,hk⟩
  ·exact h.mS i k o hi
  ·subst hk;exact h.fresh (aat _) o
 blk:=by
  intro b k B' hk hB;rcases bH hk with hk|⟨hb',hk⟩
  ·have hbl:b<st.aj.length:=by rw [←h.cN];exact (aao.1 hk).1
   obtain ⟨o',ho',hr⟩:=h.blk b k B' hk (by rw [aaz hbl] at hB;exact hB);exact ⟨o',by rw [heap_alloc_old w o (h.mult hk)];exact ho',hr.mono (Ext.c7 c _)⟩
  ·subst hk;rw [hb',h.cN] at hB;simp at hB;subst hB;exact ⟨o,heap_alloc_new w o,hb.mono (Ext.c7 c _)⟩
 cu:=h.cu
 cz:=by
  intro id t ht;obtain ⟨h0,hd|⟨xs,ho,hg⟩⟩:=h.cz id t ht
  ·exact ⟨h0,.inl hd⟩
  refine ⟨h0,.inr ⟨xs,ho.alloc o,fun g hgb=>?_⟩⟩;obtain ⟨h1,h2,h3⟩:=hg g hgb;refine ⟨h1,h2,?_⟩;have:=(ho.lt g hgb).2;simp only [Ctx.c7,abo,abg,not_or];exact ⟨h3,by omega⟩
 cK:=h.cK
 cy:=by
  intro k o' v hv;have:=h.cy k o' v hv;rw [World.cell?_alloc_lt w o _ (World.block_lt_of_cell? w _ this)];exact this
 below:=h.below.alloc h.cw o
 cw:=by
  have:=h.cw;simp only [World.size_alloc,Ctx.c7];omega
def Ctx.kT (c:Ctx) (k:Nat) (cs:Array Value):Ctx:= { c with H:=fun b o=>if b=k then cs[o]? else c.H b o }
def bf.xK (h:bf c w st) (cs:Array Value):Ext c (c.kT w.heap.size cs):=by
 refine ⟨fun k o v hv=>?_,fun _ _ h=>h,fun _ t h=>⟨t,h,rfl,aat _,fun _=>rfl⟩,rfl,rfl⟩;have:k≠w.heap.size:=by
  intro e;subst e;rw [h.fresh (aat _)] at hv;simp at hv
 simp [Ctx.kT,this,hv]
def bf.kT (h:bf c w st) (cs:Array Value) (e:TypeId):bf (c.kT w.heap.size cs) (w.alloc (.cells cs e)) st where
 cN:=h.cN
 dH:=h.dH
 cI:=h.cI
 mS:=by
  intro i k o hk;have:=h.mult hk;simp only [Ctx.kT];rw [if_neg (by omega)];exact h.mS i k o hk
 blk:=by
  intro b k B hk hB;obtain ⟨o,ho,hr⟩:=h.blk b k B hk hB;exact ⟨o,by rw [heap_alloc_old w _ (h.mult hk)];exact ho,hr.mono (h.xK cs)⟩
 cu:=h.cu
 cz:=by
  intro id t ht;obtain ⟨h0,hd|⟨xs,ho,hg⟩⟩:=h.cz id t ht
  ·exact ⟨h0,.inl hd⟩
  refine ⟨h0,.inr ⟨xs,ho.alloc _,fun g hgb=>?_⟩⟩;obtain ⟨h1,h2,h3⟩:=hg g hgb;have hlt:=(ho.lt g hgb).2;have hne:g≠w.heap.size:=by omega
  exact ⟨fun o ho=>by simp only [Ctx.kT,if_neg hne];exact h1 o ho,fun o ho=>by simp only [Ctx.kT,if_neg hne];exact h2 o ho,h3⟩
 cK:=h.cK
 cy:=by
  intro k o v hv;by_cases hk:k=w.heap.size
  ·subst hk;simp only [Ctx.kT,if_true] at hv;rw [World.cell?_alloc_new];exact hv
  ·simp only [Ctx.kT,if_neg hk] at hv;have:=h.cy k o v hv;rw [World.cell?_alloc_lt w _ _ (World.block_lt_of_cell? w _ this)];exact this
 below:=h.below.alloc h.cw _
 cw:=by
  have:=h.cw;simp only [World.size_alloc,Ctx.kT];omega
def bf.drew (h:bf c w st):bf c w.drew st where
 cN:=h.cN
 dH:=h.dH
 cI:=h.cI
 mS:=h.mS
 blk:=h.blk
 cu:=h.cu
 cz:=h.cz
 cK:=h.cK
 cy:=h.cy
 below:=h.below.drew
 cw:=h.cw
