/- A step of the proofs of the seat's theorems. -/
import Derived.Test.YtgclflkhpkdecaaGreatDoorVA
import Derived.WalkKit
import Derived.WalkLawsBesides
import Derived.Orders
import Derived.Below
import Derived.Test.YtgclflkhpkdecaaGreatDoorChecked
set_option linter.unusedSimpArgs false
set_option linter.unusedVariables false
section
namespace Go.Abs
open Go.RowKit
inductive D where
 |bool (b:Bool)
 |int (k:IntKind) (n:Int)
 |str (s:List UInt8)
 |eX
 |Am
 |fD
 |An
 |nz
 |iface (t:TypeId) (v:D)
 |agg (cs:List D)
 |sl (es:List (List D))
 deriving Inhabited
inductive V where
 |aU
 |d (x:D)
 |bh
 |own (id:Nat) (es:List (List D))
 |ptr (b off:Nat)
 |ep (cs:List D) (off:Nat)
 |jE (f:FuncId) (cap:List V)
 |agg (cs:List V)
 |cF (vs:List V)
 |mp (b:Nat)
 |win (b n cap:Nat)
 deriving Inhabited
abbrev GH:=Nat→Nat→Option Value
inductive de (H:GH):Value→D→Prop where
 |bool (b:Bool):de H (.bool b) (.bool b)
 |int (k:IntKind) (n:Int):de H (.int k n) (.int k n)
 |str (s:ByteArray) (l:List UInt8):s.data.toList=l→de H (.string s) (.str l)
 |eX:de H (.pointer none) .eX
 |Am:de H .nilFunc .Am
 |fD:de H .nilIface .fD
 |An:de H (.map none) .An
 |nz (t:TypeId) (v:Value):de H (.iface t v) .nz
 |iface (t:TypeId) (v:Value) (x:D):de H v x→de H (.iface t v) (.iface t x)
 |agg (arr:Array Value) (cs:List D):arr.size=cs.length→(∀ i,i<cs.length→de H (arr.getD i undef) (cs.getD i .eX))→de H (.agg arr) (.agg cs)
 |slnil:de H (.slice none 0 0) (.sl [])
 |uV (a:Addr):de H (.slice (some a) 0 0) (.sl [])
 |sl (k off n cap sz:Nat) (vs:Nat→Nat→Value) (es:List (List D)):es.length=n→n≤cap→(∀ r∈es,r.length=sz)→
   (∀ i j,i<n→j<sz→H k (off+i*sz+j)=some (vs i j))→
   (∀ i j,i<n→j<sz→de H (vs i j) ((es.getD i []).getD j .eX))→
   de H (.slice (some ⟨k,off,none⟩) n cap) (.sl es)
structure Tok where
 val:Value
 e:TypeId
 sz:Nat
 len:Nat
structure Ctx where
 H:GH
 mu:List Nat
 tok:List Tok
 base:Nat
 w0:World
inductive Rel (c:Ctx):Value→V→Prop where
 |aU (v:Value):Rel c v .aU
 |d (v:Value) (x:D):de c.H v x→Rel c v (.d x)
 |bh:Rel c (.slice none 0 0) .bh
 |own (v:Value) (id:Nat) (es:List (List D)) (t:Tok):de c.H v (.sl es)→c.tok[id]?=some t→(∀ r∈es,r.length=t.sz)→es.length≤t.len→
   (es.length=t.len→v=t.val)→Rel c v (.own id es)
 |ptr (b k off:Nat):c.mu[b]?=some k→Rel c (.pointer (some ⟨k,off,none⟩)) (.ptr b off)
 |ep (k base off:Nat) (vs:Nat→Value) (cs:List D):(∀ j,j<cs.length→c.H k (base+j)=some (vs j))→
   (∀ j,j<cs.length→de c.H (vs j) (cs.getD j .eX))→Rel c (.pointer (some ⟨k,base+off,none⟩)) (.ep cs off)
 |jE (f:FuncId) (arr:Array Value) (cap:List V):arr.size=cap.length→(∀ i,i<cap.length→Rel c (arr.getD i undef) (cap.getD i .aU))→Rel c (.func (.func f) #[] arr) (.jE f cap)
 |agg (arr:Array Value) (cs:List V):arr.size=cs.length→(∀ i,i<cs.length→Rel c (arr.getD i undef) (cs.getD i .aU))→Rel c (.agg arr) (.agg cs)
 |cF (arr:Array Value) (vs:List V):arr.size=vs.length→(∀ i,i<vs.length→Rel c (arr.getD i undef) (vs.getD i .aU))→Rel c (.tuple arr) (.cF vs)
 |mp (b k:Nat):c.mu[b]?=some k→Rel c (.map (some k)) (.mp b)
 |win (b k n cap:Nat):c.mu[b]?=some k→n≤cap→Rel c (.slice (some ⟨k,0,none⟩) n cap) (.win b n cap)
inductive KK where
 |str
 |int (q:IntKind)
 |bool
 deriving DecidableEq,Inhabited
def Qb:KK→Value→Prop
 | .str,.string s=>s.size≤maxLen
 | .int q,.int q' n=>q'=q∧(Lit.int q n).wf=true
 | .bool,.bool _=>True
 |_,_=>False
def qj:D→Option Value
 | .str l=>some (.string ⟨l.toArray⟩)
 | .int k n=>some (.int k n)
 | .bool b=>some (.bool b)
 |_=>none
structure rI (H:GH) (es:Array MapEntry) (kd:KK) (n:Nat) (f:D→Option D):Prop where
 size:es.size≤n
 keys:∀ x∈es.toList,Qb kd x.key
 nodup:(es.toList.map (·.key)).Nodup
 get:∀ y d,f y=some d→∃ x∈es.toList,qj y=some x.key∧de H x.val d
 dom:∀ x∈es.toList,∀ y,qj y=some x.key→f y≠none
inductive aJ where
 |cells (cs:List V)
 |iter (s:List UInt8) (pos:Nat)
 |tc (e:TypeId) (cs:List V)
 |mp (kd:KK) (n:Nat) (f:D→Option D)
 deriving Inhabited
structure St where
 aj:List aJ
 toks:List (Nat×Nat×Nat)
 deriving Inhabited
inductive eS (c:Ctx):Obj→aJ→Prop where
 |cells (arr:Array Value) (elem:TypeId) (cs:List V):arr.size=cs.length→(∀ i,i<cs.length→Rel c (arr.getD i undef) (cs.getD i .aU))→eS c (.cells arr elem (0,0)) (.cells cs)
 |iter (s:ByteArray) (l:List UInt8) (pos:Nat):s.data.toList=l→eS c (.stringIter s pos) (.iter l pos)
 |tc (arr:Array Value) (elem:TypeId) (cs:List V):arr.size=cs.length→(∀ i,i<cs.length→Rel c (arr.getD i undef) (cs.getD i .aU))→eS c (.cells arr elem (0,0)) (.tc elem cs)
 |mp (es:Array MapEntry) (clock:Nat) (kd:KK) (n:Nat) (f:D→Option D):rI c.H es kd n f→eS c (.map es clock) (.mp kd n f)
structure bf (c:Ctx) (w:World) (st:St):Prop where
 cN:c.mu.length=st.aj.length
 dH:∀ (i j k:Nat),c.mu[i]?=some k→c.mu[j]?=some k→i=j
 cI:∀ (i k:Nat),c.mu[i]?=some k→c.base≤k
 mS:∀ (i k o:Nat),c.mu[i]?=some k→c.H k o=none
 blk:∀ (b k:Nat) (B:aJ),c.mu[b]?=some k→st.aj[b]?=some B→∃ o,w.heap[k]?=some o∧eS c o B
 cu:c.tok.map (fun t=>(t.e,t.sz,t.len))=st.toks
 cz:∀ (id:Nat) (t:Tok),c.tok[id]?=some t→0<t.sz∧((maxLen<t.len∧t.val.ownBlock=none)∨∃ xs,w.ownsRow c.base t.e t.sz t.val t.len xs∧
   (∀ g,t.val.ownBlock=some g→(∀ o,o<t.len*t.sz→c.H g o=xs[o]?)∧(∀ o,t.len*t.sz≤o→c.H g o=none)∧g ∉ c.mu))
 cK:∀ (i j:Nat) (s t:Tok) (g:Nat),c.tok[i]?=some s→c.tok[j]?=some t→s.val.ownBlock=some g→t.val.ownBlock=some g→i=j
 cy:∀ k o v,c.H k o=some v→w.cell? ⟨k,o,none⟩=some v
 below:Below c.base c.w0 w
 cw:c.base≤w.heap.size
structure Ext (c c':Ctx):Prop where
 H:∀ k o v,c.H k o=some v→c'.H k o=some v
 mu:∀ (i k:Nat),c.mu[i]?=some k→c'.mu[i]?=some k
 tok:∀ (id:Nat) (t:Tok),c.tok[id]?=some t→∃ t',c'.tok[id]?=some t'∧t'.sz=t.sz∧t.len≤t'.len∧(t.len=t'.len→t'=t)
 base:c'.base=c.base
 w0:c'.w0=c.w0
theorem Ext.refl (c:Ctx):Ext c c:=⟨fun _ _ _ h=>h,fun _ _ h=>h,fun _ t h=>⟨t,h,rfl,aax _,fun _=>rfl⟩,rfl,rfl⟩
theorem Ext.trans {a b c:Ctx} (h:Ext a b) (k:Ext b c):Ext a c:=by
 refine ⟨fun x o v hv=>k.H _ _ _ (h.H _ _ _ hv),fun i x hx=>k.mu _ _ (h.mu _ _ hx),fun id t ht=>?_,k.base.trans h.base,k.w0.trans h.w0⟩
 obtain ⟨t1,h1,s1,l1,e1⟩:=h.tok id t ht
 obtain ⟨t2,h2,s2,l2,e2⟩:=k.tok id t1 h1
 refine ⟨t2,h2,s2.trans s1,abc l1 l2,fun e=>?_⟩
 have:t.len=t1.len:=by omega
 have h1':=e1 this
 subst h1'
 exact e2 (by omega)
theorem de.mono {H H':GH} (h:∀ k o v,H k o=some v→H' k o=some v) {v:Value} {x:D} (r:de H v x):de H' v x:=by
 induction r with
 |bool b=>exact .bool b
 |int k n=>exact .int k n
 |str s l e=>exact .str s l e
 |eX=>exact .eX
 |Am=>exact .Am
 |fD=>exact .fD
 |An=>exact .An
 |nz t v=>exact .nz t v
 |iface t v x _ ih=>exact .iface t v x ih
 |agg arr cs hs _ ih=>exact .agg arr cs hs ih
 |slnil=>exact .slnil
 |uV a=>exact .uV a
 |sl k off n cap sz vs es h1 h2 h3 h4 _ ih=>exact .sl k off n cap sz vs es h1 h2 h3 (fun i j hi hj=>h _ _ _ (h4 i j hi hj)) ih
theorem rI.mono {H H':GH} (h:∀ k o v,H k o=some v→H' k o=some v) {es:Array MapEntry} {kd:KK} {n:Nat} {f:D→Option D} (r:rI H es kd n f):rI H' es kd n f:=
 ⟨r.size,r.keys,r.nodup,fun y d hy=>by obtain ⟨x,h1,h2,h3⟩:=r.get y d hy;exact ⟨x,h1,h2,h3.mono h⟩,r.dom⟩
theorem Rel.mono {c c':Ctx} (h:Ext c c') {v:Value} {x:V} (r:Rel c v x):Rel c' v x:=by
 induction r with
 |aU v=>exact .aU v
 |d v x r=>exact .d v x (r.mono h.H)
 |bh=>exact .bh
 |own v id es t r ht hsz hle heq=>
  obtain ⟨t',ht',hs,hl,he⟩:=h.tok id t ht
  refine .own v id es t' (r.mono h.H) ht' (fun r hr=>(hsz r hr).trans hs.symm) (abc hle hl) fun e=>?_
  have:t.len=t'.len:=by omega
  rw [he this]
  exact heq (by omega)
 |ptr b k off hb=>exact .ptr b k off (h.mu _ _ hb)
 |ep k base off vs cs h1 h2=>exact .ep k base off vs cs (fun j hj=>h.H _ _ _ (h1 j hj)) (fun j hj=>(h2 j hj).mono h.H)
 |jE f arr cap hs _ ih=>exact .jE f arr cap hs ih
 |agg arr cs hs _ ih=>exact .agg arr cs hs ih
 |cF arr cs hs _ ih=>exact .cF arr cs hs ih
 |mp b k hb=>exact .mp b k (h.mu _ _ hb)
 |win b k n cap hb hn=>exact .win b k n cap (h.mu _ _ hb) hn
theorem eS.mono {c c':Ctx} (h:Ext c c') {o:Obj} {B:aJ} (r:eS c o B):eS c' o B:=by
 cases r with
 |cells arr elem cs hs hr=>exact .cells arr elem cs hs fun i hi=>(hr i hi).mono h
 |iter s l pos e=>exact .iter s l pos e
 |tc arr elem cs hs hr=>exact .tc arr elem cs hs fun i hi=>(hr i hi).mono h
 |mp es clock kd n f hf=>exact .mp es clock kd n f (hf.mono h.H)
abbrev Fr:=Nat→V
def cC (c:Ctx) (tmps:Array Value) (fr:Fr):Prop:=∀ t,Rel c (tmps.getD t undef) (fr t)
theorem cC.mono {c c':Ctx} (h:Ext c c') {tmps:Array Value} {fr:Fr} (r:cC c tmps fr):cC c' tmps fr:=fun t=>(r t).mono h
def upd (fr:Fr) (i:Nat) (v:V):Fr:=fun j=>if j=i then v else fr j
@[simp] theorem TR (fr:Fr) (i:Nat) (v:V):upd fr i v i=v:=by simp [upd]
theorem F3 (fr:Fr) (i j:Nat) (v:V) (h:j≠i):upd fr i v j=fr j:=by simp [upd,h]
theorem cC.put {c:Ctx} {tmps:Array Value} {fr:Fr} (r:cC c tmps fr) {i:Nat} (hi:i<tmps.size) {v:Value} {x:V} (h:Rel c v x):
  cC c (tmps.setIfInBounds i v) (upd fr i x):=by
 intro t
 by_cases ht:t=i
 ·subst ht
  simp [Array.getD,hi,h]
 ·rw [F3 _ _ _ _ ht]
  have:=r t
  simpa [aav,aba (Ne.symm ht)] using this
def ef (P:Program) (t:TypeId):Option Nat:=(P.info? t).map (·.size)
def dx (P:Program) (t:TypeId):Option Bool:=(P.underlying t).map fun| .struct _| .array _ _=>true|_=>false
def zeroOf (P:Program) (t:TypeId):Option Value:=(P.info? t).bind (·.zero)
def dy (P:Program) (t:TypeId):Option Nat:=(zeroOf P t).map (·.cells.size)
def k8 (P:Program) (t:TypeId) (f:Nat):Option (Nat×Nat×Bool):=
 match P.underlying t with
 |some (.struct fs)=>match fs[f]? with
  |some g=>match ef P g.type,dx P g.type with
   |some s,some b=>some (g.offset,s,b)
   |_,_=>none
  |none=>none
 |_=>none
def mU (P:Program) (t:TypeId):Option (TypeId×Nat×Nat):=
 match P.underlying t with
 |some (.slice e)=>(P.info? e).map fun i=>(e,i.size,i.bytes)
 |_=>none
def Uh (P:Program) (t:TypeId):Option (Nat×Nat×Bool):=
 match P.underlying t with
 |some (.array n e)=>match ef P e,dx P e with
  |some s,some b=>some (n,s,b)
  |_,_=>none
 |_=>none
def isStr (P:Program) (t:TypeId):Bool:=match P.underlying t with|some .string=>true|_=>false
def isBool (P:Program) (t:TypeId):Bool:=match P.underlying t with|some .bool=>true|_=>false
def ud (P:Program) (t:TypeId):Option IntKind:=match P.underlying t with|some (.int k)=>some k|_=>none
def isIface (P:Program) (t:TypeId):Option Bool:=(P.underlying t).map fun| .interface _=>true|_=>false
def s3 (P:Program) (t:TypeId):Bool:=match P.underlying t with
 |some (.slice e)=>(match P.underlying e with|some (.int .u8)=>true|_=>false)
 |_=>false
def tJ:Value→Option V
 | .bool b=>some (.d (.bool b))
 | .int k n=>some (.d (.int k n))
 | .string s=>some (.d (.str s.data.toList))
 | .pointer none=>some (.d .eX)
 | .slice none 0 0=>some .bh
 | .nilFunc=>some (.d .Am)
 | .nilIface=>some (.d .fD)
 | .map none=>some (.d .An)
 |_=>none
def ny:List Value→Option (List V)
 |[]=>some []
 |v::r=>match tJ v,ny r with
  |some x,some l=>some (x::l)
  |_,_=>none
def ofConst:Value→V
 | .agg cs=>match ny cs.toList with
  |some l=> .agg l
  |none=> .aU
 |v=>(tJ v).getD .aU
def ev (fr:Fr):Operand→V
 | .tmp t=>fr t
 | .const v=>ofConst v
 | .func f=> .jE f []
 | .global _=> .aU
def eU (P:Program) (t:TypeId):Option (List V):=(zeroOf P t).bind fun z=>ny z.cells.toList
def V.me:V→Option D
 | .d x=>some x
 | .bh=>some (.sl [])
 | .own _ es=>some (.sl es)
 |_=>none
def oE:List V→Option (List D)
 |[]=>some []
 |v::r=>match v.me,oE r with
  |some x,some l=>some (x::l)
  |_,_=>none
def V.cells:V→Option (List V)
 | .agg cs=>some cs
 | .d (.agg cs)=>some (cs.map .d)
 | .aU=>none
 | .cF _=>none
 |v=>some [v]
def V.cellsD (v:V):Option (List D):=v.cells.bind oE
def D.one:D→Bool
 | .agg _=>false
 |_=>true
def V.one:V→Bool
 | .aU| .agg _| .cF _=>false
 | .d x=>x.one
 |_=>true
def V.held:V→Option D
 | .agg cs=>(oE cs).map .agg
 |v=>v.me
def splice {α:Type} (l:List α) (off:Nat) (x:List α):List α:=l.take off++x++l.drop (off+x.length)
def NY:Int:=9223372036854775807
def xS (op:BinOp) (k:IntKind) (x y:Int):Int:=k.wrap (match op with
 | .and=>BitVec.ofInt k.bits x&&&BitVec.ofInt k.bits y
 | .or=>BitVec.ofInt k.bits x|||BitVec.ofInt k.bits y
 | .xor=>BitVec.ofInt k.bits x^^^BitVec.ofInt k.bits y
 |_=>BitVec.ofInt k.bits x&&& ~~~ BitVec.ofInt k.bits y).toNat
def shlI (k:IntKind) (x y:Int):Int:=k.wrap (x*2^ (min y.toNat k.bits))
def shrI (k:IntKind) (x y:Int):Int:=x.fdiv (2^ (min y.toNat k.bits))
def kD (op:BinOp):D→D→Option D
 | .int k a,.int k' b=>match op with
  | .shl=>if b<0 then none else some (.int k (shlI k a b))
  | .shr=>if b<0 then none else some (.int k (shrI k a b))
  |op=>
   if k=k' then match op with
    | .add=>some (.int k (k.wrap (a+b)))
    | .sub=>some (.int k (k.wrap (a - b)))
    | .mul=>some (.int k (k.wrap (a*b)))
    | .quo=>if b=0 then none else some (.int k (k.wrap (a.tdiv b)))
    | .rem=>if b=0 then none else some (.int k (a.tmod b))
    | .and=>some (.int k (xS .and k a b))
    | .or=>some (.int k (xS .or k a b))
    | .xor=>some (.int k (xS .xor k a b))
    | .andNot=>some (.int k (xS .andNot k a b))
    | .eql=>some (.bool (a==b))
    | .neq=>some (.bool (a !=b))
    | .lss=>some (.bool (decide (a<b)))
    | .leq=>some (.bool (decide (a≤b)))
    | .gtr=>some (.bool (decide (a>b)))
    | .geq=>some (.bool (decide (a≥b)))
    |_=>none
   else none
 | .str a,.str b=>match op with
  | .add=>if ((a.length+b.length:Nat):Int)≤NY then some (.str (a++b)) else none
  | .eql=>some (.bool (a==b))
  | .neq=>some (.bool (!(a==b)))
  | .lss=>some (.bool (Op.bytesLess a b))
  | .leq=>some (.bool (Op.bytesLess a b||a==b))
  | .gtr=>some (.bool (!(Op.bytesLess a b||a==b)))
  | .geq=>some (.bool (!(Op.bytesLess a b)))
  |_=>none
 |_,_=>none
def evalBin (P:Program) (op:BinOp) (t:TypeId) (x y:V):Option V:=
 match x,y with
 | .d (.bool a),.d (.bool b)=>
  if isBool P t then match op with
   | .eql=>some (.d (.bool (a==b)))
   | .neq=>some (.d (.bool (!(a==b))))
   |_=>none
  else none
 | .d a,.d b=>(kD op a b).map .d
 |_,_=>none
def mc:Operand→Bool
 | .const _=>true
 |_=>false
def AP (op:BinOp) (i:Option Bool) (k b:Bool):Option V:=
 if i=some true then (if k then match op with
  | .eql=>some (.d (.bool b))
  | .neq=>some (.d (.bool (!b)))
  |_=>none
  else none) else none
def kZ (P:Program) (op:BinOp) (t:TypeId) (k:Bool) (x y:V):Option V:=
 match x,y with
 | .d .nz,.d .fD=>AP op (isIface P t) true false
 | .d .fD,.d .fD=>AP op (isIface P t) k true
 |_,_=>none
def G0 (a b:Option V) (st:St):Option (V×St):=
 match a with
 |some z=>some (z,st)
 |none=>b.map (·,st)
def aai (op:UnOp) (x:V):Option V:=
 match op,x with
 | .not,.d (.bool b)=>some (.d (.bool (!b)))
 | .neg,.d (.int k n)=>some (.d (.int k (k.wrap (0 - n))))
 | .xor,.d (.int k n)=>some (.d (.int k (xS .xor k (if k.signed then -1 else k.max) n)))
 |_,_=>none
def byteOf:List D→Option UInt8
 |[.int .u8 n]=>some (UInt8.ofNat n.toNat)
 |_=>none
def bytesOf:List (List D)→Option (List UInt8)
 |[]=>some []
 |r::rs=>match byteOf r,bytesOf rs with
  |some b,some l=>some (b::l)
  |_,_=>none
def evalConv (P:Program) (src dst:TypeId) (x:V):Option V:=
 match x with
 | .d (.int _ n)=>match ud P src,ud P dst with
  |some _,some k=>some (.d (.int k (k.wrap n)))
  |_,_=>none
 | .d (.str s)=>if isStr P src&&isStr P dst then some (.d (.str s)) else none
 |x=>match x.me with
  |some (.sl es)=>if s3 P src&&isStr P dst then (bytesOf es).map fun l=> .d (.str l) else none
  |_=>none
def aJ.row:aJ→Option (List V)
 | .cells cs=>some cs
 | .tc _ cs=>some cs
 |_=>none
def aJ.putRow:aJ→List V→aJ
 | .cells _,cs=> .cells cs
 | .tc e _,cs=> .tc e cs
 | .iter s p,_=> .iter s p
 | .mp kd n f,_=> .mp kd n f
def iL (b:Bool) (cs:List V) (off sz:Nat):Option V:=
 if b then if off+sz≤cs.length then some (.agg ((cs.drop off).take sz)) else none
 else cs[off]?
def pG (b:Bool) (cs:List D) (off sz:Nat):Option V:=
 if b then if off+sz≤cs.length then some (.agg (((cs.drop off).take sz).map .d)) else none
 else (cs[off]?).map .d
def bn (P:Program) (t:TypeId) (a:V) (st:St):Option V:=
 match dx P t,ef P t with
 |some b,some sz=>match a with
  | .ptr k off=>match (st.aj[k]?).bind aJ.row with
   |some cs=>iL b cs off sz
   |none=>none
  | .ep cs off=>pG b cs off sz
  |_=>none
 |_,_=>none
def dY (st:St) (k:Nat) (B:aJ):St:= { st with aj:=st.aj.set k B }
def putBlk (B:aJ) (k off sz:Nat) (l:List V) (st:St):Option St:=
 match B.row with
 |some cs=>if off+sz≤cs.length then some (dY st k (B.putRow (splice cs off l))) else none
 |none=>none
def iJ (P:Program) (t:TypeId) (a x:V) (st:St):Option St:=
 match a,ef P t,x.cells with
 | .ptr k off,some sz,some l=>
  if l.length=sz∧l.all (·.one)=true then match st.aj[k]? with
   |some B=>putBlk B k off sz l st
   |none=>none
  else none
 |_,_,_=>none
def Eh (P:Program) (e:TypeId):Bool:=match eU P e with
 |some [.d .eX,.bh]=>true
 |_=>false
def v8 (P:Program) (e:TypeId) (cs:List V):aJ:=if Eh P e=true then .tc e cs else .cells cs
def c7 (st:St) (B:aJ):V×St:=(.ptr st.aj.length 0,{ st with aj:=st.aj++[B] })
def jN (P:Program) (t:TypeId) (fr:Fr):List V→List (Nat×Operand)→Option (List V)
 |cs,[]=>some cs
 |cs,(i,x)::r=>match k8 P t i,(ev fr x).cells with
  |some (off,sz,_),some l=>if l.length=sz∧off+l.length≤cs.length then jN P t fr (splice cs off l) r else none
  |_,_=>none
def isStruct (P:Program) (t:TypeId):Bool:=match P.underlying t with|some (.struct fs)=>fs.toList.all fun f=>(ef P f.type).isSome|_=>false
def jF (P:Program) (t:TypeId) (fr:Fr) (parts:List (Nat×Operand)):Option V:=
 if isStruct P t then match eU P t with
  |some cs=>(jN P t fr cs parts).map .agg
  |none=>none
 else none
def rowsOf (sz:Nat) (fr:Fr):Nat→List (Nat×Operand)→Option (List (List D))
 |_,[]=>some []
 |i,(j,x)::r=>if i=j then match (ev fr x).cellsD,rowsOf sz fr (i+1) r with
   |some l,some rs=>if l.length=sz then some (l::rs) else none
   |_,_=>none
  else none
def eW (P:Program) (t:TypeId) (n:Nat) (fr:Fr) (parts:List (Nat×Operand)):Option V:=
 match mU P t with
 |some (e,sz,_)=>if parts.length=n∧n*sz≤16777216∧0<sz∧(dy P e).isSome=true then (rowsOf sz fr 0 parts).map fun rs=> .d (.sl rs) else none
 |none=>none
def cr (sz:Nat) (es:List (List D)):Bool:=es.all (·.length==sz)
def bound (fr:Fr) (dflt:Nat):Option Operand→Option Nat
 |none=>some dflt
 |some x=>match ev fr x with
  | .d (.int _ n)=>if 0≤n then some n.toNat else none
  |_=>none
def gb (P:Program) (t:TypeId) (x:V) (fr:Fr) (lo hi:Option Operand):Option V:=
 match x with
 | .d (.str s)=>
  if isStr P t then match bound fr 0 lo,bound fr s.length hi with
   |some l,some h=>if l≤h∧h≤s.length then some (.d (.str ((s.take h).drop l))) else none
   |_,_=>none
  else none
 |x=>match x.me,mU P t with
  |some (.sl es),some (_,sz,_)=>match bound fr 0 lo,bound fr es.length hi with
   |some l,some h=>if l≤h∧h≤es.length∧cr sz es=true then some (.d (.sl ((es.take h).drop l))) else none
   |_,_=>none
  |none,some _=>(match x with
   | .win b n cap=>(match bound fr 0 lo,bound fr n hi with
    |some 0,some h=>if h≤n then some (.win b h cap) else none
    |_,_=>none)
   |_=>none)
  |_,_=>none
def eE (P:Program) (t:TypeId) (x:V) (f:Nat):Option V:=
 match k8 P t f with
 |some (off,sz,_)=>if sz=0 then none else match x with
  | .ptr k o=>some (.ptr k (o+off))
  | .ep cs o=>some (.ep cs (o+off))
  |_=>none
 |none=>none
def iK (P:Program) (t:TypeId) (x:V) (f:Nat):Option V:=
 match k8 P t f,x.cells with
 |some (off,sz,b),some cs=>(match x with| .agg _| .d (.agg _)=>iL b cs off sz|_=>none)
 |_,_=>none
def aI (P:Program) (t:TypeId) (x i:V):Option V:=
 match i with
 | .d (.int _ n)=>
  if 0≤n then match x.me,mU P t with
   |some (.sl es),some (_,sz,_)=>if n.toNat<es.length∧cr sz es=true then some (.ep (es.getD n.toNat []) 0) else none
   |_,_=>match x,Uh P t with
    | .ptr k off,some (m,sz,_)=>if n<m then some (.ptr k (off+n.toNat*sz)) else none
    | .ep cs off,some (m,sz,_)=>if n<m then some (.ep cs (off+n.toNat*sz)) else none
    | .win b m _,_=>(match mU P t with
     |some (_,sz,_)=>if n<m then some (.ptr b (n.toNat*sz)) else none
     |none=>none)
    |_,_=>none
  else none
 |_=>none
def kC (P:Program) (t:TypeId) (x i:V):Option V:=
 match i,x with
 | .d (.int _ n),.d (.str s)=>if isStr P t&&decide (0≤n) then (s[n.toNat]?).map fun b=> .d (.int .u8 b.toNat) else none
 |_,_=>none
def ji (x:V) (i:Nat):Option V:=
 match x with
 | .cF vs=>vs[i]?
 |_=>none
def gN (P:Program) (t:TypeId) (x:V):Option V:=
 match x with
 | .d (.str s)=>if isStr P t then some (.d (.int .i64 s.length)) else none
 |x=>match x.me,mU P t with
  |some (.sl es),some _=>some (.d (.int .i64 es.length))
  |none,some _=>(match x with
   | .win _ n _=>some (.d (.int .i64 n))
   |_=>none)
  |_,_=>none
def dA (sz:Nat) (xs:List (List D)):Bool:=xs.all fun r=>r.length==sz&&r.all D.one
def gP:Nat:=140737488355328
def fu (P:Program) (t:TypeId) (s x:V) (st:St):Option (V×St):=
 match mU P t,x.me with
 |some (e,sz,by_),some (.sl xs)=>
  if dA sz xs=true∧0<sz∧dy P e=some sz then match s with
   | .bh=>
    if xs.length*by_≤gP∧xs.length≤maxLen then
     if xs.isEmpty then some (.bh,st) else some (.own st.toks.length xs,{ st with toks:=st.toks++[(e,sz,xs.length)] })
    else none
   | .own id es=>
    if st.toks[id]?=some (e,sz,es.length)∧cr sz es=true∧(es.length+xs.length)*by_≤gP∧es.length+xs.length≤maxLen then
     if xs.isEmpty then some (.own id es,st) else some (.own id (es++xs),{ st with toks:=st.toks.set id (e,sz,es.length+xs.length) })
    else none
   |_=>none
  else none
 |_,_=>none
def aH (l:List UInt8):List (List D):=l.map fun b=>[.int .u8 b.toNat]
def wh (P:Program) (t:TypeId):Bool:=match mU P t with
 |some (e,1,1)=>(match zeroOf P e with|some (.int .u8 0)=>true|_=>false)
 |_=>false
def oB (P:Program) (t u:TypeId) (s x:V) (st:St):Option (V×St):=
 match x with
 | .d (.str l)=>if isStr P u=true∧wh P t=true then fu P t s (.d (.sl (aH l))) st else none
 |_=>none
def oC (x y:V):Option V:=
 match x,y with
 | .d (.int k a),.d (.int k' b)=>if k=k' then some (.d (.int k (if b>a then b else a))) else none
 |_,_=>none
def DI (x y:V):Option V:=
 match x,y with
 | .d (.int k a),.d (.int k' b)=>if k=k' then some (.d (.int k (if b<a then b else a))) else none
 |_,_=>none
def mT (P:Program) (t:TypeId) (x:V) (st:St):Option (V×St):=
 match x with
 | .d (.str s)=>if isStr P t then some (c7 st (.iter s 0)) else none
 |_=>none
def evalNext (x:V) (st:St):Option (V×St):=
 match x with
 | .ptr k 0=>match st.aj[k]? with
  |some (.iter s pos)=>
   if pos<s.length then
    some (.cF [.d (.bool true),.d (.int .i64 pos),.d (.int .i32 (Utf8.decode ⟨s.toArray⟩ pos).1)],dY st k (.iter s (pos+(Utf8.decode ⟨s.toArray⟩ pos).2)))
   else some (.cF [.d (.bool false)],st)
  |_=>none
 |_=>none
def gj (P:Program) (x:V) (asT:TypeId) (ok:Bool):Option V:=
 match x,isIface P asT with
 | .d .fD,some false=>if ok then match zeroOf P asT with
   |some z=>some (.cF [ofConst z,.d (.bool false)])
   |none=>none
  else none
 | .d (.iface t v),some false=>if t=asT then (if ok then some (.cF [.d v,.d (.bool true)]) else some (.d v)) else none
 |_,_=>none
def dP (P:Program) (b:Builtin) (ts:List TypeId) (args:List V) (st:St):Option (V×St):=
 match b,ts,args with
 | .len,[t],[x]=>(gN P t x).map (·,st)
 | .append,[t,t'],[s,x]=>if t=t' then fu P t s x st else oB P t t' s x st
 | .max,_,[x,y]=>(oC x y).map (·,st)
 | .min,_,[x,y]=>(DI x y).map (·,st)
 |_,_,_=>none
def mM (P:Program) (t:TypeId):Option (KK×TypeId):=match P.underlying t with
 |some (.map k e)=>(match P.underlying k with
  |some .string=>some (.str,e)
  |some (.int q)=>some (.int q,e)
  |some .bool=>some (.bool,e)
  |_=>none)
 |_=>none
def zW:KK→D→Bool
 | .str,.str l=>decide (l.length≤maxLen)
 | .int q,.int q' n=>decide (q'=q)&& (Lit.int q n).wf
 | .bool,.bool _=>true
 |_,_=>false
def J2 (ok:Bool) (v:V) (b:Bool):V:=if ok then .cF [v,.d (.bool b)] else v
def vq (ok:Bool) (z:Option V) (o:Option D):Option V:=z.map fun z=>match o with
 |some d=>J2 ok (.d d) true
 |none=>J2 ok z false
def iU (P:Program) (t:TypeId) (m x:V) (ok:Bool) (st:St):Option V:=
 match mM P t,m,x with
 |some (kd,e),.mp b,.d y=>match st.aj[b]? with
  |some (.mp kd' _ f)=>if kd'=kd∧zW kd y=true then vq ok ((zeroOf P e).map ofConst) (f y) else none
  |_=>none
 |_,_,_=>none
def vr:D→D→Bool
 | .str a,.str b=>decide (a=b)
 | .int k n,.int k' m=>decide (k=k'∧n=m)
 | .bool a,.bool b=>decide (a=b)
 |_,_=>false
def ri (f:D→Option D) (y d:D):D→Option D:=fun x=>if vr x y=true then some d else f x
def iV (P:Program) (t:TypeId) (m x v:V) (st:St):Option St:=
 match mM P t,m,x,v.held with
 |some (kd,_),.mp b,.d y,some d=>match st.aj[b]? with
  |some (.mp kd' n f)=>if kd'=kd∧zW kd y=true then some (dY st b (.mp kd (n+1) (ri f y d))) else none
  |_=>none
 |_,_,_,_=>none
def vv (P:Program) (t:TypeId) (l c:V) (st:St):Option (V×St):=
 match mU P t,l,c with
 |some (e,sz,by_),.d (.int _ n),.d (.int _ m)=>
  if n=0∧0≤m∧m.toNat*by_≤gP∧m.toNat≤maxLen∧0<sz∧(dy P e).isSome=true then some (.own st.toks.length [],{ st with toks:=st.toks++[(e,sz,0)] }) else none
 |_,_,_=>none
def evalOp (P:Program) (o:Oper) (fr:Fr) (st:St):Option (V×St):=
 match o.op with
 | .move x| .assign x=>some (ev fr x,st)
 | .pick c a b=>match ev fr c with
  | .d (.bool t)=>some (if t then ev fr a else ev fr b,st)
  |_=>none
 | .alloc e=>match eU P e with
  |some cs=>some (c7 st (v8 P e cs))
  |none=>none
 | .box _ x=>match (ev fr x).cells with
  |some cs=>some (c7 st (.cells cs))
  |none=>none
 | .build t parts=>(jF P t fr parts.toList).map (·,st)
 | .buildSlice t n parts=>(eW P t n fr parts.toList).map (·,st)
 | .load t a=>(bn P t (ev fr a) st).map (·,st)
 | .store t a x=>(iJ P t (ev fr a) (ev fr x) st).map fun st'=>(.aU,st')
 | .nilCheck x=>match ev fr x with
  | .ptr b off=>some (.ptr b off,st)
  | .ep cs off=>some (.ep cs off,st)
  | .jE f cap=>some (.jE f cap,st)
  |_=>none
 | .binOp op t x y _=>G0 (evalBin P op t (ev fr x) (ev fr y)) (kZ P op t (mc x||mc y) (ev fr x) (ev fr y)) st
 | .unOp op _ x=>(aai op (ev fr x)).map (·,st)
 | .convert s d x=>(evalConv P s d (ev fr x)).map (·,st)
 | .makeInterface t x=>if isIface P t=some false then (ev fr x).held.map fun d=>(.d (.iface t d),st) else none
 | .makeFunc (.func f) first captured=>if first.isEmpty then some (.jE f (captured.toList.map (ev fr)),st) else none
 | .slice t x lo hi none=>(gb P t (ev fr x) fr lo hi).map (·,st)
 | .fieldAddr t x f=>(eE P t (ev fr x) f).map (·,st)
 | .field t x f=>(iK P t (ev fr x) f).map (·,st)
 | .indexAddr t x i=>(aI P t (ev fr x) (ev fr i)).map (·,st)
 | .index t x i=>(kC P t (ev fr x) (ev fr i)).map (·,st)
 | .extract x i=>(ji (ev fr x) i).map (·,st)
 | .range t x=>mT P t (ev fr x) st
 | .next x true=>evalNext (ev fr x) st
 | .makeMap t none=>match mM P t with
  |some (kd,_)=>some (.mp st.aj.length,(c7 st (.mp kd 0 fun _=>none)).2)
  |none=>none
 | .lookup t m x ok=>(iU P t (ev fr m) (ev fr x) ok st).map (·,st)
 | .mapUpdate t m x v=>(iV P t (ev fr m) (ev fr x) (ev fr v) st).map fun st'=>(.aU,st')
 | .typeAssert x _ asT ok=>(gj P (ev fr x) asT ok).map (·,st)
 | .call { callee:= .builtin b,args,argTypes }=>dP P b argTypes.toList (args.toList.map (ev fr)) st
 | .makeSlice t l c=>vv P t (ev fr l) (ev fr c) st
 |_=>none
end Go.Abs
end
section
namespace Go.Proofs.YtgclflkhpkdecaaGreatDoor.T
open Tryz
open Go.Abs
set_option maxRecDepth 100000
theorem aC:isStr prog 0=false:=by kernel_rfl
theorem uV:mU prog 0=none:=by kernel_rfl
theorem Uw:ef prog 1=some 1:=by kernel_rfl
theorem gD:isStr prog 1=false:=by kernel_rfl
theorem Yy:ef prog 3=some 1:=by kernel_rfl
theorem Yz:dx prog 3=some false:=by kernel_rfl
theorem YC:dy prog 3=some 1:=by kernel_rfl
theorem YE:ef prog 4=some 1:=by kernel_rfl
theorem YF:dx prog 4=some false:=by kernel_rfl
theorem YG:isBool prog 4=true:=by kernel_rfl
theorem YJ:ef prog 9=some 1:=by kernel_rfl
theorem YK:dx prog 9=some false:=by kernel_rfl
theorem YL:isStr prog 9=true:=by kernel_rfl
theorem YM:dy prog 9=some 1:=by kernel_rfl
theorem sz22:ef prog 22=some 1:=by kernel_rfl
theorem ag22:dx prog 22=some false:=by kernel_rfl
theorem sl22:mU prog 22=some (49,39,600):=by kernel_rfl
theorem sz24:ef prog 24=some 2:=by kernel_rfl
theorem ag24:dx prog 24=some true:=by kernel_rfl
theorem fd24_0:k8 prog 24 0=some (0,1,false):=by kernel_rfl
theorem fd24_1:k8 prog 24 1=some (1,1,false):=by kernel_rfl
theorem sz31:ef prog 31=some 1:=by kernel_rfl
theorem ag31:dx prog 31=some false:=by kernel_rfl
theorem sl31:mU prog 31=some (9,1,16):=by kernel_rfl
theorem sz34:ef prog 34=some 1:=by kernel_rfl
theorem ag34:dx prog 34=some false:=by kernel_rfl
theorem sl34:mU prog 34=some (36,6,88):=by kernel_rfl
theorem sz36:ef prog 36=some 6:=by kernel_rfl
theorem ag36:dx prog 36=some true:=by kernel_rfl
theorem fd36_0:k8 prog 36 0=some (0,1,false):=by kernel_rfl
theorem fd36_1:k8 prog 36 1=some (1,1,false):=by kernel_rfl
theorem fd36_2:k8 prog 36 2=some (2,1,false):=by kernel_rfl
theorem fd36_3:k8 prog 36 3=some (3,1,false):=by kernel_rfl
theorem fd36_4:k8 prog 36 4=some (4,1,false):=by kernel_rfl
theorem fd36_5:k8 prog 36 5=some (5,1,false):=by kernel_rfl
theorem UL:ef prog 40=some 1:=by kernel_rfl
theorem UM:dx prog 40=some false:=by kernel_rfl
theorem sl40:mU prog 40=some (156,7,104):=by kernel_rfl
theorem UR:ef prog 41=some 1:=by kernel_rfl
theorem US:dx prog 41=some false:=by kernel_rfl
theorem QG:mU prog 41=some (197,4,48):=by kernel_rfl
theorem UT:ef prog 42=some 1:=by kernel_rfl
theorem UU:dx prog 42=some false:=by kernel_rfl
theorem QH:mU prog 42=some (3,1,8):=by kernel_rfl
theorem Oh:k8 prog 44 1=some (1,1,false):=by kernel_rfl
theorem U2:ef prog 45=some 1:=by kernel_rfl
theorem U3:dx prog 45=some false:=by kernel_rfl
theorem QI:mU prog 45=some (202,3,64):=by kernel_rfl
theorem Oo:k8 prog 47 1=some (1,1,false):=by kernel_rfl
theorem sz49:ef prog 49=some 39:=by kernel_rfl
theorem ag49:dx prog 49=some true:=by kernel_rfl
theorem fd49_0:k8 prog 49 0=some (0,1,false):=by kernel_rfl
theorem fd49_1:k8 prog 49 1=some (1,1,false):=by kernel_rfl
theorem fd49_3:k8 prog 49 3=some (12,1,false):=by kernel_rfl
theorem fd49_4:k8 prog 49 4=some (13,1,false):=by kernel_rfl
theorem fd49_5:k8 prog 49 5=some (14,1,false):=by kernel_rfl
theorem fd49_6:k8 prog 49 6=some (15,1,false):=by kernel_rfl
theorem fd49_11:k8 prog 49 11=some (20,4,true):=by kernel_rfl
theorem fd49_12:k8 prog 49 12=some (24,1,false):=by kernel_rfl
theorem fd49_13:k8 prog 49 13=some (25,1,false):=by kernel_rfl
theorem fd49_14:k8 prog 49 14=some (26,1,false):=by kernel_rfl
theorem fd49_15:k8 prog 49 15=some (27,1,false):=by kernel_rfl
theorem fd49_16:k8 prog 49 16=some (28,1,false):=by kernel_rfl
theorem fd49_17:k8 prog 49 17=some (29,1,false):=by kernel_rfl
theorem fd49_19:k8 prog 49 19=some (31,3,true):=by kernel_rfl
theorem fd49_20:k8 prog 49 20=some (34,1,false):=by kernel_rfl
theorem tc49:Eh prog 49=false:=by kernel_rfl
theorem zc49:eU prog 49=some [.d (.str []),.bh,.d (.int .i64 0),.d (.str []),.d (.int .i64 0),.d (.bool false),.d (.int .i64 0),.d (.str []),.bh,.bh,.bh,.bh,.bh,.bh,.bh,.d (.str []),.d (.int .i64 0),.d (.int .i64 0),.d (.int .i64 0),.d (.int .i64 0),.d (.int .i64 0),.bh,.d (.int .i64 0),.d (.int .i64 0),.bh,.bh,.bh,.bh,.bh,.d (.str []),.d (.bool false),.d (.int .i64 0),.bh,.d (.int .i64 0),.bh,.d (.int .i64 0),.d (.int .i64 0),.d (.bool false),.d (.bool false)]:=by kernel_rfl
attribute [go_sem] aC uV Uw gD
attribute [go_sem] Yy Yz YC YE YF YG
attribute [go_sem] YJ
attribute [go_sem] YK YL YM
attribute [go_sem] sz22 ag22
attribute [go_sem] sl22 sz24 ag24 fd24_0 fd24_1
attribute [go_sem] sz31 ag31 sl31
attribute [go_sem] sz34 ag34 sl34 sz36 ag36
attribute [go_sem] fd36_0 fd36_1 fd36_2 fd36_3 fd36_4 fd36_5
attribute [go_sem] UL UM sl40 UR US
attribute [go_sem] QG UT UU QH
attribute [go_sem] Oh U2
attribute [go_sem] U3 QI
attribute [go_sem] Oo sz49 ag49 fd49_0 fd49_1 fd49_3
attribute [go_sem] fd49_4 fd49_5 fd49_6 fd49_11 fd49_12 fd49_13 fd49_14 fd49_15 fd49_16 fd49_17 fd49_19 fd49_20
attribute [go_sem] tc49 zc49
end Go.Proofs.YtgclflkhpkdecaaGreatDoor.T
end
section
namespace Go.Abs
open Go.RowKit
variable {c:Ctx} {w:World} {st:St}
theorem Rel.me {v:Value} {x:V} {y:D} (r:Rel c v x) (h:x.me=some y):de c.H v y:=by
 cases r with
 |d v x r=>simp only [V.me,aas] at h;exact h▸r
 |bh=>simp only [V.me,aas] at h;subst h;exact .slnil
 |own v id es t r ht hsz hle heq=>simp only [V.me,aas] at h;subst h;exact r
 |_=>simp [V.me] at h
theorem Rel.cells {v:Value} {x:V} {l:List V} (r:Rel c v x) (h:x.cells=some l):
  v.cells.size=l.length∧∀ i,i<l.length→Rel c (v.cells.getD i undef) (l.getD i .aU):=by
 have one:∀ (v:Value) (y:V),Rel c v y→v.cells= #[v]→l=[y]→v.cells.size=l.length∧∀ i,i<l.length→Rel c (v.cells.getD i undef) (l.getD i .aU):=by
  intro v y r hv hl
  subst hl
  rw [hv]
  refine ⟨rfl,fun i hi=>?_⟩
  have:i=0:=by simpa using hi
  subst this
  simpa using r
 cases r with
 |aU v=>simp [V.cells] at h
 |d v x r=>
  cases r with
  |agg arr cs hs hr=>
   simp only [V.cells,aas] at h
   subst h
   refine ⟨by simpa [Value.cells] using hs,fun i hi=>?_⟩
   simp only [aaO] at hi
   have:=hr i hi
   simp only [Value.cells]
   rw [show (cs.map V.d).getD i .aU= .d (cs.getD i .eX) by simp [aat,aaT,aay hi]]
   exact .d _ _ this
  |bool b=>exact one _ _ (.d _ _ (.bool b)) rfl (by simpa [V.cells] using h.symm)
  |int k n=>exact one _ _ (.d _ _ (.int k n)) rfl (by simpa [V.cells] using h.symm)
  |str s l' e=>exact one _ _ (.d _ _ (.str s l' e)) rfl (by simpa [V.cells] using h.symm)
  |eX=>exact one _ _ (.d _ _ .eX) rfl (by simpa [V.cells] using h.symm)
  |Am=>exact one _ _ (.d _ _ .Am) rfl (by simpa [V.cells] using h.symm)
  |fD=>exact one _ _ (.d _ _ .fD) rfl (by simpa [V.cells] using h.symm)
  |An=>exact one _ _ (.d _ _ .An) rfl (by simpa [V.cells] using h.symm)
  |nz t v=>exact one _ _ (.d _ _ (.nz t v)) rfl (by simpa [V.cells] using h.symm)
  |iface t v x r=>exact one _ _ (.d _ _ (.iface t v x r)) rfl (by simpa [V.cells] using h.symm)
  |slnil=>exact one _ _ (.d _ _ .slnil) rfl (by simpa [V.cells] using h.symm)
  |uV a=>exact one _ _ (.d _ _ (.uV a)) rfl (by simpa [V.cells] using h.symm)
  |sl k off n cap sz vs es h1 h2 h3 h4 h5=>exact one _ _ (.d _ _ (.sl k off n cap sz vs es h1 h2 h3 h4 h5)) rfl (by simpa [V.cells] using h.symm)
 |bh=>exact one _ _ .bh rfl (by simpa [V.cells] using h.symm)
 |own v id es t r ht hsz hle heq=>
  refine one _ _ (.own v id es t r ht hsz hle heq) ?_ (by simpa [V.cells] using h.symm)
  cases r<;>rfl
 |ptr b k off hb=>exact one _ _ (.ptr b k off hb) rfl (by simpa [V.cells] using h.symm)
 |ep k base off vs cs h1 h2=>exact one _ _ (.ep k base off vs cs h1 h2) rfl (by simpa [V.cells] using h.symm)
 |jE f arr cap hs hr=>exact one _ _ (.jE f arr cap hs hr) rfl (by simpa [V.cells] using h.symm)
 |agg arr cs hs hr=>
  simp only [V.cells,aas] at h
  subst h
  exact ⟨hs,hr⟩
 |cF arr vs hs hr=>simp [V.cells] at h
 |mp b k hb=>exact one _ _ (.mp b k hb) rfl (by simpa [V.cells] using h.symm)
 |win b k n cap hb hn=>exact one _ _ (.win b k n cap hb hn) rfl (by simpa [V.cells] using h.symm)
theorem de.one {H:GH} {v:Value} {x:D} (r:de H v x) (h:x.one=true):v.oneCell'=true:=by
 cases r<;>first|rfl|(simp [D.one] at h)
theorem Rel.one {v:Value} {x:V} (r:Rel c v x) (h:x.one=true):v.oneCell'=true:=by
 cases r with
 |aU v=>simp [V.one] at h
 |d v x r=>exact r.one h
 |bh=>rfl
 |own v id es t r ht hsz hle heq=>cases r<;>rfl
 |ptr b k off hb=>rfl
 |ep k base off vs cs h1 h2=>rfl
 |jE f arr cap hs hr=>rfl
 |agg arr cs hs hr=>simp [V.one] at h
 |cF arr vs hs hr=>simp [V.one] at h
 |mp b k hb=>rfl
 |win b k n cap hb hn=>rfl
theorem tK {v:Value} {x:V} (h:tJ v=some x):Rel c v x:=by
 unfold tJ at h
 split at h<;>simp only [aas,reduceCtorEq] at h<;>subst h
 ·exact .d _ _ (.bool _)
 ·exact .d _ _ (.int _ _)
 ·exact .d _ _ (.str _ _ rfl)
 ·exact .d _ _ .eX
 ·exact .bh
 ·exact .d _ _ .Am
 ·exact .d _ _ .fD
 ·exact .d _ _ .An
theorem ko:∀ {l:List Value} {xs:List V},ny l=some xs→l.length=xs.length∧∀ i,i<xs.length→Rel c (l.getD i undef) (xs.getD i .aU)
 |[],xs,h=>by simp only [ny,aas] at h;subst h;simp
 |v::r,xs,h=>by
  simp only [ny] at h
  split at h<;>simp only [aas,reduceCtorEq] at h
  rename_i x l h1 h2
  subst h
  obtain ⟨h3,h4⟩:=ko h2
  refine ⟨by simp [h3],fun i hi=>?_⟩
  cases i with
  |zero=>simpa using tK h1
  |succ i=>simpa using h4 i (by simpa using hi)
theorem aK (arr:Array Value) (i:Nat):arr.getD i undef=arr.toList.getD i undef:=by
 simp [aav,aat]
theorem mO (v:Value):Rel c v (ofConst v):=by
 unfold ofConst
 split
 ·rename_i cs
  split
  ·rename_i l h
   obtain ⟨h1,h2⟩:=ko (c:=c) h
   exact .agg _ _ (by simpa using h1) fun i hi=>by rw [aK];exact h2 i hi
  ·exact .aU _
 ·cases h:tJ v with
  |none=>exact .aU _
  |some x=>exact tK h
theorem bJ {a:Act} {fr:Fr} (h:cC c a.tmps fr) (x:Operand):Rel c (a.eval x) (ev fr x):=by
 cases x with
 |tmp t=>exact h t
 |const v=>exact mO v
 |global g=>exact .aU _
 |func f=>exact .jE f #[] [] rfl (fun i hi=>by simp at hi)
theorem tL:∀ {l:List V} {ds:List D},oE l=some ds→l.length=ds.length∧∀ {vs:List Value},(∀ i,i<l.length→Rel c (vs.getD i undef) (l.getD i .aU))→∀ i,i<ds.length→de c.H (vs.getD i undef) (ds.getD i .eX)
 |[],ds,h=>by simp only [oE,aas] at h;subst h;simp
 |v::r,ds,h=>by
  simp only [oE] at h
  split at h<;>simp only [aas,reduceCtorEq] at h
  rename_i x l h1 h2
  subst h
  obtain ⟨h3,h4⟩:=tL h2
  refine ⟨by simp [h3],fun {vs} hv i hi=>?_⟩
  cases i with
  |zero=>simpa using (hv 0 (by simp)).me (by simpa using h1)
  |succ i=>
   have:=h4 (vs:=vs.tail) (fun j hj=>by
    have:=hv (j+1) (by simpa using hj)
    cases vs<;>simpa using this) i (by simpa using hi)
   cases vs<;>simpa using this
theorem bf.fresh (h:bf c w st) {k:Nat} (hk:w.heap.size≤k) (o:Nat):c.H k o=none:=by
 cases hv:c.H k o with
 |none=>rfl
 |some v=>
  have:=World.block_lt_of_cell? w _ (h.cy k o v hv)
  simp at this
  omega
theorem bf.mult (h:bf c w st) {i k:Nat} (hk:c.mu[i]?=some k):k<w.heap.size:=by
 have hi:i<st.aj.length:=by rw [←h.cN];exact (aaw.1 hk).1
 obtain ⟨o,ho,_⟩:=h.blk i k _ hk (aay hi)
 exact (aaV.1 ho).1
theorem bf.BX (h:bf c w st) {id:Nat} {t:Tok} (ht:c.tok[id]?=some t) {g:Nat} (hg:t.val.ownBlock=some g):c.base≤g∧g<w.heap.size:=by
 obtain ⟨_,⟨_,hd⟩|⟨xs,ho,_⟩⟩:=h.cz id t ht
 ·rw [hd] at hg;cases hg
 exact ho.lt g hg
theorem gV {α:Type} {l:List α} {x y:α} {i:Nat} (h:l[i]?=some y):(l++[x])[i]?=some y:=by
 rw [aaC (aaw.1 h).1];exact h
theorem bH {α:Type} {l:List α} {x y:α} {i:Nat} (h:(l++[x])[i]?=some y):l[i]?=some y∨(i=l.length∧y=x):=by
 by_cases hi:i<l.length
 ·rw [aaC hi] at h;exact .inl h
 ·rw [aaz (by omega)] at h
  have:i - l.length=0:=by
   rcases Nat.eq_zero_or_pos (i - l.length) with h'|h'
   ·exact h'
   ·rw [List.getElem?_eq_none (by simp;omega)] at h;simp at h
  rw [this] at h
  simp at h
  exact .inr ⟨by omega,h.symm⟩
def Ctx.c7 (c:Ctx) (k:Nat):Ctx:= { c with mu:=c.mu++[k] }
theorem Ext.c7 (c:Ctx) (k:Nat):Ext c (c.c7 k):=
 ⟨fun _ _ _ h=>h,fun _ _ h=>gV h,fun _ t h=>⟨t,h,rfl,aax _,fun _=>rfl⟩,rfl,rfl⟩
theorem bf.alloc (h:bf c w st) {o:Obj} {B:aJ} (hb:eS c o B):
  bf (c.c7 w.heap.size) (w.alloc o) { st with aj:=st.aj++[B] } where
 cN:=by simp [Ctx.c7,h.cN]
 dH:=by
  intro i j k hi hj
  rcases bH hi with hi|⟨hi,hk⟩<;>rcases bH hj with hj|⟨hj,hk'⟩
  ·exact h.dH i j k hi hj
  ·subst hk';have:=h.mult hi;omega
  ·subst hk;have:=h.mult hj;omega
  ·omega
 cI:=by
  intro i k hi
  rcases bH hi with hi|⟨_,hk⟩
  ·exact h.cI i k hi
  ·subst hk;exact h.cw
 mS:=by
  intro i k o hi
  rcases bH hi with hi|⟨_,hk⟩
  ·exact h.mS i k o hi
  ·subst hk;exact h.fresh (aax _) o
 blk:=by
  intro b k B' hk hB
  rcases bH hk with hk|⟨hb',hk⟩
  ·have hbl:b<st.aj.length:=by rw [←h.cN];exact (aaw.1 hk).1
   obtain ⟨o',ho',hr⟩:=h.blk b k B' hk (by rw [aaC hbl] at hB;exact hB)
   exact ⟨o',by rw [heap_alloc_old w o (h.mult hk)];exact ho',hr.mono (Ext.c7 c _)⟩
  ·subst hk
   rw [hb',h.cN] at hB
   simp at hB
   subst hB
   exact ⟨o,heap_alloc_new w o,hb.mono (Ext.c7 c _)⟩
 cu:=h.cu
 cz:=by
  intro id t ht
  obtain ⟨h0,hd|⟨xs,ho,hg⟩⟩:=h.cz id t ht
  ·exact ⟨h0,.inl hd⟩
  refine ⟨h0,.inr ⟨xs,ho.alloc o,fun g hgb=>?_⟩⟩
  obtain ⟨h1,h2,h3⟩:=hg g hgb
  refine ⟨h1,h2,?_⟩
  have:=(ho.lt g hgb).2
  simp only [Ctx.c7,List.mem_append,List.mem_singleton,not_or]
  exact ⟨h3,by omega⟩
 cK:=h.cK
 cy:=by
  intro k o' v hv
  have:=h.cy k o' v hv
  rw [World.cell?_alloc_lt w o _ (World.block_lt_of_cell? w _ this)]
  exact this
 below:=h.below.alloc h.cw o
 cw:=by
  have:=h.cw
  simp only [World.size_alloc,Ctx.c7]
  omega
def Ctx.kT (c:Ctx) (k:Nat) (cs:Array Value):Ctx:= { c with H:=fun b o=>if b=k then cs[o]? else c.H b o }
theorem bf.xK (h:bf c w st) (cs:Array Value):Ext c (c.kT w.heap.size cs):=by
 refine ⟨fun k o v hv=>?_,fun _ _ h=>h,fun _ t h=>⟨t,h,rfl,aax _,fun _=>rfl⟩,rfl,rfl⟩
 have:k≠w.heap.size:=by
  intro e
  subst e
  rw [h.fresh (aax _)] at hv
  simp at hv
 simp [Ctx.kT,this,hv]
theorem bf.kT (h:bf c w st) (cs:Array Value) (e:TypeId):bf (c.kT w.heap.size cs) (w.alloc (.cells cs e)) st where
 cN:=h.cN
 dH:=h.dH
 cI:=h.cI
 mS:=by
  intro i k o hk
  have:=h.mult hk
  simp only [Ctx.kT]
  rw [if_neg (by omega)]
  exact h.mS i k o hk
 blk:=by
  intro b k B hk hB
  obtain ⟨o,ho,hr⟩:=h.blk b k B hk hB
  exact ⟨o,by rw [heap_alloc_old w _ (h.mult hk)];exact ho,hr.mono (h.xK cs)⟩
 cu:=h.cu
 cz:=by
  intro id t ht
  obtain ⟨h0,hd|⟨xs,ho,hg⟩⟩:=h.cz id t ht
  ·exact ⟨h0,.inl hd⟩
  refine ⟨h0,.inr ⟨xs,ho.alloc _,fun g hgb=>?_⟩⟩
  obtain ⟨h1,h2,h3⟩:=hg g hgb
  have hlt:=(ho.lt g hgb).2
  have hne:g≠w.heap.size:=by omega
  exact ⟨fun o ho=>by simp only [Ctx.kT,if_neg hne];exact h1 o ho,fun o ho=>by simp only [Ctx.kT,if_neg hne];exact h2 o ho,h3⟩
 cK:=h.cK
 cy:=by
  intro k o v hv
  by_cases hk:k=w.heap.size
  ·subst hk
   simp only [Ctx.kT,if_true] at hv
   rw [World.cell?_alloc_new]
   exact hv
  ·simp only [Ctx.kT,if_neg hk] at hv
   have:=h.cy k o v hv
   rw [World.cell?_alloc_lt w _ _ (World.block_lt_of_cell? w _ this)]
   exact this
 below:=h.below.alloc h.cw _
 cw:=by
  have:=h.cw
  simp only [World.size_alloc,Ctx.kT]
  omega
theorem bf.drew (h:bf c w st):bf c w.drew st where
 cN:=h.cN
 dH:=h.dH
 cI:=h.cI
 mS:=h.mS
 blk:=h.blk
 cu:=h.cu
 cz:=h.cz
 cK:=h.cK
 cy:=h.cy
 below:=h.below.drew
 cw:=h.cw
end Go.Abs
end
section
namespace Go.Abs
open Go.RowKit
variable {P:Program} {c:Ctx} {w:World} {st:St}
theorem F4 {t:TypeId} {n:Nat} (h:ef P t=some n):∃ i,P.info? t=some i∧i.size=n:=by
 unfold ef at h
 cases hi:P.info? t with
 |none=>simp [hi] at h
 |some i=>exact ⟨i,rfl,by simpa [hi] using h⟩
theorem gr {t:TypeId} {n:Nat} (h:ef P t=some n) (w:World):(sizeOf t).run P w= .ok n w:=by
 obtain ⟨i,hi,hs⟩:=F4 h
 simp [sizeOf,typeInfo,hi,hs]
theorem lP {t:TypeId} {b:Bool} (h:dx P t=some b) (w:World):(isAgg t).run P w= .ok b w:=by
 unfold dx at h
 cases hd:P.underlying t with
 |none=>simp [hd] at h
 |some d=>
  rw [hd] at h
  simp only [isAgg,Sem.run_bind,run_underlying hd,Result.andThen_ok]
  cases d<;>simp_all
theorem kU {t:TypeId} {z:Value} (h:zeroOf P t=some z) (w:World):(zeroValue t).run P w= .ok z w:=by
 unfold zeroOf at h
 cases hi:P.info? t with
 |none=>simp [hi] at h
 |some i=>
  rw [hi] at h
  simp only [Option.bind_some] at h
  simp [zeroValue,typeInfo,hi,h]
theorem jY {t:TypeId} (h:isStr P t=true):P.underlying t=some .string:=by
 unfold isStr at h
 split at h<;>simp_all
theorem F5 {t:TypeId} (h:isBool P t=true):P.underlying t=some .bool:=by
 unfold isBool at h
 split at h<;>simp_all
theorem DJ {t:TypeId} {k:IntKind} (h:ud P t=some k):P.underlying t=some (.int k):=by
 unfold ud at h
 split at h<;>simp_all
theorem kz {t e:TypeId} {sz by_:Nat} (h:mU P t=some (e,sz,by_)):P.underlying t=some (.slice e)∧∃ i,P.info? e=some i∧i.size=sz∧i.bytes=by_:=by
 unfold mU at h
 split at h
 ·rename_i e' he
  cases hi:P.info? e' with
  |none=>simp [hi] at h
  |some i=>
   rw [hi] at h
   simp at h
   obtain ⟨rfl,rfl,rfl⟩:=h
   exact ⟨he,i,hi,rfl,rfl⟩
 ·simp at h
theorem nA {t e:TypeId} (h:P.underlying t=some (.slice e)):P.underlying t=some (.slice (P.elem t)):=by
 simp [Program.elem,h]
theorem toList_eq (s:ByteArray):s.toList=s.data.toList:=ByteArray.toList_eq s
theorem jq (op:BinOp) (t:TypeId) (xo yo:Operand) (x y:Value) (h1:x.oneCell'=true) (h2:x≠ .nilIface) (w:World):
  (eqGuard op t xo yo x y).run P w= .ok () w:=by
 unfold eqGuard
 cases x<;>cases op<;>cases y<;>simp_all [Value.oneCell']
theorem CF (op:BinOp) (t:TypeId) {x y:Value} {a b r:D} (hx:de c.H x a) (hy:de c.H y b) (h:kD op a b=some r):
  x.oneCell'=true∧x≠ .nilIface∧∃ cv,(binOp op t x y).run P w= .ok cv w∧de c.H cv r:=by
 cases hx<;>cases hy<;>simp only [kD,reduceCtorEq] at h
 case int.int k n k' m=>
  refine ⟨rfl,by simp,?_⟩
  cases op
  case shl=>simp only at h;split at h<;>simp only [aas,reduceCtorEq] at h;subst h;exact ⟨_,by simp [binOp,Op.shift,shlI, *],.int _ _⟩
  case shr=>simp only at h;split at h<;>simp only [aas,reduceCtorEq] at h;subst h;exact ⟨_,by simp [binOp,Op.shift,shrI, *],.int _ _⟩
  all_goals simp only at h
  all_goals by_cases hk:k=k'
  all_goals first
   |(rw [if_neg hk] at h;cases h;done)
   |(rw [if_pos hk] at h;subst hk)
  all_goals try simp only [aas] at h
  all_goals first
   |(subst h;refine ⟨_,?_,.int _ _⟩;simp [binOp,Op.intArith];done)
   |(subst h;refine ⟨_,?_,.int _ _⟩;simp [binOp,Op.intBits,xS];done)
   |(subst h;refine ⟨_,?_,.bool _⟩;simp [binOp,Op.intCmp];done)
   |(split at h<;>simp only [aas,reduceCtorEq] at h;subst h;exact ⟨_,by simp [binOp,Op.intDiv, *],.int _ _⟩)
 case str.str s l hl s' l' hl'=>
  refine ⟨rfl,by simp,?_⟩
  subst hl
  subst hl'
  cases op<;>simp only [aas,reduceCtorEq] at h
  case add=>
   split at h<;>simp only [aas,reduceCtorEq] at h
   rename_i hle
   subst h
   have h':s.size+s'.size≤9223372036854775807:=by
    simp only [NY,aaD] at hle
    have e1:s.data.size=s.size:=rfl
    have e2:s'.data.size=s'.size:=rfl
    omega
   refine ⟨.string (s++s'),?_,.str _ _ (by simp)⟩
   have:=run_string_add_sum (P:=P) w s s' h'
   simpa [binOp] using this
  all_goals
   subst h
   refine ⟨_,?_,.bool _⟩
   simp only [binOp,Op.stringOp,toList_eq]
   first|rfl|simp
theorem uz (op:BinOp) (t:TypeId) (xo yo:Operand) {x y:Value} {X Y Z:V} (hx:Rel c x X) (hy:Rel c y Y) (h:evalBin P op t X Y=some Z):
  ∃ cv,(do eqGuard op t xo yo x y;binOp op t x y:Sem Value).run P w= .ok cv w∧Rel c cv Z:=by
 unfold evalBin at h
 split at h
 ·rename_i a b
  cases hx with|d _ _ hx=>?_
  cases hy with|d _ _ hy=>?_
  cases hx
  cases hy
  split at h
  ·rename_i hb
   have hu:=F5 hb
   split at h<;>simp only [aas,reduceCtorEq] at h<;>subst h
   ·refine ⟨.bool (a==b),?_,.d _ _ (.bool _)⟩
    simp only [Sem.run_bind,jq (P:=P) _ t xo yo (.bool a) _ rfl (by simp),Result.andThen_ok,run_eql_bool (P:=P) w t a b hu]
   ·refine ⟨.bool (!(a==b)),?_,.d _ _ (.bool _)⟩
    simp only [Sem.run_bind,jq (P:=P) _ t xo yo (.bool a) _ rfl (by simp),Result.andThen_ok,run_neq_bool (P:=P) w t a b hu]
  ·simp at h
 ·rename_i a b _
  cases hx with|d _ _ hx=>?_
  cases hy with|d _ _ hy=>?_
  cases hr:kD op a b with
  |none=>simp [hr] at h
  |some r=>
   rw [hr] at h
   simp only [aaR,aas] at h
   subst h
   obtain ⟨h1,h2,cv,h3,h4⟩:=CF (P:=P) (w:=w) op t hx hy hr
   exact ⟨cv,by simp only [Sem.run_bind,jq (P:=P) _ t xo yo _ _ h1 h2,Result.andThen_ok,h3],.d _ _ h4⟩
 ·simp at h
theorem vN {t:TypeId} (h:isIface P t=some true):P.underlying t=some (.interface (P.methodsAt t)):=by
 unfold isIface at h
 unfold Program.methodsAt
 cases hu:P.underlying t with
 |none=>simp [hu] at h
 |some d=>cases d<;>simp_all
theorem uA (op:BinOp) (t:TypeId) (xo yo:Operand) {x y:Value} {X Y Z:V} (hx:Rel c x X) (hy:Rel c y Y) (h:kZ P op t (mc xo||mc yo) X Y=some Z):
  ∃ cv,(do eqGuard op t xo yo x y;binOp op t x y:Sem Value).run P w= .ok cv w∧Rel c cv Z:=by
 unfold kZ at h
 split at h
 ·cases hx with|d _ _ hx=>?_
  cases hy with|d _ _ hy=>?_
  cases hx with|nz u v=>?_
  cases hy
  unfold AP at h
  split at h
  ·rename_i hi
   have hu:=vN hi
   simp only [if_true] at h
   split at h<;>simp only [aas,reduceCtorEq] at h<;>subst h
   ·exact ⟨_,by simp only [Sem.run_bind,jq (P:=P) _ t xo yo (.iface u v) _ rfl (by simp),Result.andThen_ok,run_eql_held_nil (P:=P) w t u v hu],.d _ _ (.bool _)⟩
   ·exact ⟨.bool true,by simp only [Sem.run_bind,jq (P:=P) _ t xo yo (.iface u v) _ rfl (by simp),Result.andThen_ok,run_neq_held_nil (P:=P) w t u v hu],.d _ _ (.bool true)⟩
  ·simp at h
 ·cases hx with|d _ _ hx=>?_
  cases hy with|d _ _ hy=>?_
  cases hx
  cases hy
  unfold AP at h
  split at h
  ·rename_i hi
   have hu:=vN hi
   split at h
   ·rename_i hk
    have hg:∀ op,(eqGuard op t xo yo .nilIface .nilIface).run P w= .ok () w:=by
     intro op
     unfold eqGuard
     cases xo<;>cases yo<;>cases op<;>simp_all [mc]
    split at h<;>simp only [aas,reduceCtorEq] at h<;>subst h
    ·exact ⟨_,by simp only [Sem.run_bind,hg,Result.andThen_ok,run_eql_nil_nil (P:=P) w t hu],.d _ _ (.bool _)⟩
    ·exact ⟨.bool false,by simp only [Sem.run_bind,hg,Result.andThen_ok,run_neq_nil_nil (P:=P) w t hu],.d _ _ (.bool false)⟩
   ·simp at h
  ·simp at h
 ·simp at h
theorem xL (op:BinOp) (t:TypeId) (xo yo:Operand) {x y:Value} {X Y Z:V} (hx:Rel c x X) (hy:Rel c y Y) (h:(evalBin P op t X Y).or (kZ P op t (mc xo||mc yo) X Y)=some Z):
  ∃ cv,(do eqGuard op t xo yo x y;binOp op t x y:Sem Value).run P w= .ok cv w∧Rel c cv Z:=by
 cases hb:evalBin P op t X Y with
 |some z=>rw [hb] at h;simp only [Option.some_or,aas] at h;subst h;exact uz op t xo yo hx hy hb
 |none=>rw [hb] at h;simp only [Option.none_or] at h;exact uA op t xo yo hx hy h
theorem wG (a b:Option V) (st:St):G0 a b st=(a.or b).map (·,st):=by cases a<;>rfl
theorem xM (op:UnOp) {x:Value} {X Z:V} (hx:Rel c x X) (h:aai op X=some Z):∃ cv,(Op.unary op x).run P w= .ok cv w∧Rel c cv Z:=by
 unfold aai at h
 split at h<;>simp only [aas,reduceCtorEq] at h<;>subst h
 ·cases hx with|d _ _ hx=>?_
  cases hx
  exact ⟨_,rfl,.d _ _ (.bool _)⟩
 ·cases hx with|d _ _ hx=>?_
  cases hx
  exact ⟨_,rfl,.d _ _ (.int _ _)⟩
 ·cases hx with|d _ _ hx=>?_
  cases hx
  exact ⟨_,by simp [Op.unary,Op.intBits,xS],.d _ _ (.int _ _)⟩
theorem F6 {H:GH} (hs:∀ k o v,H k o=some v→w.cell? ⟨k,o,none⟩=some v) {v:Value} {es:List (List D)} {l:List UInt8} (r:de H v (.sl es)) (hb:bytesOf es=some l):
  ∃ s,(Conv.bytesToString v).run P w= .ok (.string s) w∧s.data.toList=l:=by
 cases r with
 |slnil=>
  simp only [bytesOf,aas] at hb
  subst hb
  exact ⟨.empty,rfl,rfl⟩
 |uV a=>
  simp only [bytesOf,aas] at hb
  subst hb
  exact ⟨.empty,rfl,rfl⟩
 |sl k off n cap sz vs es h1 h2 h3 h4 h5=>
  have key:∀ (es:List (List D)) (l:List UInt8),bytesOf es=some l→∃ ns:List Int,es=ns.map (fun n=>[D.int .u8 n])∧l=ns.map (fun n=>UInt8.ofNat n.toNat):=by
   intro es
   induction es with
   |nil=>intro l h;simp only [bytesOf,aas] at h;exact ⟨[],rfl,h.symm⟩
   |cons r rs ih=>
    intro l h
    simp only [bytesOf] at h
    split at h<;>simp only [aas,reduceCtorEq] at h
    rename_i b l' hb hl
    obtain ⟨ns,e1,e2⟩:=ih l' hl
    unfold byteOf at hb
    split at hb<;>simp only [aas,reduceCtorEq] at hb
    rename_i n
    exact ⟨n::ns,by simp [e1],by simp [←h,←hb,e2]⟩
  obtain ⟨ns,e1,e2⟩:=key es l hb
  subst e1
  simp only [aaO] at h1
  have hcell:∀ j v,(ns.map (Value.int .u8))[j]?=some v→w.cell? ((⟨k,off,none⟩:Addr).add j)=some v:=by
   intro j v hv
   have hj:j<ns.length:=by
    have:=(aaw.1 hv).1
    simpa using this
   have hsz:sz=1:=by
    have:=h3 [D.int .u8 ns[0]] (List.mem_map.2 ⟨ns[0],aaQ _,rfl⟩)
    simpa using this.symm
   subst hsz
   have ha:=hs _ _ _ (h4 j 0 (by omega) (by omega))
   have hr:=h5 j 0 (by omega) (by omega)
   simp only [aat,aaT,aay hj,aaR,aaI,abm] at hr
   simp only [aaT,aay hj,aaR,aas] at hv
   have hadd:(⟨k,off,none⟩:Addr).add j=⟨k,off+j*1+0,none⟩:=by unfold Addr.add;split<;>simp_all
   rw [hadd,ha,←hv]
   generalize vs j 0=q at hr
   cases hr
   rfl
  have hl:=run_loadCells_list (P:=P) w ⟨k,off,none⟩ (ns.map (Value.int .u8)) hcell
  simp only [aaO,h1] at hl
  refine ⟨_,run_bytesToString (P:=P) w _ n cap ns hl,?_⟩
  rw [e2]
  have fold:∀ (ns:List Int) (s:ByteArray),(ns.foldl (fun r n=>r.push (UInt8.ofNat n.toNat)) s).data.toList=s.data.toList++ns.map (fun n=>UInt8.ofNat n.toNat):=by
   intro ns
   induction ns with
   |nil=>intro s;simp
   |cons n ns ih=>intro s;simp only [List.foldl_cons,ih];simp [ByteArray.push]
  rw [fold]
  simp
theorem CG {t:TypeId} (h:s3 P t=true):∃ e,P.underlying t=some (.slice e)∧P.underlying e=some (.int .u8):=by
 unfold s3 at h
 split at h
 ·rename_i e he
  split at h
  ·rename_i hu;exact ⟨e,he,hu⟩
  ·simp at h
 ·simp at h
theorem tM (hc:bf c w st) (src dst:TypeId) {x:Value} {X Z:V} (hx:Rel c x X) (h:evalConv P src dst X=some Z):
  ∃ cv,(convert src dst x).run P w= .ok cv w∧Rel c cv Z:=by
 unfold evalConv at h
 split at h
 ·cases hx with|d _ _ hx=>?_
  cases hx
  rename_i k n
  split at h<;>simp only [aas,reduceCtorEq] at h
  rename_i ks k' hs hd
  subst h
  refine ⟨.int k' (k'.wrap n),?_,.d _ _ (.int _ _)⟩
  have hs':=DJ hs
  have hd':=DJ hd
  simp [convert,run_underlying hs',run_underlying hd',Conv.intToInt]
 ·cases hx with|d _ _ hx=>?_
  cases hx with|str s l e=>?_
  split at h<;>simp only [aas,reduceCtorEq] at h
  rename_i hsd
  simp only [aaA] at hsd
  subst h
  refine ⟨.string s,?_,.d _ _ (.str s _ e)⟩
  have hs':=jY hsd.1
  have hd':=jY hsd.2
  simp [convert,run_underlying hs',run_underlying hd']
 ·split at h
  ·rename_i es he
   split at h
   ·rename_i hb
    simp only [aaA] at hb
    obtain ⟨e,h1,h2⟩:=CG hb.1
    have h3:=jY hb.2
    cases hl:bytesOf es with
    |none=>simp [hl] at h
    |some l=>
     rw [hl] at h
     simp only [aaR,aas] at h
     subst h
     have r:=hx.me he
     obtain ⟨s,hr,hs⟩:=F6 (P:=P) (w:=w) hc.cy r hl
     refine ⟨.string s,?_,.d _ _ (.str s l hs)⟩
     have:∃ a n k,x= .slice a n k:=by cases r<;>exact ⟨_,_,_,rfl⟩
     obtain ⟨a,n,k,rfl⟩:=this
     rw [run_convert_bytes_string (P:=P) w src dst e a n k h1 h2 h3]
     exact hr
   ·simp at h
  ·simp at h
theorem addr_add (k off j:Nat):(⟨k,off,none⟩:Addr).add j=⟨k,off+j,none⟩:=by unfold Addr.add;split<;>simp_all
theorem lV {t:TypeId} {sz:Nat} (hb:dx P t=some true) (hz:ef P t=some sz) (k off:Nat) (f:Nat→Value) (h:∀ j,j<sz→w.cell? ⟨k,off+j,none⟩=some (f j)):
  (loadVar t ⟨k,off,none⟩).run P w= .ok (.agg ((List.range sz).map f).toArray) w:=by
 have hl:=run_loadCells (P:=P) w ⟨k,off,none⟩ sz f (fun j hj=>by rw [addr_add];exact h j hj)
 simp only [loadVar,Sem.run_bind,lP hb,Result.andThen_ok,if_true,gr hz,hl,Sem.run_pure]
theorem lW {t:TypeId} (hb:dx P t=some false) (a:Addr) (v:Value) (h:w.cell? a=some v):(loadVar t a).run P w= .ok v w:=by
 simp [loadVar,lP hb,h]
theorem nO (n:Nat) (f:Nat→Value) (i:Nat) (hi:i<n):((List.range n).map f).toArray.getD i undef=f i:=by
 simp [aav,hi]
theorem bf.rowAt (hc:bf c w st) {b k:Nat} {B:aJ} {cs:List V} (hk:c.mu[b]?=some k) (hB:st.aj[b]?=some B) (hrow:B.row=some cs):
  ∃ arr elem,w.heap[k]?=some (.cells arr elem (0,0))∧arr.size=cs.length∧(∀ i,i<cs.length→Rel c (arr.getD i undef) (cs.getD i .aU))∧(∀ e cs',B= .tc e cs'→elem=e):=by
 obtain ⟨o,ho,hr⟩:=hc.blk b k _ hk hB
 cases hr with
 |cells arr elem cs' hs hr=>simp only [aJ.row,aas] at hrow;subst hrow;exact ⟨arr,elem,ho,hs,hr,fun e cs' h=>by cases h⟩
 |tc arr elem cs' hs hr=>simp only [aJ.row,aas] at hrow;subst hrow;exact ⟨arr,elem,ho,hs,hr,fun e cs' h=>by cases h;rfl⟩
 |iter s l pos e=>simp [aJ.row] at hrow
 |mp es clock kd n f hf=>simp [aJ.row] at hrow
theorem mP {α:Type} (l:List α) (off sz i:Nat) (d:α) (hi:i<sz):((l.drop off).take sz).getD i d=l.getD (off+i) d:=by
 simp [aat,hi,List.getElem?_drop]
theorem jM (t:TypeId) (a:Addr) (w:World):(Instr.loadAt t (.pointer (some a))).run P w=(loadVar t a).run P w:=by
 simp only [Instr.loadAt,Instr.sureAddr,Sem.run_bind,Sem.run_pure,Result.andThen_ok]
theorem mb (hc:bf c w st) (t:TypeId) {av:Value} {A Z:V} (ha:Rel c av A) (h:bn P t A st=some Z):
  ∃ cv,(Instr.loadAt t av).run P w= .ok cv w∧Rel c cv Z:=by
 unfold bn at h
 split at h
 case h_2=>simp at h
 rename_i b sz hb hz
 split at h
 ·rename_i k off
  split at h
  case h_2=>simp at h
  rename_i cs hBr
  obtain ⟨B,hB,hrow⟩:=Option.bind_eq_some_iff.1 hBr
  cases ha with|ptr _ kk _ hk=>?_
  obtain ⟨arr,elem,hh,hs,hr,_⟩:=hc.rowAt hk hB hrow
  have hcell:∀ j,j<cs.length→w.cell? ⟨kk,j,none⟩=some (arr.getD j undef):=by
   intro j hj
   simp [World.cell?,hh,aav,hs▸hj]
  unfold iL at h
  split at h
  ·rename_i hbt
   subst hbt
   split at h<;>simp only [aas,reduceCtorEq] at h
   rename_i hle
   subst h
   refine ⟨_,(jM t _ w).trans (lV hb hz kk off (fun j=>arr.getD (off+j) undef) (fun j hj=>hcell _ (by omega))),?_⟩
   ·refine .agg _ _ (by simp;omega) fun i hi=>?_
    simp only [aaN,aa0] at hi
    rw [nO _ _ _ (by omega),mP _ _ _ _ _ (by omega)]
    exact hr _ (by omega)
  ·rename_i hbt
   have hbt':b=false:=by simpa using hbt
   subst hbt'
   have hlt:off<cs.length:=(aaw.1 h).1
   refine ⟨_,(jM t _ w).trans (lW hb _ _ (hcell off hlt)),?_⟩
   ·have:=hr off hlt
    rwa [show cs.getD off .aU=Z by simp [aat,h]] at this
 ·rename_i cs off
  cases ha with|ep kk base _ vs _ h1 h2=>?_
  have hcell:∀ j,j<cs.length→w.cell? ⟨kk,base+j,none⟩=some (vs j):=fun j hj=>hc.cy _ _ _ (h1 j hj)
  unfold pG at h
  split at h
  ·rename_i hbt
   subst hbt
   split at h<;>simp only [aas,reduceCtorEq] at h
   rename_i hle
   subst h
   refine ⟨_,(jM t _ w).trans (lV hb hz kk (base+off) (fun j=>vs (off+j)) (fun j hj=>by rw [abe];exact hcell _ (by omega))),?_⟩
   ·refine .agg _ _ (by simp;omega) fun i hi=>?_
    simp only [aaO,aaN,aa0] at hi
    rw [nO _ _ _ (by omega)]
    rw [show (((cs.drop off).take sz).map V.d).getD i .aU= .d (cs.getD (off+i) .eX) by
     simp only [aat,aaT,abl,List.getElem?_drop]
     rw [if_pos (by omega),aay (by omega)]
     rfl]
    exact .d _ _ (h2 _ (by omega))
  ·rename_i hbt
   have hbt':b=false:=by simpa using hbt
   subst hbt'
   cases hx:cs[off]? with
   |none=>simp [hx] at h
   |some x=>
    rw [hx] at h
    simp only [aaR,aas] at h
    subst h
    have hlt:off<cs.length:=(aaw.1 hx).1
    refine ⟨_,(jM t _ w).trans (lW hb _ _ (hcell off hlt)),?_⟩
    ·have:=h2 off hlt
     rw [show cs.getD off .eX=x by simp [aat,hx]] at this
     exact .d _ _ this
 ·simp at h
theorem cQ {α:Type} (l:List α) (off:Nat) (x:List α) (h:off+x.length≤l.length):(splice l off x).length=l.length:=by
 simp [splice];omega
theorem gv {α:Type} (l:List α) (off:Nat) (x:List α) (d:α) (h:off+x.length≤l.length) (i:Nat):
  (splice l off x).getD i d=if i<off then l.getD i d else if i<off+x.length then x.getD (i - off) d else l.getD i d:=by
 unfold splice
 simp only [aat]
 by_cases h1:i<off
 ·rw [if_pos h1,aaG,aaC (by simp;omega),abl,if_pos h1]
 ·rw [if_neg h1]
  by_cases h2:i<off+x.length
  ·rw [if_pos h2,aaC (by simp;omega),aaz (by simp;omega)]
   simp only [aaN]
   rw [Nat.min_eq_left (by omega)]
  ·rw [if_neg h2,aaz (by simp;omega)]
   simp only [aaB,aaN,List.getElem?_drop]
   rw [Nat.min_eq_left (by omega)]
   congr 2
   omega
theorem bf.setRow (hc:bf c w st) {b k:Nat} {cs':List V} {arr arr':Array Value} {elem:TypeId} (hk:c.mu[b]?=some k) {B B2:aJ} (hB:st.aj[b]?=some B)
  (hh:w.heap[k]?=some (.cells arr elem (0,0))) (hs:arr'.size=cs'.length) (hr:∀ i,i<cs'.length→Rel c (arr'.getD i undef) (cs'.getD i .aU)) (hB2:B2= .cells cs'∨B2= .tc elem cs'):
  bf c (w.setRow k arr') (dY st b B2) where
 cN:=by simp [dY,hc.cN]
 dH:=hc.dH
 cI:=hc.cI
 mS:=hc.mS
 blk:=by
  intro b' k' B' hk' hB'
  by_cases hbb:b'=b
  ·subst hbb
   have hkk:k'=k:=by rw [hk] at hk';exact (Option.some.inj hk').symm
   subst hkk
   have hlt:b'<st.aj.length:=(aaw.1 hB).1
   simp only [dY,aaU hlt,aas] at hB'
   subst hB'
   refine ⟨_,setRow_heap w k' arr arr' elem (0,0) hh,?_⟩
   rcases hB2 with rfl|rfl
   ·exact .cells _ _ _ hs hr
   ·exact .tc _ _ _ hs hr
  ·have hne:k'≠k:=fun e=>hbb (hc.dH b' b k (e▸hk') hk)
   simp only [dY,aaX (Ne.symm hbb)] at hB'
   obtain ⟨o,ho,hrel⟩:=hc.blk b' k' B' hk' hB'
   exact ⟨o,by rw [setRow_other w k k' arr' hne];exact ho,hrel⟩
 cu:=hc.cu
 cz:=by
  intro id t ht
  obtain ⟨h0,hd|⟨xs,ho,hg⟩⟩:=hc.cz id t ht
  ·exact ⟨h0,.inl hd⟩
  refine ⟨h0,.inr ⟨xs,ho.kept (row:=some k) ⟨rfl,rfl,rfl,by simp,fun k' _ hk'=>setRow_other w k k' _ (fun e=>hk' (by rw [e]))⟩ (.inr ?_),hg⟩⟩
  intro e
  exact (hg k e).2.2 (aaP hk)
 cK:=hc.cK
 cy:=by
  intro k' o v hv
  have hne:k'≠k:=by
   intro e
   subst e
   rw [hc.mS b k' o hk] at hv
   simp at hv
  have:=hc.cy k' o v hv
  rw [World.cell?_of_block (w:=w) (setRow_other w k k' arr' hne)]
  exact this
 below:=hc.below.trans ⟨rfl,rfl,rfl,by simp,fun k' hk'=>setRow_other w k k' _ (by have:=hc.cI b k hk;omega)⟩
 cw:=by simpa using hc.cw
theorem rj (hc:bf c w st) (t:TypeId) {av xv:Value} {A X:V} {st':St} (ha:Rel c av A) (hx:Rel c xv X) (h:iJ P t A X st=some st'):
  ∃ w',(Instr.storeAt t av xv).run P w= .ok () w'∧bf c w' st':=by
 unfold iJ at h
 split at h
 case h_2=>simp at h
 rename_i k off sz l hz hl
 split at h
 case isFalse=>simp at h
 rename_i hcond
 obtain ⟨hlen,hone⟩:=hcond
 split at h
 case h_2=>simp at h
 rename_i B hB
 unfold putBlk at h
 split at h
 case h_2=>simp at h
 rename_i cs hrow
 split at h<;>simp only [aas,reduceCtorEq] at h
 rename_i hle
 subst h
 cases ha with|ptr _ kk _ hk=>?_
 obtain ⟨arr,elem,hh,hs,hr,hty⟩:=hc.rowAt hk hB hrow
 have hB2:B.putRow (splice cs off l)= .cells (splice cs off l)∨B.putRow (splice cs off l)= .tc elem (splice cs off l):=by
  cases B with
  |cells cs=>exact .inl rfl
  |tc e cs'=>exact .inr (by rw [hty e cs' rfl];rfl)
  |iter s pos=>simp [aJ.row] at hrow
  |mp kd n f=>simp [aJ.row] at hrow
 obtain ⟨hxs,hxr⟩:=hx.cells hl
 have hst:=run_storeCells_at P kk off elem xv.cells.toList 0 arr w hh (by simp [hxs];omega) (by
  intro v hv
  obtain ⟨i,hi,rfl⟩:=aa4.1 hv
  have hi':i<l.length:=by simpa [hxs] using hi
  have h1:=hxr i hi'
  have h2:(l.getD i .aU).one=true:=by
   rw [aat,aay hi',aaI]
   exact aaM.1 hone _ (aaQ _)
  have:=h1.one h2
  rw [aav,aaL (by omega),aaI] at this
  simpa using this)
 simp only [abk] at hst
 refine ⟨_,?_,hc.setRow hk hB hh (cs':=splice cs off l) (arr':=(splice arr.toList off xv.cells.toList).toArray) ?_ ?_ hB2⟩
 ·simp only [Instr.storeAt,Instr.sureAddr,Sem.run_bind,Sem.run_pure,Result.andThen_ok,storeVar,gr hz]
  rw [if_neg (by rw [hxs,hlen];simp)]
  simpa [splice] using hst
 ·simp [cQ arr.toList off xv.cells.toList (by simp [hs,hxs];omega),cQ cs off l (by omega),hs]
 ·intro i hi
  rw [cQ cs off l (by omega)] at hi
  rw [aK,gv arr.toList off xv.cells.toList undef (by simp [hs,hxs];omega) i,gv cs off l .aU (by omega) i]
  simp only [aaD,hxs]
  split
  ·rw [←aK];exact hr i hi
  ·split
   ·rw [←aK];exact hxr _ (by omega)
   ·rw [←aK];exact hr i hi
end Go.Abs
end
