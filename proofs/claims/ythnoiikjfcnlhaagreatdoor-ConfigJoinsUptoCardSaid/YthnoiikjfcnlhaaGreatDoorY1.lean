/- A step of the proofs of the seat's theorems. -/
import Derived.Test.YthnoiikjfcnlhaaGreatDoorYA
set_option linter.unusedSimpArgs false
set_option linter.unusedVariables false
namespace Go.Proofs.YthnoiikjfcnlhaaGreatDoor
abbrev az:=List UInt8
inductive aX where
 |mk (kind:Int) (bool:Bool) (int:Int) (str:az) (list:List aX) (keys:List az)
 deriving Inhabited
inductive Ex where
 |mk (kind:Int) (name:az) (value:aX) (args:List Ex) (keys:List az)
 deriving Inhabited
structure Tk where
 kind:Int
 text:az
 at_:Int
 deriving Inhabited,DecidableEq
def aX.kind:aX→Int| .mk k _ _ _ _ _=>k
def aX.bool:aX→Bool| .mk _ b _ _ _ _=>b
def aX.int:aX→Int| .mk _ _ i _ _ _=>i
def aX.str:aX→az| .mk _ _ _ s _ _=>s
def aX.list:aX→List aX| .mk _ _ _ _ l _=>l
def aX.keys:aX→List az| .mk _ _ _ _ _ ks=>ks
def Ex.kind:Ex→Int| .mk k _ _ _ _=>k
def Ex.name:Ex→az| .mk _ n _ _ _=>n
def Ex.value:Ex→aX| .mk _ _ v _ _=>v
def Ex.args:Ex→List Ex| .mk _ _ _ ar _=>ar
def Ex.keys:Ex→List az| .mk _ _ _ _ ks=>ks
theorem aX.eta (v:aX):aX.mk v.kind v.bool v.int v.str v.list v.keys=v:=by cases v;rfl
theorem Ex.eta (e:Ex):Ex.mk e.kind e.name e.value e.args e.keys=e:=by cases e;rfl
theorem xW {v x:aX} (h:x∈v.list):sizeOf x<sizeOf v:=by
 cases v with|mk k b i s l ks=>have:=List.sizeOf_lt_of_mem h;simp only [aX.list] at this;simp only [aX.mk.sizeOf_spec];omega
theorem xX {e x:Ex} (h:x∈e.args):sizeOf x<sizeOf e:=by
 cases e with|mk k n v l ks=>have:=List.sizeOf_lt_of_mem h;simp only [Ex.args] at this;simp only [Ex.mk.sizeOf_spec];omega
theorem aX.ind {p:aX→Prop} (h:∀ v,(∀ x∈v.list,p x)→p v):∀ v,p v:=by
 have key:∀ n:Nat,∀ v:aX,sizeOf v<n→p v:=by
  intro n
  induction n with
  |zero=>intro v hv;omega
  |succ n ih=>intro v hv;exact h v fun x hx=>ih x (by have:=xW hx;omega)
 exact fun v=>key _ v (abz _)
theorem Ex.ind {p:Ex→Prop} (h:∀ e,(∀ x∈e.args,p x)→p e):∀ e,p e:=by
 have key:∀ n:Nat,∀ v:Ex,sizeOf v<n→p v:=by
  intro n
  induction n with
  |zero=>intro v hv;omega
  |succ n ih=>intro v hv;exact h v fun x hx=>ih x (by have:=xX hx;omega)
 exact fun v=>key _ v (abz _)
def ct:aX:= .mk 0 false 0 [] [] []
def xQ:Ex:= .mk 0 [] ct [] []
def MZ:Tk:=⟨0,[],0⟩
def bN (c:UInt8):Bool:=decide (97≤c.toNat∧c.toNat≤122∨65≤c.toNat∧c.toNat≤90∨c.toNat=95)
def isDigit (c:UInt8):Bool:=decide (48≤c.toNat∧c.toNat≤57)
def b9 (c:UInt8):Bool:=bN c||isDigit c
def gX:az:=[116,114,117,101]
def fY:az:=[102,97,108,115,101]
def jc:az:=[110,117,108,108]
def isWord (s:az):Bool:=decide (s=[116,114,117,101]∨s=[102,97,108,115,101]∨s=[110,117,108,108])
def bB (s:az):Nat:=
 if s=[124,124] then 2 else if s=[38,38] then 3
 else if s=[61,61]∨s=[33,61]∨s=[60]∨s=[60,61]∨s=[62]∨s=[62,61] then 4
 else if s=[43]∨s=[45] then 5 else if s=[42]∨s=[47]∨s=[37] then 6 else 0
def isName (s:az):Bool:=decide (s.length≤64)&& (match s with|[]=>false|c::r=>bN c&&r.all b9)
def cc (s:az):Bool:=isName s&& !isWord s
def cZ (s:az):Nat:=s.foldl (fun n c=>10*n+(c.toNat - 48)) 0
def fZ (s:az):Bool:=decide (s≠[])&& !decide (1<s.length∧(s.getD 0 0).toNat=48)&&s.all isDigit&&decide (cZ s≤9007199254740992)
def qT (c:UInt8):Int:=
 if isDigit c then (c.toNat:Int) - 48 else if 97≤c.toNat∧c.toNat≤102 then (c.toNat:Int) - 87 else if 65≤c.toNat∧c.toNat≤70 then (c.toNat:Int) - 55 else -1
inductive pE where
 |ok (kind:Int) (text:az) (n:Nat)
 |err (code:Int)
def lZ (s:az):pE:=
 let t:=s.takeWhile b9
 if 64<t.length then .err 3 else .ok 1 t t.length
def vU (s:az):pE:=
 let t:=s.takeWhile isDigit
 if (1<t.length∧(t.getD 0 0).toNat=48)∨(t.length<s.length∧bN (s.getD t.length 0)=true) then .err 5
 else if 9007199254740992<cZ t then .err 2 else .ok 2 t t.length
inductive Gd where
 |ok (c:UInt8) (n:Nat)
 |err (code:Int)
def nQ (r:az):Gd:=
 if r.length=0 then .err 4
 else if (r.getD 0 0).toNat=34∨(r.getD 0 0).toNat=92 then .ok (r.getD 0 0) 2 else if (r.getD 0 0).toNat=110 then .ok 10 2 else if (r.getD 0 0).toNat=116 then .ok 9 2
 else if (r.getD 0 0).toNat=120 then
  if r.length≤1 then .err 4 else if qT (r.getD 1 0)<0 then .err 5 else if r.length≤2 then .err 4 else if qT (r.getD 2 0)<0 then .err 5
  else .ok (UInt8.ofNat (16*qT (r.getD 1 0)+qT (r.getD 2 0)).toNat) 4
 else .err 5
def tW (s:az):Gd:=if (s.getD 0 0).toNat<32 then .err 5 else if (s.getD 0 0).toNat≠92 then .ok (s.getD 0 0) 1 else nQ (s.drop 1)
def Az:Nat→az→az→Nat→pE
 |0,_,_,_=> .err 4
 |_+1,[],_,_=> .err 4
 |f+1,c::r,acc,n=>
  if c.toNat=34 then (if 4096<acc.length then .err 3 else .ok 3 acc (n+1))
  else match tW (c::r) with
   | .err e=> .err e
   | .ok b k=>Az f ((c::r).drop k) (acc++[b]) (n+k)
def j5 (s:az):Bool:=decide (s=[124,124]∨s=[38,38]∨s=[61,61]∨s=[33,61]∨s=[60,61]∨s=[62,61])
def rJ:az:=[60,62,43,45,42,47,37,33,63,58,46,44,61,40,41,91,93,123,125]
def AA (s:az):pE:=
 if j5 (s.take 2) then .ok 4 (s.take 2) 2
 else match s with
  |[]=> .err 5
  |c::_=>if rJ.contains c then .ok 4 [c] 1 else .err 5
def jy (s:az):pE:=
 match s with
 |[]=> .err 5
 |c::r=>if bN c then lZ s else if isDigit c then vU s else if c.toNat=34 then Az (r.length+1) r [] 1 else AA s
def jI (op:az) (n:Nat):Nat:=if op=[40]∨op=[91] then n+1 else if op=[41]∨op=[93] then n - 1 else n
inductive qp where
 |ok (ts:List Tk)
 |err (at_:Nat) (code:Int)
def fO (c:UInt8):Bool:=decide (c.toNat≠10)
def dV:Nat→Nat→az→Nat→List Tk→qp
 |0,_,_,_,out=> .ok out
 |_+1,_,[],_,out=> .ok out
 |f+1,at_,c::r,op,out=>
  if c.toNat=32∨c.toNat=9 then dV f (at_+1) r op out
  else if c.toNat=35 then dV f (at_+((c::r).takeWhile fO).length) ((c::r).drop ((c::r).takeWhile fO).length) op out
  else if c.toNat=10 then dV f (at_+1) r op (if op=0∧(out=[]∨(out.getLast?.map Tk.kind)≠some 5) then out++[⟨5,[],at_⟩] else out)
  else match jy (c::r) with
   | .err e=> .err at_ e
   | .ok k t n=>dV f (at_+n) ((c::r).drop n) (if k=4 then jI t op else op) (out++[⟨k,t,at_⟩])
def tokens (s:az):qp:=if 65536<s.length then .err 0 3 else dV (s.length+1) 0 s 0 []
def dZ (a b:Int):Int:=if a<b then -1 else if b<a then 1 else 0
def gI (a b:Nat):Int:=if a<b then -1 else if b<a then 1 else 0
def ltStr:az→az→Bool
 |_,[]=>false
 |[],_::_=>true
 |a::r,b::s=>decide (a.toNat<b.toNat)||(decide (a=b)&&ltStr r s)
def ZE (a b:az):Int:=if ltStr a b then -1 else if ltStr b a then 1 else 0
def bG (s:az):az:=s.dropWhile (fun c=>decide (c.toNat=48))
def jd (a b:az):Int:=
 let x:=bG a;let y:=bG b
 if x.length≠y.length then gI x.length y.length else if x≠y then ZE x y else gI a.length b.length
def ig:Nat→az→az→Int
 |0,_,_=>0
 |_+1,[],b=>if b=[] then 0 else -1
 |_+1,_::_,[]=>1
 |f+1,c::r,d::s=>
  if isDigit c&&isDigit d then
   let x:=(c::r).takeWhile isDigit;let y:=(d::s).takeWhile isDigit
   if jd x y≠0 then jd x y else ig f ((c::r).drop x.length) ((d::s).drop y.length)
  else if c≠d then gI c.toNat d.toNat else ig f r s
def c8 (a b:az):Int:=ig (a.length+1) a b
def fP (k:az):Bool:=decide (1≤k.length∧k.length≤64)
def dG:List az→Bool
 |[]=>true
 |k::r=>fP k&& (match r with|[]=>true|k'::_=>decide (c8 k k'<0))&&dG r
def gM (v:aX):Bool:=
 (decide (v.kind=1)|| !v.bool)&& (decide (v.kind=2)||decide (v.int=0))&& (decide (v.kind=3)||decide (v.str=[]))&&
 (decide (v.kind=4)||decide (v.kind=5)||decide (v.list=[]))&& (decide (v.kind=5)||decide (v.keys=[]))
def gY (v:aX) (level:Nat):Int:=
 if 16<level then 13 else if v.kind<0∨5<v.kind∨gM v=false then 1
 else if v.int< -9007199254740992∨9007199254740992<v.int then 2
 else if 4096<v.str.length∨1024<v.list.length∨1024<v.keys.length then 3
 else if v.kind=5∧¬ (v.keys.length=v.list.length∧dG v.keys=true) then 1
 else if (v.kind=4∨v.kind=5)∧v.list=[]∧level=16 then 13 else 0
def dI (level:Nat):aX→Int
 | .mk k b i s l ks=>if gY (.mk k b i s l ks) level≠0 then gY (.mk k b i s l ks) level else gx (level+1) l
where gx (level:Nat):List aX→Int
 |[]=>0
 |v::r=>if dI level v≠0 then dI level v else gx level r
def fk (v:aX):Int:=dI 1 v
def M1 (b:Bool):Int:=if b then 1 else 0
def eM:List az→List az→Int
 |[],[]=>0
 |[],_::_=> -1
 |_::_,[]=>1
 |a::r,b::s=>if c8 a b≠0 then c8 a b else eM r s
def je:aX→aX→Int
 | .mk k b i s l ks,v=>
  if k≠v.kind then dZ k v.kind
  else if k=1 then dZ (M1 b) (M1 v.bool)
  else if k=2 then dZ i v.int
  else if k=3 then ZE s v.str
  else if k=4 then jf l v.list
  else if k=5 then (if eM ks v.keys≠0 then eM ks v.keys else jf l v.list)
  else 0
where jf:List aX→List aX→Int
 |[],[]=>0
 |[],_::_=> -1
 |_::_,[]=>1
 |a::r,b::s=>if je a b≠0 then je a b else jf r s
def M3 (a b:aX):Bool:=decide (je a b=0)
def Ge (n:Nat):UInt8:=if n<10 then UInt8.ofNat (48+n) else UInt8.ofNat (87+n)
def eB (c:UInt8):az:=
 if c.toNat=34 then [92,34] else if c.toNat=92 then [92,92] else if c.toNat=10 then [92,110] else if c.toNat=9 then [92,116]
 else if 32≤c.toNat∧c.toNat≤126 then [c] else [92,120,Ge (c.toNat / 16),Ge (c.toNat % 16)]
def fl (s:az):az:=[34]++s.flatMap eB++[34]
def rK:Nat→Nat→az
 |0,_=>[]
 |f+1,n=>if n<10 then [UInt8.ofNat (48+n)] else rK f (n / 10)++[UInt8.ofNat (48+n % 10)]
def rL (n:Nat):az:=rK (n+1) n
def xY (n:Int):az:=if n<0 then 45::rL n.natAbs else rL n.natAbs
def c6 (sep:az):List az→az
 |[]=>[]
 |a::r=>if r=[] then a else a++sep++c6 sep r
def ZA:aX→az
 | .mk k b i s l ks=>
  if k=1 then (if b then gX else fY) else if k=2 then xY i else if k=3 then fl s
  else if k=4 then [91]++c6 [44,32] (J6 l)++[93]
  else if k=5 then [123]++c6 [44,32] (nR l ks)++[125] else jc
where
 J6:List aX→List az
 |[]=>[]
 |v::r=>ZA v::J6 r
 nR:List aX→List az→List az
 |[],_=>[]
 |v::r,ks=>(fl (ks.headD [])++[58,32]++ZA v)::nR r ks.tail
def uF (v:aX):az:=if fk v≠0 then [] else ZA v
def bS:Ex→Nat
 | .mk _ _ _ ar _=>1+cY ar
where cY:List Ex→Nat
 |[]=>0
 |e::r=>bS e+cY r
def jg (v:aX):Bool:=decide (v.kind=0)&& !v.bool&&decide (v.int=0)&&decide (v.str=[])&&decide (v.list=[])&&decide (v.keys=[])
def jJ (e:Ex):Bool:=
 if e.kind=1∨e.kind=2 then decide (e.args.length=0) else if e.kind=3∨e.kind=6 then decide (e.args.length=1)
 else if e.kind=4∨e.kind=7 then decide (e.args.length=2) else if e.kind=8 then decide (e.args.length=3) else true
def dJ (e:Ex):Bool:=
 if e.kind=2∨e.kind=3∨e.kind=5 then cc e.name else if e.kind=6 then decide (e.name=[33]∨e.name=[45])
 else if e.kind=7 then decide (0<bB e.name) else decide (e.name=[])
def gR (e:Ex):Bool:=if e.kind≠10 then decide (e.keys=[]) else decide (e.keys.length=e.args.length)&&e.keys.all fP
def kA:List az→Bool
 |[]=>false
 |k::r=>r.contains k||kA r
def jv (e:Ex) (level:Nat):Int:=
 if 16<level then 13
 else if e.kind<1∨10<e.kind∨(e.kind≠1∧jg e.value=false)∨dJ e=false∨jJ e=false∨gR e=false then 1
 else if e.kind=1∧fk e.value≠0 then fk e.value
 else if 1024<e.args.length then 3 else if kA e.keys then 7 else 0
def dc (level:Nat):Ex→Int
 | .mk k n v ar ks=>if jv (.mk k n v ar ks) level≠0 then jv (.mk k n v ar ks) level else gy (level+1) ar
where gy (level:Nat):List Ex→Int
 |[]=>0
 |e::r=>if dc level e≠0 then dc level e else gy level r
def dW (e:Ex):Int:=if 4096<bS e then 15 else dc 1 e
def oq:Ex→Ex→Bool
 | .mk k n v ar ks,e=>decide (k=e.kind)&&decide (n=e.name)&&decide (ks=e.keys)&&M3 v e.value&&nS ar e.args
where nS:List Ex→List Ex→Bool
 |[],[]=>true
 |[],_::_=>false
 |_::_,[]=>false
 |a::r,b::s=>oq a b&&nS r s
def force (e:Ex):Nat:=
 if e.kind=8 then 1 else if e.kind=7 then bB e.name
 else if e.kind=6∨(e.kind=1∧e.value.kind=2∧e.value.int<0) then 7 else 8
def paren (b:Bool) (s:az):az:=if b then [40]++s++[41] else s
def src:Ex→az
 | .mk k n v ar ks=>
  if k=1 then uF v else if k=2 then n
  else if k=3 then eO ar 0 8++[46]++n
  else if k=4 then eO ar 0 8++[91]++eO ar 1 1++[93]
  else if k=5 then n++[40]++c6 [44,32] (Gf ar)++[41]
  else if k=6 then n++eO ar 0 7
  else if k=7 then eO ar 0 (if bB n=4 then 5 else bB n)++[32]++n++[32]++eO ar 1 (bB n+1)
  else if k=8 then eO ar 0 2++[32,63,32]++eO ar 1 1++[32,58,32]++eO ar 2 1
  else if k=9 then [91]++c6 [44,32] (Gf ar)++[93]
  else [123]++c6 [44,32] (nT ar ks)++[125]
where
 eO:List Ex→Nat→Nat→az
 |[],_,_=>[]
 |e::_,0,need=>paren (decide (force e<need)) (src e)
 |_::r,i+1,need=>eO r i need
 Gf:List Ex→List az
 |[]=>[]
 |e::r=>src e::Gf r
 nT:List Ex→List az→List az
 |[],_=>[]
 |e::r,ks=>(fl (ks.headD [])++[58,32]++src e)::nT r ks.tail
def qq (e:Ex):az:=if dW e≠0 then [] else src e
inductive dF (α:Type) where
 |ok (x:α) (rest:List Tk)
 |err (rest:List Tk) (code:Int)
def cg (s:az) (t:Tk):Bool:=decide (t.kind=4∧t.text=s)
def lit (v:aX):Ex:= .mk 1 [] v [] []
inductive Tag where
 |cond|op (n:Nat)|ops (n:Nat) (e:Ex)|un|chain (e:Ex)|atom
 |args (close:az)|items (close:az) (acc:List Ex)|kW|xR (acc:List Ex) (ks:List az)
def kq (t:Tk):Bool:=(decide (t.kind=1)&&isName t.text)||(decide (t.kind=3)&&decide (t.text.length≤4096))
def cU (s:az) (k:List Tk→Option (dF Ex)):List Tk→Option (dF Ex)
 |[]=>some (.err [] 4)
 |t::r=>if cg s t then k r else some (.err (t::r) 5)
def aL (r:Option (dF Ex)) (k:Ex→List Tk→Option (dF Ex)):Option (dF Ex):=
 match r with
 |some (.ok e rest)=>k e rest
 |x=>x
def pF:Nat→Tag→List Tk→Option (dF Ex)
 |0,_,_=>none
 |f+1,.cond,ts=>aL (pF f (.op 2) ts) fun c r1=>match r1 with
  |[]=>some (.ok c r1)
  |t::r2=>if cg [63] t then aL (pF f .cond r2) fun a r3=>cU [58] (fun r4=>aL (pF f .cond r4) fun b r5=>some (.ok (.mk 8 [] ct [c,a,b] []) r5)) r3 else some (.ok c r1)
 |f+1,.op n,ts=>if n=7 then pF f .un ts else aL (pF f (.op (n+1)) ts) fun e r=>pF f (.ops n e) r
 |f+1,.ops n e,ts=>match ts with
  |[]=>some (.ok e [])
  |t::r=>if t.kind=4∧bB t.text=n then aL (pF f (.op (n+1)) r) fun x r2=>
    let y:=Ex.mk 7 t.text ct [e,x] []
    if n=4 then some (.ok y r2) else pF f (.ops n y) r2
   else some (.ok e ts)
 |f+1,.un,ts=>match ts with
  |[]=>pF f .atom []
  |t::r=>if cg [33] t||cg [45] t then aL (pF f .un r) fun x r2=>some (.ok (.mk 6 t.text ct [x] []) r2) else aL (pF f .atom ts) fun e r2=>pF f (.chain e) r2
 |f+1,.chain e,ts=>match ts with
  |[]=>some (.ok e [])
  |t::r=>if cg [46] t then match r with
    |[]=>some (.err [] 4)
    |u::r2=>if u.kind=1∧cc u.text=true then pF f (.chain (.mk 3 u.text ct [e] [])) r2 else some (.err (u::r2) 5)
   else if cg [91] t then aL (pF f .cond r) fun i r2=>cU [93] (fun r3=>pF f (.chain (.mk 4 [] ct [e,i] [])) r3) r2
   else some (.ok e ts)
 |f+1,.atom,ts=>match ts with
  |[]=>some (.err [] 4)
  |t::r=>
   if t.kind=2 then (if fZ t.text then some (.ok (lit (.mk 2 false (cZ t.text) [] [] [])) r) else some (.err ts 5))
   else if t.kind=3 then (if t.text.length≤4096 then some (.ok (lit (.mk 3 false 0 t.text [] [])) r) else some (.err ts 5))
   else if t.kind=1 then
    if t.text=jc then some (.ok (lit ct) r) else if t.text=gX∨t.text=fY then some (.ok (lit (.mk 1 (decide (t.text=gX)) 0 [] [] [])) r)
    else if isName t.text=true then match r with
      |[]=>some (.ok (.mk 2 t.text ct [] []) r)
      |u::r2=>if cg [40] u then aL (pF f (.args [41]) r2) fun l r3=>some (.ok (.mk 5 t.text ct l.args []) r3) else some (.ok (.mk 2 t.text ct [] []) r)
     else some (.err ts 5)
   else if cg [40] t then aL (pF f .cond r) fun e r2=>cU [41] (fun r3=>some (.ok e r3)) r2
   else if cg [91] t then aL (pF f (.args [93]) r) fun l r3=>some (.ok (.mk 9 [] ct l.args []) r3)
   else if cg [123] t then pF f .kW r
   else some (.err ts 5)
 |f+1,.args close,ts=>match ts with
  |[]=>pF f (.items close []) []
  |t::r=>if cg close t then some (.ok (.mk 0 [] ct [] []) r) else pF f (.items close []) ts
 |f+1,.items close acc,ts=>aL (pF f .cond ts) fun x r=>match r with
  |[]=>some (.err [] 4)
  |t::r2=>if cg close t then some (.ok (.mk 0 [] ct (acc++[x]) []) r2) else if cg [44] t then pF f (.items close (acc++[x])) r2 else some (.err r 5)
 |f+1,.kW,ts=>match ts with
  |[]=>pF f (.xR [] []) []
  |t::r=>if cg [125] t then some (.ok (.mk 10 [] ct [] []) r) else pF f (.xR [] []) ts
 |f+1,.xR acc ks,ts=>match ts with
  |[]=>some (.err [] 4)
  |t::r=>if kq t then cU [58] (fun r2=>aL (pF f .cond r2) fun x r3=>match r3 with
    |[]=>some (.err [] 4)
    |u::r4=>if cg [125] u then some (.ok (.mk 10 [] ct (acc++[x]) (ks++[t.text])) r4) else if cg [44] u then pF f (.xR (acc++[x]) (ks++[t.text])) r4 else some (.err r3 5)) r
   else some (.err ts 5)
def nG (ts:List Tk):Nat:=16*ts.length+16
def eP (ts:List Tk):dF Ex:=
 match pF (nG ts) .cond ts with
 |some (.ok e r)=>if dW e≠0 then .err ts (dW e) else .ok e r
 |some x=>x
 |none=> .err ts 0
def rM (total:Nat) (rest:List Tk):Int:=match rest with|t::_=>t.at_|[]=>total
inductive Yx where
 |ok (e:Ex)
 |err (at_:Int) (code:Int)
def au:dF Ex→List Tk
 | .ok _ r=>r
 | .err r _=>r
theorem eR {x:Option (dF Ex)} {k:Ex→List Tk→Option (dF Ex)} {r:dF Ex} {ts:List Tk} (h:aL x k=some r)
  (hx:∀ r1,x=some r1→au r1<:+ts) (hk:∀ e r1 r,k e r1=some r→r1<:+ts→au r<:+ts):au r<:+ts:=by
 cases x with
 |none=>simp [aL] at h
 |some r1=>
  have h1:=hx r1 rfl
  cases r1 with
  |ok e rest=>exact hk e rest r h h1
  |err rest c=>simp only [aL,aaf] at h;subst h;exact h1
theorem j6 {s:az} {k:List Tk→Option (dF Ex)} {l:List Tk} {r:dF Ex} {ts:List Tk} (h:cU s k l=some r) (hl:l<:+ts)
  (hk:∀ l2 r,k l2=some r→l2<:+ts→au r<:+ts):au r<:+ts:=by
 cases l with
 |nil=>simp only [cU,aaf] at h;subst h;exact hl
 |cons t l=>
  simp only [cU] at h
  split at h
  ·exact hk l r h (List.IsSuffix.trans (aaQ t l) hl)
  ·simp only [aaf] at h;subst h;exact hl
theorem vW : ∀ (f : Nat) (tag : Tag) (ts : List Tk) (r : dF Ex), pF f tag ts = some r → au r <:+ ts := by
  intro f
  induction f with
  | zero => intro tag ts r h; simp [pF] at h
  | succ f ih =>
    have tl : ∀ {t : Tk} {l ts : List Tk}, (t :: l) <:+ ts → l <:+ ts := fun h => List.IsSuffix.trans (aaQ _ _) h
    have go : ∀ {tag : Tag} {l ts : List Tk} {r : dF Ex}, pF f tag l = some r → l <:+ ts → au r <:+ ts := fun h hl => List.IsSuffix.trans (ih _ _ _ h) hl
    intro tag ts r h
    have self := abA ts
    cases tag with
    | cond =>
      simp only [pF] at h
      refine eR h (fun r1 h1 => ih _ _ _ h1) fun e r1 r h hs => ?_
      cases r1 with
      | nil => simp only [aaf] at h; subst h; exact hs
      | cons t r2 =>
        simp only at h
        split at h
        · refine eR h (fun r1 h1 => go h1 (tl hs)) fun a r3 r h hs3 => ?_
          refine j6 h hs3 fun r4 r h hs4 => ?_
          refine eR h (fun r1 h1 => go h1 hs4) fun b r5 r h hs5 => ?_
          simp only [aaf] at h; subst h; exact hs5
        · simp only [aaf] at h; subst h; exact hs
    | op n =>
      simp only [pF] at h
      split at h
      · exact ih _ _ _ h
      · refine eR h (fun r1 h1 => ih _ _ _ h1) fun e r1 r h hs => go h hs
    | ops n e =>
      simp only [pF] at h
      cases ts with
      | nil => simp only [aaf] at h; subst h; exact self
      | cons t l =>
        simp only at h
        split at h
        · refine eR h (fun r1 h1 => go h1 (tl self)) fun x r2 r h hs => ?_
          split at h
          · simp only [aaf] at h; subst h; exact hs
          · exact go h hs
        · simp only [aaf] at h; subst h; exact self
    | un =>
      simp only [pF] at h
      cases ts with
      | nil => exact ih _ _ _ h
      | cons t l =>
        simp only at h
        split at h
        · refine eR h (fun r1 h1 => go h1 (tl self)) fun x r2 r h hs => ?_
          simp only [aaf] at h; subst h; exact hs
        · exact eR h (fun r1 h1 => ih _ _ _ h1) fun x r2 r h hs => go h hs
    | chain e =>
      simp only [pF] at h
      cases ts with
      | nil => simp only [aaf] at h; subst h; exact self
      | cons t l =>
        simp only at h
        split at h
        · cases l with
          | nil => simp only [aaf] at h; subst h; exact tl self
          | cons u r2 =>
            simp only at h
            split at h
            · exact go h (tl (tl self))
            · simp only [aaf] at h; subst h; exact tl self
        · split at h
          · refine eR h (fun r1 h1 => go h1 (tl self)) fun i r2 r h hs => ?_
            exact j6 h hs fun r3 r h hs3 => go h hs3
          · simp only [aaf] at h; subst h; exact self
    | atom =>
      simp only [pF] at h
      cases ts with
      | nil => simp only [aaf] at h; subst h; exact self
      | cons t l =>
        have t1 := tl self
        simp only at h
        repeat' split at h
        all_goals first
          | (simp only [aaf] at h; subst h; first | exact t1 | exact self)
          | skip
        all_goals first
          | exact go h t1
          | (refine eR h (fun r1 h1 => go h1 (by first | exact t1 | exact tl t1)) fun x r2 r h hs => ?_
             first
               | (simp only [aaf] at h; subst h; exact hs)
               | (refine j6 h hs fun r3 r h hs3 => ?_
                  simp only [aaf] at h; subst h; exact hs3))
    | args close =>
      simp only [pF] at h
      cases ts with
      | nil => exact ih _ _ _ h
      | cons t l =>
        simp only at h
        split at h
        · simp only [aaf] at h; subst h; exact tl self
        · exact ih _ _ _ h
    | items close acc =>
      simp only [pF] at h
      refine eR h (fun r1 h1 => ih _ _ _ h1) fun x r1 r h hs => ?_
      cases r1 with
      | nil => simp only [aaf] at h; subst h; exact hs
      | cons t r2 =>
        simp only at h
        split at h
        · simp only [aaf] at h; subst h; exact tl hs
        · split at h
          · exact go h (tl hs)
          · simp only [aaf] at h; subst h; exact hs
    | kW =>
      simp only [pF] at h
      cases ts with
      | nil => exact ih _ _ _ h
      | cons t l =>
        simp only at h
        split at h
        · simp only [aaf] at h; subst h; exact tl self
        · exact ih _ _ _ h
    | xR acc ks =>
      simp only [pF] at h
      cases ts with
      | nil => simp only [aaf] at h; subst h; exact self
      | cons t l =>
        simp only at h
        split at h
        · refine j6 h (tl self) fun r2 r h hs2 => ?_
          refine eR h (fun r1 h1 => go h1 hs2) fun x r3 r h hs3 => ?_
          cases r3 with
          | nil => simp only [aaf] at h; subst h; exact hs3
          | cons u r4 =>
            simp only at h
            split at h
            · simp only [aaf] at h; subst h; exact tl hs3
            · split at h
              · exact go h (tl hs3)
              · simp only [aaf] at h; subst h; exact hs3
        · simp only [aaf] at h; subst h; exact self
def kX:dF Ex→Prop
 | .ok _ _=>True
 | .err _ c=>c=4∨c=5
theorem DL {x:Option (dF Ex)} {k:Ex→List Tk→Option (dF Ex)} {r:dF Ex} (h:aL x k=some r) (hx:∀ r1,x=some r1→kX r1) (hk:∀ e r1 r,k e r1=some r→kX r):kX r:=by
 cases x with
 |none=>simp [aL] at h
 |some r1=>
  have h1:=hx r1 rfl
  cases r1 with
  |ok e rest=>exact hk e rest r h
  |err rest c=>simp only [aL,aaf] at h;subst h;exact h1
theorem xZ {s:az} {k:List Tk→Option (dF Ex)} {l:List Tk} {r:dF Ex} (h:cU s k l=some r) (hk:∀ l2 r,k l2=some r→kX r):kX r:=by
 cases l with
 |nil=>simp only [cU,aaf] at h;subst h;exact .inl rfl
 |cons t l=>
  simp only [cU] at h
  split at h
  ·exact hk l r h
  ·simp only [aaf] at h;subst h;exact .inr rfl
theorem J7:∀ (f:Nat) (tag:Tag) (ts:List Tk) (r:dF Ex),pF f tag ts=some r→kX r:=by
 intro f
 induction f with
 |zero=>intro tag ts r h;simp [pF] at h
 |succ f ih=>
  have fin:∀ {x r:dF Ex},some x=some r→kX x→kX r:=fun h hx=>by cases h;exact hx
  have go:∀ {tag:Tag} {l:List Tk} {r:dF Ex},pF f tag l=some r→kX r:=fun h=>ih _ _ _ h
  intro tag ts r h
  cases tag<;>simp only [pF] at h
  all_goals repeat' (first
   |exact go h
   |exact fin h trivial
   |exact fin h (.inl rfl)
   |exact fin h (.inr rfl)
   |(refine DL h (fun r1 h1=>go h1) fun e r1 r h=>?_)
   |(refine xZ h fun l2 r h=>?_)
   |split at h)
theorem fJ {f:Nat} {tag:Tag} {ts rest:List Tk} {c:Int} (h:pF f tag ts=some (.err rest c)):c=4∨c=5:=J7 f tag ts _ h
theorem ij {T l:List Tk} (h:l<:+T):l=T.drop (T.length - l.length):=(List.suffix_iff_eq_drop.1 h)
theorem CN {T l:List Tk} (h:l<:+T):l.length≤T.length:=h.length_le
theorem x9:∀ (f n k:Nat),n<10^k→1≤k→(rK f n).length≤k
 |0,_,k,_,hk=>by simp [rK]
 |f+1,n,k,h,hk=>by
  rw [rK]
  split
  ·simpa using hk
  ·obtain ⟨k,rfl⟩:∃ j,k=j+1:=⟨k - 1,by omega⟩
   have h1:n / 10<10^k:=by rw [Nat.div_lt_iff_lt_mul (by omega)];rw [Nat.pow_succ] at h;omega
   have hk1:1≤k:=by
    rcases Nat.eq_zero_or_pos k with h0|h0
    ·subst h0;simp at h1;omega
    ·exact h0
   have:=x9 f (n / 10) k h1 hk1
   simp only [aak,aah,aao];omega
theorem Gg {n:Int} (h1: -9223372036854775808≤n) (h2:n≤9223372036854775807):(xY n).length≤20:=by
 have:(rL n.natAbs).length≤19:=x9 _ _ 19 (by omega) (by omega)
 rw [xY]
 split<;>simp<;>omega
theorem uG:∀ (f g n:Nat),n<f→n<g→rK f n=rK g n
 |0,_,_,h,_=>by omega
 |_+1,0,_,_,h=>by omega
 |f+1,g+1,n,h1,h2=>by
  rw [rK,rK]
  split
  ·rfl
  ·rw [uG f g (n / 10) (by omega) (by omega)]
theorem AB {n:Nat} (h:n<10):rL n=[UInt8.ofNat (48+n)]:=by rw [rL,rK,if_pos h]
theorem DM {n:Nat} (h:¬ n<10):rL n=rL (n / 10)++[UInt8.ofNat (48+n % 10)]:=by
 rw [rL,rK,if_neg h,rL,uG n (n / 10+1) (n / 10) (by omega) (by omega)]
theorem nU (c:UInt8):(eB c).length≤4:=by
 unfold eB
 repeat' split
 all_goals simp
theorem rN (s:az):(s.flatMap eB).length≤4*s.length:=by
 induction s with
 |nil=>simp
 |cons c r ih=>have:=nU c;simp only [abK,aak,aah];omega
theorem gS (s:az):(fl s).length≤4*s.length+2:=by
 have:=rN s
 simp only [fl,aak,aah,aao];omega
theorem AD (sep:az) (l:List az) (x:az):c6 sep (l++[x])=if l=[] then x else c6 sep l++(sep++x):=by
 induction l with
 |nil=>simp [c6]
 |cons a r ih=>
  rw [aas,c6,if_neg (by simp),ih]
  by_cases hr:r=[]
  ·subst hr;simp [c6]
  ·rw [if_neg hr,if_neg (by simp)];conv=>rhs;rw [c6]
   simp [hr]
def lens:List az→Nat
 |[]=>0
 |s::r=>s.length+2+lens r
theorem gz {sep:az} (hs:sep.length≤2) (l:List az):(c6 sep l).length≤lens l:=by
 induction l with
 |nil=>simp [c6]
 |cons a r ih=>
  rw [c6,lens]
  split
  ·omega
  ·simp only [aak];omega
theorem DN (l:List az) (i:Nat):lens (l.take i)≤lens l:=by
 induction l generalizing i with
 |nil=>simp
 |cons a r ih=>
  cases i with
  |zero=>simp [lens]
  |succ i=>have:=ih i;simp only [abo,lens];omega
theorem ej {α:Type} [Inhabited α] {l:List α} {i:Nat} (h:i<l.length):l.take (i+1)=l.take i++[l.getD i default]:=by
 rw [List.take_add_one];simp [aaj,h]
theorem ZQ {l:List az} {i:Nat} (h:i<l.length):(l.getD i default).length+2≤lens l:=by
 induction l generalizing i with
 |nil=>simp at h
 |cons a r ih=>
  cases i with
  |zero=>simp [lens]
  |succ i=>have:=ih (i:=i) (by simpa using h);simp only [lens];simp at this ⊢;omega
theorem rO {sep:az} {l:List az} {i:Nat} (h:i<l.length):c6 sep (l.take (i+1))=if i=0 then l.getD i default else c6 sep (l.take i)++(sep++l.getD i default):=by
 rw [ej h,AD]
 by_cases hi:i=0
 ·subst hi;simp
 ·rw [if_neg hi,if_neg (by intro h0;have:=congrArg List.length h0;rw [aag,aao] at this;omega)]
theorem Gh (l:List aX):ZA.J6 l=l.map ZA:=by induction l<;>simp_all [ZA.J6]
theorem Gi (l:List aX) (ks:List az):(ZA.nR l ks).length=l.length:=by
 induction l generalizing ks with
 |nil=>rfl
 |cons v r ih=>simp [ZA.nR,ih]
theorem Gj (l:List aX) (ks:List az) (i:Nat) (h:i<l.length):(ZA.nR l ks).getD i default=fl (ks.getD i [])++[58,32]++ZA (l.getD i default):=by
 induction l generalizing ks i with
 |nil=>simp at h
 |cons v r ih=>
  cases i with
  |zero=>cases ks<;>simp [ZA.nR,List.headD]
  |succ i=>
   have:=ih ks.tail i (by simpa using h)
   cases ks<;>simpa [ZA.nR] using this
theorem CO (v:aX):ZA v=if v.kind=1 then (if v.bool then gX else fY) else if v.kind=2 then xY v.int else if v.kind=3 then fl v.str
  else if v.kind=4 then [91]++c6 [44,32] (v.list.map ZA)++[93]
  else if v.kind=5 then [123]++c6 [44,32] (ZA.nR v.list v.keys)++[125] else jc:=by
 cases v;rw [ZA,Gh];rfl
def cj:aX→Nat
 | .mk _ _ _ s l ks=>32+4*s.length+dm ks+jr l
where
 dm:List az→Nat
 |[]=>0
 |k::r=>4*k.length+8+dm r
 jr:List aX→Nat
 |[]=>0
 |v::r=>cj v+jr r
theorem jK (v:aX):cj v=32+4*v.str.length+cj.dm v.keys+cj.jr v.list:=by cases v;rw [cj];rfl
theorem rP {l:List aX} {v:aX} (h:v∈l):cj v≤cj.jr l:=by
 induction l with
 |nil=>simp at h
 |cons a r ih=>
  simp only [cj.jr]
  rcases aaY.1 h with rfl|h
  ·omega
  ·have:=ih h;omega
theorem ya {l:List aX} (h:∀ v∈l,(ZA v).length+8≤cj v):lens (l.map ZA)≤cj.jr l:=by
 induction l with
 |nil=>simp [lens,cj.jr]
 |cons a r ih=>
  have h1:=h a (by simp)
  have h2:=ih fun v hv=>h v (by simp [hv])
  simp only [aaJ,lens,cj.jr];omega
theorem uH {l:List aX}:∀ {ks:List az},(∀ v∈l,(ZA v).length+8≤cj v)→lens (ZA.nR l ks)≤cj.jr l+cj.dm ks:=by
 induction l with
 |nil=>intro ks h;simp [ZA.nR,lens]
 |cons a r ih=>
  intro ks h
  have h1:=h a (by simp)
  have h2:=ih (ks:=ks.tail) fun v hv=>h v (by simp [hv])
  have h3:=gS (ks.headD [])
  cases ks with
  |nil=>simp only [ZA.nR,lens,cj.jr,aak,aah,aao,List.headD_nil,List.tail_nil,cj.dm] at*;omega
  |cons k ks=>simp only [ZA.nR,lens,cj.jr,aak,aah,aao,List.headD_cons,List.tail_cons,cj.dm] at*;omega
def lX:aX→Prop
 | .mk _ _ i _ l _=>(-9223372036854775808≤i∧i≤9223372036854775807)∧yb l
where yb:List aX→Prop
 |[]=>True
 |v::r=>lX v∧yb r
theorem uI:∀ l:List aX,lX.yb l↔∀ v∈l,lX v
 |[]=>by simp [lX.yb]
 |v::r=>by simp [lX.yb,uI r]
theorem l6 (v:aX):lX v↔(-9223372036854775808≤v.int∧v.int≤9223372036854775807)∧∀ x∈v.list,lX x:=by
 cases v;simp only [lX,uI,aX.int,aX.list]
theorem l7:∀ v:aX,lX v→(ZA v).length+8≤cj v:=by
 intro v
 induction v using aX.ind with
 |h v ih=>
  intro hv
  obtain ⟨⟨h1,h2⟩,h3⟩:=(l6 v).1 hv
  have hl:=ya (l:=v.list) fun x hx=>ih x hx (h3 x hx)
  have hm:=uH (l:=v.list) (ks:=v.keys) fun x hx=>ih x hx (h3 x hx)
  have hj:=gz (sep:=[44,32]) (by simp) (v.list.map ZA)
  have hk:=gz (sep:=[44,32]) (by simp) (ZA.nR v.list v.keys)
  have hq:=gS v.str
  have hd:=Gg h1 h2
  rw [CO,jK]
  repeat' split
  all_goals (try simp only [aak,aah,aao,gX,fY,jc])
  all_goals omega
theorem Gk (l:List Ex):src.Gf l=l.map src:=by induction l<;>simp_all [src.Gf]
theorem Gl (l:List Ex) (ks:List az):(src.nT l ks).length=l.length:=by
 induction l generalizing ks with
 |nil=>rfl
 |cons v r ih=>simp [src.nT,ih]
theorem Gm (l:List Ex) (ks:List az) (i:Nat) (h:i<l.length):(src.nT l ks).getD i default=fl (ks.getD i [])++[58,32]++src (l.getD i default):=by
 induction l generalizing ks i with
 |nil=>simp at h
 |cons v r ih=>
  cases i with
  |zero=>cases ks<;>simp [src.nT,List.headD]
  |succ i=>
   have:=ih ks.tail i (by simpa using h)
   cases ks<;>simpa [src.nT] using this
theorem uJ (l:List Ex) (i need:Nat) (h:i<l.length):src.eO l i need=paren (decide (force (l.getD i default)<need)) (src (l.getD i default)):=by
 induction l generalizing i with
 |nil=>simp at h
 |cons v r ih=>
  cases i with
  |zero=>simp [src.eO]
  |succ i=>have:=ih i (by simpa using h);simpa [src.eO] using this
theorem AE (l:List Ex) (i need:Nat) (h:l.length≤i):src.eO l i need=[]:=by
 induction l generalizing i with
 |nil=>simp [src.eO]
 |cons v r ih=>
  cases i with
  |zero=>simp at h
  |succ i=>have:=ih i (by simpa using h);simpa [src.eO] using this
theorem Gn (e:Ex):src e=
  if e.kind=1 then uF e.value else if e.kind=2 then e.name
  else if e.kind=3 then src.eO e.args 0 8++[46]++e.name
  else if e.kind=4 then src.eO e.args 0 8++[91]++src.eO e.args 1 1++[93]
  else if e.kind=5 then e.name++[40]++c6 [44,32] (e.args.map src)++[41]
  else if e.kind=6 then e.name++src.eO e.args 0 7
  else if e.kind=7 then src.eO e.args 0 (if bB e.name=4 then 5 else bB e.name)++[32]++e.name++[32]++src.eO e.args 1 (bB e.name+1)
  else if e.kind=8 then src.eO e.args 0 2++[32,63,32]++src.eO e.args 1 1++[32,58,32]++src.eO e.args 2 1
  else if e.kind=9 then [91]++c6 [44,32] (e.args.map src)++[93]
  else [123]++c6 [44,32] (src.nT e.args e.keys)++[125]:=by
 cases e;rw [src];simp only [Gk];rfl
def bq:Ex→Nat
 | .mk _ n v ar ks=>64+n.length+cj v+cj.dm ks+er ar
where er:List Ex→Nat
 |[]=>0
 |e::r=>bq e+er r
theorem iq (e:Ex):bq e=64+e.name.length+cj e.value+cj.dm e.keys+bq.er e.args:=by cases e;rw [bq];rfl
theorem nV {l:List Ex} {v:Ex} (h:v∈l):bq v≤bq.er l:=by
 induction l with
 |nil=>simp at h
 |cons a r ih=>
  simp only [bq.er]
  rcases aaY.1 h with rfl|h
  ·omega
  ·have:=ih h;omega
def ot:Ex→Prop
 | .mk _ _ v ar _=>lX v∧yc ar
where yc:List Ex→Prop
 |[]=>True
 |v::r=>ot v∧yc r
theorem uK:∀ l:List Ex,ot.yc l↔∀ v∈l,ot v
 |[]=>by simp [ot.yc]
 |v::r=>by simp [ot.yc,uK r]
theorem l8 (e:Ex):ot e↔lX e.value∧∀ x∈e.args,ot x:=by
 cases e;simp only [ot,uK,Ex.value,Ex.args]
theorem uL {v:aX} (h:lX v):(uF v).length+8≤cj v:=by
 have:=l7 v h
 have h2:=jK v
 rw [uF];split
 ·simp only [aao];omega
 ·exact this
theorem yd {l:List Ex} (h:∀ v∈l,(src v).length+16≤bq v):lens (l.map src)≤bq.er l:=by
 induction l with
 |nil=>simp [lens,bq.er]
 |cons a r ih=>
  have h1:=h a (by simp)
  have h2:=ih fun v hv=>h v (by simp [hv])
  simp only [aaJ,lens,bq.er];omega
theorem uM {l:List Ex}:∀ {ks:List az},(∀ v∈l,(src v).length+16≤bq v)→lens (src.nT l ks)≤bq.er l+cj.dm ks:=by
 induction l with
 |nil=>intro ks h;simp [src.nT,lens]
 |cons a r ih=>
  intro ks h
  have h1:=h a (by simp)
  have h2:=ih (ks:=ks.tail) fun v hv=>h v (by simp [hv])
  have h3:=gS (ks.headD [])
  cases ks with
  |nil=>simp only [src.nT,lens,bq.er,aak,aah,aao,List.headD_nil,List.tail_nil,cj.dm] at*;omega
  |cons k ks=>simp only [src.nT,lens,bq.er,aak,aah,aao,List.headD_cons,List.tail_cons,cj.dm] at*;omega
theorem DP (b:Bool) (s:az):(paren b s).length≤s.length+2:=by unfold paren;split<;>simp
def Gp (l:List Ex) (i:Nat):Nat:=if i<l.length then bq (l.getD i default) else 0
theorem CP (l:List Ex):Gp l 0+Gp l 1+Gp l 2≤bq.er l:=by
 match l with
 |[]=>simp [Gp]
 |[a]=>simp [Gp,bq.er]
 |[a,b]=>simp [Gp,bq.er]
 |a::b::c::r=>simp [Gp,bq.er];omega
theorem uN {l:List Ex} (h:∀ v∈l,(src v).length+16≤bq v) (i need:Nat):(src.eO l i need).length≤Gp l i - 14:=by
 by_cases hi:i<l.length
 ·rw [uJ l i need hi,Gp,if_pos hi]
  have h1:=DP (decide (force (l.getD i default)<need)) (src (l.getD i default))
  have h2:=h (l.getD i default) (by simp [aaj,hi])
  omega
 ·rw [AE l i need (by omega)];simp
theorem ou:∀ e:Ex,ot e→(src e).length+16≤bq e:=by
 intro e
 induction e using Ex.ind with
 |h e ih=>
  intro hv
  obtain ⟨h1,h3⟩:=(l8 e).1 hv
  have ih:=fun x hx=>ih x hx (h3 x hx)
  have hl:=yd ih
  have hm:=uM (ks:=e.keys) ih
  have hj:=gz (sep:=[44,32]) (by simp) (e.args.map src)
  have hk:=gz (sep:=[44,32]) (by simp) (src.nT e.args e.keys)
  have hs:=uL h1
  have hat:=uN ih
  have hsum:=CP e.args
  have hvb:=jK e.value
  rw [Gn,iq]
  have a0:=hat 0
  have a1:=hat 1
  have a2:=hat 2
  have a08:=a0 8
  have a07:=a0 7
  have a02:=a0 2
  have a05:=a0 5
  have a0s:=a0 (bB e.name)
  have a11:=a1 1
  have a1n:=a1 (bB e.name+1)
  have a21:=a2 1
  repeat' split
  all_goals (try simp only [aak,aah,aao])
  all_goals first|omega|(simp only [*] at*;omega)
def x8:Ex→Bool
 | .mk k _ v ar _=> !(decide (k=1)&& (decide (3<v.kind)||decide (v.int<0)))&&aaa ar
where aaa:List Ex→Bool
 |[]=>true
 |e::r=>x8 e&&aaa r
theorem Z4 (e:Ex):x8 e=(!(decide (e.kind=1)&& (decide (3<e.value.kind)||decide (e.value.int<0)))&&x8.aaa e.args):=by cases e;rw [x8];rfl
theorem ZX (l:List Ex):x8.aaa l=l.all x8:=by induction l<;>simp_all [x8.aaa]
def wT:Tag→Nat
 | .cond=>12| .op n=>13 - n| .ops _ _=>1| .un=>5| .chain _=>1| .atom=>2| .args _=>15| .items _ _=>14| .kW=>3| .xR _ _=>2
def M4:Tag→Prop
 | .op n=>n≤7
 | .ops n _=>n≤6
 |_=>True
theorem cT {x:Option (dF Ex)} {k:Ex→List Tk→Option (dF Ex)} (hx:x≠none) (hk:∀ e r1,x=some (.ok e r1)→k e r1≠none):aL x k≠none:=by
 rcases x with _|(⟨c,r1⟩|⟨r1,ec⟩)
 ·exact absurd rfl hx
 ·exact hk c r1 rfl
 ·simp [aL]
theorem iX {s:az} {k:List Tk→Option (dF Ex)} {l:List Tk} (hk:∀ t r,l=t::r→k r≠none):cU s k l≠none:=by
 cases l with
 |nil=>simp [cU]
 |cons t r=>
  simp only [cU]
  split
  ·exact hk t r rfl
  ·simp
theorem Gq:∀ (f:Nat) (tag:Tag) (ts:List Tk),M4 tag→16*ts.length+wT tag<f→pF f tag ts≠none:=by
 intro f
 induction f with
 |zero=>intro tag ts _ h;omega
 |succ f ih=>
  intro tag ts ho hf
  have sl:∀ {tag:Tag} {l:List Tk} {e:Ex} {r:List Tk},pF f tag l=some (.ok e r)→r.length≤l.length:=fun h=>(vW _ _ _ _ h).length_le
  cases tag with
  |cond=>
   simp only [wT] at hf
   simp only [pF]
   refine cT (ih _ _ (by simp [M4]) (by simp only [wT];omega)) fun e r1 h1=>?_
   have l1:=sl h1
   cases r1 with
   |nil=>simp
   |cons t r2=>
    simp only [aah] at l1
    simp only
    split
    ·refine cT (ih _ _ trivial (by simp only [wT];omega)) fun a r3 h3=>?_
     have l3:=sl h3
     refine iX fun t r he=>?_
     subst he
     simp only [aah] at l3
     refine cT (ih _ _ trivial (by simp only [wT];omega)) fun b r5 h5=>?_
     simp
    ·simp
  |op n=>
   simp only [M4] at ho
   simp only [wT] at hf
   simp only [pF]
   split
   ·exact ih _ _ trivial (by simp only [wT];omega)
   ·refine cT (ih _ _ (by simp only [M4];omega) (by simp only [wT];omega)) fun e r1 h1=>?_
    have l1:=sl h1
    exact ih _ _ (by simp only [M4];omega) (by simp only [wT];omega)
  |ops n e=>
   simp only [M4] at ho
   simp only [wT] at hf
   cases ts with
   |nil=>simp [pF]
   |cons t r=>
    simp only [aah] at hf
    simp only [pF]
    split
    ·refine cT (ih _ _ (by simp only [M4];omega) (by simp only [wT];omega)) fun x r2 h2=>?_
     have l2:=sl h2
     split
     ·simp
     ·exact ih _ _ (by simp only [M4];omega) (by simp only [wT];omega)
    ·simp
  |un=>
   simp only [wT] at hf
   cases ts with
   |nil=>simp only [pF];exact ih _ _ trivial (by simp only [wT];omega)
   |cons t r=>
    simp only [pF]
    simp only [aah] at hf
    split
    ·refine cT (ih _ _ trivial (by simp only [wT];omega)) fun x r2 h2=>by simp
    ·refine cT (ih _ _ trivial (by simp only [wT,aah];omega)) fun x r2 h2=>?_
     have l2:=sl h2
     simp only [aah] at l2
     exact ih _ _ trivial (by simp only [wT];omega)
  |chain e=>
   simp only [wT] at hf
   cases ts with
   |nil=>simp [pF]
   |cons t r=>
    simp only [aah] at hf
    simp only [pF]
    split
    ·cases r with
     |nil=>simp
     |cons u r2=>
      simp only [aah] at hf
      simp only
      split
      ·exact ih _ _ trivial (by simp only [wT];omega)
      ·simp
    ·split
     ·refine cT (ih _ _ trivial (by simp only [wT];omega)) fun x r2 h2=>?_
      have l2:=sl h2
      refine iX fun t r3 he=>?_
      subst he
      simp only [aah] at l2
      exact ih _ _ trivial (by simp only [wT];omega)
     ·simp
  |atom=>
   simp only [wT] at hf
   cases ts with
   |nil=>simp [pF]
   |cons t r=>
    simp only [aah] at hf
    have a1:pF f .cond r≠none:=ih _ _ trivial (by simp only [wT];omega)
    have a2:∀ s,pF f (.args s) r≠none:=fun s=>ih _ _ trivial (by simp only [wT];omega)
    have a3:pF f .kW r≠none:=ih _ _ trivial (by simp only [wT];omega)
    simp only [pF]
    split
    ·split<;>simp
    ·split
     ·split<;>simp
     ·split
      ·split
       ·simp
       ·split
        ·simp
        ·split
         ·cases r with
          |nil=>simp
          |cons u r2=>
           simp only [aah] at hf
           simp only
           split
           ·exact cT (ih _ _ trivial (by simp only [wT];omega)) fun x r2 h2=>by simp
           ·simp
         ·simp
      ·split
       ·refine cT a1 fun x r2 h2=>iX fun t r3 he=>by simp
       ·split
        ·exact cT (a2 _) fun x r2 h2=>by simp
        ·split
         ·exact a3
         ·simp
  |args s=>
   simp only [wT] at hf
   cases ts with
   |nil=>simp only [pF];exact ih _ _ trivial (by simp only [wT];omega)
   |cons t r=>
    simp only [pF]
    split
    ·simp
    ·exact ih _ _ trivial (by simp only [wT];omega)
  |items s acc=>
   simp only [wT] at hf
   simp only [pF]
   refine cT (ih _ _ trivial (by simp only [wT];omega)) fun x r h1=>?_
   have l1:=sl h1
   cases r with
   |nil=>simp
   |cons t r2=>
    simp only [aah] at l1
    simp only
    split
    ·simp
    ·split
     ·exact ih _ _ trivial (by simp only [wT];omega)
     ·simp
  |kW=>
   simp only [wT] at hf
   cases ts with
   |nil=>simp only [pF];exact ih _ _ trivial (by simp only [wT];omega)
   |cons t r=>
    simp only [pF]
    split
    ·simp
    ·exact ih _ _ trivial (by simp only [wT];omega)
  |xR acc ks=>
   simp only [wT] at hf
   cases ts with
   |nil=>simp [pF]
   |cons t r=>
    simp only [aah] at hf
    simp only [pF]
    split
    ·refine iX fun u r2 he=>?_
     subst he
     simp only [aah] at hf
     refine cT (ih _ _ trivial (by simp only [wT];omega)) fun x r3 h3=>?_
     have l3:=sl h3
     cases r3 with
     |nil=>simp
     |cons v r4=>
      simp only [aah] at l3
      simp only
      split
      ·simp
      ·split
       ·exact ih _ _ trivial (by simp only [wT];omega)
       ·simp
    ·simp
theorem jL (ts:List Tk):∃ r,pF (nG ts) .cond ts=some r:=by
 have h:=Gq (nG ts) .cond ts trivial (by simp only [wT,nG];omega)
 cases h':pF (nG ts) .cond ts with
 |none=>exact absurd h' h
 |some r=>exact ⟨r,rfl⟩
inductive Bk where
 |mk (kind name:az) (attrs:List (az×Ex)) (blocks:List Bk)
 deriving Inhabited
def Bk.kind:Bk→az| .mk k _ _ _=>k
def Bk.name:Bk→az| .mk _ n _ _=>n
def Bk.attrs:Bk→List (az×Ex)| .mk _ _ a _=>a
def Bk.blocks:Bk→List Bk| .mk _ _ _ b=>b
theorem Bk.eta (b:Bk):Bk.mk b.kind b.name b.attrs b.blocks=b:=by cases b;rfl
theorem tX {b x:Bk} (h:x∈b.blocks):sizeOf x<sizeOf b:=by
 cases b with|mk k n a l=>have:=List.sizeOf_lt_of_mem h;simp only [Bk.blocks] at this;simp only [Bk.mk.sizeOf_spec];omega
theorem Bk.ind {p:Bk→Prop} (h:∀ b,(∀ x∈b.blocks,p x)→p b):∀ b,p b:=by
 have key:∀ n:Nat,∀ v:Bk,sizeOf v<n→p v:=by
  intro n
  induction n with
  |zero=>intro v hv;omega
  |succ n ih=>intro v hv;exact h v fun x hx=>ih x (by have:=tX hx;omega)
 exact fun v=>key _ v (abz _)
def AF (seen:List az):List (az×Ex)→Int
 |[]=>0
 |a::r=>if cc a.1=false then 1 else if dW a.2≠0 then dW a.2 else if seen.contains a.1 then 7 else AF (seen++[a.1]) r
def Gr (b:Bk) (level:Nat):Int:=
 if 16<level then 13 else if cc b.kind=false∨64<b.name.length then 1 else if 1024<b.attrs.length∨1024<b.blocks.length then 3 else AF [] b.attrs
def cH (level:Nat):Bk→Int
 | .mk k n a l=>if Gr (.mk k n a l) level≠0 then Gr (.mk k n a l) level else en (level+1) l
where en (level:Nat):List Bk→Int
 |[]=>0
 |b::r=>if cH level b≠0 then cH level b else en level r
def fK (l:List Bk):Int:=if 1024<l.length then 3 else cH.en 1 l
def sp (n:Nat):az:=List.replicate n 32
def ir (level:Nat):Bk→az
 | .mk k n a l=>sp (2*level - 2)++k++(if n=[] then [] else 32::fl n)++[32,123,10]++a.flatMap (fun x=>sp (2*level)++x.1++[32,61,32]++qq x.2++[10])++gH (level+1) l++sp (2*level - 2)++[125,10]
where gH (level:Nat):List Bk→az
 |[]=>[]
 |b::r=>ir level b++gH level r
def CQ (l:List Bk):az:=if fK l≠0 then [] else ir.gH 1 l
def ye:Bk→Bk→Bool
 | .mk k n a l,b=>decide (k=b.kind)&&decide (n=b.name)&&decide (a.length=b.attrs.length)&& (a.zip b.attrs).all (fun p=>decide (p.1.1=p.2.1)&&oq p.1.2 p.2.2)&&rQ l b.blocks
where rQ:List Bk→List Bk→Bool
 |[],[]=>true
 |[],_::_=>false
 |_::_,[]=>false
 |a::r,b::s=>ye a b&&rQ r s
def Zy:Bk→Nat
 | .mk _ _ a l=>1+Zx l+(a.map fun x=>1+bS x.2).sum
where Zx:List Bk→Nat
 |[]=>0
 |b::r=>Zy b+Zx r
def Gs (b:Bk) (s:az):Option Ex:=(b.attrs.find? fun x=>decide (x.1=s)).map (·.2)
def M5 (b:Bk) (s:az):List Bk:=b.blocks.filter fun x=>decide (x.kind=s)
inductive RB where
 |ok (b:Bk) (rest:List Tk)
 |err (rest:List Tk) (code:Int)
def fo (t:Tk):Bool:=decide (t.kind=1)&&cc t.text
def gi (p:Tk→Bool) (k:List Tk→Option RB):List Tk→Option RB
 |[]=>some (.err [] 4)
 |t::r=>if p t then k r else some (.err (t::r) 5)
def iu (t:Tk):Bool:=decide (t.kind=5)
def kB:List Tk→az×List Tk
 |[]=>([],[])
 |t::r=>if t.kind=3∧t.text≠[] then (t.text,r) else ([],t::r)
inductive rR where
 |block|items (kind name:az) (attrs:List (az×Ex)) (blocks:List Bk)
def bF:Nat→rR→List Tk→Option RB
 |0,_,_=>none
 |_+1,.block,[]=>some (.err [] 4)
 |f+1,.block,t::r=>if fo t then gi (cg [123]) (fun r2=>gi iu (fun r3=>bF f (.items t.text (kB r).1 [] []) r3) r2) (kB r).2 else some (.err (t::r) 5)
 |f+1,.items k n a l,ts=>match ts with
  |[]=>some (.err [] 4)
  |t::r=>
   if cg [125] t then some (.ok (.mk k n a l) r)
   else if fo t=false then some (.err ts 5)
   else match r with
    |u::r2=>if cg [61] u then (match eP r2 with
       | .ok x r3=>gi iu (fun r4=>bF f (.items k n (a++[(t.text,x)]) l) r4) r3
       | .err r3 c=>some (.err r3 c))
      else (match bF f .block ts with
       |some (.ok b r3)=>gi iu (fun r4=>bF f (.items k n a (l++[b])) r4) r3
       |y=>y)
    |[]=>(match bF f .block ts with
       |some (.ok b r3)=>gi iu (fun r4=>bF f (.items k n a (l++[b])) r4) r3
       |y=>y)
inductive RF where
 |ok (l:List Bk)
 |err (rest:List Tk) (code:Int)
def ov (ts:List Tk):Nat:=2*ts.length+2
def gZ:Nat→List Bk→List Tk→RF
 |0,l,_=> .ok l
 |_+1,l,[]=> .ok l
 |f+1,l,t::r=>match bF (ov (t::r)) .block (t::r) with
  |some (.ok b [])=> .ok (l++[b])
  |some (.ok b (u::r2))=>if iu u then gZ f (l++[b]) r2 else .err (u::r2) 5
  |some (.err r2 c)=> .err r2 c
  |none=> .err (t::r) 0
def gJ:List Tk→List Tk
 |[]=>[]
 |t::r=>if iu t then r else t::r
inductive Qn where
 |ok (l:List Bk)
 |err (at_:Int) (code:Int)
def tY (s:az):Qn:=
 match tokens s with
 | .err a c=> .err a c
 | .ok ts=>match gZ (ts.length+1) [] (gJ ts) with
  | .err r c=> .err (rM s.length r) c
  | .ok l=>if fK l≠0 then .err 0 (fK l) else .ok l
end Go.Proofs.YthnoiikjfcnlhaaGreatDoor
