/- A step of the proofs of the seat's theorems. -/
import Derived.Test.YtgclflkhpkdecaaGreatDoorVA
set_option linter.unusedSimpArgs false
set_option linter.unusedVariables false
namespace Go.Proofs.YtgclflkhpkdecaaGreatDoor
abbrev az:=List UInt8
inductive aX where
 |mk (kind:Int) (bool:Bool) (int:Int) (str:az) (list:List aX) (keys:List az)
 deriving Inhabited
inductive Ex where
 |mk (kind:Int) (name:az) (value:aX) (args:List Ex) (keys:List az)
 deriving Inhabited
structure Tk where
 kind:Int
 text:az
 at_:Int
 deriving Inhabited,DecidableEq
def aX.kind:aX→Int| .mk k _ _ _ _ _=>k
def aX.bool:aX→Bool| .mk _ b _ _ _ _=>b
def aX.int:aX→Int| .mk _ _ i _ _ _=>i
def aX.str:aX→az| .mk _ _ _ s _ _=>s
def aX.list:aX→List aX| .mk _ _ _ _ l _=>l
def aX.keys:aX→List az| .mk _ _ _ _ _ ks=>ks
def Ex.kind:Ex→Int| .mk k _ _ _ _=>k
def Ex.name:Ex→az| .mk _ n _ _ _=>n
def Ex.value:Ex→aX| .mk _ _ v _ _=>v
def Ex.args:Ex→List Ex| .mk _ _ _ ar _=>ar
def Ex.keys:Ex→List az| .mk _ _ _ _ ks=>ks
theorem xW {v x:aX} (h:x∈v.list):sizeOf x<sizeOf v:=by
 cases v with|mk k b i s l ks=>have:=List.sizeOf_lt_of_mem h;simp only [aX.list] at this;simp only [aX.mk.sizeOf_spec];omega
theorem xX {e x:Ex} (h:x∈e.args):sizeOf x<sizeOf e:=by
 cases e with|mk k n v l ks=>have:=List.sizeOf_lt_of_mem h;simp only [Ex.args] at this;simp only [Ex.mk.sizeOf_spec];omega
theorem aX.ind {p:aX→Prop} (h:∀ v,(∀ x∈v.list,p x)→p v):∀ v,p v:=by
 have key:∀ n:Nat,∀ v:aX,sizeOf v<n→p v:=by
  intro n
  induction n with
  |zero=>intro v hv;omega
  |succ n ih=>intro v hv;exact h v fun x hx=>ih x (by have:=xW hx;omega)
 exact fun v=>key _ v (Nat.lt_succ_self _)
theorem Ex.ind {p:Ex→Prop} (h:∀ e,(∀ x∈e.args,p x)→p e):∀ e,p e:=by
 have key:∀ n:Nat,∀ v:Ex,sizeOf v<n→p v:=by
  intro n
  induction n with
  |zero=>intro v hv;omega
  |succ n ih=>intro v hv;exact h v fun x hx=>ih x (by have:=xX hx;omega)
 exact fun v=>key _ v (Nat.lt_succ_self _)
def ct:aX:= .mk 0 false 0 [] [] []
def bN (c:UInt8):Bool:=decide (97≤c.toNat∧c.toNat≤122∨65≤c.toNat∧c.toNat≤90∨c.toNat=95)
def isDigit (c:UInt8):Bool:=decide (48≤c.toNat∧c.toNat≤57)
def b9 (c:UInt8):Bool:=bN c||isDigit c
def gX:az:=[116,114,117,101]
def fY:az:=[102,97,108,115,101]
def jc:az:=[110,117,108,108]
def isWord (s:az):Bool:=decide (s=[116,114,117,101]∨s=[102,97,108,115,101]∨s=[110,117,108,108])
def bB (s:az):Nat:=
 if s=[124,124] then 2 else if s=[38,38] then 3
 else if s=[61,61]∨s=[33,61]∨s=[60]∨s=[60,61]∨s=[62]∨s=[62,61] then 4
 else if s=[43]∨s=[45] then 5 else if s=[42]∨s=[47]∨s=[37] then 6 else 0
def isName (s:az):Bool:=decide (s.length≤64)&& (match s with|[]=>false|c::r=>bN c&&r.all b9)
def yT (s:az):Bool:=isName s&& !isWord s
def cZ (s:az):Nat:=s.foldl (fun n c=>10*n+(c.toNat - 48)) 0
def fZ (s:az):Bool:=decide (s≠[])&& !decide (1<s.length∧(s.getD 0 0).toNat=48)&&s.all isDigit&&decide (cZ s≤9007199254740992)
def qT (c:UInt8):Int:=
 if isDigit c then (c.toNat:Int) - 48 else if 97≤c.toNat∧c.toNat≤102 then (c.toNat:Int) - 87 else if 65≤c.toNat∧c.toNat≤70 then (c.toNat:Int) - 55 else -1
inductive pE where
 |ok (kind:Int) (text:az) (n:Nat)
 |err (code:Int)
def lZ (s:az):pE:=
 let t:=s.takeWhile b9
 if 64<t.length then .err 3 else .ok 1 t t.length
def vU (s:az):pE:=
 let t:=s.takeWhile isDigit
 if (1<t.length∧(t.getD 0 0).toNat=48)∨(t.length<s.length∧bN (s.getD t.length 0)=true) then .err 5
 else if 9007199254740992<cZ t then .err 2 else .ok 2 t t.length
inductive Gd where
 |ok (c:UInt8) (n:Nat)
 |err (code:Int)
def nQ (r:az):Gd:=
 if r.length=0 then .err 4
 else if (r.getD 0 0).toNat=34∨(r.getD 0 0).toNat=92 then .ok (r.getD 0 0) 2 else if (r.getD 0 0).toNat=110 then .ok 10 2 else if (r.getD 0 0).toNat=116 then .ok 9 2
 else if (r.getD 0 0).toNat=120 then
  if r.length≤1 then .err 4 else if qT (r.getD 1 0)<0 then .err 5 else if r.length≤2 then .err 4 else if qT (r.getD 2 0)<0 then .err 5
  else .ok (UInt8.ofNat (16*qT (r.getD 1 0)+qT (r.getD 2 0)).toNat) 4
 else .err 5
def tW (s:az):Gd:=if (s.getD 0 0).toNat<32 then .err 5 else if (s.getD 0 0).toNat≠92 then .ok (s.getD 0 0) 1 else nQ (s.drop 1)
def Az:Nat→az→az→Nat→pE
 |0,_,_,_=> .err 4
 |_+1,[],_,_=> .err 4
 |f+1,c::r,acc,n=>
  if c.toNat=34 then (if 4096<acc.length then .err 3 else .ok 3 acc (n+1))
  else match tW (c::r) with
   | .err e=> .err e
   | .ok b k=>Az f ((c::r).drop k) (acc++[b]) (n+k)
def isOp2 (s:az):Bool:=decide (s=[124,124]∨s=[38,38]∨s=[61,61]∨s=[33,61]∨s=[60,61]∨s=[62,61])
def rJ:az:=[60,62,43,45,42,47,37,33,63,58,46,44,61,40,41,91,93,123,125]
def AA (s:az):pE:=
 if isOp2 (s.take 2) then .ok 4 (s.take 2) 2
 else match s with
  |[]=> .err 5
  |c::_=>if rJ.contains c then .ok 4 [c] 1 else .err 5
def jy (s:az):pE:=
 match s with
 |[]=> .err 5
 |c::r=>if bN c then lZ s else if isDigit c then vU s else if c.toNat=34 then Az (r.length+1) r [] 1 else AA s
def jI (op:az) (n:Nat):Nat:=if op=[40]∨op=[91] then n+1 else if op=[41]∨op=[93] then n - 1 else n
inductive qp where
 |ok (ts:List Tk)
 |err (at_:Nat) (code:Int)
def fO (c:UInt8):Bool:=decide (c.toNat≠10)
def dV:Nat→Nat→az→Nat→List Tk→qp
 |0,_,_,_,out=> .ok out
 |_+1,_,[],_,out=> .ok out
 |f+1,at_,c::r,op,out=>
  if c.toNat=32∨c.toNat=9 then dV f (at_+1) r op out
  else if c.toNat=35 then dV f (at_+((c::r).takeWhile fO).length) ((c::r).drop ((c::r).takeWhile fO).length) op out
  else if c.toNat=10 then dV f (at_+1) r op (if op=0∧(out=[]∨(out.getLast?.map Tk.kind)≠some 5) then out++[⟨5,[],at_⟩] else out)
  else match jy (c::r) with
   | .err e=> .err at_ e
   | .ok k t n=>dV f (at_+n) ((c::r).drop n) (if k=4 then jI t op else op) (out++[⟨k,t,at_⟩])
def dZ (a b:Int):Int:=if a<b then -1 else if b<a then 1 else 0
def gI (a b:Nat):Int:=if a<b then -1 else if b<a then 1 else 0
def ltStr:az→az→Bool
 |_,[]=>false
 |[],_::_=>true
 |a::r,b::s=>decide (a.toNat<b.toNat)||(decide (a=b)&&ltStr r s)
def ZE (a b:az):Int:=if ltStr a b then -1 else if ltStr b a then 1 else 0
def bG (s:az):az:=s.dropWhile (fun c=>decide (c.toNat=48))
def jd (a b:az):Int:=
 let x:=bG a;let y:=bG b
 if x.length≠y.length then gI x.length y.length else if x≠y then ZE x y else gI a.length b.length
def ig:Nat→az→az→Int
 |0,_,_=>0
 |_+1,[],b=>if b=[] then 0 else -1
 |_+1,_::_,[]=>1
 |f+1,c::r,d::s=>
  if isDigit c&&isDigit d then
   let x:=(c::r).takeWhile isDigit;let y:=(d::s).takeWhile isDigit
   if jd x y≠0 then jd x y else ig f ((c::r).drop x.length) ((d::s).drop y.length)
  else if c≠d then gI c.toNat d.toNat else ig f r s
def c8 (a b:az):Int:=ig (a.length+1) a b
def fP (k:az):Bool:=decide (1≤k.length∧k.length≤64)
def dG:List az→Bool
 |[]=>true
 |k::r=>fP k&& (match r with|[]=>true|k'::_=>decide (c8 k k'<0))&&dG r
def gM (v:aX):Bool:=
 (decide (v.kind=1)|| !v.bool)&& (decide (v.kind=2)||decide (v.int=0))&& (decide (v.kind=3)||decide (v.str=[]))&&
 (decide (v.kind=4)||decide (v.kind=5)||decide (v.list=[]))&& (decide (v.kind=5)||decide (v.keys=[]))
def gY (v:aX) (level:Nat):Int:=
 if 16<level then 13 else if v.kind<0∨5<v.kind∨gM v=false then 1
 else if v.int< -9007199254740992∨9007199254740992<v.int then 2
 else if 4096<v.str.length∨1024<v.list.length∨1024<v.keys.length then 3
 else if v.kind=5∧¬ (v.keys.length=v.list.length∧dG v.keys=true) then 1
 else if (v.kind=4∨v.kind=5)∧v.list=[]∧level=16 then 13 else 0
def dI (level:Nat):aX→Int
 | .mk k b i s l ks=>if gY (.mk k b i s l ks) level≠0 then gY (.mk k b i s l ks) level else gx (level+1) l
where gx (level:Nat):List aX→Int
 |[]=>0
 |v::r=>if dI level v≠0 then dI level v else gx level r
def fk (v:aX):Int:=dI 1 v
def Ge (n:Nat):UInt8:=if n<10 then UInt8.ofNat (48+n) else UInt8.ofNat (87+n)
def eB (c:UInt8):az:=
 if c.toNat=34 then [92,34] else if c.toNat=92 then [92,92] else if c.toNat=10 then [92,110] else if c.toNat=9 then [92,116]
 else if 32≤c.toNat∧c.toNat≤126 then [c] else [92,120,Ge (c.toNat / 16),Ge (c.toNat % 16)]
def quoteF (s:az):az:=[34]++s.flatMap eB++[34]
def rK:Nat→Nat→az
 |0,_=>[]
 |f+1,n=>if n<10 then [UInt8.ofNat (48+n)] else rK f (n / 10)++[UInt8.ofNat (48+n % 10)]
def rL (n:Nat):az:=rK (n+1) n
def xY (n:Int):az:=if n<0 then 45::rL n.natAbs else rL n.natAbs
def c6 (sep:az):List az→az
 |[]=>[]
 |a::r=>if r=[] then a else a++sep++c6 sep r
def ZA:aX→az
 | .mk k b i s l ks=>
  if k=1 then (if b then gX else fY) else if k=2 then xY i else if k=3 then quoteF s
  else if k=4 then [91]++c6 [44,32] (J6 l)++[93]
  else if k=5 then [123]++c6 [44,32] (nR l ks)++[125] else jc
where
 J6:List aX→List az
 |[]=>[]
 |v::r=>ZA v::J6 r
 nR:List aX→List az→List az
 |[],_=>[]
 |v::r,ks=>(quoteF (ks.headD [])++[58,32]++ZA v)::nR r ks.tail
def uF (v:aX):az:=if fk v≠0 then [] else ZA v
def bS:Ex→Nat
 | .mk _ _ _ ar _=>1+cY ar
where cY:List Ex→Nat
 |[]=>0
 |e::r=>bS e+cY r
def jg (v:aX):Bool:=decide (v.kind=0)&& !v.bool&&decide (v.int=0)&&decide (v.str=[])&&decide (v.list=[])&&decide (v.keys=[])
def jJ (e:Ex):Bool:=
 if e.kind=1∨e.kind=2 then decide (e.args.length=0) else if e.kind=3∨e.kind=6 then decide (e.args.length=1)
 else if e.kind=4∨e.kind=7 then decide (e.args.length=2) else if e.kind=8 then decide (e.args.length=3) else true
def dJ (e:Ex):Bool:=
 if e.kind=2∨e.kind=3∨e.kind=5 then yT e.name else if e.kind=6 then decide (e.name=[33]∨e.name=[45])
 else if e.kind=7 then decide (0<bB e.name) else decide (e.name=[])
def gR (e:Ex):Bool:=if e.kind≠10 then decide (e.keys=[]) else decide (e.keys.length=e.args.length)&&e.keys.all fP
def kA:List az→Bool
 |[]=>false
 |k::r=>r.contains k||kA r
def jv (e:Ex) (level:Nat):Int:=
 if 16<level then 13
 else if e.kind<1∨10<e.kind∨(e.kind≠1∧jg e.value=false)∨dJ e=false∨jJ e=false∨gR e=false then 1
 else if e.kind=1∧fk e.value≠0 then fk e.value
 else if 1024<e.args.length then 3 else if kA e.keys then 7 else 0
def dc (level:Nat):Ex→Int
 | .mk k n v ar ks=>if jv (.mk k n v ar ks) level≠0 then jv (.mk k n v ar ks) level else gy (level+1) ar
where gy (level:Nat):List Ex→Int
 |[]=>0
 |e::r=>if dc level e≠0 then dc level e else gy level r
def dW (e:Ex):Int:=if 4096<bS e then 15 else dc 1 e
def force (e:Ex):Nat:=
 if e.kind=8 then 1 else if e.kind=7 then bB e.name
 else if e.kind=6∨(e.kind=1∧e.value.kind=2∧e.value.int<0) then 7 else 8
def paren (b:Bool) (s:az):az:=if b then [40]++s++[41] else s
def src:Ex→az
 | .mk k n v ar ks=>
  if k=1 then uF v else if k=2 then n
  else if k=3 then eO ar 0 8++[46]++n
  else if k=4 then eO ar 0 8++[91]++eO ar 1 1++[93]
  else if k=5 then n++[40]++c6 [44,32] (Gf ar)++[41]
  else if k=6 then n++eO ar 0 7
  else if k=7 then eO ar 0 (if bB n=4 then 5 else bB n)++[32]++n++[32]++eO ar 1 (bB n+1)
  else if k=8 then eO ar 0 2++[32,63,32]++eO ar 1 1++[32,58,32]++eO ar 2 1
  else if k=9 then [91]++c6 [44,32] (Gf ar)++[93]
  else [123]++c6 [44,32] (nT ar ks)++[125]
where
 eO:List Ex→Nat→Nat→az
 |[],_,_=>[]
 |e::_,0,need=>paren (decide (force e<need)) (src e)
 |_::r,i+1,need=>eO r i need
 Gf:List Ex→List az
 |[]=>[]
 |e::r=>src e::Gf r
 nT:List Ex→List az→List az
 |[],_=>[]
 |e::r,ks=>(quoteF (ks.headD [])++[58,32]++src e)::nT r ks.tail
inductive dF (α:Type) where
 |ok (x:α) (rest:List Tk)
 |err (rest:List Tk) (code:Int)
def cg (s:az) (t:Tk):Bool:=decide (t.kind=4∧t.text=s)
def lit (v:aX):Ex:= .mk 1 [] v [] []
inductive Tag where
 |cond|op (n:Nat)|ops (n:Nat) (e:Ex)|un|chain (e:Ex)|atom
 |args (close:az)|items (close:az) (acc:List Ex)|kW|xR (acc:List Ex) (ks:List az)
def kq (t:Tk):Bool:=(decide (t.kind=1)&&isName t.text)||(decide (t.kind=3)&&decide (t.text.length≤4096))
def cU (s:az) (k:List Tk→Option (dF Ex)):List Tk→Option (dF Ex)
 |[]=>some (.err [] 4)
 |t::r=>if cg s t then k r else some (.err (t::r) 5)
def aL (r:Option (dF Ex)) (k:Ex→List Tk→Option (dF Ex)):Option (dF Ex):=
 match r with
 |some (.ok e rest)=>k e rest
 |x=>x
def pF:Nat→Tag→List Tk→Option (dF Ex)
 |0,_,_=>none
 |f+1,.cond,ts=>aL (pF f (.op 2) ts) fun c r1=>match r1 with
  |[]=>some (.ok c r1)
  |t::r2=>if cg [63] t then aL (pF f .cond r2) fun a r3=>cU [58] (fun r4=>aL (pF f .cond r4) fun b r5=>some (.ok (.mk 8 [] ct [c,a,b] []) r5)) r3 else some (.ok c r1)
 |f+1,.op n,ts=>if n=7 then pF f .un ts else aL (pF f (.op (n+1)) ts) fun e r=>pF f (.ops n e) r
 |f+1,.ops n e,ts=>match ts with
  |[]=>some (.ok e [])
  |t::r=>if t.kind=4∧bB t.text=n then aL (pF f (.op (n+1)) r) fun x r2=>
    let y:=Ex.mk 7 t.text ct [e,x] []
    if n=4 then some (.ok y r2) else pF f (.ops n y) r2
   else some (.ok e ts)
 |f+1,.un,ts=>match ts with
  |[]=>pF f .atom []
  |t::r=>if cg [33] t||cg [45] t then aL (pF f .un r) fun x r2=>some (.ok (.mk 6 t.text ct [x] []) r2) else aL (pF f .atom ts) fun e r2=>pF f (.chain e) r2
 |f+1,.chain e,ts=>match ts with
  |[]=>some (.ok e [])
  |t::r=>if cg [46] t then match r with
    |[]=>some (.err [] 4)
    |u::r2=>if u.kind=1∧yT u.text=true then pF f (.chain (.mk 3 u.text ct [e] [])) r2 else some (.err (u::r2) 5)
   else if cg [91] t then aL (pF f .cond r) fun i r2=>cU [93] (fun r3=>pF f (.chain (.mk 4 [] ct [e,i] [])) r3) r2
   else some (.ok e ts)
 |f+1,.atom,ts=>match ts with
  |[]=>some (.err [] 4)
  |t::r=>
   if t.kind=2 then (if fZ t.text then some (.ok (lit (.mk 2 false (cZ t.text) [] [] [])) r) else some (.err ts 5))
   else if t.kind=3 then (if t.text.length≤4096 then some (.ok (lit (.mk 3 false 0 t.text [] [])) r) else some (.err ts 5))
   else if t.kind=1 then
    if t.text=jc then some (.ok (lit ct) r) else if t.text=gX∨t.text=fY then some (.ok (lit (.mk 1 (decide (t.text=gX)) 0 [] [] [])) r)
    else if isName t.text=true then match r with
      |[]=>some (.ok (.mk 2 t.text ct [] []) r)
      |u::r2=>if cg [40] u then aL (pF f (.args [41]) r2) fun l r3=>some (.ok (.mk 5 t.text ct l.args []) r3) else some (.ok (.mk 2 t.text ct [] []) r)
     else some (.err ts 5)
   else if cg [40] t then aL (pF f .cond r) fun e r2=>cU [41] (fun r3=>some (.ok e r3)) r2
   else if cg [91] t then aL (pF f (.args [93]) r) fun l r3=>some (.ok (.mk 9 [] ct l.args []) r3)
   else if cg [123] t then pF f .kW r
   else some (.err ts 5)
 |f+1,.args close,ts=>match ts with
  |[]=>pF f (.items close []) []
  |t::r=>if cg close t then some (.ok (.mk 0 [] ct [] []) r) else pF f (.items close []) ts
 |f+1,.items close acc,ts=>aL (pF f .cond ts) fun x r=>match r with
  |[]=>some (.err [] 4)
  |t::r2=>if cg close t then some (.ok (.mk 0 [] ct (acc++[x]) []) r2) else if cg [44] t then pF f (.items close (acc++[x])) r2 else some (.err r 5)
 |f+1,.kW,ts=>match ts with
  |[]=>pF f (.xR [] []) []
  |t::r=>if cg [125] t then some (.ok (.mk 10 [] ct [] []) r) else pF f (.xR [] []) ts
 |f+1,.xR acc ks,ts=>match ts with
  |[]=>some (.err [] 4)
  |t::r=>if kq t then cU [58] (fun r2=>aL (pF f .cond r2) fun x r3=>match r3 with
    |[]=>some (.err [] 4)
    |u::r4=>if cg [125] u then some (.ok (.mk 10 [] ct (acc++[x]) (ks++[t.text])) r4) else if cg [44] u then pF f (.xR (acc++[x]) (ks++[t.text])) r4 else some (.err r3 5)) r
   else some (.err ts 5)
def nG (ts:List Tk):Nat:=16*ts.length+16
def eP (ts:List Tk):dF Ex:=
 match pF (nG ts) .cond ts with
 |some (.ok e r)=>if dW e≠0 then .err ts (dW e) else .ok e r
 |some x=>x
 |none=> .err ts 0
inductive Yx where
 |ok (e:Ex)
 |err (at_:Int) (code:Int)
def au:dF Ex→List Tk
 | .ok _ r=>r
 | .err r _=>r
def lens:List az→Nat
 |[]=>0
 |s::r=>s.length+2+lens r
theorem take_snoc {α:Type} [Inhabited α] {l:List α} {i:Nat} (h:i<l.length):l.take (i+1)=l.take i++[l.getD i default]:=by
 rw [List.take_add_one];simp [aat,h]
def cj:aX→Nat
 | .mk _ _ _ s l ks=>32+4*s.length+dm ks+jr l
where
 dm:List az→Nat
 |[]=>0
 |k::r=>4*k.length+8+dm r
 jr:List aX→Nat
 |[]=>0
 |v::r=>cj v+jr r
theorem jK (v:aX):cj v=32+4*v.str.length+cj.dm v.keys+cj.jr v.list:=by cases v;rw [cj];rfl
theorem rP {l:List aX} {v:aX} (h:v∈l):cj v≤cj.jr l:=by
 induction l with
 |nil=>simp at h
 |cons a r ih=>
  simp only [cj.jr]
  rcases List.mem_cons.1 h with rfl|h
  ·omega
  ·have:=ih h;omega
def lX:aX→Prop
 | .mk _ _ i _ l _=>(-9223372036854775808≤i∧i≤9223372036854775807)∧yb l
where yb:List aX→Prop
 |[]=>True
 |v::r=>lX v∧yb r
theorem uI:∀ l:List aX,lX.yb l↔∀ v∈l,lX v
 |[]=>by simp [lX.yb]
 |v::r=>by simp [lX.yb,uI r]
theorem l6 (v:aX):lX v↔(-9223372036854775808≤v.int∧v.int≤9223372036854775807)∧∀ x∈v.list,lX x:=by
 cases v;simp only [lX,uI,aX.int,aX.list]
def bq:Ex→Nat
 | .mk _ n v ar ks=>64+n.length+cj v+cj.dm ks+er ar
where er:List Ex→Nat
 |[]=>0
 |e::r=>bq e+er r
theorem iq (e:Ex):bq e=64+e.name.length+cj e.value+cj.dm e.keys+bq.er e.args:=by cases e;rw [bq];rfl
def ot:Ex→Prop
 | .mk _ _ v ar _=>lX v∧yc ar
where yc:List Ex→Prop
 |[]=>True
 |v::r=>ot v∧yc r
theorem uK:∀ l:List Ex,ot.yc l↔∀ v∈l,ot v
 |[]=>by simp [ot.yc]
 |v::r=>by simp [ot.yc,uK r]
theorem l8 (e:Ex):ot e↔lX e.value∧∀ x∈e.args,ot x:=by
 cases e;simp only [ot,uK,Ex.value,Ex.args]
inductive e8 where
 |mk (kind int:Int) (str:az) (list:List e8)
 deriving Inhabited
def e8.kind:e8→Int| .mk k _ _ _=>k
def e8.int:e8→Int| .mk _ n _ _=>n
def e8.str:e8→az| .mk _ _ s _=>s
def e8.list:e8→List e8| .mk _ _ _ l=>l
def p4 (n:Int):e8:= .mk 0 n [] []
def aag (s:az):e8:= .mk 1 0 s []
def e7 (l:List e8):e8:= .mk 2 0 [] l
theorem sizeOf_flist {b x:e8} (h:x∈b.list):sizeOf x<sizeOf b:=by
 cases b with|mk k n a l=>have:=List.sizeOf_lt_of_mem h;simp only [e8.list] at this;simp only [e8.mk.sizeOf_spec];omega
theorem e8.ind {p:e8→Prop} (h:∀ b,(∀ x∈b.list,p x)→p b):∀ b,p b:=by
 have key:∀ n:Nat,∀ v:e8,sizeOf v<n→p v:=by
  intro n
  induction n with
  |zero=>intro v hv;omega
  |succ n ih=>intro v hv;exact h v fun x hx=>ih x (by have:=sizeOf_flist hx;omega)
 exact fun v=>key _ v (Nat.lt_succ_self _)
def cleanF (f:e8):Bool:=if f.kind=0 then decide (f.str=[])&&decide (f.list=[]) else if f.kind=1 then decide (f.int=0)&&decide (f.list=[]) else if f.kind=2 then decide (f.int=0)&&decide (f.str=[]) else false
def oValid (depth:Nat):e8→Int
 | .mk k n s l=>if 128<depth then 13 else if cleanF (.mk k n s l)=false then 1 else oValidL (depth+1) l
where oValidL (depth:Nat):List e8→Int
 |[]=>0
 |f::r=>if oValid depth f≠0 then oValid depth f else oValidL depth r
def aN:e8→Nat
 | .mk _ _ s l=>64+s.length+e6 l
where e6:List e8→Nat
 |[]=>0
 |f::r=>aN f+e6 r
theorem fBulk_eq (f:e8):aN f=64+f.str.length+aN.e6 f.list:=by cases f;rfl
theorem fBulkL_mem:∀ {l:List e8} {x:e8},x∈l→aN x≤aN.e6 l
 |y::r,x,h=>by
  rcases List.mem_cons.1 h with rfl|h
  ·simp [aN.e6]
  ·have:=fBulkL_mem h;simp only [aN.e6];omega
def fI:e8→Prop
 | .mk k n _ l=>(k=0∨k=1∨k=2)∧(-9223372036854775808≤n∧n≤9223372036854775807)∧fIL l
where fIL:List e8→Prop
 |[]=>True
 |f::r=>fI f∧fIL r
theorem fIL_iff:∀ l:List e8,fI.fIL l↔∀ f∈l,fI f
 |[]=>by simp [fI.fIL]
 |f::r=>by simp [fI.fIL,fIL_iff r]
theorem fI_iff (f:e8):fI f↔(f.kind=0∨f.kind=1∨f.kind=2)∧(-9223372036854775808≤f.int∧f.int≤9223372036854775807)∧∀ x∈f.list,fI x:=by
 cases f;simp only [fI,fIL_iff,e8.kind,e8.int,e8.list]
inductive Bk where
 |mk (kind name:az) (attrs:List (az×Ex)) (blocks:List Bk)
 deriving Inhabited
def Bk.kind:Bk→az| .mk k _ _ _=>k
def Bk.name:Bk→az| .mk _ n _ _=>n
def Bk.attrs:Bk→List (az×Ex)| .mk _ _ a _=>a
def Bk.blocks:Bk→List Bk| .mk _ _ _ b=>b
theorem tX {b x:Bk} (h:x∈b.blocks):sizeOf x<sizeOf b:=by
 cases b with|mk k n a l=>have:=List.sizeOf_lt_of_mem h;simp only [Bk.blocks] at this;simp only [Bk.mk.sizeOf_spec];omega
theorem Bk.ind {p:Bk→Prop} (h:∀ b,(∀ x∈b.blocks,p x)→p b):∀ b,p b:=by
 have key:∀ n:Nat,∀ v:Bk,sizeOf v<n→p v:=by
  intro n
  induction n with
  |zero=>intro v hv;omega
  |succ n ih=>intro v hv;exact h v fun x hx=>ih x (by have:=tX hx;omega)
 exact fun v=>key _ v (Nat.lt_succ_self _)
inductive RB where
 |ok (b:Bk) (rest:List Tk)
 |err (rest:List Tk) (code:Int)
def fo (t:Tk):Bool:=decide (t.kind=1)&&yT t.text
def gi (p:Tk→Bool) (k:List Tk→Option RB):List Tk→Option RB
 |[]=>some (.err [] 4)
 |t::r=>if p t then k r else some (.err (t::r) 5)
def iu (t:Tk):Bool:=decide (t.kind=5)
def kB:List Tk→az×List Tk
 |[]=>([],[])
 |t::r=>if t.kind=3∧t.text≠[] then (t.text,r) else ([],t::r)
inductive rR where
 |block|items (kind name:az) (attrs:List (az×Ex)) (blocks:List Bk)
def bF:Nat→rR→List Tk→Option RB
 |0,_,_=>none
 |_+1,.block,[]=>some (.err [] 4)
 |f+1,.block,t::r=>if fo t then gi (cg [123]) (fun r2=>gi iu (fun r3=>bF f (.items t.text (kB r).1 [] []) r3) r2) (kB r).2 else some (.err (t::r) 5)
 |f+1,.items k n a l,ts=>match ts with
  |[]=>some (.err [] 4)
  |t::r=>
   if cg [125] t then some (.ok (.mk k n a l) r)
   else if fo t=false then some (.err ts 5)
   else match r with
    |u::r2=>if cg [61] u then (match eP r2 with
       | .ok x r3=>gi iu (fun r4=>bF f (.items k n (a++[(t.text,x)]) l) r4) r3
       | .err r3 c=>some (.err r3 c))
      else (match bF f .block ts with
       |some (.ok b r3)=>gi iu (fun r4=>bF f (.items k n a (l++[b])) r4) r3
       |y=>y)
    |[]=>(match bF f .block ts with
       |some (.ok b r3)=>gi iu (fun r4=>bF f (.items k n a (l++[b])) r4) r3
       |y=>y)
inductive RF where
 |ok (l:List Bk)
 |err (rest:List Tk) (code:Int)
inductive Qn where
 |ok (l:List Bk)
 |err (at_:Int) (code:Int)
def Ui (t u:Tk):Prop:=u.kind=t.kind∧u.text=t.text
def rT:List Tk→List Tk→Prop
 |[],[]=>True
 |t::l,u::m=>Ui t u∧rT l m
 |_,_=>False
def stop:List Tk→Prop
 |[]=>True
 |t::_=>t.kind=4→bB t.text=0∧t.text≠[63]∧t.text≠[46]∧t.text≠[91]∧t.text≠[40]
def Kp (r Z:List Tk):Prop:=stop Z∨∃ t l u l',r=t::l∧Z=u::l'∧Ui t u
def Uj (n:Nat) (t:Tk):Nat:=if t.kind=4 then jI t.text n else n
def dep (n:Nat) (a:List Tk):Nat:=a.foldl Uj n
def Loc (b:Bool) (n m:Nat) (g:List Tk→Option (dF Ex)) (ts:List Tk) (e:Ex) (r:List Tk):Prop:=
 ∃ a,(b=true→a≠[])∧(dep n a=m∧∀ t∈a,t.kind≠5)∧ts=a++r∧∀ a' Z,rT a a'→Kp r Z→g (a'++Z)=some (.ok e Z)
theorem yf:∀ {a b x:List Tk},rT (a++b) x→∃ x1 x2,x=x1++x2∧rT a x1∧rT b x2
 |[],b,x,h=>⟨[],x,rfl,trivial,h⟩
 |t::a,b,[],h=>h.elim
 |t::a,b,u::x,h=>by
  obtain ⟨x1,x2,e,h1,h2⟩:=yf (a:=a) h.2
  exact ⟨u::x1,x2,by rw [e];rfl,⟨h.1,h1⟩,h2⟩
theorem NG {a x r Z:List Tk} (h:rT a x) (hK:Kp r Z):Kp (a++r) (x++Z):=by
 cases a with
 |nil=>cases x with
  |nil=>exact hK
  |cons u x=>exact h.elim
 |cons t a=>cases x with
  |nil=>exact h.elim
  |cons u x=>exact .inr ⟨t,a++r,u,x++Z,rfl,rfl,h.1⟩
section
variable {b b':Bool} {n m q:Nat} {g G:List Tk→Option (dF Ex)} {ts r:List Tk} {e:Ex} {t:Tk} {l:List Tk}
theorem Loc.bind {k:Ex→List Tk→Option (dF Ex)} {e1:Ex} {r1:List Tk} (h1:Loc b n m g ts e1 r1) (h2:Loc b' m q (k e1) r1 e r):Loc b n q (fun l=>aL (g l) k) ts e r:=by
 obtain ⟨a1,n1,d1,rfl,p1⟩:=h1
 obtain ⟨a2,n2,d2,rfl,p2⟩:=h2
 refine ⟨a1++a2,fun h=>by simp [n1 h],?_,by simp,?_⟩
 ·refine ⟨by rw [←d2.1,←d1.1];simp [dep,List.foldl_append],fun t ht=>?_⟩
  rcases List.mem_append.1 ht with ht|ht
  ·exact d1.2 t ht
  ·exact d2.2 t ht
 ·intro a' Z hs hK
  obtain ⟨x1,x2,rfl,s1,s2⟩:=yf hs
  simp only [aaG]
  rw [p1 x1 (x2++Z) s1 (NG s2 hK)]
  exact p2 x2 Z s2 hK
theorem Loc.cons {h:List Tk→Option (dF Ex)} (hl:Loc b m q h l e r) (hn:Uj n t=m∧t.kind≠5) (hg:∀ u l',Ui t u→g (u::l')=h l'):Loc true n q g (t::l) e r:=by
 obtain ⟨a,_,d,rfl,p⟩:=hl
 refine ⟨t::a,fun _=>by simp,?_,rfl,?_⟩
 ·refine ⟨by rw [←d.1,←hn.1];rfl,fun u hu=>?_⟩
  rcases List.mem_cons.1 hu with rfl|hu
  ·exact hn.2
  ·exact d.2 u hu
 ·intro a' Z hs hK
  cases a' with
  |nil=>exact hs.elim
  |cons u x=>exact (hg u (x++Z) hs.1).trans (p x Z hs.2 hK)
theorem Loc.done (hg:∀ Z,Kp r Z→g Z=some (.ok e Z)):Loc false n n g r e r:=by
 refine ⟨[],(fun h=>by cases h),⟨rfl,fun t ht=>by cases ht⟩,rfl,fun a' Z hs hK=>?_⟩
 cases a' with
 |nil=>exact hg Z hK
 |cons u x=>exact hs.elim
theorem Loc.nil (h:Loc true n m g [] e r):False:=by
 obtain ⟨a,k,_,h1,_⟩:=h
 simp at h1
 exact k rfl h1.1
end
def Ta:Tag→Bool
 | .ops _ _| .chain _=>false
 |_=>true
def Gb (x y:Option (dF Ex)):Prop:=x=none∨x=y
theorem Gb.rf {x:Option (dF Ex)}:Gb x x:= .inr rfl
theorem eZ {x y:Option (dF Ex)} {k k':Ex→List Tk→Option (dF Ex)} (h:Gb x y) (hk:∀ e r,Gb (k e r) (k' e r)):Gb (aL x k) (aL y k'):=by
 rcases h with rfl|rfl
 ·exact .inl rfl
 ·rcases x with _|(⟨c,r1⟩|⟨r1,ec⟩)
  ·exact .inl rfl
  ·exact hk c r1
  ·exact .inr rfl
theorem oc {s:az} {k k':List Tk→Option (dF Ex)} (hk:∀ r,Gb (k r) (k' r)) (l:List Tk):Gb (cU s k l) (cU s k' l):=by
 cases l with
 |nil=>exact .inr rfl
 |cons t r=>
  simp only [cU]
  split
  ·exact hk r
  ·exact .inr rfl
theorem dK {c:Prop} [Decidable c] {a b a' b':Option (dF Ex)} (h1:Gb a a') (h2:Gb b b'):Gb (if c then a else b) (if c then a' else b'):=by
 split
 ·exact h1
 ·exact h2
theorem S8:∀ (f g:Nat) (tag:Tag) (ts:List Tk),f≤g→Gb (pF f tag ts) (pF g tag ts):=by
 intro f
 induction f with
 |zero=>intro g tag ts _;exact .inl (by simp [pF])
 |succ f ih=>
  intro g tag ts hg
  obtain ⟨g,rfl⟩:∃ G,g=G+1:=⟨g - 1,by omega⟩
  have I:∀ (tag:Tag) (ts:List Tk),Gb (pF f tag ts) (pF g tag ts):=fun tag ts=>ih g tag ts (by omega)
  cases tag with
  |cond=>
   simp only [pF]
   refine eZ (I _ _) fun c r1=>?_
   rcases r1 with _|⟨t,r2⟩
   ·exact .rf
   ·exact dK (eZ (I _ _) fun a r3=>oc (fun r4=>eZ (I _ _) fun b r5=> .rf) _) .rf
  |op n=>simp only [pF];exact dK (I _ _) (eZ (I _ _) fun e r=>I _ _)
  |ops n e=>
   simp only [pF]
   rcases ts with _|⟨t,r⟩
   ·exact .rf
   ·exact dK (eZ (I _ _) fun x r2=>dK .rf (I _ _)) .rf
  |un=>
   simp only [pF]
   rcases ts with _|⟨t,r⟩
   ·exact I _ _
   ·exact dK (eZ (I _ _) fun x r2=> .rf) (eZ (I _ _) fun x r2=>I _ _)
  |chain e=>
   simp only [pF]
   rcases ts with _|⟨t,r⟩
   ·exact .rf
   ·refine dK ?_ (dK (eZ (I _ _) fun x r2=>oc (fun r3=>I _ _) _) .rf)
    rcases r with _|⟨u,r⟩
    ·exact .rf
    ·exact dK (I _ _) .rf
  |atom=>
   simp only [pF]
   rcases ts with _|⟨t,r⟩
   ·exact .rf
   ·refine dK .rf (dK .rf (dK (dK .rf (dK .rf (dK ?_ .rf))) (dK (eZ (I _ _) fun x r2=> .rf) (dK (eZ (I _ _) fun x r2=> .rf) (dK (I _ _) .rf)))))
    rcases r with _|⟨u,r⟩
    ·exact .rf
    ·exact dK (eZ (I _ _) fun x r2=> .rf) .rf
  |args close=>
   simp only [pF]
   rcases ts with _|⟨t,r⟩
   ·exact I _ _
   ·exact dK .rf (I _ _)
  |items close acc=>
   simp only [pF]
   refine eZ (I _ _) fun x r=>?_
   rcases r with _|⟨t,r⟩
   ·exact .rf
   ·exact dK .rf (dK (I _ _) .rf)
  |kW=>
   simp only [pF]
   rcases ts with _|⟨t,r⟩
   ·exact I _ _
   ·exact dK .rf (I _ _)
  |xR acc ks=>
   simp only [pF]
   rcases ts with _|⟨t,r⟩
   ·exact .rf
   ·refine dK (oc (fun r2=>eZ (I _ _) fun x r3=>?_) _) .rf
    rcases r3 with _|⟨u,r4⟩
    ·exact .rf
    ·exact dK .rf (dK (I _ _) .rf)
theorem zc {f g:Nat} {tag:Tag} {ts:List Tk} {x:dF Ex} (h:pF f tag ts=some x) (hg:f≤g):pF g tag ts=some x:=by
 rcases S8 f g tag ts hg with h1|h1
 ·rw [h] at h1;cases h1
 ·rw [←h1,h]
def Pr (tag:Tag) (ts:List Tk) (x:dF Ex):Prop:=∃ f,pF f tag ts=some x
theorem Pr.two {t1 t2:Tag} {l1 l2:List Tk} {x y:dF Ex} (h:Pr t1 l1 x) (k:Pr t2 l2 y):∃ f,pF f t1 l1=some x∧pF f t2 l2=some y:=by
 obtain ⟨f,h⟩:=h
 obtain ⟨g,k⟩:=k
 exact ⟨max f g,zc h (Nat.le_max_left f g),zc k (Nat.le_max_right f g)⟩
def hs:List Tk→Nat
 |[]=>0
 |t::_=>if t.kind=4 then bB t.text else 0
def no (s:az) (l:List Tk):Prop:=∀ t r,l=t::r→cg s t=false
def IL (l:List Tk):Prop:=no [46] l∧no [91] l∧no [40] l
def S9 (l:List Tk):Prop:=hs l=0∧IL l∧no [63] l
section
variable {ts r r2 l:List Tk} {e a b x:Ex} {y:dF Ex} {t u:Tk} {n:Nat}
theorem Pr.op (hn:n≠7) (h:Pr (.op (n+1)) ts (.ok e r)) (k:Pr (.ops n e) r y):Pr (.op n) ts y:=by
 obtain ⟨f,h,k⟩:=h.two k
 exact ⟨f+1,by simp only [pF,if_neg hn,h,aL,k]⟩
theorem LF (h:Pr .atom ts (.ok a r)):∃ t l,ts=t::l∧cg [33] t=false∧cg [45] t=false:=by
 obtain ⟨f,h⟩:=h
 cases f with
 |zero=>simp [pF] at h
 |succ f=>
  cases ts with
  |nil=>simp [pF] at h
  |cons t l=>
   refine ⟨t,l,rfl,?_⟩
   have key:∀ s:az,(s=[33]∨s=[45])→cg s t=false:=by
    intro s hs
    cases ho:cg s t with
    |false=>rfl
    |true=>
     exfalso
     simp only [cg,aaH] at ho
     obtain ⟨h1,h2⟩:=ho
     have e1:cg [40] t=false:=by simp only [cg,h1,h2];rcases hs with rfl|rfl<;>decide
     have e2:cg [91] t=false:=by simp only [cg,h1,h2];rcases hs with rfl|rfl<;>decide
     have e3:cg [123] t=false:=by simp only [cg,h1,h2];rcases hs with rfl|rfl<;>decide
     simp only [pF,e1,e2,e3,h1] at h
     simp at h
   exact ⟨key _ (.inl rfl),key _ (.inr rfl)⟩
def PC (ts:List Tk) (y:dF Ex):Prop:=∃ a r,Pr .atom ts (.ok a r)∧Pr (.chain a) r y
theorem PC.un (h:PC ts y):Pr .un ts y:=by
 obtain ⟨a,r,h1,h2⟩:=h
 obtain ⟨t,l,rfl,n1,n2⟩:=LF h1
 obtain ⟨f,h1,h2⟩:=h1.two h2
 exact ⟨f+1,by simp only [pF,n1,n2,Bool.or_self,aaS,if_false,h1,aL,h2]⟩
theorem Pr.args1 {close:az} (ht:cg close t=false) (h:Pr (.items close []) (t::r) y):Pr (.args close) (t::r) y:=by
 obtain ⟨f,h⟩:=h
 exact ⟨f+1,by simp only [pF,ht,aaS,if_false,h]⟩
end
def tO (s:az):Tk:=⟨4,s,0⟩
def tN (s:az):Tk:=⟨1,s,0⟩
def tS (s:az):Tk:=⟨3,s,0⟩
def tD (s:az):Tk:=⟨2,s,0⟩
def Qt (v:aX):Tk:=
 if v.kind=1 then tN (if v.bool then gX else fY) else if v.kind=2 then tD (rL v.int.natAbs) else if v.kind=3 then tS v.str else tN jc
def Xo (b:Bool) (l:List Tk):List Tk:=if b then tO [40]::l++[tO [41]] else l
def Df:List (List Tk)→List Tk
 |[]=>[]
 |a::r=>if r=[] then a else a++tO [44]::Df r
def LG:Ex→List Tk
 | .mk k n v ar ks=>
  if k=1 then [Qt v] else if k=2 then [tN n]
  else if k=3 then nI ar 0 8++[tO [46],tN n]
  else if k=4 then nI ar 0 8++tO [91]::nI ar 1 1++[tO [93]]
  else if k=5 then tN n::tO [40]::Df (O0 ar)++[tO [41]]
  else if k=6 then tO n::nI ar 0 7
  else if k=7 then nI ar 0 (if bB n=4 then 5 else bB n)++tO n::nI ar 1 (bB n+1)
  else if k=8 then nI ar 0 2++tO [63]::nI ar 1 1++tO [58]::nI ar 2 1
  else if k=9 then tO [91]::Df (O0 ar)++[tO [93]]
  else tO [123]::Df (aab ar ks)++[tO [125]]
where
 nI:List Ex→Nat→Nat→List Tk
 |[],_,_=>[]
 |e::_,0,need=>Xo (decide (force e<need)) (LG e)
 |_::r,i+1,need=>nI r i need
 O0:List Ex→List (List Tk)
 |[]=>[]
 |e::r=>LG e::O0 r
 aab:List Ex→List az→List (List Tk)
 |[],_=>[]
 |e::r,ks=>(tS (ks.headD [])::tO [58]::LG e)::aab r ks.tail
def Tb (v:aX):Prop:=
 v=ct∨(∃ b,v= .mk 1 b 0 [] [] [])∨(∃ n:Nat,v= .mk 2 false n [] [] []∧n≤9007199254740992)∨∃ s:az,v= .mk 3 false 0 s [] []∧s.length≤4096
def O1 (e : Ex) : Prop :=
  ((e.kind = 1 ∧ Tb e.value ∧ e.name = [] ∧ e.args = [] ∧ e.keys = []) ∨
   (e.value = ct ∧ e.keys = [] ∧ e.kind = 2 ∧ yT e.name = true ∧ e.args = []) ∨
   (e.value = ct ∧ e.keys = [] ∧ e.kind = 3 ∧ yT e.name = true ∧ ∃ a, e.args = [a]) ∨
   (e.value = ct ∧ e.keys = [] ∧ e.kind = 4 ∧ e.name = [] ∧ ∃ a b, e.args = [a, b]) ∨
   (e.value = ct ∧ e.keys = [] ∧ e.kind = 5 ∧ yT e.name = true) ∨
   (e.value = ct ∧ e.keys = [] ∧ e.kind = 6 ∧ (e.name = [33] ∨ e.name = [45]) ∧ ∃ a, e.args = [a]) ∨
   (e.value = ct ∧ e.keys = [] ∧ e.kind = 7 ∧ 0 < bB e.name ∧ ∃ a b, e.args = [a, b]) ∨
   (e.value = ct ∧ e.keys = [] ∧ e.kind = 8 ∧ e.name = [] ∧ ∃ a b c, e.args = [a, b, c]) ∨
   (e.value = ct ∧ e.keys = [] ∧ e.kind = 9 ∧ e.name = []) ∨
   (e.value = ct ∧ e.kind = 10 ∧ e.name = [] ∧ e.keys.length = e.args.length ∧ ∀ k ∈ e.keys, fP k = true))
inductive O2:Ex→Prop
 |mk (e:Ex):O1 e→(∀ x∈e.args,O2 x)→O2 e
structure Reads (e:Ex):Prop where
 pc:8≤force e→∀ r y,no [40] r→Pr (.chain e) r y→PC (LG e++r) y
 un:7≤force e→∀ r,IL r→Pr .un (LG e++r) (.ok e r)
 op:∀ n r y,2≤n→n≤6→n≤force e→hs r≤n→(hs r=4→n≠4)→IL r→Pr (.ops n e) r y→Pr (.op n) (LG e++r) y
 cond:∀ r,S9 r→Pr .cond (LG e++r) (.ok e r)
 head:∃ t l,LG e=t::l∧(t.kind=4→t.text=[33]∨t.text=[45]∨t.text=[40]∨t.text=[91]∨t.text=[123])
section
variable (n:az) (v:aX) (ar:List Ex) (ks:List az)
end
section
variable {r r2 r3:List Tk} {e x l:Ex} {y:dF Ex} {s:az}
end
def Lx (s:az) (T:List Tk) (ok:az→Prop):Prop:=
 ∀ X,ok X→∀ (g a op:Nat) (out:List Tk),s.length+X.length<g→∃ g' a' new,X.length<g'∧rT T new∧dV g a (s++X) op out=dV g' a' X (dep op T) (out++new)
def Zb (X:az):Prop:=∀ c r,X=c::r→b9 c=false
theorem sI:∀ {a b x y:List Tk},rT a x→rT b y→rT (a++b) (x++y)
 |[],_,[],_,_,h=>h
 |[],_,_::_,_,h,_=>h.elim
 |_::_,_,[],_,h,_=>h.elim
 |_::_,_,_::_,_,h,k=>⟨h.1,sI h.2 k⟩
theorem Lx.app {s1 s2:az} {T1 T2:List Tk} {ok1 ok2:az→Prop} (h1:Lx s1 T1 ok1) (h2:Lx s2 T2 ok2) (h:∀ X,ok2 X→ok1 (s2++X)):Lx (s1++s2) (T1++T2) ok2:=by
 intro X hX g a op out hg
 rw [aaB] at hg
 obtain ⟨g1,a1,n1,l1,m1,e1⟩:=h1 (s2++X) (h X hX) g a op out (by rw [aaB];omega)
 rw [aaB] at l1
 obtain ⟨g2,a2,n2,l2,m2,e2⟩:=h2 X hX g1 a1 (dep op T1) (out++n1) l1
 exact ⟨g2,a2,n1++n2,l2,sI m1 m2,by rw [aaG,e1,e2,aaG];simp only [dep,List.foldl_append]⟩
theorem Lx.mono {s:az} {T:List Tk} {ok ok':az→Prop} (h:Lx s T ok) (k:∀ X,ok' X→ok X):Lx s T ok':=fun X hX=>h X (k X hX)
theorem Lx.tok {c:UInt8} {r t:az} {k:Int} {ok:az→Prop} (hc:c.toNat≠32∧c.toNat≠9∧c.toNat≠35∧c.toNat≠10) (h:∀ X,ok X→jy (c::(r++X))= .ok k t (r.length+1)):Lx (c::r) [⟨k,t,0⟩] ok:=by
 intro X hX g a op out hg
 obtain ⟨g,rfl⟩:∃ G,g=G+1:=⟨g - 1,by omega⟩
 obtain ⟨h1,h2,h3,h4⟩:=hc
 simp only [aaF] at hg
 refine ⟨g,a+(r.length+1),[⟨k,t,a⟩],by omega,⟨⟨rfl,rfl⟩,trivial⟩,?_⟩
 simp only [aa5,dV]
 rw [if_neg (by omega),if_neg (by omega),if_neg (by omega),h X hX]
 simp [dep,Uj]
section
variable (n:az) (v:aX) (ar:List Ex) (ks:List az)
end
structure Yd (e:Ex):Prop where
 lx:Lx (src e) (LG e) Zb
 hd:∃ c r,src e=c::r∧c≠61
def Ly (s:az) (T:List Tk):Prop:=
 ∀ (X:az) (g a:Nat) (out:List Tk),s.length+X.length<g→∃ g' a' new,X.length<g'∧rT T new∧dV g a (s++X) 0 out=dV g' a' X 0 (out++new)
theorem Ly.nil:Ly [] []:=fun X g a out hg=>⟨g,a,[],by simpa using hg,trivial,by simp⟩
theorem Ly.app {s1 s2:az} {T1 T2:List Tk} (h1:Ly s1 T1) (h2:Ly s2 T2):Ly (s1++s2) (T1++T2):=by
 intro X g a out hg
 rw [aaB] at hg
 obtain ⟨g1,a1,n1,l1,m1,e1⟩:=h1 (s2++X) g a out (by rw [aaB];omega)
 rw [aaB] at l1
 obtain ⟨g2,a2,n2,l2,m2,e2⟩:=h2 X g1 a1 (out++n1) l1
 exact ⟨g2,a2,n1++n2,l2,sI m1 m2,by rw [aaG,e1,e2,aaG]⟩
inductive Ns:Bk→Prop
 |mk (b:Bk):yT b.kind=true→b.name.length≤64→(∀ x∈b.attrs,yT x.1=true∧O2 x.2∧dW x.2=0)→(∀ x∈b.blocks,Ns x)→Ns b
def Pb (tag:rR) (ts:List Tk) (x:RB):Prop:=∃ f,bF f tag ts=some x
theorem rE {p:Tk→Bool} {k k':List Tk→Option RB} {l:List Tk} {x:RB} (hk:∀ r,k r=some x→k' r=some x) (h:gi p k l=some x):gi p k' l=some x:=by
 cases l with
 |nil=>exact h
 |cons t r=>
  simp only [gi] at h ⊢
  split at h
  ·rename_i ht;rw [if_pos ht];exact hk r h
  ·rename_i ht;rw [if_neg ht];exact h
theorem Nt:∀ (f g:Nat) (tag:rR) (ts:List Tk) (x:RB),f≤g→bF f tag ts=some x→bF g tag ts=some x:=by
 intro f
 induction f with
 |zero=>intro g tag ts x _ h;simp [bF] at h
 |succ f ih=>
  intro g tag ts x hg h
  obtain ⟨g,rfl⟩:∃ G,g=G+1:=⟨g - 1,by omega⟩
  have I:∀ {tag:rR} {ts:List Tk} {x:RB},bF f tag ts=some x→bF g tag ts=some x:=fun h=>ih g _ _ _ (by omega) h
  cases tag with
  |block=>
   cases ts with
   |nil=>simpa only [bF] using h
   |cons t r=>
    simp only [bF] at h ⊢
    split at h
    ·rename_i ht
     rw [if_pos ht]
     exact rE (fun r h=>rE (fun r h=>I h) h) h
    ·rename_i ht
     rw [if_neg ht];exact h
  |items k n a l=>
   simp only [bF] at h ⊢
   cases ts with
   |nil=>exact h
   |cons t r=>
    have nest:(match bF f .block (t::r) with
       |some (.ok b r3)=>gi iu (fun r4=>bF f (.items k n a (l++[b])) r4) r3
       |y=>y)=some x→(match bF g .block (t::r) with
       |some (.ok b r3)=>gi iu (fun r4=>bF g (.items k n a (l++[b])) r4) r3
       |y=>y)=some x:=by
     intro h
     cases hb:bF f .block (t::r) with
     |none=>rw [hb] at h;simp at h
     |some y=>
      rw [hb] at h
      rw [I hb]
      cases y with
      |ok b r3=>exact rE (fun r h=>I h) h
      |err r3 c=>exact h
    simp only at h ⊢
    split at h
    ·rename_i h1;rw [if_pos h1];exact h
    ·rename_i h1
     rw [if_neg h1]
     split at h
     ·rename_i h2;rw [if_pos h2];exact h
     ·rename_i h2
      rw [if_neg h2]
      cases r with
      |nil=>exact nest h
      |cons u r2=>
       simp only at h ⊢
       split at h
       ·rename_i h3
        rw [if_pos h3]
        cases ht:eP r2 with
        |ok y r3=>rw [ht] at h;exact rE (fun r h=>I h) h
        |err r3 c=>rw [ht] at h;exact h
       ·rename_i h3
        rw [if_neg h3];exact nest h
section
variable {t u w:Tk} {r r2 r3 r4:List Tk} {k n:az} {a:List (az×Ex)} {l:List Bk} {x:Ex} {b:Bk} {y:RB}
theorem Pb.block (ht:fo t=true) (hn:kB r=(n,u::w::r3)) (hu:cg [123] u=true) (hw:iu w=true) (h:Pb (.items t.text n [] []) r3 y):Pb .block (t::r) y:=by
 obtain ⟨f,h⟩:=h
 exact ⟨f+1,by simp only [bF,ht,if_true,hn,gi,hu,hw,h]⟩
theorem Pb.stop (ht:cg [125] t=true):Pb (.items k n a l) (t::r) (.ok (.mk k n a l) r):=⟨1,by simp only [bF,ht,if_true]⟩
theorem LH {s:az} (ht:fo t=true):cg s t=false:=by
 simp only [fo,aaA,aaH] at ht
 simp only [cg,decide_eq_false_iff_not]
 rintro ⟨h,_⟩;omega
theorem Pb.sub (ht:fo t=true) (hu:no [61] r) (hb:Pb .block (t::r) (.ok b (w::r4))) (hw:iu w=true) (h:Pb (.items k n a (l++[b])) r4 y):Pb (.items k n a l) (t::r) y:=by
 obtain ⟨f,h⟩:=h
 obtain ⟨g,hb⟩:=hb
 have h1:=Nt _ _ _ _ _ (Nat.le_max_left f g) h
 have h2:=Nt _ _ _ _ _ (Nat.le_max_right f g) hb
 refine ⟨max f g+1,?_⟩
 simp only [bF,LH ht,aaS,if_false,ht,Bool.true_eq_false]
 cases r with
 |nil=>simp only [h2,gi,hw,if_true,h1]
 |cons u r=>simp only [hu u r rfl,aaS,if_false,h2,gi,hw,if_true,h1]
end
end Go.Proofs.YtgclflkhpkdecaaGreatDoor
