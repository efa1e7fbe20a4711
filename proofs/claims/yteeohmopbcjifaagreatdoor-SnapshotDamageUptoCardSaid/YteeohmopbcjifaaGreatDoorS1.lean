import Derived.Test.YteeohmopbcjifaaGreatDoorSA
set_option linter.unusedSimpArgs false
set_option linter.unusedVariables false
namespace Go.Proofs.YteeohmopbcjifaaGreatDoor
abbrev cx:=List UInt8
inductive aX where
 |mk (kind:Int) (bool:Bool) (int:Int) (str:cx) (list:List aX) (keys:List cx)
 deriving Inhabited
inductive Ex where
 |mk (kind:Int) (name:cx) (value:aX) (args:List Ex) (keys:List cx)
 deriving Inhabited
structure Tk where
 kind:Int
 text:cx
 at_:Int
 deriving Inhabited,DecidableEq
def aX.kind:aX→Int| .mk k _ _ _ _ _=>k
def aX.bool:aX→Bool| .mk _ b _ _ _ _=>b
def aX.int:aX→Int| .mk _ _ i _ _ _=>i
def aX.str:aX→cx| .mk _ _ _ s _ _=>s
def aX.list:aX→List aX| .mk _ _ _ _ l _=>l
def aX.keys:aX→List cx| .mk _ _ _ _ _ ks=>ks
def Ex.kind:Ex→Int| .mk k _ _ _ _=>k
def Ex.name:Ex→cx| .mk _ n _ _ _=>n
def Ex.value:Ex→aX| .mk _ _ v _ _=>v
def Ex.args:Ex→List Ex| .mk _ _ _ ar _=>ar
def Ex.keys:Ex→List cx| .mk _ _ _ _ ks=>ks
theorem xW {v x:aX} (h:x∈v.list):sizeOf x<sizeOf v:=by
 cases v with|mk k b i s l ks=>have:=List.sizeOf_lt_of_mem h;simp only [aX.list] at this;simp only [aX.mk.sizeOf_spec];omega
theorem xX {e x:Ex} (h:x∈e.args):sizeOf x<sizeOf e:=by
 cases e with|mk k n v l ks=>have:=List.sizeOf_lt_of_mem h;simp only [Ex.args] at this;simp only [Ex.mk.sizeOf_spec];omega
theorem aX.ind {p:aX→Prop} (h:∀ v,(∀ x∈v.list,p x)→p v):∀ v,p v:=by
 have key:∀ n:Nat,∀ v:aX,sizeOf v<n→p v:=by
  intro n
  induction n with
  |zero=>intro v hv;omega
  |succ n ih=>intro v hv;exact h v fun x hx=>ih x (by have:=xW hx;omega)
 exact fun v=>key _ v (Nat.lt_succ_self _)
theorem Ex.ind {p:Ex→Prop} (h:∀ e,(∀ x∈e.args,p x)→p e):∀ e,p e:=by
 have key:∀ n:Nat,∀ v:Ex,sizeOf v<n→p v:=by
  intro n
  induction n with
  |zero=>intro v hv;omega
  |succ n ih=>intro v hv;exact h v fun x hx=>ih x (by have:=xX hx;omega)
 exact fun v=>key _ v (Nat.lt_succ_self _)
def ct:aX:= .mk 0 false 0 [] [] []
def xQ:Ex:= .mk 0 [] ct [] []
def MZ:Tk:=⟨0,[],0⟩
def bN (c:UInt8):Bool:=decide (97≤c.toNat∧c.toNat≤122∨65≤c.toNat∧c.toNat≤90∨c.toNat=95)
def isDigit (c:UInt8):Bool:=decide (48≤c.toNat∧c.toNat≤57)
def b9 (c:UInt8):Bool:=bN c||isDigit c
def gX:cx:=[116,114,117,101]
def fY:cx:=[102,97,108,115,101]
def jc:cx:=[110,117,108,108]
def isWord (s:cx):Bool:=decide (s=[116,114,117,101]∨s=[102,97,108,115,101]∨s=[110,117,108,108])
def bB (s:cx):Nat:=
 if s=[124,124] then 2 else if s=[38,38] then 3
 else if s=[61,61]∨s=[33,61]∨s=[60]∨s=[60,61]∨s=[62]∨s=[62,61] then 4
 else if s=[43]∨s=[45] then 5 else if s=[42]∨s=[47]∨s=[37] then 6 else 0
def isName (s:cx):Bool:=decide (s.length≤64)&& (match s with|[]=>false|c::r=>bN c&&r.all b9)
def aaH (s:cx):Bool:=isName s&& !isWord s
def cZ (s:cx):Nat:=s.foldl (fun n c=>10*n+(c.toNat - 48)) 0
def fZ (s:cx):Bool:=decide (s≠[])&& !decide (1<s.length∧(s.getD 0 0).toNat=48)&&s.all isDigit&&decide (cZ s≤9007199254740992)
def qT (c:UInt8):Int:=
 if isDigit c then (c.toNat:Int) - 48 else if 97≤c.toNat∧c.toNat≤102 then (c.toNat:Int) - 87 else if 65≤c.toNat∧c.toNat≤70 then (c.toNat:Int) - 55 else -1
inductive pE where
 |ok (kind:Int) (text:cx) (n:Nat)
 |err (code:Int)
def lZ (s:cx):pE:=
 let t:=s.takeWhile b9
 if 64<t.length then .err 3 else .ok 1 t t.length
def vU (s:cx):pE:=
 let t:=s.takeWhile isDigit
 if (1<t.length∧(t.getD 0 0).toNat=48)∨(t.length<s.length∧bN (s.getD t.length 0)=true) then .err 5
 else if 9007199254740992<cZ t then .err 2 else .ok 2 t t.length
inductive Gd where
 |ok (c:UInt8) (n:Nat)
 |err (code:Int)
def nQ (r:cx):Gd:=
 if r.length=0 then .err 4
 else if (r.getD 0 0).toNat=34∨(r.getD 0 0).toNat=92 then .ok (r.getD 0 0) 2 else if (r.getD 0 0).toNat=110 then .ok 10 2 else if (r.getD 0 0).toNat=116 then .ok 9 2
 else if (r.getD 0 0).toNat=120 then
  if r.length≤1 then .err 4 else if qT (r.getD 1 0)<0 then .err 5 else if r.length≤2 then .err 4 else if qT (r.getD 2 0)<0 then .err 5
  else .ok (UInt8.ofNat (16*qT (r.getD 1 0)+qT (r.getD 2 0)).toNat) 4
 else .err 5
def tW (s:cx):Gd:=if (s.getD 0 0).toNat<32 then .err 5 else if (s.getD 0 0).toNat≠92 then .ok (s.getD 0 0) 1 else nQ (s.drop 1)
def Az:Nat→cx→cx→Nat→pE
 |0,_,_,_=> .err 4
 |_+1,[],_,_=> .err 4
 |f+1,c::r,acc,n=>
  if c.toNat=34 then (if 4096<acc.length then .err 3 else .ok 3 acc (n+1))
  else match tW (c::r) with
   | .err e=> .err e
   | .ok b k=>Az f ((c::r).drop k) (acc++[b]) (n+k)
def isOp2 (s:cx):Bool:=decide (s=[124,124]∨s=[38,38]∨s=[61,61]∨s=[33,61]∨s=[60,61]∨s=[62,61])
def rJ:cx:=[60,62,43,45,42,47,37,33,63,58,46,44,61,40,41,91,93,123,125]
def AA (s:cx):pE:=
 if isOp2 (s.take 2) then .ok 4 (s.take 2) 2
 else match s with
  |[]=> .err 5
  |c::_=>if rJ.contains c then .ok 4 [c] 1 else .err 5
def jy (s:cx):pE:=
 match s with
 |[]=> .err 5
 |c::r=>if bN c then lZ s else if isDigit c then vU s else if c.toNat=34 then Az (r.length+1) r [] 1 else AA s
def jI (op:cx) (n:Nat):Nat:=if op=[40]∨op=[91] then n+1 else if op=[41]∨op=[93] then n - 1 else n
inductive qp where
 |ok (ts:List Tk)
 |err (at_:Nat) (code:Int)
def fO (c:UInt8):Bool:=decide (c.toNat≠10)
def dV:Nat→Nat→cx→Nat→List Tk→qp
 |0,_,_,_,out=> .ok out
 |_+1,_,[],_,out=> .ok out
 |f+1,at_,c::r,op,out=>
  if c.toNat=32∨c.toNat=9 then dV f (at_+1) r op out
  else if c.toNat=35 then dV f (at_+((c::r).takeWhile fO).length) ((c::r).drop ((c::r).takeWhile fO).length) op out
  else if c.toNat=10 then dV f (at_+1) r op (if op=0∧(out=[]∨(out.getLast?.map Tk.kind)≠some 5) then out++[⟨5,[],at_⟩] else out)
  else match jy (c::r) with
   | .err e=> .err at_ e
   | .ok k t n=>dV f (at_+n) ((c::r).drop n) (if k=4 then jI t op else op) (out++[⟨k,t,at_⟩])
def tokens (s:cx):qp:=if 65536<s.length then .err 0 3 else dV (s.length+1) 0 s 0 []
def dZ (a b:Int):Int:=if a<b then -1 else if b<a then 1 else 0
def gI (a b:Nat):Int:=if a<b then -1 else if b<a then 1 else 0
def ltStr:cx→cx→Bool
 |_,[]=>false
 |[],_::_=>true
 |a::r,b::s=>decide (a.toNat<b.toNat)||(decide (a=b)&&ltStr r s)
def ZE (a b:cx):Int:=if ltStr a b then -1 else if ltStr b a then 1 else 0
def bG (s:cx):cx:=s.dropWhile (fun c=>decide (c.toNat=48))
def jd (a b:cx):Int:=
 let x:=bG a;let y:=bG b
 if x.length≠y.length then gI x.length y.length else if x≠y then ZE x y else gI a.length b.length
def ig:Nat→cx→cx→Int
 |0,_,_=>0
 |_+1,[],b=>if b=[] then 0 else -1
 |_+1,_::_,[]=>1
 |f+1,c::r,d::s=>
  if isDigit c&&isDigit d then
   let x:=(c::r).takeWhile isDigit;let y:=(d::s).takeWhile isDigit
   if jd x y≠0 then jd x y else ig f ((c::r).drop x.length) ((d::s).drop y.length)
  else if c≠d then gI c.toNat d.toNat else ig f r s
def natCmp (a b:cx):Int:=ig (a.length+1) a b
def fP (k:cx):Bool:=decide (1≤k.length∧k.length≤64)
def dG:List cx→Bool
 |[]=>true
 |k::r=>fP k&& (match r with|[]=>true|k'::_=>decide (natCmp k k'<0))&&dG r
def gM (v:aX):Bool:=
 (decide (v.kind=1)|| !v.bool)&& (decide (v.kind=2)||decide (v.int=0))&& (decide (v.kind=3)||decide (v.str=[]))&&
 (decide (v.kind=4)||decide (v.kind=5)||decide (v.list=[]))&& (decide (v.kind=5)||decide (v.keys=[]))
def gY (v:aX) (level:Nat):Int:=
 if 16<level then 13 else if v.kind<0∨5<v.kind∨gM v=false then 1
 else if v.int< -9007199254740992∨9007199254740992<v.int then 2
 else if 4096<v.str.length∨1024<v.list.length∨1024<v.keys.length then 3
 else if v.kind=5∧¬ (v.keys.length=v.list.length∧dG v.keys=true) then 1
 else if (v.kind=4∨v.kind=5)∧v.list=[]∧level=16 then 13 else 0
def dI (level:Nat):aX→Int
 | .mk k b i s l ks=>if gY (.mk k b i s l ks) level≠0 then gY (.mk k b i s l ks) level else vCheckL (level+1) l
where vCheckL (level:Nat):List aX→Int
 |[]=>0
 |v::r=>if dI level v≠0 then dI level v else vCheckL level r
def vValid (v:aX):Int:=dI 1 v
def Ge (n:Nat):UInt8:=if n<10 then UInt8.ofNat (48+n) else UInt8.ofNat (87+n)
def eB (c:UInt8):cx:=
 if c.toNat=34 then [92,34] else if c.toNat=92 then [92,92] else if c.toNat=10 then [92,110] else if c.toNat=9 then [92,116]
 else if 32≤c.toNat∧c.toNat≤126 then [c] else [92,120,Ge (c.toNat / 16),Ge (c.toNat % 16)]
def quoteF (s:cx):cx:=[34]++s.flatMap eB++[34]
def rK:Nat→Nat→cx
 |0,_=>[]
 |f+1,n=>if n<10 then [UInt8.ofNat (48+n)] else rK f (n / 10)++[UInt8.ofNat (48+n % 10)]
def rL (n:Nat):cx:=rK (n+1) n
def xY (n:Int):cx:=if n<0 then 45::rL n.natAbs else rL n.natAbs
def joinF (sep:cx):List cx→cx
 |[]=>[]
 |a::r=>if r=[] then a else a++sep++joinF sep r
def ZA:aX→cx
 | .mk k b i s l ks=>
  if k=1 then (if b then gX else fY) else if k=2 then xY i else if k=3 then quoteF s
  else if k=4 then [91]++joinF [44,32] (J6 l)++[93]
  else if k=5 then [123]++joinF [44,32] (nR l ks)++[125] else jc
where
 J6:List aX→List cx
 |[]=>[]
 |v::r=>ZA v::J6 r
 nR:List aX→List cx→List cx
 |[],_=>[]
 |v::r,ks=>(quoteF (ks.headD [])++[58,32]++ZA v)::nR r ks.tail
def uF (v:aX):cx:=if vValid v≠0 then [] else ZA v
def bS:Ex→Nat
 | .mk _ _ _ ar _=>1+cY ar
where cY:List Ex→Nat
 |[]=>0
 |e::r=>bS e+cY r
def jg (v:aX):Bool:=decide (v.kind=0)&& !v.bool&&decide (v.int=0)&&decide (v.str=[])&&decide (v.list=[])&&decide (v.keys=[])
def jJ (e:Ex):Bool:=
 if e.kind=1∨e.kind=2 then decide (e.args.length=0) else if e.kind=3∨e.kind=6 then decide (e.args.length=1)
 else if e.kind=4∨e.kind=7 then decide (e.args.length=2) else if e.kind=8 then decide (e.args.length=3) else true
def dJ (e:Ex):Bool:=
 if e.kind=2∨e.kind=3∨e.kind=5 then aaH e.name else if e.kind=6 then decide (e.name=[33]∨e.name=[45])
 else if e.kind=7 then decide (0<bB e.name) else decide (e.name=[])
def gR (e:Ex):Bool:=if e.kind≠10 then decide (e.keys=[]) else decide (e.keys.length=e.args.length)&&e.keys.all fP
def kA:List cx→Bool
 |[]=>false
 |k::r=>r.contains k||kA r
def jv (e:Ex) (level:Nat):Int:=
 if 16<level then 13
 else if e.kind<1∨10<e.kind∨(e.kind≠1∧jg e.value=false)∨dJ e=false∨jJ e=false∨gR e=false then 1
 else if e.kind=1∧vValid e.value≠0 then vValid e.value
 else if 1024<e.args.length then 3 else if kA e.keys then 7 else 0
def dc (level:Nat):Ex→Int
 | .mk k n v ar ks=>if jv (.mk k n v ar ks) level≠0 then jv (.mk k n v ar ks) level else gy (level+1) ar
where gy (level:Nat):List Ex→Int
 |[]=>0
 |e::r=>if dc level e≠0 then dc level e else gy level r
def dW (e:Ex):Int:=if 4096<bS e then 15 else dc 1 e
def force (e:Ex):Nat:=
 if e.kind=8 then 1 else if e.kind=7 then bB e.name
 else if e.kind=6∨(e.kind=1∧e.value.kind=2∧e.value.int<0) then 7 else 8
def paren (b:Bool) (s:cx):cx:=if b then [40]++s++[41] else s
def src:Ex→cx
 | .mk k n v ar ks=>
  if k=1 then uF v else if k=2 then n
  else if k=3 then eO ar 0 8++[46]++n
  else if k=4 then eO ar 0 8++[91]++eO ar 1 1++[93]
  else if k=5 then n++[40]++joinF [44,32] (Gf ar)++[41]
  else if k=6 then n++eO ar 0 7
  else if k=7 then eO ar 0 (if bB n=4 then 5 else bB n)++[32]++n++[32]++eO ar 1 (bB n+1)
  else if k=8 then eO ar 0 2++[32,63,32]++eO ar 1 1++[32,58,32]++eO ar 2 1
  else if k=9 then [91]++joinF [44,32] (Gf ar)++[93]
  else [123]++joinF [44,32] (srcM ar ks)++[125]
where
 eO:List Ex→Nat→Nat→cx
 |[],_,_=>[]
 |e::_,0,need=>paren (decide (force e<need)) (src e)
 |_::r,i+1,need=>eO r i need
 Gf:List Ex→List cx
 |[]=>[]
 |e::r=>src e::Gf r
 srcM:List Ex→List cx→List cx
 |[],_=>[]
 |e::r,ks=>(quoteF (ks.headD [])++[58,32]++src e)::srcM r ks.tail
inductive dF (α:Type) where
 |ok (x:α) (rest:List Tk)
 |err (rest:List Tk) (code:Int)
def cg (s:cx) (t:Tk):Bool:=decide (t.kind=4∧t.text=s)
def miss:List Tk→Int
 |[]=>4
 |_=>5
def lit (v:aX):Ex:= .mk 1 [] v [] []
inductive Tag where
 |cond|op (n:Nat)|ops (n:Nat) (e:Ex)|un|chain (e:Ex)|atom
 |args (close:cx)|items (close:cx) (acc:List Ex)|kW|xR (acc:List Ex) (ks:List cx)
def kq (t:Tk):Bool:=(decide (t.kind=1)&&isName t.text)||(decide (t.kind=3)&&decide (t.text.length≤4096))
def cU (s:cx) (k:List Tk→Option (dF Ex)):List Tk→Option (dF Ex)
 |[]=>some (.err [] 4)
 |t::r=>if cg s t then k r else some (.err (t::r) 5)
def aL (r:Option (dF Ex)) (k:Ex→List Tk→Option (dF Ex)):Option (dF Ex):=
 match r with
 |some (.ok e rest)=>k e rest
 |x=>x
def pF:Nat→Tag→List Tk→Option (dF Ex)
 |0,_,_=>none
 |f+1,.cond,ts=>aL (pF f (.op 2) ts) fun c r1=>match r1 with
  |[]=>some (.ok c r1)
  |t::r2=>if cg [63] t then aL (pF f .cond r2) fun a r3=>cU [58] (fun r4=>aL (pF f .cond r4) fun b r5=>some (.ok (.mk 8 [] ct [c,a,b] []) r5)) r3 else some (.ok c r1)
 |f+1,.op n,ts=>if n=7 then pF f .un ts else aL (pF f (.op (n+1)) ts) fun e r=>pF f (.ops n e) r
 |f+1,.ops n e,ts=>match ts with
  |[]=>some (.ok e [])
  |t::r=>if t.kind=4∧bB t.text=n then aL (pF f (.op (n+1)) r) fun x r2=>
    let y:=Ex.mk 7 t.text ct [e,x] []
    if n=4 then some (.ok y r2) else pF f (.ops n y) r2
   else some (.ok e ts)
 |f+1,.un,ts=>match ts with
  |[]=>pF f .atom []
  |t::r=>if cg [33] t||cg [45] t then aL (pF f .un r) fun x r2=>some (.ok (.mk 6 t.text ct [x] []) r2) else aL (pF f .atom ts) fun e r2=>pF f (.chain e) r2
 |f+1,.chain e,ts=>match ts with
  |[]=>some (.ok e [])
  |t::r=>if cg [46] t then match r with
    |[]=>some (.err [] 4)
    |u::r2=>if u.kind=1∧aaH u.text=true then pF f (.chain (.mk 3 u.text ct [e] [])) r2 else some (.err (u::r2) 5)
   else if cg [91] t then aL (pF f .cond r) fun i r2=>cU [93] (fun r3=>pF f (.chain (.mk 4 [] ct [e,i] [])) r3) r2
   else some (.ok e ts)
 |f+1,.atom,ts=>match ts with
  |[]=>some (.err [] 4)
  |t::r=>
   if t.kind=2 then (if fZ t.text then some (.ok (lit (.mk 2 false (cZ t.text) [] [] [])) r) else some (.err ts 5))
   else if t.kind=3 then (if t.text.length≤4096 then some (.ok (lit (.mk 3 false 0 t.text [] [])) r) else some (.err ts 5))
   else if t.kind=1 then
    if t.text=jc then some (.ok (lit ct) r) else if t.text=gX∨t.text=fY then some (.ok (lit (.mk 1 (decide (t.text=gX)) 0 [] [] [])) r)
    else if isName t.text=true then match r with
      |[]=>some (.ok (.mk 2 t.text ct [] []) r)
      |u::r2=>if cg [40] u then aL (pF f (.args [41]) r2) fun l r3=>some (.ok (.mk 5 t.text ct l.args []) r3) else some (.ok (.mk 2 t.text ct [] []) r)
     else some (.err ts 5)
   else if cg [40] t then aL (pF f .cond r) fun e r2=>cU [41] (fun r3=>some (.ok e r3)) r2
   else if cg [91] t then aL (pF f (.args [93]) r) fun l r3=>some (.ok (.mk 9 [] ct l.args []) r3)
   else if cg [123] t then pF f .kW r
   else some (.err ts 5)
 |f+1,.args close,ts=>match ts with
  |[]=>pF f (.items close []) []
  |t::r=>if cg close t then some (.ok (.mk 0 [] ct [] []) r) else pF f (.items close []) ts
 |f+1,.items close acc,ts=>aL (pF f .cond ts) fun x r=>match r with
  |[]=>some (.err [] 4)
  |t::r2=>if cg close t then some (.ok (.mk 0 [] ct (acc++[x]) []) r2) else if cg [44] t then pF f (.items close (acc++[x])) r2 else some (.err r 5)
 |f+1,.kW,ts=>match ts with
  |[]=>pF f (.xR [] []) []
  |t::r=>if cg [125] t then some (.ok (.mk 10 [] ct [] []) r) else pF f (.xR [] []) ts
 |f+1,.xR acc ks,ts=>match ts with
  |[]=>some (.err [] 4)
  |t::r=>if kq t then cU [58] (fun r2=>aL (pF f .cond r2) fun x r3=>match r3 with
    |[]=>some (.err [] 4)
    |u::r4=>if cg [125] u then some (.ok (.mk 10 [] ct (acc++[x]) (ks++[t.text])) r4) else if cg [44] u then pF f (.xR (acc++[x]) (ks++[t.text])) r4 else some (.err r3 5)) r
   else some (.err ts 5)
def nG (ts:List Tk):Nat:=16*ts.length+16
def eP (ts:List Tk):dF Ex:=
 match pF (nG ts) .cond ts with
 |some (.ok e r)=>if dW e≠0 then .err ts (dW e) else .ok e r
 |some x=>x
 |none=> .err ts 0
def rM (total:Nat) (rest:List Tk):Int:=match rest with|t::_=>t.at_|[]=>total
inductive Yx where
 |ok (e:Ex)
 |err (at_:Int) (code:Int)
def parseF (s:cx):Yx:=
 match tokens s with
 | .err a c=> .err a c
 | .ok ts=>match eP ts with
  | .err r c=> .err (rM s.length r) c
  | .ok e []=> .ok e
  | .ok _ (t::_)=> .err t.at_ 5
def au:dF Ex→List Tk
 | .ok _ r=>r
 | .err r _=>r
theorem eR {x:Option (dF Ex)} {k:Ex→List Tk→Option (dF Ex)} {r:dF Ex} {ts:List Tk} (h:aL x k=some r)
  (hx:∀ r1,x=some r1→au r1<:+ts) (hk:∀ e r1 r,k e r1=some r→r1<:+ts→au r<:+ts):au r<:+ts:=by
 cases x with
 |none=>simp [aL] at h
 |some r1=>
  have h1:=hx r1 rfl
  cases r1 with
  |ok e rest=>exact hk e rest r h h1
  |err rest c=>simp only [aL,aaJ] at h;subst h;exact h1
theorem expectF_suf {s:cx} {k:List Tk→Option (dF Ex)} {l:List Tk} {r:dF Ex} {ts:List Tk} (h:cU s k l=some r) (hl:l<:+ts)
  (hk:∀ l2 r,k l2=some r→l2<:+ts→au r<:+ts):au r<:+ts:=by
 cases l with
 |nil=>simp only [cU,aaJ] at h;subst h;exact hl
 |cons t l=>
  simp only [cU] at h
  split at h
  ·exact hk l r h (List.IsSuffix.trans (List.suffix_cons t l) hl)
  ·simp only [aaJ] at h;subst h;exact hl
theorem vW : ∀ (f : Nat) (tag : Tag) (ts : List Tk) (r : dF Ex), pF f tag ts = some r → au r <:+ ts := by
  intro f
  induction f with
  | zero => intro tag ts r h; simp [pF] at h
  | succ f ih =>
    have tl : ∀ {t : Tk} {l ts : List Tk}, (t :: l) <:+ ts → l <:+ ts := fun h => List.IsSuffix.trans (List.suffix_cons _ _) h
    have go : ∀ {tag : Tag} {l ts : List Tk} {r : dF Ex}, pF f tag l = some r → l <:+ ts → au r <:+ ts := fun h hl => List.IsSuffix.trans (ih _ _ _ h) hl
    intro tag ts r h
    have self := List.suffix_refl ts
    cases tag with
    | cond =>
      simp only [pF] at h
      refine eR h (fun r1 h1 => ih _ _ _ h1) fun e r1 r h hs => ?_
      cases r1 with
      | nil => simp only [aaJ] at h; subst h; exact hs
      | cons t r2 =>
        simp only at h
        split at h
        · refine eR h (fun r1 h1 => go h1 (tl hs)) fun a r3 r h hs3 => ?_
          refine expectF_suf h hs3 fun r4 r h hs4 => ?_
          refine eR h (fun r1 h1 => go h1 hs4) fun b r5 r h hs5 => ?_
          simp only [aaJ] at h; subst h; exact hs5
        · simp only [aaJ] at h; subst h; exact hs
    | op n =>
      simp only [pF] at h
      split at h
      · exact ih _ _ _ h
      · refine eR h (fun r1 h1 => ih _ _ _ h1) fun e r1 r h hs => go h hs
    | ops n e =>
      simp only [pF] at h
      cases ts with
      | nil => simp only [aaJ] at h; subst h; exact self
      | cons t l =>
        simp only at h
        split at h
        · refine eR h (fun r1 h1 => go h1 (tl self)) fun x r2 r h hs => ?_
          split at h
          · simp only [aaJ] at h; subst h; exact hs
          · exact go h hs
        · simp only [aaJ] at h; subst h; exact self
    | un =>
      simp only [pF] at h
      cases ts with
      | nil => exact ih _ _ _ h
      | cons t l =>
        simp only at h
        split at h
        · refine eR h (fun r1 h1 => go h1 (tl self)) fun x r2 r h hs => ?_
          simp only [aaJ] at h; subst h; exact hs
        · exact eR h (fun r1 h1 => ih _ _ _ h1) fun x r2 r h hs => go h hs
    | chain e =>
      simp only [pF] at h
      cases ts with
      | nil => simp only [aaJ] at h; subst h; exact self
      | cons t l =>
        simp only at h
        split at h
        · cases l with
          | nil => simp only [aaJ] at h; subst h; exact tl self
          | cons u r2 =>
            simp only at h
            split at h
            · exact go h (tl (tl self))
            · simp only [aaJ] at h; subst h; exact tl self
        · split at h
          · refine eR h (fun r1 h1 => go h1 (tl self)) fun i r2 r h hs => ?_
            exact expectF_suf h hs fun r3 r h hs3 => go h hs3
          · simp only [aaJ] at h; subst h; exact self
    | atom =>
      simp only [pF] at h
      cases ts with
      | nil => simp only [aaJ] at h; subst h; exact self
      | cons t l =>
        have t1 := tl self
        simp only at h
        repeat' split at h
        all_goals first
          | (simp only [aaJ] at h; subst h; first | exact t1 | exact self)
          | skip
        all_goals first
          | exact go h t1
          | (refine eR h (fun r1 h1 => go h1 (by first | exact t1 | exact tl t1)) fun x r2 r h hs => ?_
             first
               | (simp only [aaJ] at h; subst h; exact hs)
               | (refine expectF_suf h hs fun r3 r h hs3 => ?_
                  simp only [aaJ] at h; subst h; exact hs3))
    | args close =>
      simp only [pF] at h
      cases ts with
      | nil => exact ih _ _ _ h
      | cons t l =>
        simp only at h
        split at h
        · simp only [aaJ] at h; subst h; exact tl self
        · exact ih _ _ _ h
    | items close acc =>
      simp only [pF] at h
      refine eR h (fun r1 h1 => ih _ _ _ h1) fun x r1 r h hs => ?_
      cases r1 with
      | nil => simp only [aaJ] at h; subst h; exact hs
      | cons t r2 =>
        simp only at h
        split at h
        · simp only [aaJ] at h; subst h; exact tl hs
        · split at h
          · exact go h (tl hs)
          · simp only [aaJ] at h; subst h; exact hs
    | kW =>
      simp only [pF] at h
      cases ts with
      | nil => exact ih _ _ _ h
      | cons t l =>
        simp only at h
        split at h
        · simp only [aaJ] at h; subst h; exact tl self
        · exact ih _ _ _ h
    | xR acc ks =>
      simp only [pF] at h
      cases ts with
      | nil => simp only [aaJ] at h; subst h; exact self
      | cons t l =>
        simp only at h
        split at h
        · refine expectF_suf h (tl self) fun r2 r h hs2 => ?_
          refine eR h (fun r1 h1 => go h1 hs2) fun x r3 r h hs3 => ?_
          cases r3 with
          | nil => simp only [aaJ] at h; subst h; exact hs3
          | cons u r4 =>
            simp only at h
            split at h
            · simp only [aaJ] at h; subst h; exact tl hs3
            · split at h
              · exact go h (tl hs3)
              · simp only [aaJ] at h; subst h; exact hs3
        · simp only [aaJ] at h; subst h; exact self
def kX:dF Ex→Prop
 | .ok _ _=>True
 | .err _ c=>c=4∨c=5
theorem DL {x:Option (dF Ex)} {k:Ex→List Tk→Option (dF Ex)} {r:dF Ex} (h:aL x k=some r) (hx:∀ r1,x=some r1→kX r1) (hk:∀ e r1 r,k e r1=some r→kX r):kX r:=by
 cases x with
 |none=>simp [aL] at h
 |some r1=>
  have h1:=hx r1 rfl
  cases r1 with
  |ok e rest=>exact hk e rest r h
  |err rest c=>simp only [aL,aaJ] at h;subst h;exact h1
theorem xZ {s:cx} {k:List Tk→Option (dF Ex)} {l:List Tk} {r:dF Ex} (h:cU s k l=some r) (hk:∀ l2 r,k l2=some r→kX r):kX r:=by
 cases l with
 |nil=>simp only [cU,aaJ] at h;subst h;exact .inl rfl
 |cons t l=>
  simp only [cU] at h
  split at h
  ·exact hk l r h
  ·simp only [aaJ] at h;subst h;exact .inr rfl
theorem J7:∀ (f:Nat) (tag:Tag) (ts:List Tk) (r:dF Ex),pF f tag ts=some r→kX r:=by
 intro f
 induction f with
 |zero=>intro tag ts r h;simp [pF] at h
 |succ f ih=>
  have fin:∀ {x r:dF Ex},some x=some r→kX x→kX r:=fun h hx=>by cases h;exact hx
  have go:∀ {tag:Tag} {l:List Tk} {r:dF Ex},pF f tag l=some r→kX r:=fun h=>ih _ _ _ h
  intro tag ts r h
  cases tag<;>simp only [pF] at h
  all_goals repeat' (first
   |exact go h
   |exact fin h trivial
   |exact fin h (.inl rfl)
   |exact fin h (.inr rfl)
   |(refine DL h (fun r1 h1=>go h1) fun e r1 r h=>?_)
   |(refine xZ h fun l2 r h=>?_)
   |split at h)
theorem fJ {f:Nat} {tag:Tag} {ts rest:List Tk} {c:Int} (h:pF f tag ts=some (.err rest c)):c=4∨c=5:=J7 f tag ts _ h
theorem ij {T l:List Tk} (h:l<:+T):l=T.drop (T.length - l.length):=(List.suffix_iff_eq_drop.1 h)
theorem CN {T l:List Tk} (h:l<:+T):l.length≤T.length:=h.length_le
def lens:List cx→Nat
 |[]=>0
 |s::r=>s.length+2+lens r
theorem aaq {α:Type} [Inhabited α] {l:List α} {i:Nat} (h:i<l.length):l.take (i+1)=l.take i++[l.getD i default]:=by
 rw [List.take_add_one];simp [aaK,h]
def cj:aX→Nat
 | .mk _ _ _ s l ks=>32+4*s.length+dm ks+jr l
where
 dm:List cx→Nat
 |[]=>0
 |k::r=>4*k.length+8+dm r
 jr:List aX→Nat
 |[]=>0
 |v::r=>cj v+jr r
theorem jK (v:aX):cj v=32+4*v.str.length+cj.dm v.keys+cj.jr v.list:=by cases v;rw [cj];rfl
theorem rP {l:List aX} {v:aX} (h:v∈l):cj v≤cj.jr l:=by
 induction l with
 |nil=>simp at h
 |cons a r ih=>
  simp only [cj.jr]
  rcases aby.1 h with rfl|h
  ·omega
  ·have:=ih h;omega
def lX:aX→Prop
 | .mk _ _ i _ l _=>(-9223372036854775808≤i∧i≤9223372036854775807)∧yb l
where yb:List aX→Prop
 |[]=>True
 |v::r=>lX v∧yb r
theorem uI:∀ l:List aX,lX.yb l↔∀ v∈l,lX v
 |[]=>by simp [lX.yb]
 |v::r=>by simp [lX.yb,uI r]
theorem l6 (v:aX):lX v↔(-9223372036854775808≤v.int∧v.int≤9223372036854775807)∧∀ x∈v.list,lX x:=by
 cases v;simp only [lX,uI,aX.int,aX.list]
def bq:Ex→Nat
 | .mk _ n v ar ks=>64+n.length+cj v+cj.dm ks+er ar
where er:List Ex→Nat
 |[]=>0
 |e::r=>bq e+er r
theorem iq (e:Ex):bq e=64+e.name.length+cj e.value+cj.dm e.keys+bq.er e.args:=by cases e;rw [bq];rfl
theorem nV {l:List Ex} {v:Ex} (h:v∈l):bq v≤bq.er l:=by
 induction l with
 |nil=>simp at h
 |cons a r ih=>
  simp only [bq.er]
  rcases aby.1 h with rfl|h
  ·omega
  ·have:=ih h;omega
def ot:Ex→Prop
 | .mk _ _ v ar _=>lX v∧yc ar
where yc:List Ex→Prop
 |[]=>True
 |v::r=>ot v∧yc r
theorem uK:∀ l:List Ex,ot.yc l↔∀ v∈l,ot v
 |[]=>by simp [ot.yc]
 |v::r=>by simp [ot.yc,uK r]
theorem l8 (e:Ex):ot e↔lX e.value∧∀ x∈e.args,ot x:=by
 cases e;simp only [ot,uK,Ex.value,Ex.args]
def Gp (l:List Ex) (i:Nat):Nat:=if i<l.length then bq (l.getD i default) else 0
def wT:Tag→Nat
 | .cond=>12| .op n=>13 - n| .ops _ _=>1| .un=>5| .chain _=>1| .atom=>2| .args _=>15| .items _ _=>14| .kW=>3| .xR _ _=>2
def M4:Tag→Prop
 | .op n=>n≤7
 | .ops n _=>n≤6
 |_=>True
theorem aat {x:Option (dF Ex)} {k:Ex→List Tk→Option (dF Ex)} (hx:x≠none) (hk:∀ e r1,x=some (.ok e r1)→k e r1≠none):aL x k≠none:=by
 rcases x with _|(⟨c,r1⟩|⟨r1,ec⟩)
 ·exact absurd rfl hx
 ·exact hk c r1 rfl
 ·simp [aL]
theorem iX {s:cx} {k:List Tk→Option (dF Ex)} {l:List Tk} (hk:∀ t r,l=t::r→k r≠none):cU s k l≠none:=by
 cases l with
 |nil=>simp [cU]
 |cons t r=>
  simp only [cU]
  split
  ·exact hk t r rfl
  ·simp
theorem Gq:∀ (f:Nat) (tag:Tag) (ts:List Tk),M4 tag→16*ts.length+wT tag<f→pF f tag ts≠none:=by
 intro f
 induction f with
 |zero=>intro tag ts _ h;omega
 |succ f ih=>
  intro tag ts ho hf
  have sl:∀ {tag:Tag} {l:List Tk} {e:Ex} {r:List Tk},pF f tag l=some (.ok e r)→r.length≤l.length:=fun h=>(vW _ _ _ _ h).length_le
  cases tag with
  |cond=>
   simp only [wT] at hf
   simp only [pF]
   refine aat (ih _ _ (by simp [M4]) (by simp only [wT];omega)) fun e r1 h1=>?_
   have l1:=sl h1
   cases r1 with
   |nil=>simp
   |cons t r2=>
    simp only [aaM] at l1
    simp only
    split
    ·refine aat (ih _ _ trivial (by simp only [wT];omega)) fun a r3 h3=>?_
     have l3:=sl h3
     refine iX fun t r he=>?_
     subst he
     simp only [aaM] at l3
     refine aat (ih _ _ trivial (by simp only [wT];omega)) fun b r5 h5=>?_
     simp
    ·simp
  |op n=>
   simp only [M4] at ho
   simp only [wT] at hf
   simp only [pF]
   split
   ·exact ih _ _ trivial (by simp only [wT];omega)
   ·refine aat (ih _ _ (by simp only [M4];omega) (by simp only [wT];omega)) fun e r1 h1=>?_
    have l1:=sl h1
    exact ih _ _ (by simp only [M4];omega) (by simp only [wT];omega)
  |ops n e=>
   simp only [M4] at ho
   simp only [wT] at hf
   cases ts with
   |nil=>simp [pF]
   |cons t r=>
    simp only [aaM] at hf
    simp only [pF]
    split
    ·refine aat (ih _ _ (by simp only [M4];omega) (by simp only [wT];omega)) fun x r2 h2=>?_
     have l2:=sl h2
     split
     ·simp
     ·exact ih _ _ (by simp only [M4];omega) (by simp only [wT];omega)
    ·simp
  |un=>
   simp only [wT] at hf
   cases ts with
   |nil=>simp only [pF];exact ih _ _ trivial (by simp only [wT];omega)
   |cons t r=>
    simp only [pF]
    simp only [aaM] at hf
    split
    ·refine aat (ih _ _ trivial (by simp only [wT];omega)) fun x r2 h2=>by simp
    ·refine aat (ih _ _ trivial (by simp only [wT,aaM];omega)) fun x r2 h2=>?_
     have l2:=sl h2
     simp only [aaM] at l2
     exact ih _ _ trivial (by simp only [wT];omega)
  |chain e=>
   simp only [wT] at hf
   cases ts with
   |nil=>simp [pF]
   |cons t r=>
    simp only [aaM] at hf
    simp only [pF]
    split
    ·cases r with
     |nil=>simp
     |cons u r2=>
      simp only [aaM] at hf
      simp only
      split
      ·exact ih _ _ trivial (by simp only [wT];omega)
      ·simp
    ·split
     ·refine aat (ih _ _ trivial (by simp only [wT];omega)) fun x r2 h2=>?_
      have l2:=sl h2
      refine iX fun t r3 he=>?_
      subst he
      simp only [aaM] at l2
      exact ih _ _ trivial (by simp only [wT];omega)
     ·simp
  |atom=>
   simp only [wT] at hf
   cases ts with
   |nil=>simp [pF]
   |cons t r=>
    simp only [aaM] at hf
    have a1:pF f .cond r≠none:=ih _ _ trivial (by simp only [wT];omega)
    have a2:∀ s,pF f (.args s) r≠none:=fun s=>ih _ _ trivial (by simp only [wT];omega)
    have a3:pF f .kW r≠none:=ih _ _ trivial (by simp only [wT];omega)
    simp only [pF]
    split
    ·split<;>simp
    ·split
     ·split<;>simp
     ·split
      ·split
       ·simp
       ·split
        ·simp
        ·split
         ·cases r with
          |nil=>simp
          |cons u r2=>
           simp only [aaM] at hf
           simp only
           split
           ·exact aat (ih _ _ trivial (by simp only [wT];omega)) fun x r2 h2=>by simp
           ·simp
         ·simp
      ·split
       ·refine aat a1 fun x r2 h2=>iX fun t r3 he=>by simp
       ·split
        ·exact aat (a2 _) fun x r2 h2=>by simp
        ·split
         ·exact a3
         ·simp
  |args s=>
   simp only [wT] at hf
   cases ts with
   |nil=>simp only [pF];exact ih _ _ trivial (by simp only [wT];omega)
   |cons t r=>
    simp only [pF]
    split
    ·simp
    ·exact ih _ _ trivial (by simp only [wT];omega)
  |items s acc=>
   simp only [wT] at hf
   simp only [pF]
   refine aat (ih _ _ trivial (by simp only [wT];omega)) fun x r h1=>?_
   have l1:=sl h1
   cases r with
   |nil=>simp
   |cons t r2=>
    simp only [aaM] at l1
    simp only
    split
    ·simp
    ·split
     ·exact ih _ _ trivial (by simp only [wT];omega)
     ·simp
  |kW=>
   simp only [wT] at hf
   cases ts with
   |nil=>simp only [pF];exact ih _ _ trivial (by simp only [wT];omega)
   |cons t r=>
    simp only [pF]
    split
    ·simp
    ·exact ih _ _ trivial (by simp only [wT];omega)
  |xR acc ks=>
   simp only [wT] at hf
   cases ts with
   |nil=>simp [pF]
   |cons t r=>
    simp only [aaM] at hf
    simp only [pF]
    split
    ·refine iX fun u r2 he=>?_
     subst he
     simp only [aaM] at hf
     refine aat (ih _ _ trivial (by simp only [wT];omega)) fun x r3 h3=>?_
     have l3:=sl h3
     cases r3 with
     |nil=>simp
     |cons v r4=>
      simp only [aaM] at l3
      simp only
      split
      ·simp
      ·split
       ·exact ih _ _ trivial (by simp only [wT];omega)
       ·simp
    ·simp
theorem jL (ts:List Tk):∃ r,pF (nG ts) .cond ts=some r:=by
 have h:=Gq (nG ts) .cond ts trivial (by simp only [wT,nG];omega)
 cases h':pF (nG ts) .cond ts with
 |none=>exact absurd h' h
 |some r=>exact ⟨r,rfl⟩
def crcBit (n:Nat):Nat:=if n % 2=1 then (n / 2)^^^3988292384 else n / 2
def crcBits:Nat→Nat→Nat
 |0,n=>n
 |k+1,n=>crcBits k (crcBit n)
def crcByte (n:Nat) (c:UInt8):Nat:=crcBits 8 (n^^^c.toNat)
def crcReg (n:Nat) (b:cx):Nat:=b.foldl crcByte n
def crcF (b:cx):Nat:=4294967295 - crcReg 4294967295 b
def chkF (b:cx):cx:=[UInt8.ofNat (crcF b),UInt8.ofNat (crcF b / 256),UInt8.ofNat (crcF b / 65536),UInt8.ofNat (crcF b / 16777216)]
theorem xor_lt32 {a b:Nat} (ha:a<4294967296) (hb:b<4294967296):a^^^b<4294967296:=Nat.xor_lt_two_pow (n:=32) ha hb
theorem crcBit_lt {n:Nat} (h:n<4294967296):crcBit n<4294967296:=by
 unfold crcBit
 split
 ·exact xor_lt32 (by omega) (by omega)
 ·omega
theorem crcBits_lt:∀ (k:Nat) {n:Nat},n<4294967296→crcBits k n<4294967296
 |0,_,h=>h
 |k+1,_,h=>crcBits_lt k (crcBit_lt h)
theorem crcByte_lt {n:Nat} (c:UInt8) (h:n<4294967296):crcByte n c<4294967296:=crcBits_lt 8 (xor_lt32 h (by have:=c.toNat_lt;omega))
theorem crcReg_lt:∀ (b:cx) {n:Nat},n<4294967296→crcReg n b<4294967296
 |[],_,h=>h
 |c::b,_,h=>crcReg_lt b (crcByte_lt c h)
theorem xor_inj {a b c:Nat} (h:a^^^c=b^^^c):a=b:=by
 have:=congrArg (·^^^c) h
 simpa [Nat.xor_assoc] using this
theorem half_bit31 {n:Nat} (h:n<4294967296):(n / 2).testBit 31=false:=Nat.testBit_lt_two_pow (by omega)
theorem crcBit_inj {a b:Nat} (ha:a<4294967296) (hb:b<4294967296) (h:crcBit a=crcBit b):a=b:=by
 have key:∀ x y:Nat,x<4294967296→y<4294967296→(x / 2)^^^3988292384≠y / 2:=by
  intro x y hx hy e
  have h1:=congrArg (fun n=>n.testBit 31) e
  simp only [Nat.testBit_xor,half_bit31 hx,half_bit31 hy] at h1
  exact absurd h1 (by decide)
 unfold crcBit at h
 split at h<;>split at h
 ·have:=xor_inj h;omega
 ·exact absurd h (key a b ha hb)
 ·exact absurd h.symm (key b a hb ha)
 ·omega
theorem crcBits_inj:∀ (k:Nat) {a b:Nat},a<4294967296→b<4294967296→crcBits k a=crcBits k b→a=b
 |0,_,_,_,_,h=>h
 |k+1,_,_,ha,hb,h=>crcBit_inj ha hb (crcBits_inj k (crcBit_lt ha) (crcBit_lt hb) h)
theorem crcByte_inj {a b:Nat} {c:UInt8} (ha:a<4294967296) (hb:b<4294967296) (h:crcByte a c=crcByte b c):a=b:=
 xor_inj (crcBits_inj 8 (xor_lt32 ha (by have:=c.toNat_lt;omega)) (xor_lt32 hb (by have:=c.toNat_lt;omega)) h)
theorem crcByte_inj2 {a:Nat} {c d:UInt8} (ha:a<4294967296) (h:crcByte a c=crcByte a d):c=d:=by
 have:=crcBits_inj 8 (xor_lt32 ha (by have:=c.toNat_lt;omega)) (xor_lt32 ha (by have:=d.toNat_lt;omega)) h
 rw [Nat.xor_comm a,Nat.xor_comm a] at this
 exact UInt8.toNat_inj.1 (xor_inj this)
theorem crcReg_inj:∀ (s:cx) {a b:Nat},a<4294967296→b<4294967296→crcReg a s=crcReg b s→a=b
 |[],_,_,_,_,h=>h
 |c::s,_,_,ha,hb,h=>crcByte_inj ha hb (crcReg_inj s (crcByte_lt c ha) (crcByte_lt c hb) h)
theorem crcReg_app (n:Nat) (a b:cx):crcReg n (a++b)=crcReg (crcReg n a) b:=List.foldl_append
theorem crcF_set {b:cx} {k:Nat} {c:UInt8} (hk:k<b.length) (hc:b.getD k 0≠c):crcF (b.set k c)≠crcF b:=by
 intro h
 have e1:b.set k c=b.take k++c::b.drop (k+1):=List.set_eq_take_append_cons_drop .. |>.trans (if_pos hk)
 have e2:b=b.take k++b.getD k 0::b.drop (k+1):=by
  conv=>lhs;rw [←abP k b,abb hk]
  simp [aaK,hk]
 have l:∀ s:cx,crcReg 4294967295 s<4294967296:=fun s=>crcReg_lt s (by omega)
 have h1:crcReg 4294967295 (b.set k c)=crcReg 4294967295 b:=by
  have:=l (b.set k c);have:=l b
  unfold crcF at h
  omega
 rw [e1] at h1
 conv at h1=>rhs;rw [e2]
 rw [crcReg_app,crcReg_app] at h1
 have h2:=crcReg_inj (b.drop (k+1)) (crcByte_lt _ (l _)) (crcByte_lt _ (l _)) h1
 exact hc (crcByte_inj2 (l _) h2).symm
theorem crcF_lt (b:cx):crcF b<4294967296:=by unfold crcF;omega
theorem chkF_inj {a b:cx} (h:chkF a=chkF b):crcF a=crcF b:=by
 have h1:=crcF_lt a
 have h2:=crcF_lt b
 simp only [chkF,List.cons.injEq,and_true,←UInt8.toNat_inj,UInt8.toNat_ofNat'] at h
 omega
theorem chk_damage {w:cx} {k:Nat} {c:UInt8} (hk:k<w.length+4) (hc:(w++chkF w).getD k 0≠c):
  ((w++chkF w).set k c).drop w.length≠chkF (((w++chkF w).set k c).take w.length):=by
 by_cases h:k<w.length
 ·rw [List.set_append_left _ _ h,List.drop_left' (by simp),List.take_left' (by simp)]
  intro e
  have:w.getD k 0≠c:=by simpa [aaK,aaU h] using hc
  exact crcF_set h this (chkF_inj e).symm
 ·rw [abf _ _ (by omega),List.drop_left' rfl,List.take_left' rfl]
  intro e
  have h1:=congrArg (fun l:cx=>l.getD (k - w.length) 0) e
  have h2:(chkF w).length=4:=rfl
  simp only [aaK,abp (show k - w.length< (chkF w).length by omega),abu] at h1
  refine hc ?_
  rw [aaK,aaO (by omega)]
  exact h1.symm
inductive tD where
 |mk (kind int:Int) (str:cx) (list:List tD)
 deriving Inhabited
def tD.kind:tD→Int| .mk k _ _ _=>k
def tD.int:tD→Int| .mk _ n _ _=>n
def tD.str:tD→cx| .mk _ _ s _=>s
def tD.list:tD→List tD| .mk _ _ _ l=>l
def Ta (n:Int):tD:= .mk 0 n [] []
def aaw (s:cx):tD:= .mk 1 0 s []
def l5 (l:List tD):tD:= .mk 2 0 [] l
theorem sizeOf_flist {b x:tD} (h:x∈b.list):sizeOf x<sizeOf b:=by
 cases b with|mk k n a l=>have:=List.sizeOf_lt_of_mem h;simp only [tD.list] at this;simp only [tD.mk.sizeOf_spec];omega
theorem tD.ind {p:tD→Prop} (h:∀ b,(∀ x∈b.list,p x)→p b):∀ b,p b:=by
 have key:∀ n:Nat,∀ v:tD,sizeOf v<n→p v:=by
  intro n
  induction n with
  |zero=>intro v hv;omega
  |succ n ih=>intro v hv;exact h v fun x hx=>ih x (by have:=sizeOf_flist hx;omega)
 exact fun v=>key _ v (Nat.lt_succ_self _)
def cleanF (f:tD):Bool:=if f.kind=0 then decide (f.str=[])&&decide (f.list=[]) else if f.kind=1 then decide (f.int=0)&&decide (f.list=[]) else if f.kind=2 then decide (f.int=0)&&decide (f.str=[]) else false
def oValid (depth:Nat):tD→Int
 | .mk k n s l=>if 128<depth then 13 else if cleanF (.mk k n s l)=false then 1 else oValidL (depth+1) l
where oValidL (depth:Nat):List tD→Int
 |[]=>0
 |f::r=>if oValid depth f≠0 then oValid depth f else oValidL depth r
def putU:Nat→Nat→cx
 |0,_=>[]
 |f+1,n=>if n<128 then [UInt8.ofNat n] else (UInt8.ofNat n|||128)::putU f (n / 128)
def putN (n:Nat):cx:=putU 10 n
def zig (n:Int):Nat:=if 0≤n then 2*n.toNat else 2*(-n).toNat - 1
def wrF:tD→cx
 | .mk k n s l=>UInt8.ofNat k.toNat::(if k=0 then putN (zig n) else if k=1 then putN s.length++s else if k=2 then putN l.length++wrL l else [])
where wrL:List tD→cx
 |[]=>[]
 |f::r=>wrF f++wrL r
def PC (l:List tD):cx:=putN l.length++wrF.wrL l
theorem putU_len:∀ f n:Nat,(putU f n).length≤f
 |0,_=>aaP _
 |f+1,n=>by
  unfold putU
  split
  ·simp
  ·simp only [aaM];have:=putU_len f (n / 128);omega
def ic:tD→Nat
 | .mk _ _ s l=>64+s.length+BL l
where BL:List tD→Nat
 |[]=>0
 |f::r=>ic f+BL r
theorem fBulk_eq (f:tD):ic f=64+f.str.length+ic.BL f.list:=by cases f;rfl
theorem fBulkL_mem:∀ {l:List tD} {x:tD},x∈l→ic x≤ic.BL l
 |y::r,x,h=>by
  rcases aby.1 h with rfl|h
  ·simp [ic.BL]
  ·have:=fBulkL_mem h;simp only [ic.BL];omega
theorem fBulkL_len:∀ l:List tD,l.length≤ic.BL l
 |[]=>aaP _
 |f::r=>by have:=fBulkL_len r;have:=fBulk_eq f;simp only [ic.BL,aaM];omega
theorem fBulkL_app:∀ a b:List tD,ic.BL (a++b)=ic.BL a+ic.BL b
 |[],b=>by simp [ic.BL]
 |f::r,b=>by simp only [aa4,ic.BL,fBulkL_app r b];omega
theorem fBulk_list {f x:tD} (h:x∈f.list):ic x≤ic f:=by have:=fBulkL_mem h;have:=fBulk_eq f;omega
theorem fBulk_len (f:tD):f.list.length≤ic f∧f.str.length≤ic f:=by have:=fBulkL_len f.list;have:=fBulk_eq f;omega
theorem putN_len (n:Nat):(putN n).length≤10:=putU_len 10 n
mutual
theorem wrF_len:∀ f:tD,(wrF f).length≤ic f
 | .mk k n s l=>by
  have:=wrL_len l;have:=putN_len (zig n);have:=putN_len s.length;have:=putN_len l.length
  simp only [wrF,ic,aaM]
  split
  ·omega
  ·split
   ·simp only [aaQ];omega
   ·split
    ·simp only [aaQ];omega
    ·simp only [aaV];omega
theorem wrL_len:∀ l:List tD,(wrF.wrL l).length≤ic.BL l
 |[]=>aaP _
 |f::r=>by have:=wrF_len f;have:=wrL_len r;simp only [wrF.wrL,ic.BL,aaQ];omega
end
theorem writeF_len (l:List tD):(PC l).length≤10+ic.BL l:=by
 have:=wrL_len l;have:=putN_len l.length;simp only [PC,aaQ];omega
theorem wrL_app:∀ a b:List tD,wrF.wrL (a++b)=wrF.wrL a++wrF.wrL b
 |[],b=>rfl
 |f::r,b=>by simp only [aa4,wrF.wrL,wrL_app r b,aaX]
theorem putU_pos (f n:Nat):0< (putU (f+1) n).length:=by unfold putU;split<;>simp
theorem putN_pos (n:Nat):0< (putN n).length:=putU_pos 9 n
def fI:tD→Prop
 | .mk k n _ l=>(k=0∨k=1∨k=2)∧(-9223372036854775808≤n∧n≤9223372036854775807)∧fIL l
where fIL:List tD→Prop
 |[]=>True
 |f::r=>fI f∧fIL r
theorem fIL_iff:∀ l:List tD,fI.fIL l↔∀ f∈l,fI f
 |[]=>by simp [fI.fIL]
 |f::r=>by simp [fI.fIL,fIL_iff r]
theorem fI_iff (f:tD):fI f↔(f.kind=0∨f.kind=1∨f.kind=2)∧(-9223372036854775808≤f.int∧f.int≤9223372036854775807)∧∀ x∈f.list,fI x:=by
 cases f;simp only [fI,fIL_iff,tD.kind,tD.int,tD.list]
theorem wrF_eq (f:tD):wrF f=UInt8.ofNat f.kind.toNat::(if f.kind=0 then putN (zig f.int) else if f.kind=1 then putN f.str.length++f.str else if f.kind=2 then PC f.list else []):=by cases f;rfl
inductive Ty where
 |mk (kind:Int) (elem:List Ty)
 deriving Inhabited
def Ty.kind:Ty→Int| .mk k _=>k
def Ty.elem:Ty→List Ty| .mk _ l=>l
def Ty.e0 (t:Ty):Ty:=t.elem.getD 0 default
def tyN (k:Int):Bool:=decide (k=5∨k=6)
def tS (k:Int):Ty:= .mk k []
def tyS1 (k:Int) (e:Ty):Ty:= .mk k [e]
def tyV (level:Nat):Ty→Int
 | .mk k l=>if 16<level then 13 else if k<0∨8≤k∨(tyN k=true∧l.length≠1)∨(tyN k=false∧l.length≠0) then 1 else if tyN k=false then 0 else match l with|e::_=>tyV (level+1) e|[]=>0
def aai:Ty→Prop
 | .mk k l=>(tyN k=true∧l.length=1∨tyN k=false∧l.length=0)∧match l with|e::_=>aai e|[]=>True
def tyJ:Ty→Ty→Ty
 | .mk k l,u=>if k=7 then u else if u.kind=7 then .mk k l else if k≠u.kind then tS 0 else match l with|e::_=>tyS1 k (tyJ e u.e0)|[]=>tS k
def aaD (a b:Ty):Ty:=if tyV 1 a=0∧tyV 1 b=0 then tyJ a b else tS 0
def tyF:aX→Ty
 | .mk k b i s l ks=>if k=0 then tS 1 else if k=1 then tS 2 else if k=2 then tS 3 else if k=3 then tS 4 else tyS1 (if k=4 then 5 else 6) (fold (tS 7) l)
where fold (a:Ty):List aX→Ty
 |[]=>a
 |v::r=>fold (tyJ a (tyF v)) r
def tyOf (v:aX):Ty:=if vValid v=0 then tyF v else tS 0
def tyL (t:Ty):Bool:=decide (t.kind=0∨t.kind=7)
def tyC:Ty→Ty→Bool
 | .mk k l,u=>if k=0∨k=7∨u.kind=0 then true else if k≠u.kind then false else match l with|[e]=>(if u.elem.length=1 then tyC e u.e0 else true)|_=>true
def tyK (a b:Ty) (k:Int):Bool:=(tyL a||decide (a.kind=k))&& (tyL b||decide (b.kind=k))&& (decide (a.kind=k)||decide (b.kind=k))
abbrev Dc:=cx×Ty
inductive TR where
 |ok (t:Ty)
 |err (c:Int)
def dclF (env:List Dc) (nm:cx):TR:=match env with|[]=> .err 10|d::r=>if d.1=nm then .ok d.2 else dclF r nm
def envF (seen:List cx):List Dc→Int
 |[]=>0
 |d::r=>if aaH d.1=false then 1 else if tyV 1 d.2≠0 then tyV 1 d.2 else if seen.contains d.1 then 7 else envF (seen++[d.1]) r
def denvF (l:List Dc):Int:=if 1024<l.length then 3 else envF [] l
def memF (t:Ty):TR:=if tyL t then .ok t else if t.kind=6 then .ok t.e0 else .err 9
def idxF (t i:Ty):TR:=
 let n:=tyC i (tS 3);let x:=tyC i (tS 4)
 if t.kind=5∧n=true∨t.kind=6∧x=true then .ok t.e0 else if tyL t=true∧(n||x)=true then .ok t else .err 9
def gathF (k:Int) (ts:List Ty):TR:=
 let out:=tyS1 k (ts.foldl aaD (tS 7))
 if tyV 1 out≠0 then .err 13 else .ok out
def unF (op:cx) (t:Ty):TR:=
 let w:=tS (if op=[33] then 2 else 3)
 if tyC t w then .ok w else .err 9
def elF (t:Ty):Ty:=if tyL t then t else t.e0
def sumF (a b:Ty):TR:=
 if (tyL a&&tyL b)=true then .ok (tS (if a.kind=0∨b.kind=0 then 0 else 7))
 else if tyK a b 3 then .ok (tS 3) else if tyK a b 4 then .ok (tS 4) else if tyK a b 5 then .ok (tyS1 5 (aaD (elF a) (elF b))) else .err 9
def binF (op:cx) (a b:Ty):TR:=
 let both:=fun k=>tyC a (tS k)&&tyC b (tS k)
 if op=[38,38]∨op=[124,124] then (if both 2 then .ok (tS 2) else .err 9)
 else if op=[61,61]∨op=[33,61] then .ok (tS 2)
 else if op=[60]∨op=[60,61]∨op=[62]∨op=[62,61] then (if (tyL a&&tyL b||tyK a b 3||tyK a b 4)=true then .ok (tS 2) else .err 9)
 else if op=[45]∨op=[42]∨op=[47]∨op=[37] then (if both 3 then .ok (tS 3) else .err 9)
 else if op=[43] then sumF a b else .err 9
def sLen:cx:=[108,101,110]
def sContains:cx:=[99,111,110,116,97,105,110,115]
def sJoin:cx:=[106,111,105,110]
def sString:cx:=[115,116,114,105,110,103]
def sLower:cx:=[108,111,119,101,114]
def sUpper:cx:=[117,112,112,101,114]
def sSplit:cx:=[115,112,108,105,116]
def sStarts:cx:=[115,116,97,114,116,115,119,105,116,104]
def sEnds:cx:=[101,110,100,115,119,105,116,104]
def sInt:cx:=[105,110,116]
def sDefault:cx:=[100,101,102,97,117,108,116]
def sKeys:cx:=[107,101,121,115]
def sigF (nm:cx):List (List Ty)×Ty:=
 let any:=tS 0;let num:=tS 3;let text:=tS 4;let truth:=tS 2
 let list:=tyS1 5 any;let entries:=tyS1 6 any;let texts:=tyS1 5 text
 if nm=sLen then ([[text],[list],[entries]],num)
 else if nm=sContains then ([[list,any],[text,text],[entries,text]],truth)
 else if nm=sJoin then ([[texts,text]],text)
 else if nm=sString then ([[tS 1],[truth],[num],[text]],text)
 else if nm=sLower∨nm=sUpper then ([[text]],text)
 else if nm=sSplit then ([[text,text]],texts)
 else if nm=sStarts∨nm=sEnds then ([[text,text]],truth)
 else if nm=sInt then ([[text]],num)
 else if nm=sDefault then ([[any,any]],any)
 else if nm=sKeys then ([[entries]],texts)
 else ([],any)
def suitF (ts:List Ty):Nat→List Ty→Bool
 |_,[]=>true
 |i,w::r=>tyC (ts.getD i default) w&&suitF ts (i+1) r
def altF (nm:cx) (t:Ty) (ts:List Ty):List (List Ty)→TR
 |[]=> .err 9
 |w::r=>if suitF ts 0 w=false then altF nm t ts r else if nm≠sDefault then .ok t else if (ts.getD 0 default).kind=1 then .ok (ts.getD 1 default) else .ok (ts.getD 0 default)
inductive TL where
 |ok (ts:List Ty)
 |err (c:Int)
def nodeF (k:Int) (nm:cx) (v:aX) (env:List Dc) (ts:List Ty):TR:=
 let t:=fun i=>ts.getD i default
 if k=1 then .ok (tyOf v) else if k=2 then dclF env nm else if k=3 then memF (t 0) else if k=4 then idxF (t 0) (t 1) else if k=6 then unF nm (t 0) else if k=7 then binF nm (t 0) (t 1)
 else if k=8 then (if tyC (t 0) (tS 2) then .ok (aaD (t 1) (t 2)) else .err 9) else if k=9 then gathF 5 ts else gathF 6 ts
def tcF (env:List Dc):Ex→TR
 | .mk k nm v args ks=>
  if k=5 then
   if (sigF nm).1=[] then .err 10 else if args.length≠((sigF nm).1.getD 0 []).length then .err 1
   else match tcL env args with
    | .err c=> .err c
    | .ok ts=>altF nm (sigF nm).2 ts (sigF nm).1
  else match tcL env args with
   | .err c=> .err c
   | .ok ts=>nodeF k nm v env ts
where tcL (env:List Dc):List Ex→TL
 |[]=> .ok []
 |e::r=>match tcF env e with
  | .err c=> .err c
  | .ok t=>match tcL env r with
   | .err c=> .err c
   | .ok ts=> .ok (t::ts)
def exprF (e:Ex) (env:List Dc):TR:=
 if denvF env≠0 then .err (denvF env) else if dW e≠0 then .err (dW e) else match tcF env e with
  | .err c=> .err c
  | .ok t=> .ok (aaD t (tS 7))
def sAlways:cx:=[97,108,119,97,121,115]
def sCancelled:cx:=[99,97,110,99,101,108,108,101,100]
def sFailure:cx:=[102,97,105,108,117,114,101]
def sSkipped:cx:=[115,107,105,112,112,101,100]
def sSuccess:cx:=[115,117,99,99,101,115,115]
def aau:List Dc:=[sAlways,sCancelled,sFailure,sSkipped,sSuccess].map fun s=>(s,tS 2)
def condF (e:Ex) (l:List Dc):Int:=match exprF e (aau++l) with
 | .err c=>c
 | .ok t=>if t.kind=2∨t.kind=0∨t.kind=7 then 0 else 9
theorem Ty.sizeOf_e0 {t:Ty} (h:t.elem≠[]):sizeOf t.e0<sizeOf t:=by
 cases t with|mk k l=>
 cases l with
 |nil=>exact absurd rfl h
 |cons a r=>simp [Ty.e0,Ty.elem];omega
theorem Ty.ind {p:Ty→Prop} (h:∀ t,(t.elem≠[]→p t.e0)→p t):∀ t,p t:=by
 have key:∀ n:Nat,∀ t:Ty,sizeOf t<n→p t:=by
  intro n
  induction n with
  |zero=>intro v hv;omega
  |succ n ih=>intro v hv;exact h v fun hne=>ih _ (by have:=Ty.sizeOf_e0 hne;omega)
 exact fun v=>key _ v (Nat.lt_succ_self _)
theorem tyOK_eq (t:Ty):aai t↔(tyN t.kind=true∧t.elem.length=1∨tyN t.kind=false∧t.elem.length=0)∧(t.elem≠[]→aai t.e0):=by
 cases t with|mk k l=>cases l<;>simp [aai,Ty.kind,Ty.elem,Ty.e0]
theorem tyV_eq (n:Nat) (t:Ty):tyV n t=if 16<n then 13 else if t.kind<0∨8≤t.kind∨(tyN t.kind=true∧t.elem.length≠1)∨(tyN t.kind=false∧t.elem.length≠0) then 1 else if tyN t.kind=false then 0 else tyV (n+1) t.e0:=by
 cases t with|mk k l=>
 cases l with
 |nil=>simp only [tyV,Ty.kind,Ty.elem,Ty.e0];grind
 |cons a r=>simp only [tyV,Ty.kind,Ty.elem,Ty.e0];simp
theorem tyJ_eq (a b:Ty):tyJ a b=if a.kind=7 then b else if b.kind=7 then a else if a.kind≠b.kind then tS 0 else if a.elem=[] then tS a.kind else tyS1 a.kind (tyJ a.e0 b.e0):=by
 cases a with|mk k l=>
 cases l with
 |nil=>simp only [tyJ,Ty.kind,Ty.elem,if_true];rfl
 |cons e r=>simp only [tyJ,Ty.kind,Ty.elem,Ty.e0,reduceCtorEq,if_false];rfl
theorem ty_eta1 {t:Ty} (h:aai t) (hn:tyN t.kind=true):tyS1 t.kind t.e0=t:=by
 rw [tyOK_eq] at h
 cases t with|mk k l=>
 simp only [Ty.kind,Ty.elem,Ty.e0] at*
 rcases h.1 with ⟨h1,h2⟩|⟨h1,h2⟩
 ·obtain ⟨a,rfl⟩:=List.length_eq_one_iff.1 h2
  rfl
 ·rw [hn] at h1;cases h1
theorem ty_eta0 {t:Ty} (h:aai t) (hn:tyN t.kind=false):tS t.kind=t:=by
 rw [tyOK_eq] at h
 cases t with|mk k l=>
 simp only [Ty.kind,Ty.elem,Ty.e0] at*
 rcases h.1 with ⟨h1,h2⟩|⟨h1,h2⟩
 ·rw [hn] at h1;cases h1
 ·have:l=[]:=abw.1 h2
  subst this;rfl
theorem aav {k:Int} (h:tyN k=false):aai (tS k):=by rw [tyOK_eq];simp [tS,Ty.kind,Ty.elem,h]
theorem tyOK_S1 {k:Int} {e:Ty} (h:tyN k=true) (he:aai e):aai (tyS1 k e):=by rw [tyOK_eq];simp [tyS1,Ty.kind,Ty.elem,Ty.e0,h,he]
theorem tyOK_ne {t:Ty} (h:aai t) (hn:t.elem≠[]):tyN t.kind=true∧t.elem.length=1∧aai t.e0:=by
 have:=(tyOK_eq t).1 h
 rcases this.1 with ⟨h1,h2⟩|⟨h1,h2⟩
 ·exact ⟨h1,h2,this.2 hn⟩
 ·exact absurd (abw.1 h2) hn
theorem tyOK_nest {t:Ty} (h:aai t) (hn:tyN t.kind=true):t.elem≠[]∧t.elem.length=1∧aai t.e0:=by
 have:=(tyOK_eq t).1 h
 rcases this.1 with ⟨h1,h2⟩|⟨h1,h2⟩
 ·have hne:t.elem≠[]:=by intro e;rw [e] at h2;cases h2
  exact ⟨hne,h2,this.2 hne⟩
 ·rw [hn] at h1;cases h1
theorem tyOK_flat {t:Ty} (h:aai t) (hn:tyN t.kind=false):t.elem=[]:=by
 have:=(tyOK_eq t).1 h
 rcases this.1 with ⟨h1,h2⟩|⟨h1,h2⟩
 ·rw [hn] at h1;cases h1
 ·exact abw.1 h2
theorem tyOK_J:∀ a b:Ty,aai a→aai b→aai (tyJ a b):=by
 intro a
 induction a using Ty.ind with
 |_ a ih=>
 intro b ha hb
 rw [tyJ_eq]
 split
 ·exact hb
 ·split
  ·exact ha
  ·split
   ·exact aav (by decide)
   ·rename_i h1 h2 h3
    have hk:a.kind=b.kind:=by simpa using h3
    split
    ·rename_i h4
     have:=(tyOK_eq a).1 ha
     rw [h4] at this
     exact aav (by rcases this.1 with ⟨_,h⟩|⟨h,_⟩<;>simp_all)
    ·rename_i h4
     obtain ⟨n1,n2,n3⟩:=tyOK_ne ha h4
     obtain ⟨m1,m2,m3⟩:=tyOK_nest hb (by rw [←hk];exact n1)
     exact tyOK_S1 n1 (ih h4 _ n3 m3)
theorem tyV_OK (n:Nat):∀ t:Ty,tyV n t=0→aai t:=by
 intro t
 induction t using Ty.ind generalizing n with
 |_ t ih=>
 intro h
 rw [tyV_eq] at h
 rw [tyOK_eq]
 split at h
 ·cases h
 ·split at h
  ·cases h
  ·rename_i h1 h2
   by_cases hn:tyN t.kind=false
   ·refine ⟨.inr ⟨hn,by grind⟩,fun hne=>absurd (abw.1 (by grind)) hne⟩
   ·rw [if_neg hn] at h
    have hn:tyN t.kind=true:=by simpa using hn
    exact ⟨.inl ⟨hn,by grind⟩,fun hne=>ih hne _ h⟩
theorem tyOK_Join (a b:Ty):aai (aaD a b):=by
 unfold aaD
 split
 ·rename_i h;exact tyOK_J a b (tyV_OK 1 a h.1) (tyV_OK 1 b h.2)
 ·exact aav (by decide)
mutual
theorem tyOK_F:∀ v:aX,aai (tyF v)
 | .mk k b i s l ks=>by
  simp only [tyF]
  split
  ·exact aav (by decide)
  ·split
   ·exact aav (by decide)
   ·split
    ·exact aav (by decide)
    ·split
     ·exact aav (by decide)
     ·exact tyOK_S1 (by split<;>decide) (tyOK_fold l _ (aav (by decide)))
theorem tyOK_fold:∀ (l:List aX) (a:Ty),aai a→aai (tyF.fold a l)
 |[],_,h=>h
 |v::r,a,h=>tyOK_fold r _ (tyOK_J _ _ h (tyOK_F v))
end
theorem tyOK_Of (v:aX):aai (tyOf v):=by unfold tyOf;split;exact tyOK_F v;exact aav (by decide)
theorem tyF_eq (v:aX):tyF v=if v.kind=0 then tS 1 else if v.kind=1 then tS 2 else if v.kind=2 then tS 3 else if v.kind=3 then tS 4 else tyS1 (if v.kind=4 then 5 else 6) (tyF.fold (tS 7) v.list):=by cases v;simp only [tyF,aX.kind,aX.list];rfl
inductive Bk where
 |mk (kind name:cx) (attrs:List (cx×Ex)) (blocks:List Bk)
 deriving Inhabited
def Bk.kind:Bk→cx| .mk k _ _ _=>k
def Bk.name:Bk→cx| .mk _ n _ _=>n
def Bk.attrs:Bk→List (cx×Ex)| .mk _ _ a _=>a
def Bk.blocks:Bk→List Bk| .mk _ _ _ b=>b
theorem tX {b x:Bk} (h:x∈b.blocks):sizeOf x<sizeOf b:=by
 cases b with|mk k n a l=>have:=List.sizeOf_lt_of_mem h;simp only [Bk.blocks] at this;simp only [Bk.mk.sizeOf_spec];omega
theorem Bk.ind {p:Bk→Prop} (h:∀ b,(∀ x∈b.blocks,p x)→p b):∀ b,p b:=by
 have key:∀ n:Nat,∀ v:Bk,sizeOf v<n→p v:=by
  intro n
  induction n with
  |zero=>intro v hv;omega
  |succ n ih=>intro v hv;exact h v fun x hx=>ih x (by have:=tX hx;omega)
 exact fun v=>key _ v (Nat.lt_succ_self _)
def sp (n:Nat):cx:=List.replicate n 32
inductive RB where
 |ok (b:Bk) (rest:List Tk)
 |err (rest:List Tk) (code:Int)
inductive rR where
 |block|items (kind name:cx) (attrs:List (cx×Ex)) (blocks:List Bk)
inductive RF where
 |ok (l:List Bk)
 |err (rest:List Tk) (code:Int)
inductive Qn where
 |ok (l:List Bk)
 |err (at_:Int) (code:Int)
