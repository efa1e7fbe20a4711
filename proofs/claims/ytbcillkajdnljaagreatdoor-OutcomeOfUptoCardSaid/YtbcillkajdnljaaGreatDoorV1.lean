import Derived.Test.YtbcillkajdnljaaGreatDoorVA
set_option linter.all false
namespace Go.Proofs.YtbcillkajdnljaaGreatDoor
abbrev aF:=List UInt8
inductive aX where
 |mk (kind:Int) (bool:Bool) (int:Int) (str:aF) (list:List aX) (keys:List aF)
 deriving Inhabited
inductive Ex where
 |mk (kind:Int) (name:aF) (value:aX) (args:List Ex) (keys:List aF)
 deriving Inhabited
structure Tk where
 kind:Int
 text:aF
 at_:Int
 deriving Inhabited,DecidableEq
def aX.kind:aX→Int| .mk k _ _ _ _ _=>k
def aX.bool:aX→Bool| .mk _ b _ _ _ _=>b
def aX.int:aX→Int| .mk _ _ i _ _ _=>i
def aX.str:aX→aF| .mk _ _ _ s _ _=>s
def aX.list:aX→List aX| .mk _ _ _ _ l _=>l
def aX.keys:aX→List aF| .mk _ _ _ _ _ ks=>ks
def Ex.kind:Ex→Int| .mk k _ _ _ _=>k
def Ex.name:Ex→aF| .mk _ n _ _ _=>n
def Ex.value:Ex→aX| .mk _ _ v _ _=>v
def Ex.args:Ex→List Ex| .mk _ _ _ ar _=>ar
def Ex.keys:Ex→List aF| .mk _ _ _ _ ks=>ks
def xW {v x:aX} (h:x∈v.list):sizeOf x<sizeOf v:=by
 cases v with|mk k b i s l ks=>have:=List.sizeOf_lt_of_mem h;simp only [aX.list] at this;simp only [aX.mk.sizeOf_spec];omega
def xX {e x:Ex} (h:x∈e.args):sizeOf x<sizeOf e:=by
 cases e with|mk k n v l ks=>have:=List.sizeOf_lt_of_mem h;simp only [Ex.args] at this;simp only [Ex.mk.sizeOf_spec];omega
def aX.ind {p:aX→Prop} (h:∀ v,(∀ x∈v.list,p x)→p v):∀ v,p v:=by
 have key:∀ n:Nat,∀ v:aX,sizeOf v<n→p v:=by
  intro n;induction n with
  |zero=>intro v hv;omega
  |succ n ih=>intro v hv;exact h v fun x hx=>ih x (by have:=xW hx;omega)
 exact fun v=>key _ v (Nat.lt_succ_self _)
def Ex.ind {p:Ex→Prop} (h:∀ e,(∀ x∈e.args,p x)→p e):∀ e,p e:=by
 have key:∀ n:Nat,∀ v:Ex,sizeOf v<n→p v:=by
  intro n;induction n with
  |zero=>intro v hv;omega
  |succ n ih=>intro v hv;exact h v fun x hx=>ih x (by have:=xX hx;omega)
 exact fun v=>key _ v (Nat.lt_succ_self _)
def ct:aX:= .mk 0 false 0 [] [] []
def xQ:Ex:= .mk 0 [] ct [] []
def MZ:Tk:=⟨0,[],0⟩
def bN (c:UInt8):Bool:=decide (97≤c.toNat∧c.toNat≤122∨65≤c.toNat∧c.toNat≤90∨c.toNat=95)
def isDigit (c:UInt8):Bool:=decide (48≤c.toNat∧c.toNat≤57)
def b9 (c:UInt8):Bool:=bN c||isDigit c
def gX:aF:=[116,114,117,101]
def fY:aF:=[102,97,108,115,101]
def jc:aF:=[110,117,108,108]
def isWord (s:aF):Bool:=decide (s=[116,114,117,101]∨s=[102,97,108,115,101]∨s=[110,117,108,108])
def bB (s:aF):Nat:=
 if s=[124,124] then 2 else if s=[38,38] then 3
 else if s=[61,61]∨s=[33,61]∨s=[60]∨s=[60,61]∨s=[62]∨s=[62,61] then 4
 else if s=[43]∨s=[45] then 5 else if s=[42]∨s=[47]∨s=[37] then 6 else 0
def isName (s:aF):Bool:=decide (s.length≤64)&& (match s with|[]=>false|c::r=>bN c&&r.all b9)
def isPlain (s:aF):Bool:=isName s&& !isWord s
def cZ (s:aF):Nat:=s.foldl (fun n c=>10*n+(c.toNat - 48)) 0
def fZ (s:aF):Bool:=decide (s≠[])&& !decide (1<s.length∧(s.getD 0 0).toNat=48)&&s.all isDigit&&decide (cZ s≤9007199254740992)
def qT (c:UInt8):Int:=
 if isDigit c then (c.toNat:Int) - 48 else if 97≤c.toNat∧c.toNat≤102 then (c.toNat:Int) - 87 else if 65≤c.toNat∧c.toNat≤70 then (c.toNat:Int) - 55 else -1
inductive pE where
 |ok (kind:Int) (text:aF) (n:Nat)
 |err (code:Int)
inductive Gd where
 |ok (c:UInt8) (n:Nat)
 |err (code:Int)
inductive qp where
 |ok (ts:List Tk)
 |err (at_:Nat) (code:Int)
def dZ (a b:Int):Int:=if a<b then -1 else if b<a then 1 else 0
def gI (a b:Nat):Int:=if a<b then -1 else if b<a then 1 else 0
def ltStr:aF→aF→Bool
 |_,[]=>false
 |[],_::_=>true
 |a::r,b::s=>decide (a.toNat<b.toNat)||(decide (a=b)&&ltStr r s)
def ZE (a b:aF):Int:=if ltStr a b then -1 else if ltStr b a then 1 else 0
def bG (s:aF):aF:=s.dropWhile (fun c=>decide (c.toNat=48))
def jd (a b:aF):Int:=
 let x:=bG a;let y:=bG b
 if x.length≠y.length then gI x.length y.length else if x≠y then ZE x y else gI a.length b.length
def ig:Nat→aF→aF→Int
 |0,_,_=>0
 |_+1,[],b=>if b=[] then 0 else -1
 |_+1,_::_,[]=>1
 |f+1,c::r,d::s=>
  if isDigit c&&isDigit d then
   let x:=(c::r).takeWhile isDigit;let y:=(d::s).takeWhile isDigit
   if jd x y≠0 then jd x y else ig f ((c::r).drop x.length) ((d::s).drop y.length)
  else if c≠d then gI c.toNat d.toNat else ig f r s
def c8 (a b:aF):Int:=ig (a.length+1) a b
def fP (k:aF):Bool:=decide (1≤k.length∧k.length≤64)
def dG:List aF→Bool
 |[]=>true
 |k::r=>fP k&& (match r with|[]=>true|k'::_=>decide (c8 k k'<0))&&dG r
def gM (v:aX):Bool:=
 (decide (v.kind=1)|| !v.bool)&& (decide (v.kind=2)||decide (v.int=0))&& (decide (v.kind=3)||decide (v.str=[]))&&
 (decide (v.kind=4)||decide (v.kind=5)||decide (v.list=[]))&& (decide (v.kind=5)||decide (v.keys=[]))
def gY (v:aX) (level:Nat):Int:=
 if 16<level then 13 else if v.kind<0∨5<v.kind∨gM v=false then 1
 else if v.int< -9007199254740992∨9007199254740992<v.int then 2
 else if 4096<v.str.length∨1024<v.list.length∨1024<v.keys.length then 3
 else if v.kind=5∧¬ (v.keys.length=v.list.length∧dG v.keys=true) then 1
 else if (v.kind=4∨v.kind=5)∧v.list=[]∧level=16 then 13 else 0
def dI (level:Nat):aX→Int
 | .mk k b i s l ks=>if gY (.mk k b i s l ks) level≠0 then gY (.mk k b i s l ks) level else vCheckL (level+1) l
where vCheckL (level:Nat):List aX→Int
 |[]=>0
 |v::r=>if dI level v≠0 then dI level v else vCheckL level r
def fk (v:aX):Int:=dI 1 v
def Ge (n:Nat):UInt8:=if n<10 then UInt8.ofNat (48+n) else UInt8.ofNat (87+n)
def eB (c:UInt8):aF:=
 if c.toNat=34 then [92,34] else if c.toNat=92 then [92,92] else if c.toNat=10 then [92,110] else if c.toNat=9 then [92,116]
 else if 32≤c.toNat∧c.toNat≤126 then [c] else [92,120,Ge (c.toNat / 16),Ge (c.toNat % 16)]
def quoteF (s:aF):aF:=[34]++s.flatMap eB++[34]
def rK:Nat→Nat→aF
 |0,_=>[]
 |f+1,n=>if n<10 then [UInt8.ofNat (48+n)] else rK f (n / 10)++[UInt8.ofNat (48+n % 10)]
def decN (n:Nat):aF:=rK (n+1) n
def xY (n:Int):aF:=if n<0 then 45::decN n.natAbs else decN n.natAbs
def c6 (sep:aF):List aF→aF
 |[]=>[]
 |a::r=>if r=[] then a else a++sep++c6 sep r
def ZA:aX→aF
 | .mk k b i s l ks=>
  if k=1 then (if b then gX else fY) else if k=2 then xY i else if k=3 then quoteF s
  else if k=4 then [91]++c6 [44,32] (J6 l)++[93]
  else if k=5 then [123]++c6 [44,32] (nR l ks)++[125] else jc
where
 J6:List aX→List aF
 |[]=>[]
 |v::r=>ZA v::J6 r
 nR:List aX→List aF→List aF
 |[],_=>[]
 |v::r,ks=>(quoteF (ks.headD [])++[58,32]++ZA v)::nR r ks.tail
def uF (v:aX):aF:=if fk v≠0 then [] else ZA v
def bS:Ex→Nat
 | .mk _ _ _ ar _=>1+cY ar
where cY:List Ex→Nat
 |[]=>0
 |e::r=>bS e+cY r
def jg (v:aX):Bool:=decide (v.kind=0)&& !v.bool&&decide (v.int=0)&&decide (v.str=[])&&decide (v.list=[])&&decide (v.keys=[])
def jJ (e:Ex):Bool:=
 if e.kind=1∨e.kind=2 then decide (e.args.length=0) else if e.kind=3∨e.kind=6 then decide (e.args.length=1)
 else if e.kind=4∨e.kind=7 then decide (e.args.length=2) else if e.kind=8 then decide (e.args.length=3) else true
def dJ (e:Ex):Bool:=
 if e.kind=2∨e.kind=3∨e.kind=5 then isPlain e.name else if e.kind=6 then decide (e.name=[33]∨e.name=[45])
 else if e.kind=7 then decide (0<bB e.name) else decide (e.name=[])
def gR (e:Ex):Bool:=if e.kind≠10 then decide (e.keys=[]) else decide (e.keys.length=e.args.length)&&e.keys.all fP
def kA:List aF→Bool
 |[]=>false
 |k::r=>r.contains k||kA r
def jv (e:Ex) (level:Nat):Int:=
 if 16<level then 13
 else if e.kind<1∨10<e.kind∨(e.kind≠1∧jg e.value=false)∨dJ e=false∨jJ e=false∨gR e=false then 1
 else if e.kind=1∧fk e.value≠0 then fk e.value
 else if 1024<e.args.length then 3 else if kA e.keys then 7 else 0
def dc (level:Nat):Ex→Int
 | .mk k n v ar ks=>if jv (.mk k n v ar ks) level≠0 then jv (.mk k n v ar ks) level else gy (level+1) ar
where gy (level:Nat):List Ex→Int
 |[]=>0
 |e::r=>if dc level e≠0 then dc level e else gy level r
def dW (e:Ex):Int:=if 4096<bS e then 15 else dc 1 e
def force (e:Ex):Nat:=
 if e.kind=8 then 1 else if e.kind=7 then bB e.name
 else if e.kind=6∨(e.kind=1∧e.value.kind=2∧e.value.int<0) then 7 else 8
def paren (b:Bool) (s:aF):aF:=if b then [40]++s++[41] else s
def src:Ex→aF
 | .mk k n v ar ks=>
  if k=1 then uF v else if k=2 then n
  else if k=3 then eO ar 0 8++[46]++n
  else if k=4 then eO ar 0 8++[91]++eO ar 1 1++[93]
  else if k=5 then n++[40]++c6 [44,32] (Gf ar)++[41]
  else if k=6 then n++eO ar 0 7
  else if k=7 then eO ar 0 (if bB n=4 then 5 else bB n)++[32]++n++[32]++eO ar 1 (bB n+1)
  else if k=8 then eO ar 0 2++[32,63,32]++eO ar 1 1++[32,58,32]++eO ar 2 1
  else if k=9 then [91]++c6 [44,32] (Gf ar)++[93]
  else [123]++c6 [44,32] (nT ar ks)++[125]
where
 eO:List Ex→Nat→Nat→aF
 |[],_,_=>[]
 |e::_,0,need=>paren (decide (force e<need)) (src e)
 |_::r,i+1,need=>eO r i need
 Gf:List Ex→List aF
 |[]=>[]
 |e::r=>src e::Gf r
 nT:List Ex→List aF→List aF
 |[],_=>[]
 |e::r,ks=>(quoteF (ks.headD [])++[58,32]++src e)::nT r ks.tail
inductive dF (α:Type) where
 |ok (x:α) (rest:List Tk)
 |err (rest:List Tk) (code:Int)
def cg (s:aF) (t:Tk):Bool:=decide (t.kind=4∧t.text=s)
def miss:List Tk→Int
 |[]=>4
 |_=>5
def lit (v:aX):Ex:= .mk 1 [] v [] []
inductive Tag where
 |cond|op (n:Nat)|ops (n:Nat) (e:Ex)|un|chain (e:Ex)|atom
 |args (close:aF)|items (close:aF) (acc:List Ex)|kW|xR (acc:List Ex) (ks:List aF)
def kq (t:Tk):Bool:=(decide (t.kind=1)&&isName t.text)||(decide (t.kind=3)&&decide (t.text.length≤4096))
def cU (s:aF) (k:List Tk→Option (dF Ex)):List Tk→Option (dF Ex)
 |[]=>some (.err [] 4)
 |t::r=>if cg s t then k r else some (.err (t::r) 5)
def aL (r:Option (dF Ex)) (k:Ex→List Tk→Option (dF Ex)):Option (dF Ex):=
 match r with
 |some (.ok e rest)=>k e rest
 |x=>x
def pF:Nat→Tag→List Tk→Option (dF Ex)
 |0,_,_=>none
 |f+1,.cond,ts=>aL (pF f (.op 2) ts) fun c r1=>match r1 with
  |[]=>some (.ok c r1)
  |t::r2=>if cg [63] t then aL (pF f .cond r2) fun a r3=>cU [58] (fun r4=>aL (pF f .cond r4) fun b r5=>some (.ok (.mk 8 [] ct [c,a,b] []) r5)) r3 else some (.ok c r1)
 |f+1,.op n,ts=>if n=7 then pF f .un ts else aL (pF f (.op (n+1)) ts) fun e r=>pF f (.ops n e) r
 |f+1,.ops n e,ts=>match ts with
  |[]=>some (.ok e [])
  |t::r=>if t.kind=4∧bB t.text=n then aL (pF f (.op (n+1)) r) fun x r2=>
    let y:=Ex.mk 7 t.text ct [e,x] []
    if n=4 then some (.ok y r2) else pF f (.ops n y) r2
   else some (.ok e ts)
 |f+1,.un,ts=>match ts with
  |[]=>pF f .atom []
  |t::r=>if cg [33] t||cg [45] t then aL (pF f .un r) fun x r2=>some (.ok (.mk 6 t.text ct [x] []) r2) else aL (pF f .atom ts) fun e r2=>pF f (.chain e) r2
 |f+1,.chain e,ts=>match ts with
  |[]=>some (.ok e [])
  |t::r=>if cg [46] t then match r with
    |[]=>some (.err [] 4)
    |u::r2=>if u.kind=1∧isPlain u.text=true then pF f (.chain (.mk 3 u.text ct [e] [])) r2 else some (.err (u::r2) 5)
   else if cg [91] t then aL (pF f .cond r) fun i r2=>cU [93] (fun r3=>pF f (.chain (.mk 4 [] ct [e,i] [])) r3) r2
   else some (.ok e ts)
 |f+1,.atom,ts=>match ts with
  |[]=>some (.err [] 4)
  |t::r=>
   if t.kind=2 then (if fZ t.text then some (.ok (lit (.mk 2 false (cZ t.text) [] [] [])) r) else some (.err ts 5))
   else if t.kind=3 then (if t.text.length≤4096 then some (.ok (lit (.mk 3 false 0 t.text [] [])) r) else some (.err ts 5))
   else if t.kind=1 then
    if t.text=jc then some (.ok (lit ct) r) else if t.text=gX∨t.text=fY then some (.ok (lit (.mk 1 (decide (t.text=gX)) 0 [] [] [])) r)
    else if isName t.text=true then match r with
      |[]=>some (.ok (.mk 2 t.text ct [] []) r)
      |u::r2=>if cg [40] u then aL (pF f (.args [41]) r2) fun l r3=>some (.ok (.mk 5 t.text ct l.args []) r3) else some (.ok (.mk 2 t.text ct [] []) r)
     else some (.err ts 5)
   else if cg [40] t then aL (pF f .cond r) fun e r2=>cU [41] (fun r3=>some (.ok e r3)) r2
   else if cg [91] t then aL (pF f (.args [93]) r) fun l r3=>some (.ok (.mk 9 [] ct l.args []) r3)
   else if cg [123] t then pF f .kW r
   else some (.err ts 5)
 |f+1,.args close,ts=>match ts with
  |[]=>pF f (.items close []) []
  |t::r=>if cg close t then some (.ok (.mk 0 [] ct [] []) r) else pF f (.items close []) ts
 |f+1,.items close acc,ts=>aL (pF f .cond ts) fun x r=>match r with
  |[]=>some (.err [] 4)
  |t::r2=>if cg close t then some (.ok (.mk 0 [] ct (acc++[x]) []) r2) else if cg [44] t then pF f (.items close (acc++[x])) r2 else some (.err r 5)
 |f+1,.kW,ts=>match ts with
  |[]=>pF f (.xR [] []) []
  |t::r=>if cg [125] t then some (.ok (.mk 10 [] ct [] []) r) else pF f (.xR [] []) ts
 |f+1,.xR acc ks,ts=>match ts with
  |[]=>some (.err [] 4)
  |t::r=>if kq t then cU [58] (fun r2=>aL (pF f .cond r2) fun x r3=>match r3 with
    |[]=>some (.err [] 4)
    |u::r4=>if cg [125] u then some (.ok (.mk 10 [] ct (acc++[x]) (ks++[t.text])) r4) else if cg [44] u then pF f (.xR (acc++[x]) (ks++[t.text])) r4 else some (.err r3 5)) r
   else some (.err ts 5)
inductive Yx where
 |ok (e:Ex)
 |err (at_:Int) (code:Int)
def au:dF Ex→List Tk
 | .ok _ r=>r
 | .err r _=>r
def lens:List aF→Nat
 |[]=>0
 |s::r=>s.length+2+lens r
def take_snoc {α:Type} [Inhabited α] {l:List α} {i:Nat} (h:i<l.length):l.take (i+1)=l.take i++[l.getD i default]:=by
 rw [List.take_add_one];simp [aam,h]
def cj:aX→Nat
 | .mk _ _ _ s l ks=>32+4*s.length+dm ks+jr l
where
 dm:List aF→Nat
 |[]=>0
 |k::r=>4*k.length+8+dm r
 jr:List aX→Nat
 |[]=>0
 |v::r=>cj v+jr r
def jK (v:aX):cj v=32+4*v.str.length+cj.dm v.keys+cj.jr v.list:=by cases v;rw [cj];rfl
def rP {l:List aX} {v:aX} (h:v∈l):cj v≤cj.jr l:=by
 induction l with
 |nil=>simp at h
 |cons a r ih=>
  simp only [cj.jr]
  rcases abc.1 h with rfl|h
  ·omega
  ·have:=ih h;omega
def lX:aX→Prop
 | .mk _ _ i _ l _=>(-9223372036854775808≤i∧i≤9223372036854775807)∧yb l
where yb:List aX→Prop
 |[]=>True
 |v::r=>lX v∧yb r
theorem uI:∀ l:List aX,lX.yb l↔∀ v∈l,lX v
 |[]=>by simp [lX.yb]
 |v::r=>by simp [lX.yb,uI r]
def l6 (v:aX):lX v↔(-9223372036854775808≤v.int∧v.int≤9223372036854775807)∧∀ x∈v.list,lX x:=by
 cases v;simp only [lX,uI,aX.int,aX.list]
def bq:Ex→Nat
 | .mk _ n v ar ks=>64+n.length+cj v+cj.dm ks+ic ar
where ic:List Ex→Nat
 |[]=>0
 |e::r=>bq e+ic r
def iq (e:Ex):bq e=64+e.name.length+cj e.value+cj.dm e.keys+bq.ic e.args:=by cases e;rw [bq];rfl
def nV {l:List Ex} {v:Ex} (h:v∈l):bq v≤bq.ic l:=by
 induction l with
 |nil=>simp at h
 |cons a r ih=>
  simp only [bq.ic]
  rcases abc.1 h with rfl|h
  ·omega
  ·have:=ih h;omega
def ot:Ex→Prop
 | .mk _ _ v ar _=>lX v∧yc ar
where yc:List Ex→Prop
 |[]=>True
 |v::r=>ot v∧yc r
theorem uK:∀ l:List Ex,ot.yc l↔∀ v∈l,ot v
 |[]=>by simp [ot.yc]
 |v::r=>by simp [ot.yc,uK r]
def l8 (e:Ex):ot e↔lX e.value∧∀ x∈e.args,ot x:=by
 cases e;simp only [ot,uK,Ex.value,Ex.args]
def wT:Tag→Nat
 | .cond=>12| .op n=>13 - n| .ops _ _=>1| .un=>5| .chain _=>1| .atom=>2| .args _=>15| .items _ _=>14| .kW=>3| .xR _ _=>2
inductive wB where
 |mk (kind int:Int) (str:aF) (list:List wB)
 deriving Inhabited
def wB.kind:wB→Int| .mk k _ _ _=>k
def wB.int:wB→Int| .mk _ n _ _=>n
def wB.str:wB→aF| .mk _ _ s _=>s
def wB.list:wB→List wB| .mk _ _ _ l=>l
def fInt (n:Int):wB:= .mk 0 n [] []
def fStr (s:aF):wB:= .mk 1 0 s []
def fList (l:List wB):wB:= .mk 2 0 [] l
def sizeOf_flist {b x:wB} (h:x∈b.list):sizeOf x<sizeOf b:=by
 cases b with|mk k n a l=>have:=List.sizeOf_lt_of_mem h;simp only [wB.list] at this;simp only [wB.mk.sizeOf_spec];omega
def wB.ind {p:wB→Prop} (h:∀ b,(∀ x∈b.list,p x)→p b):∀ b,p b:=by
 have key:∀ n:Nat,∀ v:wB,sizeOf v<n→p v:=by
  intro n;induction n with
  |zero=>intro v hv;omega
  |succ n ih=>intro v hv;exact h v fun x hx=>ih x (by have:=sizeOf_flist hx;omega)
 exact fun v=>key _ v (Nat.lt_succ_self _)
inductive Ty where
 |mk (kind:Int) (elem:List Ty)
 deriving Inhabited
def Ty.kind:Ty→Int| .mk k _=>k
def Ty.elem:Ty→List Ty| .mk _ l=>l
def Ty.e0 (t:Ty):Ty:=t.elem.getD 0 default
def tyN (k:Int):Bool:=decide (k=5∨k=6)
def cx (k:Int):Ty:= .mk k []
def tyS1 (k:Int) (e:Ty):Ty:= .mk k [e]
def tyV (level:Nat):Ty→Int
 | .mk k l=>if 16<level then 13 else if k<0∨8≤k∨(tyN k=true∧l.length≠1)∨(tyN k=false∧l.length≠0) then 1 else if tyN k=false then 0 else match l with|e::_=>tyV (level+1) e|[]=>0
def pS:Ty→Prop
 | .mk k l=>(tyN k=true∧l.length=1∨tyN k=false∧l.length=0)∧match l with|e::_=>pS e|[]=>True
def tyJ:Ty→Ty→Ty
 | .mk k l,u=>if k=7 then u else if u.kind=7 then .mk k l else if k≠u.kind then cx 0 else match l with|e::_=>tyS1 k (tyJ e u.e0)|[]=>cx k
def yS (a b:Ty):Ty:=if tyV 1 a=0∧tyV 1 b=0 then tyJ a b else cx 0
def tyF:aX→Ty
 | .mk k b i s l ks=>if k=0 then cx 1 else if k=1 then cx 2 else if k=2 then cx 3 else if k=3 then cx 4 else tyS1 (if k=4 then 5 else 6) (fold (cx 7) l)
where fold (a:Ty):List aX→Ty
 |[]=>a
 |v::r=>fold (tyJ a (tyF v)) r
def tyOf (v:aX):Ty:=if fk v=0 then tyF v else cx 0
def tyL (t:Ty):Bool:=decide (t.kind=0∨t.kind=7)
def tyC:Ty→Ty→Bool
 | .mk k l,u=>if k=0∨k=7∨u.kind=0 then true else if k≠u.kind then false else match l with|[e]=>(if u.elem.length=1 then tyC e u.e0 else true)|_=>true
def tyK (a b:Ty) (k:Int):Bool:=(tyL a||decide (a.kind=k))&& (tyL b||decide (b.kind=k))&& (decide (a.kind=k)||decide (b.kind=k))
abbrev Dc:=aF×Ty
inductive TR where
 |ok (t:Ty)
 |err (c:Int)
def dclF (env:List Dc) (nm:aF):TR:=match env with|[]=> .err 10|d::r=>if d.1=nm then .ok d.2 else dclF r nm
def envF (seen:List aF):List Dc→Int
 |[]=>0
 |d::r=>if isPlain d.1=false then 1 else if tyV 1 d.2≠0 then tyV 1 d.2 else if seen.contains d.1 then 7 else envF (seen++[d.1]) r
def denvF (l:List Dc):Int:=if 1024<l.length then 3 else envF [] l
def memF (t:Ty):TR:=if tyL t then .ok t else if t.kind=6 then .ok t.e0 else .err 9
def idxF (t i:Ty):TR:=
 let n:=tyC i (cx 3);let x:=tyC i (cx 4)
 if t.kind=5∧n=true∨t.kind=6∧x=true then .ok t.e0 else if tyL t=true∧(n||x)=true then .ok t else .err 9
def gathF (k:Int) (ts:List Ty):TR:=
 let out:=tyS1 k (ts.foldl yS (cx 7))
 if tyV 1 out≠0 then .err 13 else .ok out
def unF (op:aF) (t:Ty):TR:=
 let w:=cx (if op=[33] then 2 else 3)
 if tyC t w then .ok w else .err 9
def elF (t:Ty):Ty:=if tyL t then t else t.e0
def sumF (a b:Ty):TR:=
 if (tyL a&&tyL b)=true then .ok (cx (if a.kind=0∨b.kind=0 then 0 else 7))
 else if tyK a b 3 then .ok (cx 3) else if tyK a b 4 then .ok (cx 4) else if tyK a b 5 then .ok (tyS1 5 (yS (elF a) (elF b))) else .err 9
def binF (op:aF) (a b:Ty):TR:=
 let both:=fun k=>tyC a (cx k)&&tyC b (cx k)
 if op=[38,38]∨op=[124,124] then (if both 2 then .ok (cx 2) else .err 9)
 else if op=[61,61]∨op=[33,61] then .ok (cx 2)
 else if op=[60]∨op=[60,61]∨op=[62]∨op=[62,61] then (if (tyL a&&tyL b||tyK a b 3||tyK a b 4)=true then .ok (cx 2) else .err 9)
 else if op=[45]∨op=[42]∨op=[47]∨op=[37] then (if both 3 then .ok (cx 3) else .err 9)
 else if op=[43] then sumF a b else .err 9
def sLen:aF:=[108,101,110]
def sContains:aF:=[99,111,110,116,97,105,110,115]
def sJoin:aF:=[106,111,105,110]
def sString:aF:=[115,116,114,105,110,103]
def sLower:aF:=[108,111,119,101,114]
def sUpper:aF:=[117,112,112,101,114]
def sSplit:aF:=[115,112,108,105,116]
def sStarts:aF:=[115,116,97,114,116,115,119,105,116,104]
def sEnds:aF:=[101,110,100,115,119,105,116,104]
def sInt:aF:=[105,110,116]
def sDefault:aF:=[100,101,102,97,117,108,116]
def sKeys:aF:=[107,101,121,115]
def sigF (nm:aF):List (List Ty)×Ty:=
 let any:=cx 0;let num:=cx 3;let text:=cx 4;let truth:=cx 2
 let list:=tyS1 5 any;let entries:=tyS1 6 any;let texts:=tyS1 5 text
 if nm=sLen then ([[text],[list],[entries]],num)
 else if nm=sContains then ([[list,any],[text,text],[entries,text]],truth)
 else if nm=sJoin then ([[texts,text]],text)
 else if nm=sString then ([[cx 1],[truth],[num],[text]],text)
 else if nm=sLower∨nm=sUpper then ([[text]],text)
 else if nm=sSplit then ([[text,text]],texts)
 else if nm=sStarts∨nm=sEnds then ([[text,text]],truth)
 else if nm=sInt then ([[text]],num)
 else if nm=sDefault then ([[any,any]],any)
 else if nm=sKeys then ([[entries]],texts)
 else ([],any)
def suitF (ts:List Ty):Nat→List Ty→Bool
 |_,[]=>true
 |i,w::r=>tyC (ts.getD i default) w&&suitF ts (i+1) r
def altF (nm:aF) (t:Ty) (ts:List Ty):List (List Ty)→TR
 |[]=> .err 9
 |w::r=>if suitF ts 0 w=false then altF nm t ts r else if nm≠sDefault then .ok t else if (ts.getD 0 default).kind=1 then .ok (ts.getD 1 default) else .ok (ts.getD 0 default)
inductive TL where
 |ok (ts:List Ty)
 |err (c:Int)
def nodeF (k:Int) (nm:aF) (v:aX) (env:List Dc) (ts:List Ty):TR:=
 let t:=fun i=>ts.getD i default
 if k=1 then .ok (tyOf v) else if k=2 then dclF env nm else if k=3 then memF (t 0) else if k=4 then idxF (t 0) (t 1) else if k=6 then unF nm (t 0) else if k=7 then binF nm (t 0) (t 1)
 else if k=8 then (if tyC (t 0) (cx 2) then .ok (yS (t 1) (t 2)) else .err 9) else if k=9 then gathF 5 ts else gathF 6 ts
def tcF (env:List Dc):Ex→TR
 | .mk k nm v args ks=>
  if k=5 then
   if (sigF nm).1=[] then .err 10 else if args.length≠((sigF nm).1.getD 0 []).length then .err 1
   else match tcL env args with
    | .err c=> .err c
    | .ok ts=>altF nm (sigF nm).2 ts (sigF nm).1
  else match tcL env args with
   | .err c=> .err c
   | .ok ts=>nodeF k nm v env ts
where tcL (env:List Dc):List Ex→TL
 |[]=> .ok []
 |e::r=>match tcF env e with
  | .err c=> .err c
  | .ok t=>match tcL env r with
   | .err c=> .err c
   | .ok ts=> .ok (t::ts)
def exprF (e:Ex) (env:List Dc):TR:=
 if denvF env≠0 then .err (denvF env) else if dW e≠0 then .err (dW e) else match tcF env e with
  | .err c=> .err c
  | .ok t=> .ok (yS t (cx 7))
def sAlways:aF:=[97,108,119,97,121,115]
def sCancelled:aF:=[99,97,110,99,101,108,108,101,100]
def sFailure:aF:=[102,97,105,108,117,114,101]
def sSkipped:aF:=[115,107,105,112,112,101,100]
def sSuccess:aF:=[115,117,99,99,101,115,115]
def xI:List Dc:=[sAlways,sCancelled,sFailure,sSkipped,sSuccess].map fun s=>(s,cx 2)
def condF (e:Ex) (l:List Dc):Int:=match exprF e (xI++l) with
 | .err c=>c
 | .ok t=>if t.kind=2∨t.kind=0∨t.kind=7 then 0 else 9
def Ty.sizeOf_e0 {t:Ty} (h:t.elem≠[]):sizeOf t.e0<sizeOf t:=by
 cases t with|mk k l=>
 cases l with
 |nil=>exact absurd rfl h
 |cons a r=>simp [Ty.e0,Ty.elem];omega
def Ty.ind {p:Ty→Prop} (h:∀ t,(t.elem≠[]→p t.e0)→p t):∀ t,p t:=by
 have key:∀ n:Nat,∀ t:Ty,sizeOf t<n→p t:=by
  intro n;induction n with
  |zero=>intro v hv;omega
  |succ n ih=>intro v hv;exact h v fun hne=>ih _ (by have:=Ty.sizeOf_e0 hne;omega)
 exact fun v=>key _ v (Nat.lt_succ_self _)
def tyOK_eq (t:Ty):pS t↔(tyN t.kind=true∧t.elem.length=1∨tyN t.kind=false∧t.elem.length=0)∧(t.elem≠[]→pS t.e0):=by
 cases t with|mk k l=>cases l<;>simp [pS,Ty.kind,Ty.elem,Ty.e0]
def tyV_eq (n:Nat) (t:Ty):tyV n t=if 16<n then 13 else if t.kind<0∨8≤t.kind∨(tyN t.kind=true∧t.elem.length≠1)∨(tyN t.kind=false∧t.elem.length≠0) then 1 else if tyN t.kind=false then 0 else tyV (n+1) t.e0:=by
 cases t with|mk k l=>
 cases l with
 |nil=>simp only [tyV,Ty.kind,Ty.elem,Ty.e0];grind
 |cons a r=>simp only [tyV,Ty.kind,Ty.elem,Ty.e0];simp
def tyJ_eq (a b:Ty):tyJ a b=if a.kind=7 then b else if b.kind=7 then a else if a.kind≠b.kind then cx 0 else if a.elem=[] then cx a.kind else tyS1 a.kind (tyJ a.e0 b.e0):=by
 cases a with|mk k l=>
 cases l with
 |nil=>simp only [tyJ,Ty.kind,Ty.elem,if_true];rfl
 |cons e r=>simp only [tyJ,Ty.kind,Ty.elem,Ty.e0,reduceCtorEq,if_false];rfl
def ty_eta1 {t:Ty} (h:pS t) (hn:tyN t.kind=true):tyS1 t.kind t.e0=t:=by
 rw [tyOK_eq] at h;cases t with|mk k l=>
 simp only [Ty.kind,Ty.elem,Ty.e0] at*;rcases h.1 with ⟨h1,h2⟩|⟨h1,h2⟩
 ·obtain ⟨a,rfl⟩:=List.length_eq_one_iff.1 h2;rfl
 ·rw [hn] at h1;cases h1
def ty_eta0 {t:Ty} (h:pS t) (hn:tyN t.kind=false):cx t.kind=t:=by
 rw [tyOK_eq] at h;cases t with|mk k l=>
 simp only [Ty.kind,Ty.elem,Ty.e0] at*;rcases h.1 with ⟨h1,h2⟩|⟨h1,h2⟩
 ·rw [hn] at h1;cases h1
 ·have:l=[]:=aba.1 h2;subst this;rfl
def xS {k:Int} (h:tyN k=false):pS (cx k):=by rw [tyOK_eq];simp [cx,Ty.kind,Ty.elem,h]
def tyOK_S1 {k:Int} {e:Ty} (h:tyN k=true) (he:pS e):pS (tyS1 k e):=by rw [tyOK_eq];simp [tyS1,Ty.kind,Ty.elem,Ty.e0,h,he]
def tyOK_ne {t:Ty} (h:pS t) (hn:t.elem≠[]):tyN t.kind=true∧t.elem.length=1∧pS t.e0:=by
 have:=(tyOK_eq t).1 h;rcases this.1 with ⟨h1,h2⟩|⟨h1,h2⟩
 ·exact ⟨h1,h2,this.2 hn⟩
 ·exact absurd (aba.1 h2) hn
def tyOK_nest {t:Ty} (h:pS t) (hn:tyN t.kind=true):t.elem≠[]∧t.elem.length=1∧pS t.e0:=by
 have:=(tyOK_eq t).1 h;rcases this.1 with ⟨h1,h2⟩|⟨h1,h2⟩
 ·have hne:t.elem≠[]:=by intro e;rw [e] at h2;cases h2
  exact ⟨hne,h2,this.2 hne⟩
 ·rw [hn] at h1;cases h1
def tyOK_flat {t:Ty} (h:pS t) (hn:tyN t.kind=false):t.elem=[]:=by
 have:=(tyOK_eq t).1 h;rcases this.1 with ⟨h1,h2⟩|⟨h1,h2⟩
 ·rw [hn] at h1;cases h1
 ·exact aba.1 h2
def tyOK_J:∀ a b:Ty,pS a→pS b→pS (tyJ a b):=by
 intro a;induction a using Ty.ind with
 |_ a ih=>
 intro b ha hb;rw [tyJ_eq];split
 ·exact hb
 ·split
  ·exact ha
  ·split
   ·exact xS (by decide)
   ·rename_i h1 h2 h3;have hk:a.kind=b.kind:=by simpa using h3
    split
    ·rename_i h4;have:=(tyOK_eq a).1 ha;rw [h4] at this;exact xS (by rcases this.1 with ⟨_,h⟩|⟨h,_⟩<;>simp_all)
    ·rename_i h4;obtain ⟨n1,n2,n3⟩:=tyOK_ne ha h4;obtain ⟨m1,m2,m3⟩:=tyOK_nest hb (by rw [←hk];exact n1);exact tyOK_S1 n1 (ih h4 _ n3 m3)
def tyV_OK (n:Nat):∀ t:Ty,tyV n t=0→pS t:=by
 intro t;induction t using Ty.ind generalizing n with
 |_ t ih=>
 intro h;rw [tyV_eq] at h;rw [tyOK_eq];split at h
 ·cases h
 ·split at h
  ·cases h
  ·rename_i h1 h2;by_cases hn:tyN t.kind=false
   ·refine ⟨.inr ⟨hn,by grind⟩,fun hne=>absurd (aba.1 (by grind)) hne⟩
   ·rw [if_neg hn] at h;have hn:tyN t.kind=true:=by simpa using hn
    exact ⟨.inl ⟨hn,by grind⟩,fun hne=>ih hne _ h⟩
def tyOK_Join (a b:Ty):pS (yS a b):=by
 unfold yS;split
 ·rename_i h;exact tyOK_J a b (tyV_OK 1 a h.1) (tyV_OK 1 b h.2)
 ·exact xS (by decide)
mutual
theorem tyOK_F:∀ v:aX,pS (tyF v)
 | .mk k b i s l ks=>by
  simp only [tyF];split
  ·exact xS (by decide)
  ·split
   ·exact xS (by decide)
   ·split
    ·exact xS (by decide)
    ·split
     ·exact xS (by decide)
     ·exact tyOK_S1 (by split<;>decide) (tyOK_fold l _ (xS (by decide)))
theorem tyOK_fold:∀ (l:List aX) (a:Ty),pS a→pS (tyF.fold a l)
 |[],_,h=>h
 |v::r,a,h=>tyOK_fold r _ (tyOK_J _ _ h (tyOK_F v))
end
def tyOK_Of (v:aX):pS (tyOf v):=by unfold tyOf;split;exact tyOK_F v;exact xS (by decide)
def tyF_eq (v:aX):tyF v=if v.kind=0 then cx 1 else if v.kind=1 then cx 2 else if v.kind=2 then cx 3 else if v.kind=3 then cx 4 else tyS1 (if v.kind=4 then 5 else 6) (tyF.fold (cx 7) v.list):=by cases v;simp only [tyF,aX.kind,aX.list];rfl
inductive Bk where
 |mk (kind name:aF) (attrs:List (aF×Ex)) (blocks:List Bk)
 deriving Inhabited
def Bk.kind:Bk→aF| .mk k _ _ _=>k
def Bk.name:Bk→aF| .mk _ n _ _=>n
def Bk.attrs:Bk→List (aF×Ex)| .mk _ _ a _=>a
def Bk.blocks:Bk→List Bk| .mk _ _ _ b=>b
def tX {b x:Bk} (h:x∈b.blocks):sizeOf x<sizeOf b:=by
 cases b with|mk k n a l=>have:=List.sizeOf_lt_of_mem h;simp only [Bk.blocks] at this;simp only [Bk.mk.sizeOf_spec];omega
def Bk.ind {p:Bk→Prop} (h:∀ b,(∀ x∈b.blocks,p x)→p b):∀ b,p b:=by
 have key:∀ n:Nat,∀ v:Bk,sizeOf v<n→p v:=by
  intro n;induction n with
  |zero=>intro v hv;omega
  |succ n ih=>intro v hv;exact h v fun x hx=>ih x (by have:=tX hx;omega)
 exact fun v=>key _ v (Nat.lt_succ_self _)
def sp (n:Nat):aF:=List.replicate n 32
inductive RB where
 |ok (b:Bk) (rest:List Tk)
 |err (rest:List Tk) (code:Int)
inductive rR where
 |block|items (kind name:aF) (attrs:List (aF×Ex)) (blocks:List Bk)
inductive RF where
 |ok (l:List Bk)
 |err (rest:List Tk) (code:Int)
inductive Qn where
 |ok (l:List Bk)
 |err (at_:Int) (code:Int)
