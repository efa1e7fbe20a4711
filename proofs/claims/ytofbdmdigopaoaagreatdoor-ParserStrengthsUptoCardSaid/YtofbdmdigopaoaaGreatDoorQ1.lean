/- A step of the proofs of the seat's theorems. -/
set_option linter.unusedSimpArgs false
set_option linter.unusedVariables false
section
namespace Go.Proofs.YtofbdmdigopaoaaGreatDoor
abbrev Str := List UInt8
inductive Val where
 | mk (kind : Int) (bool : Bool) (int : Int) (str : Str) (list : List Val) (keys : List Str)
 deriving Inhabited
inductive Ex where
 | mk (kind : Int) (name : Str) (value : Val) (args : List Ex) (keys : List Str)
 deriving Inhabited
structure Tk where
 kind : Int
 text : Str
 at_ : Int
 deriving Inhabited, DecidableEq
def Val.kind : Val → Int | .mk k _ _ _ _ _ => k
def Val.bool : Val → Bool | .mk _ b _ _ _ _ => b
def Val.int : Val → Int | .mk _ _ i _ _ _ => i
def Val.str : Val → Str | .mk _ _ _ s _ _ => s
def Val.list : Val → List Val | .mk _ _ _ _ l _ => l
def Val.keys : Val → List Str | .mk _ _ _ _ _ ks => ks
def Ex.kind : Ex → Int | .mk k _ _ _ _ => k
def Ex.name : Ex → Str | .mk _ n _ _ _ => n
def Ex.value : Ex → Val | .mk _ _ v _ _ => v
def Ex.args : Ex → List Ex | .mk _ _ _ ar _ => ar
def Ex.keys : Ex → List Str | .mk _ _ _ _ ks => ks
theorem Val.eta (v : Val) : Val.mk v.kind v.bool v.int v.str v.list v.keys = v := by cases v; rfl
theorem Ex.eta (e : Ex) : Ex.mk e.kind e.name e.value e.args e.keys = e := by cases e; rfl
theorem sizeOf_list {v x : Val} (h : x ∈ v.list) : sizeOf x < sizeOf v := by
 cases v with | mk k b i s l ks => have := List.sizeOf_lt_of_mem h; simp only [Val.list] at this; simp only [Val.mk.sizeOf_spec]; omega
theorem sizeOf_args {e x : Ex} (h : x ∈ e.args) : sizeOf x < sizeOf e := by
 cases e with | mk k n v l ks => have := List.sizeOf_lt_of_mem h; simp only [Ex.args] at this; simp only [Ex.mk.sizeOf_spec]; omega
theorem Val.ind {p : Val → Prop} (h : ∀ v, (∀ x ∈ v.list, p x) → p v) : ∀ v, p v := by
 have key : ∀ n : Nat, ∀ v : Val, sizeOf v < n → p v := by
   intro n
   induction n with
   | zero => intro v hv; omega
   | succ n ih => intro v hv; exact h v fun x hx => ih x (by have := sizeOf_list hx; omega)
 exact fun v => key _ v (Nat.lt_succ_self _)
theorem Ex.ind {p : Ex → Prop} (h : ∀ e, (∀ x ∈ e.args, p x) → p e) : ∀ e, p e := by
 have key : ∀ n : Nat, ∀ v : Ex, sizeOf v < n → p v := by
   intro n
   induction n with
   | zero => intro v hv; omega
   | succ n ih => intro v hv; exact h v fun x hx => ih x (by have := sizeOf_args hx; omega)
 exact fun v => key _ v (Nat.lt_succ_self _)
def val0 : Val := .mk 0 false 0 [] [] []
def ex0 : Ex := .mk 0 [] val0 [] []
def tk0 : Tk := ⟨0, [], 0⟩
def isLetter (c : UInt8) : Bool := decide (97 ≤ c.toNat ∧ c.toNat ≤ 122 ∨ 65 ≤ c.toNat ∧ c.toNat ≤ 90 ∨ c.toNat = 95)
def isDigit (c : UInt8) : Bool := decide (48 ≤ c.toNat ∧ c.toNat ≤ 57)
def isAlnum (c : UInt8) : Bool := isLetter c || isDigit c
def sTrue : Str := [116, 114, 117, 101]
def sFalse : Str := [102, 97, 108, 115, 101]
def sNull : Str := [110, 117, 108, 108]
def isWord (s : Str) : Bool := decide (s = [116, 114, 117, 101] ∨ s = [102, 97, 108, 115, 101] ∨ s = [110, 117, 108, 108])
def strength (s : Str) : Nat :=
 if s = [124, 124] then 2 else if s = [38, 38] then 3
 else if s = [61, 61] ∨ s = [33, 61] ∨ s = [60] ∨ s = [60, 61] ∨ s = [62] ∨ s = [62, 61] then 4
 else if s = [43] ∨ s = [45] then 5 else if s = [42] ∨ s = [47] ∨ s = [37] then 6 else 0
def isName (s : Str) : Bool := decide (s.length ≤ 64) && (match s with | [] => false | c :: r => isLetter c && r.all isAlnum)
def isPlain (s : Str) : Bool := isName s && !isWord s
def natOf (s : Str) : Nat := s.foldl (fun n c => 10 * n + (c.toNat - 48)) 0
def isDec (s : Str) : Bool := decide (s ≠ []) && !decide (1 < s.length ∧ (s.getD 0 0).toNat = 48) && s.all isDigit && decide (natOf s ≤ 9007199254740992)
def hexV (c : UInt8) : Int :=
 if isDigit c then (c.toNat : Int) - 48 else if 97 ≤ c.toNat ∧ c.toNat ≤ 102 then (c.toNat : Int) - 87 else if 65 ≤ c.toNat ∧ c.toNat ≤ 70 then (c.toNat : Int) - 55 else -1
inductive LexR where
 | ok (kind : Int) (text : Str) (n : Nat)
 | err (code : Int)
def nameF (s : Str) : LexR :=
 let t := s.takeWhile isAlnum
 if 64 < t.length then .err 3 else .ok 1 t t.length
def numF (s : Str) : LexR :=
 let t := s.takeWhile isDigit
 if (1 < t.length ∧ (t.getD 0 0).toNat = 48) ∨ (t.length < s.length ∧ isLetter (s.getD t.length 0) = true) then .err 5
 else if 9007199254740992 < natOf t then .err 2 else .ok 2 t t.length
inductive EscR where
 | ok (c : UInt8) (n : Nat)
 | err (code : Int)
def escF (r : Str) : EscR :=
 if r.length = 0 then .err 4
 else if (r.getD 0 0).toNat = 34 ∨ (r.getD 0 0).toNat = 92 then .ok (r.getD 0 0) 2 else if (r.getD 0 0).toNat = 110 then .ok 10 2 else if (r.getD 0 0).toNat = 116 then .ok 9 2
 else if (r.getD 0 0).toNat = 120 then
   if r.length ≤ 1 then .err 4 else if hexV (r.getD 1 0) < 0 then .err 5 else if r.length ≤ 2 then .err 4 else if hexV (r.getD 2 0) < 0 then .err 5
   else .ok (UInt8.ofNat (16 * hexV (r.getD 1 0) + hexV (r.getD 2 0)).toNat) 4
 else .err 5
def chF (s : Str) : EscR := if (s.getD 0 0).toNat < 32 then .err 5 else if (s.getD 0 0).toNat ≠ 92 then .ok (s.getD 0 0) 1 else escF (s.drop 1)
def strF : Nat → Str → Str → Nat → LexR
 | 0, _, _, _ => .err 4
 | _ + 1, [], _, _ => .err 4
 | f + 1, c :: r, acc, n =>
   if c.toNat = 34 then (if 4096 < acc.length then .err 3 else .ok 3 acc (n + 1))
   else match chF (c :: r) with
     | .err e => .err e
     | .ok b k => strF f ((c :: r).drop k) (acc ++ [b]) (n + k)
def isOp2 (s : Str) : Bool := decide (s = [124, 124] ∨ s = [38, 38] ∨ s = [61, 61] ∨ s = [33, 61] ∨ s = [60, 61] ∨ s = [62, 61])
def ops1 : Str := [60, 62, 43, 45, 42, 47, 37, 33, 63, 58, 46, 44, 61, 40, 41, 91, 93, 123, 125]
def opF (s : Str) : LexR :=
 if isOp2 (s.take 2) then .ok 4 (s.take 2) 2
 else match s with
   | [] => .err 5
   | c :: _ => if ops1.contains c then .ok 4 [c] 1 else .err 5
def tokF (s : Str) : LexR :=
 match s with
 | [] => .err 5
 | c :: r => if isLetter c then nameF s else if isDigit c then numF s else if c.toNat = 34 then strF (r.length + 1) r [] 1 else opF s
def openF (op : Str) (n : Nat) : Nat := if op = [40] ∨ op = [91] then n + 1 else if op = [41] ∨ op = [93] then n - 1 else n
inductive ToksR where
 | ok (ts : List Tk)
 | err (at_ : Nat) (code : Int)
def notNl (c : UInt8) : Bool := decide (c.toNat ≠ 10)
def toksF : Nat → Nat → Str → Nat → List Tk → ToksR
 | 0, _, _, _, out => .ok out
 | _ + 1, _, [], _, out => .ok out
 | f + 1, at_, c :: r, op, out =>
   if c.toNat = 32 ∨ c.toNat = 9 then toksF f (at_ + 1) r op out
   else if c.toNat = 35 then toksF f (at_ + ((c :: r).takeWhile notNl).length) ((c :: r).drop ((c :: r).takeWhile notNl).length) op out
   else if c.toNat = 10 then toksF f (at_ + 1) r op (if op = 0 ∧ (out = [] ∨ (out.getLast?.map Tk.kind) ≠ some 5) then out ++ [⟨5, [], at_⟩] else out)
   else match tokF (c :: r) with
     | .err e => .err at_ e
     | .ok k t n => toksF f (at_ + n) ((c :: r).drop n) (if k = 4 then openF t op else op) (out ++ [⟨k, t, at_⟩])
def tokens (s : Str) : ToksR := if 65536 < s.length then .err 0 3 else toksF (s.length + 1) 0 s 0 []
def cmpInt (a b : Int) : Int := if a < b then -1 else if b < a then 1 else 0
def cmpNat (a b : Nat) : Int := if a < b then -1 else if b < a then 1 else 0
def ltStr : Str → Str → Bool
 | _, [] => false
 | [], _ :: _ => true
 | a :: r, b :: s => decide (a.toNat < b.toNat) || (decide (a = b) && ltStr r s)
def cmpStr (a b : Str) : Int := if ltStr a b then -1 else if ltStr b a then 1 else 0
def stripZ (s : Str) : Str := s.dropWhile (fun c => decide (c.toNat = 48))
def runsF (a b : Str) : Int :=
 let x := stripZ a; let y := stripZ b
 if x.length ≠ y.length then cmpNat x.length y.length else if x ≠ y then cmpStr x y else cmpNat a.length b.length
def natCmpF : Nat → Str → Str → Int
 | 0, _, _ => 0
 | _ + 1, [], b => if b = [] then 0 else -1
 | _ + 1, _ :: _, [] => 1
 | f + 1, c :: r, d :: s =>
   if isDigit c && isDigit d then
     let x := (c :: r).takeWhile isDigit; let y := (d :: s).takeWhile isDigit
     if runsF x y ≠ 0 then runsF x y else natCmpF f ((c :: r).drop x.length) ((d :: s).drop y.length)
   else if c ≠ d then cmpNat c.toNat d.toNat else natCmpF f r s
def natCmp (a b : Str) : Int := natCmpF (a.length + 1) a b
def okKey (k : Str) : Bool := decide (1 ≤ k.length ∧ k.length ≤ 64)
def keysAsc : List Str → Bool
 | [] => true
 | k :: r => okKey k && (match r with | [] => true | k' :: _ => decide (natCmp k k' < 0)) && keysAsc r
def unusedF (v : Val) : Bool :=
 (decide (v.kind = 1) || !v.bool) && (decide (v.kind = 2) || decide (v.int = 0)) && (decide (v.kind = 3) || decide (v.str = [])) &&
 (decide (v.kind = 4) || decide (v.kind = 5) || decide (v.list = [])) && (decide (v.kind = 5) || decide (v.keys = []))
def vNode (v : Val) (level : Nat) : Int :=
 if 16 < level then 13 else if v.kind < 0 ∨ 5 < v.kind ∨ unusedF v = false then 1
 else if v.int < -9007199254740992 ∨ 9007199254740992 < v.int then 2
 else if 4096 < v.str.length ∨ 1024 < v.list.length ∨ 1024 < v.keys.length then 3
 else if v.kind = 5 ∧ ¬ (v.keys.length = v.list.length ∧ keysAsc v.keys = true) then 1
 else if (v.kind = 4 ∨ v.kind = 5) ∧ v.list = [] ∧ level = 16 then 13 else 0
def vCheck (level : Nat) : Val → Int
 | .mk k b i s l ks => if vNode (.mk k b i s l ks) level ≠ 0 then vNode (.mk k b i s l ks) level else vCheckL (level + 1) l
where vCheckL (level : Nat) : List Val → Int
 | [] => 0
 | v :: r => if vCheck level v ≠ 0 then vCheck level v else vCheckL level r
def vValid (v : Val) : Int := vCheck 1 v
def b2i (b : Bool) : Int := if b then 1 else 0
def cmpKeys : List Str → List Str → Int
 | [], [] => 0
 | [], _ :: _ => -1
 | _ :: _, [] => 1
 | a :: r, b :: s => if natCmp a b ≠ 0 then natCmp a b else cmpKeys r s
def vCmp : Val → Val → Int
 | .mk k b i s l ks, v =>
   if k ≠ v.kind then cmpInt k v.kind
   else if k = 1 then cmpInt (b2i b) (b2i v.bool)
   else if k = 2 then cmpInt i v.int
   else if k = 3 then cmpStr s v.str
   else if k = 4 then vCmpL l v.list
   else if k = 5 then (if cmpKeys ks v.keys ≠ 0 then cmpKeys ks v.keys else vCmpL l v.list)
   else 0
where vCmpL : List Val → List Val → Int
 | [], [] => 0
 | [], _ :: _ => -1
 | _ :: _, [] => 1
 | a :: r, b :: s => if vCmp a b ≠ 0 then vCmp a b else vCmpL r s
def vEq (a b : Val) : Bool := decide (vCmp a b = 0)
def hexD (n : Nat) : UInt8 := if n < 10 then UInt8.ofNat (48 + n) else UInt8.ofNat (87 + n)
def quoteC (c : UInt8) : Str :=
 if c.toNat = 34 then [92, 34] else if c.toNat = 92 then [92, 92] else if c.toNat = 10 then [92, 110] else if c.toNat = 9 then [92, 116]
 else if 32 ≤ c.toNat ∧ c.toNat ≤ 126 then [c] else [92, 120, hexD (c.toNat / 16), hexD (c.toNat % 16)]
def quoteF (s : Str) : Str := [34] ++ s.flatMap quoteC ++ [34]
def decF : Nat → Nat → Str
 | 0, _ => []
 | f + 1, n => if n < 10 then [UInt8.ofNat (48 + n)] else decF f (n / 10) ++ [UInt8.ofNat (48 + n % 10)]
def decN (n : Nat) : Str := decF (n + 1) n
def decI (n : Int) : Str := if n < 0 then 45 :: decN n.natAbs else decN n.natAbs
def joinF (sep : Str) : List Str → Str
 | [] => []
 | a :: r => if r = [] then a else a ++ sep ++ joinF sep r
def litV : Val → Str
 | .mk k b i s l ks =>
   if k = 1 then (if b then sTrue else sFalse) else if k = 2 then decI i else if k = 3 then quoteF s
   else if k = 4 then [91] ++ joinF [44, 32] (litL l) ++ [93]
   else if k = 5 then [123] ++ joinF [44, 32] (litM l ks) ++ [125] else sNull
where
 litL : List Val → List Str
 | [] => []
 | v :: r => litV v :: litL r
 litM : List Val → List Str → List Str
 | [], _ => []
 | v :: r, ks => (quoteF (ks.headD []) ++ [58, 32] ++ litV v) :: litM r ks.tail
def showV (v : Val) : Str := if vValid v ≠ 0 then [] else litV v
def eCount : Ex → Nat
 | .mk _ _ _ ar _ => 1 + eCountL ar
where eCountL : List Ex → Nat
 | [] => 0
 | e :: r => eCount e + eCountL r
def vZero (v : Val) : Bool := decide (v.kind = 0) && !v.bool && decide (v.int = 0) && decide (v.str = []) && decide (v.list = []) && decide (v.keys = [])
def arityF (e : Ex) : Bool :=
 if e.kind = 1 ∨ e.kind = 2 then decide (e.args.length = 0) else if e.kind = 3 ∨ e.kind = 6 then decide (e.args.length = 1)
 else if e.kind = 4 ∨ e.kind = 7 then decide (e.args.length = 2) else if e.kind = 8 then decide (e.args.length = 3) else true
def namedF (e : Ex) : Bool :=
 if e.kind = 2 ∨ e.kind = 3 ∨ e.kind = 5 then isPlain e.name else if e.kind = 6 then decide (e.name = [33] ∨ e.name = [45])
 else if e.kind = 7 then decide (0 < strength e.name) else decide (e.name = [])
def keyedF (e : Ex) : Bool := if e.kind ≠ 10 then decide (e.keys = []) else decide (e.keys.length = e.args.length) && e.keys.all okKey
def repF : List Str → Bool
 | [] => false
 | k :: r => r.contains k || repF r
def eNode (e : Ex) (level : Nat) : Int :=
 if 16 < level then 13
 else if e.kind < 1 ∨ 10 < e.kind ∨ (e.kind ≠ 1 ∧ vZero e.value = false) ∨ namedF e = false ∨ arityF e = false ∨ keyedF e = false then 1
 else if e.kind = 1 ∧ vValid e.value ≠ 0 then vValid e.value
 else if 1024 < e.args.length then 3 else if repF e.keys then 7 else 0
def eCheck (level : Nat) : Ex → Int
 | .mk k n v ar ks => if eNode (.mk k n v ar ks) level ≠ 0 then eNode (.mk k n v ar ks) level else eCheckL (level + 1) ar
where eCheckL (level : Nat) : List Ex → Int
 | [] => 0
 | e :: r => if eCheck level e ≠ 0 then eCheck level e else eCheckL level r
def eValid (e : Ex) : Int := if 4096 < eCount e then 15 else eCheck 1 e
def eEq : Ex → Ex → Bool
 | .mk k n v ar ks, e => decide (k = e.kind) && decide (n = e.name) && decide (ks = e.keys) && vEq v e.value && eEqL ar e.args
where eEqL : List Ex → List Ex → Bool
 | [], [] => true
 | [], _ :: _ => false
 | _ :: _, [] => false
 | a :: r, b :: s => eEq a b && eEqL r s
def force (e : Ex) : Nat :=
 if e.kind = 8 then 1 else if e.kind = 7 then strength e.name
 else if e.kind = 6 ∨ (e.kind = 1 ∧ e.value.kind = 2 ∧ e.value.int < 0) then 7 else 8
def paren (b : Bool) (s : Str) : Str := if b then [40] ++ s ++ [41] else s
def src : Ex → Str
 | .mk k n v ar ks =>
   if k = 1 then showV v else if k = 2 then n
   else if k = 3 then srcAt ar 0 8 ++ [46] ++ n
   else if k = 4 then srcAt ar 0 8 ++ [91] ++ srcAt ar 1 1 ++ [93]
   else if k = 5 then n ++ [40] ++ joinF [44, 32] (srcL ar) ++ [41]
   else if k = 6 then n ++ srcAt ar 0 7
   else if k = 7 then srcAt ar 0 (if strength n = 4 then 5 else strength n) ++ [32] ++ n ++ [32] ++ srcAt ar 1 (strength n + 1)
   else if k = 8 then srcAt ar 0 2 ++ [32, 63, 32] ++ srcAt ar 1 1 ++ [32, 58, 32] ++ srcAt ar 2 1
   else if k = 9 then [91] ++ joinF [44, 32] (srcL ar) ++ [93]
   else [123] ++ joinF [44, 32] (srcM ar ks) ++ [125]
where
 srcAt : List Ex → Nat → Nat → Str
 | [], _, _ => []
 | e :: _, 0, need => paren (decide (force e < need)) (src e)
 | _ :: r, i + 1, need => srcAt r i need
 srcL : List Ex → List Str
 | [] => []
 | e :: r => src e :: srcL r
 srcM : List Ex → List Str → List Str
 | [], _ => []
 | e :: r, ks => (quoteF (ks.headD []) ++ [58, 32] ++ src e) :: srcM r ks.tail
def showE (e : Ex) : Str := if eValid e ≠ 0 then [] else src e
inductive Res (α : Type) where
 | ok (x : α) (rest : List Tk)
 | err (rest : List Tk) (code : Int)
def isOpT (s : Str) (t : Tk) : Bool := decide (t.kind = 4 ∧ t.text = s)
def lit (v : Val) : Ex := .mk 1 [] v [] []
inductive Tag where
 | cond | op (n : Nat) | ops (n : Nat) (e : Ex) | un | chain (e : Ex) | atom
 | args (close : Str) | items (close : Str) (acc : List Ex) | ents | ent (acc : List Ex) (ks : List Str)
def isKeyT (t : Tk) : Bool := (decide (t.kind = 1) && isName t.text) || (decide (t.kind = 3) && decide (t.text.length ≤ 4096))
def expectF (s : Str) (k : List Tk → Option (Res Ex)) : List Tk → Option (Res Ex)
 | [] => some (.err [] 4)
 | t :: r => if isOpT s t then k r else some (.err (t :: r) 5)
def thenF (r : Option (Res Ex)) (k : Ex → List Tk → Option (Res Ex)) : Option (Res Ex) :=
 match r with
 | some (.ok e rest) => k e rest
 | x => x
def pF : Nat → Tag → List Tk → Option (Res Ex)
 | 0, _, _ => none
 | f + 1, .cond, ts => thenF (pF f (.op 2) ts) fun c r1 => match r1 with
   | [] => some (.ok c r1)
   | t :: r2 => if isOpT [63] t then thenF (pF f .cond r2) fun a r3 => expectF [58] (fun r4 => thenF (pF f .cond r4) fun b r5 => some (.ok (.mk 8 [] val0 [c, a, b] []) r5)) r3 else some (.ok c r1)
 | f + 1, .op n, ts => if n = 7 then pF f .un ts else thenF (pF f (.op (n + 1)) ts) fun e r => pF f (.ops n e) r
 | f + 1, .ops n e, ts => match ts with
   | [] => some (.ok e [])
   | t :: r => if t.kind = 4 ∧ strength t.text = n then thenF (pF f (.op (n + 1)) r) fun x r2 =>
       let y := Ex.mk 7 t.text val0 [e, x] []
       if n = 4 then some (.ok y r2) else pF f (.ops n y) r2
     else some (.ok e ts)
 | f + 1, .un, ts => match ts with
   | [] => pF f .atom []
   | t :: r => if isOpT [33] t || isOpT [45] t then thenF (pF f .un r) fun x r2 => some (.ok (.mk 6 t.text val0 [x] []) r2) else thenF (pF f .atom ts) fun e r2 => pF f (.chain e) r2
 | f + 1, .chain e, ts => match ts with
   | [] => some (.ok e [])
   | t :: r => if isOpT [46] t then match r with
       | [] => some (.err [] 4)
       | u :: r2 => if u.kind = 1 ∧ isPlain u.text = true then pF f (.chain (.mk 3 u.text val0 [e] [])) r2 else some (.err (u :: r2) 5)
     else if isOpT [91] t then thenF (pF f .cond r) fun i r2 => expectF [93] (fun r3 => pF f (.chain (.mk 4 [] val0 [e, i] [])) r3) r2
     else some (.ok e ts)
 | f + 1, .atom, ts => match ts with
   | [] => some (.err [] 4)
   | t :: r =>
     if t.kind = 2 then (if isDec t.text then some (.ok (lit (.mk 2 false (natOf t.text) [] [] [])) r) else some (.err ts 5))
     else if t.kind = 3 then (if t.text.length ≤ 4096 then some (.ok (lit (.mk 3 false 0 t.text [] [])) r) else some (.err ts 5))
     else if t.kind = 1 then
       if t.text = sNull then some (.ok (lit val0) r) else if t.text = sTrue ∨ t.text = sFalse then some (.ok (lit (.mk 1 (decide (t.text = sTrue)) 0 [] [] [])) r)
       else if isName t.text = true then match r with
           | [] => some (.ok (.mk 2 t.text val0 [] []) r)
           | u :: r2 => if isOpT [40] u then thenF (pF f (.args [41]) r2) fun l r3 => some (.ok (.mk 5 t.text val0 l.args []) r3) else some (.ok (.mk 2 t.text val0 [] []) r)
         else some (.err ts 5)
     else if isOpT [40] t then thenF (pF f .cond r) fun e r2 => expectF [41] (fun r3 => some (.ok e r3)) r2
     else if isOpT [91] t then thenF (pF f (.args [93]) r) fun l r3 => some (.ok (.mk 9 [] val0 l.args []) r3)
     else if isOpT [123] t then pF f .ents r
     else some (.err ts 5)
 | f + 1, .args close, ts => match ts with
   | [] => pF f (.items close []) []
   | t :: r => if isOpT close t then some (.ok (.mk 0 [] val0 [] []) r) else pF f (.items close []) ts
 | f + 1, .items close acc, ts => thenF (pF f .cond ts) fun x r => match r with
   | [] => some (.err [] 4)
   | t :: r2 => if isOpT close t then some (.ok (.mk 0 [] val0 (acc ++ [x]) []) r2) else if isOpT [44] t then pF f (.items close (acc ++ [x])) r2 else some (.err r 5)
 | f + 1, .ents, ts => match ts with
   | [] => pF f (.ent [] []) []
   | t :: r => if isOpT [125] t then some (.ok (.mk 10 [] val0 [] []) r) else pF f (.ent [] []) ts
 | f + 1, .ent acc ks, ts => match ts with
   | [] => some (.err [] 4)
   | t :: r => if isKeyT t then expectF [58] (fun r2 => thenF (pF f .cond r2) fun x r3 => match r3 with
       | [] => some (.err [] 4)
       | u :: r4 => if isOpT [125] u then some (.ok (.mk 10 [] val0 (acc ++ [x]) (ks ++ [t.text])) r4) else if isOpT [44] u then pF f (.ent (acc ++ [x]) (ks ++ [t.text])) r4 else some (.err r3 5)) r
     else some (.err ts 5)
def pFuel (ts : List Tk) : Nat := 16 * ts.length + 16
def takeF (ts : List Tk) : Res Ex :=
 match pF (pFuel ts) .cond ts with
 | some (.ok e r) => if eValid e ≠ 0 then .err ts (eValid e) else .ok e r
 | some x => x
 | none => .err ts 0
def placeF (total : Nat) (rest : List Tk) : Int := match rest with | t :: _ => t.at_ | [] => total
inductive ParR where
 | ok (e : Ex)
 | err (at_ : Int) (code : Int)
def parseF (s : Str) : ParR :=
 match tokens s with
 | .err a c => .err a c
 | .ok ts => match takeF ts with
   | .err r c => .err (placeF s.length r) c
   | .ok e [] => .ok e
   | .ok _ (t :: _) => .err t.at_ 5
end Go.Proofs.YtofbdmdigopaoaaGreatDoor
end
section
namespace Go.Proofs.YtofbdmdigopaoaaGreatDoor
def resRest : Res Ex → List Tk
 | .ok _ r => r
 | .err r _ => r
theorem thenF_suf {x : Option (Res Ex)} {k : Ex → List Tk → Option (Res Ex)} {r : Res Ex} {ts : List Tk} (h : thenF x k = some r)
   (hx : ∀ r1, x = some r1 → resRest r1 <:+ ts) (hk : ∀ e r1 r, k e r1 = some r → r1 <:+ ts → resRest r <:+ ts) : resRest r <:+ ts := by
 cases x with
 | none => simp [thenF] at h
 | some r1 =>
   have h1 := hx r1 rfl
   cases r1 with
   | ok e rest => exact hk e rest r h h1
   | err rest c => simp only [thenF, Option.some.injEq] at h; subst h; exact h1
theorem expectF_suf {s : Str} {k : List Tk → Option (Res Ex)} {l : List Tk} {r : Res Ex} {ts : List Tk} (h : expectF s k l = some r) (hl : l <:+ ts)
   (hk : ∀ l2 r, k l2 = some r → l2 <:+ ts → resRest r <:+ ts) : resRest r <:+ ts := by
 cases l with
 | nil => simp only [expectF, Option.some.injEq] at h; subst h; exact hl
 | cons t l =>
   simp only [expectF] at h
   split at h
   · exact hk l r h (List.IsSuffix.trans (List.suffix_cons t l) hl)
   · simp only [Option.some.injEq] at h; subst h; exact hl
theorem pF_suf : ∀ (f : Nat) (tag : Tag) (ts : List Tk) (r : Res Ex), pF f tag ts = some r → resRest r <:+ ts := by
 intro f
 induction f with
 | zero => intro tag ts r h; simp [pF] at h
 | succ f ih =>
   have tl : ∀ {t : Tk} {l ts : List Tk}, (t :: l) <:+ ts → l <:+ ts := fun h => List.IsSuffix.trans (List.suffix_cons _ _) h
   have go : ∀ {tag : Tag} {l ts : List Tk} {r : Res Ex}, pF f tag l = some r → l <:+ ts → resRest r <:+ ts := fun h hl => List.IsSuffix.trans (ih _ _ _ h) hl
   intro tag ts r h
   have self := List.suffix_refl ts
   cases tag with
   | cond =>
     simp only [pF] at h
     refine thenF_suf h (fun r1 h1 => ih _ _ _ h1) fun e r1 r h hs => ?_
     cases r1 with
     | nil => simp only [Option.some.injEq] at h; subst h; exact hs
     | cons t r2 =>
       simp only at h
       split at h
       · refine thenF_suf h (fun r1 h1 => go h1 (tl hs)) fun a r3 r h hs3 => ?_
         refine expectF_suf h hs3 fun r4 r h hs4 => ?_
         refine thenF_suf h (fun r1 h1 => go h1 hs4) fun b r5 r h hs5 => ?_
         simp only [Option.some.injEq] at h; subst h; exact hs5
       · simp only [Option.some.injEq] at h; subst h; exact hs
   | op n =>
     simp only [pF] at h
     split at h
     · exact ih _ _ _ h
     · refine thenF_suf h (fun r1 h1 => ih _ _ _ h1) fun e r1 r h hs => go h hs
   | ops n e =>
     simp only [pF] at h
     cases ts with
     | nil => simp only [Option.some.injEq] at h; subst h; exact self
     | cons t l =>
       simp only at h
       split at h
       · refine thenF_suf h (fun r1 h1 => go h1 (tl self)) fun x r2 r h hs => ?_
         split at h
         · simp only [Option.some.injEq] at h; subst h; exact hs
         · exact go h hs
       · simp only [Option.some.injEq] at h; subst h; exact self
   | un =>
     simp only [pF] at h
     cases ts with
     | nil => exact ih _ _ _ h
     | cons t l =>
       simp only at h
       split at h
       · refine thenF_suf h (fun r1 h1 => go h1 (tl self)) fun x r2 r h hs => ?_
         simp only [Option.some.injEq] at h; subst h; exact hs
       · exact thenF_suf h (fun r1 h1 => ih _ _ _ h1) fun x r2 r h hs => go h hs
   | chain e =>
     simp only [pF] at h
     cases ts with
     | nil => simp only [Option.some.injEq] at h; subst h; exact self
     | cons t l =>
       simp only at h
       split at h
       · cases l with
         | nil => simp only [Option.some.injEq] at h; subst h; exact tl self
         | cons u r2 =>
           simp only at h
           split at h
           · exact go h (tl (tl self))
           · simp only [Option.some.injEq] at h; subst h; exact tl self
       · split at h
         · refine thenF_suf h (fun r1 h1 => go h1 (tl self)) fun i r2 r h hs => ?_
           exact expectF_suf h hs fun r3 r h hs3 => go h hs3
         · simp only [Option.some.injEq] at h; subst h; exact self
   | atom =>
     simp only [pF] at h
     cases ts with
     | nil => simp only [Option.some.injEq] at h; subst h; exact self
     | cons t l =>
       have t1 := tl self
       simp only at h
       repeat' split at h
       all_goals first
         | (simp only [Option.some.injEq] at h; subst h; first | exact t1 | exact self)
         | skip
       all_goals first
         | exact go h t1
         | (refine thenF_suf h (fun r1 h1 => go h1 (by first | exact t1 | exact tl t1)) fun x r2 r h hs => ?_
            first
              | (simp only [Option.some.injEq] at h; subst h; exact hs)
              | (refine expectF_suf h hs fun r3 r h hs3 => ?_
                 simp only [Option.some.injEq] at h; subst h; exact hs3))
   | args close =>
     simp only [pF] at h
     cases ts with
     | nil => exact ih _ _ _ h
     | cons t l =>
       simp only at h
       split at h
       · simp only [Option.some.injEq] at h; subst h; exact tl self
       · exact ih _ _ _ h
   | items close acc =>
     simp only [pF] at h
     refine thenF_suf h (fun r1 h1 => ih _ _ _ h1) fun x r1 r h hs => ?_
     cases r1 with
     | nil => simp only [Option.some.injEq] at h; subst h; exact hs
     | cons t r2 =>
       simp only at h
       split at h
       · simp only [Option.some.injEq] at h; subst h; exact tl hs
       · split at h
         · exact go h (tl hs)
         · simp only [Option.some.injEq] at h; subst h; exact hs
   | ents =>
     simp only [pF] at h
     cases ts with
     | nil => exact ih _ _ _ h
     | cons t l =>
       simp only at h
       split at h
       · simp only [Option.some.injEq] at h; subst h; exact tl self
       · exact ih _ _ _ h
   | ent acc ks =>
     simp only [pF] at h
     cases ts with
     | nil => simp only [Option.some.injEq] at h; subst h; exact self
     | cons t l =>
       simp only at h
       split at h
       · refine expectF_suf h (tl self) fun r2 r h hs2 => ?_
         refine thenF_suf h (fun r1 h1 => go h1 hs2) fun x r3 r h hs3 => ?_
         cases r3 with
         | nil => simp only [Option.some.injEq] at h; subst h; exact hs3
         | cons u r4 =>
           simp only at h
           split at h
           · simp only [Option.some.injEq] at h; subst h; exact tl hs3
           · split at h
             · exact go h (tl hs3)
             · simp only [Option.some.injEq] at h; subst h; exact hs3
       · simp only [Option.some.injEq] at h; subst h; exact self
def resErr : Res Ex → Prop
 | .ok _ _ => True
 | .err _ c => c = 4 ∨ c = 5
theorem thenF_err {x : Option (Res Ex)} {k : Ex → List Tk → Option (Res Ex)} {r : Res Ex} (h : thenF x k = some r) (hx : ∀ r1, x = some r1 → resErr r1) (hk : ∀ e r1 r, k e r1 = some r → resErr r) : resErr r := by
 cases x with
 | none => simp [thenF] at h
 | some r1 =>
   have h1 := hx r1 rfl
   cases r1 with
   | ok e rest => exact hk e rest r h
   | err rest c => simp only [thenF, Option.some.injEq] at h; subst h; exact h1
theorem expectF_err {s : Str} {k : List Tk → Option (Res Ex)} {l : List Tk} {r : Res Ex} (h : expectF s k l = some r) (hk : ∀ l2 r, k l2 = some r → resErr r) : resErr r := by
 cases l with
 | nil => simp only [expectF, Option.some.injEq] at h; subst h; exact .inl rfl
 | cons t l =>
   simp only [expectF] at h
   split at h
   · exact hk l r h
   · simp only [Option.some.injEq] at h; subst h; exact .inr rfl
theorem pF_err' : ∀ (f : Nat) (tag : Tag) (ts : List Tk) (r : Res Ex), pF f tag ts = some r → resErr r := by
 intro f
 induction f with
 | zero => intro tag ts r h; simp [pF] at h
 | succ f ih =>
   have fin : ∀ {x r : Res Ex}, some x = some r → resErr x → resErr r := fun h hx => by cases h; exact hx
   have go : ∀ {tag : Tag} {l : List Tk} {r : Res Ex}, pF f tag l = some r → resErr r := fun h => ih _ _ _ h
   intro tag ts r h
   cases tag <;> simp only [pF] at h
   all_goals repeat' (first
     | exact go h
     | exact fin h trivial
     | exact fin h (.inl rfl)
     | exact fin h (.inr rfl)
     | (refine thenF_err h (fun r1 h1 => go h1) fun e r1 r h => ?_)
     | (refine expectF_err h fun l2 r h => ?_)
     | split at h)
theorem pF_err {f : Nat} {tag : Tag} {ts rest : List Tk} {c : Int} (h : pF f tag ts = some (.err rest c)) : c = 4 ∨ c = 5 := pF_err' f tag ts _ h
theorem suf_drop {T l : List Tk} (h : l <:+ T) : l = T.drop (T.length - l.length) := (List.suffix_iff_eq_drop.1 h)
theorem suf_len {T l : List Tk} (h : l <:+ T) : l.length ≤ T.length := h.length_le
end Go.Proofs.YtofbdmdigopaoaaGreatDoor
end
section
namespace Go.Proofs.YtofbdmdigopaoaaGreatDoor
theorem decF_len : ∀ (f n k : Nat), n < 10 ^ k → 1 ≤ k → (decF f n).length ≤ k
 | 0, _, k, _, hk => by simp [decF]
 | f + 1, n, k, h, hk => by
   rw [decF]
   split
   · simpa using hk
   · obtain ⟨k, rfl⟩ : ∃ j, k = j + 1 := ⟨k - 1, by omega⟩
     have h1 : n / 10 < 10 ^ k := by rw [Nat.div_lt_iff_lt_mul (by omega)]; rw [Nat.pow_succ] at h; omega
     have hk1 : 1 ≤ k := by
       rcases Nat.eq_zero_or_pos k with h0 | h0
       · subst h0; simp at h1; omega
       · exact h0
     have := decF_len f (n / 10) k h1 hk1
     simp only [List.length_append, List.length_cons, List.length_nil]; omega
theorem decI_len {n : Int} (h1 : -9223372036854775808 ≤ n) (h2 : n ≤ 9223372036854775807) : (decI n).length ≤ 20 := by
 have : (decN n.natAbs).length ≤ 19 := decF_len _ _ 19 (by omega) (by omega)
 rw [decI]
 split <;> simp <;> omega
theorem decF_fuel : ∀ (f g n : Nat), n < f → n < g → decF f n = decF g n
 | 0, _, _, h, _ => by omega
 | _ + 1, 0, _, _, h => by omega
 | f + 1, g + 1, n, h1, h2 => by
   rw [decF, decF]
   split
   · rfl
   · rw [decF_fuel f g (n / 10) (by omega) (by omega)]
theorem decN_small {n : Nat} (h : n < 10) : decN n = [UInt8.ofNat (48 + n)] := by rw [decN, decF, if_pos h]
theorem decN_step {n : Nat} (h : ¬ n < 10) : decN n = decN (n / 10) ++ [UInt8.ofNat (48 + n % 10)] := by
 rw [decN, decF, if_neg h, decN, decF_fuel n (n / 10 + 1) (n / 10) (by omega) (by omega)]
theorem quoteC_len (c : UInt8) : (quoteC c).length ≤ 4 := by
 unfold quoteC
 repeat' split
 all_goals simp
theorem flat_len (s : Str) : (s.flatMap quoteC).length ≤ 4 * s.length := by
 induction s with
 | nil => simp
 | cons c r ih => have := quoteC_len c; simp only [List.flatMap_cons, List.length_append, List.length_cons]; omega
theorem quoteF_len (s : Str) : (quoteF s).length ≤ 4 * s.length + 2 := by
 have := flat_len s
 simp only [quoteF, List.length_append, List.length_cons, List.length_nil]; omega
theorem joinF_snoc (sep : Str) (l : List Str) (x : Str) : joinF sep (l ++ [x]) = if l = [] then x else joinF sep l ++ (sep ++ x) := by
 induction l with
 | nil => simp [joinF]
 | cons a r ih =>
   rw [List.cons_append, joinF, if_neg (by simp), ih]
   by_cases hr : r = []
   · subst hr; simp [joinF]
   · rw [if_neg hr, if_neg (by simp)]; conv => rhs; rw [joinF]
     simp [hr]
def lens : List Str → Nat
 | [] => 0
 | s :: r => s.length + 2 + lens r
theorem joinF_len {sep : Str} (hs : sep.length ≤ 2) (l : List Str) : (joinF sep l).length ≤ lens l := by
 induction l with
 | nil => simp [joinF]
 | cons a r ih =>
   rw [joinF, lens]
   split
   · omega
   · simp only [List.length_append]; omega
theorem lens_take (l : List Str) (i : Nat) : lens (l.take i) ≤ lens l := by
 induction l generalizing i with
 | nil => simp
 | cons a r ih =>
   cases i with
   | zero => simp [lens]
   | succ i => have := ih i; simp only [List.take_succ_cons, lens]; omega
theorem take_snoc {α : Type} [Inhabited α] {l : List α} {i : Nat} (h : i < l.length) : l.take (i + 1) = l.take i ++ [l.getD i default] := by
 rw [List.take_add_one]; simp [List.getD_eq_getElem?_getD, h]
theorem lens_get {l : List Str} {i : Nat} (h : i < l.length) : (l.getD i default).length + 2 ≤ lens l := by
 induction l generalizing i with
 | nil => simp at h
 | cons a r ih =>
   cases i with
   | zero => simp [lens]
   | succ i => have := ih (i := i) (by simpa using h); simp only [lens]; simp at this ⊢; omega
theorem joinF_step {sep : Str} {l : List Str} {i : Nat} (h : i < l.length) : joinF sep (l.take (i + 1)) = if i = 0 then l.getD i default else joinF sep (l.take i) ++ (sep ++ l.getD i default) := by
 rw [take_snoc h, joinF_snoc]
 by_cases hi : i = 0
 · subst hi; simp
 · rw [if_neg hi, if_neg (by intro h0; have := congrArg List.length h0; rw [List.length_take, List.length_nil] at this; omega)]
theorem litL_map (l : List Val) : litV.litL l = l.map litV := by induction l <;> simp_all [litV.litL]
theorem litM_len (l : List Val) (ks : List Str) : (litV.litM l ks).length = l.length := by
 induction l generalizing ks with
 | nil => rfl
 | cons v r ih => simp [litV.litM, ih]
theorem litM_get (l : List Val) (ks : List Str) (i : Nat) (h : i < l.length) : (litV.litM l ks).getD i default = quoteF (ks.getD i []) ++ [58, 32] ++ litV (l.getD i default) := by
 induction l generalizing ks i with
 | nil => simp at h
 | cons v r ih =>
   cases i with
   | zero => cases ks <;> simp [litV.litM, List.headD]
   | succ i =>
     have := ih ks.tail i (by simpa using h)
     cases ks <;> simpa [litV.litM] using this
theorem litV_eq (v : Val) : litV v = if v.kind = 1 then (if v.bool then sTrue else sFalse) else if v.kind = 2 then decI v.int else if v.kind = 3 then quoteF v.str
   else if v.kind = 4 then [91] ++ joinF [44, 32] (v.list.map litV) ++ [93]
   else if v.kind = 5 then [123] ++ joinF [44, 32] (litV.litM v.list v.keys) ++ [125] else sNull := by
 cases v; rw [litV, litL_map]; rfl
def vBulk : Val → Nat
 | .mk _ _ _ s l ks => 32 + 4 * s.length + kBulk ks + vBulkL l
where
 kBulk : List Str → Nat
 | [] => 0
 | k :: r => 4 * k.length + 8 + kBulk r
 vBulkL : List Val → Nat
 | [] => 0
 | v :: r => vBulk v + vBulkL r
theorem vBulk_eq (v : Val) : vBulk v = 32 + 4 * v.str.length + vBulk.kBulk v.keys + vBulk.vBulkL v.list := by cases v; rw [vBulk]; rfl
theorem vBulkL_mem {l : List Val} {v : Val} (h : v ∈ l) : vBulk v ≤ vBulk.vBulkL l := by
 induction l with
 | nil => simp at h
 | cons a r ih =>
   simp only [vBulk.vBulkL]
   rcases List.mem_cons.1 h with rfl | h
   · omega
   · have := ih h; omega
theorem lens_lit {l : List Val} (h : ∀ v ∈ l, (litV v).length + 8 ≤ vBulk v) : lens (l.map litV) ≤ vBulk.vBulkL l := by
 induction l with
 | nil => simp [lens, vBulk.vBulkL]
 | cons a r ih =>
   have h1 := h a (by simp)
   have h2 := ih fun v hv => h v (by simp [hv])
   simp only [List.map_cons, lens, vBulk.vBulkL]; omega
theorem lens_litM {l : List Val} : ∀ {ks : List Str}, (∀ v ∈ l, (litV v).length + 8 ≤ vBulk v) → lens (litV.litM l ks) ≤ vBulk.vBulkL l + vBulk.kBulk ks := by
 induction l with
 | nil => intro ks h; simp [litV.litM, lens]
 | cons a r ih =>
   intro ks h
   have h1 := h a (by simp)
   have h2 := ih (ks := ks.tail) fun v hv => h v (by simp [hv])
   have h3 := quoteF_len (ks.headD [])
   cases ks with
   | nil => simp only [litV.litM, lens, vBulk.vBulkL, List.length_append, List.length_cons, List.length_nil, List.headD_nil, List.tail_nil, vBulk.kBulk] at *; omega
   | cons k ks => simp only [litV.litM, lens, vBulk.vBulkL, List.length_append, List.length_cons, List.length_nil, List.headD_cons, List.tail_cons, vBulk.kBulk] at *; omega
def vInt : Val → Prop
 | .mk _ _ i _ l _ => (-9223372036854775808 ≤ i ∧ i ≤ 9223372036854775807) ∧ vIntL l
where vIntL : List Val → Prop
 | [] => True
 | v :: r => vInt v ∧ vIntL r
theorem vIntL_iff : ∀ l : List Val, vInt.vIntL l ↔ ∀ v ∈ l, vInt v
 | [] => by simp [vInt.vIntL]
 | v :: r => by simp [vInt.vIntL, vIntL_iff r]
theorem vInt_iff (v : Val) : vInt v ↔ (-9223372036854775808 ≤ v.int ∧ v.int ≤ 9223372036854775807) ∧ ∀ x ∈ v.list, vInt x := by
 cases v; simp only [vInt, vIntL_iff, Val.int, Val.list]
theorem litV_len : ∀ v : Val, vInt v → (litV v).length + 8 ≤ vBulk v := by
 intro v
 induction v using Val.ind with
 | h v ih =>
   intro hv
   obtain ⟨⟨h1, h2⟩, h3⟩ := (vInt_iff v).1 hv
   have hl := lens_lit (l := v.list) fun x hx => ih x hx (h3 x hx)
   have hm := lens_litM (l := v.list) (ks := v.keys) fun x hx => ih x hx (h3 x hx)
   have hj := joinF_len (sep := [44, 32]) (by simp) (v.list.map litV)
   have hk := joinF_len (sep := [44, 32]) (by simp) (litV.litM v.list v.keys)
   have hq := quoteF_len v.str
   have hd := decI_len h1 h2
   rw [litV_eq, vBulk_eq]
   repeat' split
   all_goals (try simp only [List.length_append, List.length_cons, List.length_nil, sTrue, sFalse, sNull])
   all_goals omega
end Go.Proofs.YtofbdmdigopaoaaGreatDoor
end
section
namespace Go.Proofs.YtofbdmdigopaoaaGreatDoor
theorem srcL_map (l : List Ex) : src.srcL l = l.map src := by induction l <;> simp_all [src.srcL]
theorem srcM_len (l : List Ex) (ks : List Str) : (src.srcM l ks).length = l.length := by
 induction l generalizing ks with
 | nil => rfl
 | cons v r ih => simp [src.srcM, ih]
theorem srcM_get (l : List Ex) (ks : List Str) (i : Nat) (h : i < l.length) : (src.srcM l ks).getD i default = quoteF (ks.getD i []) ++ [58, 32] ++ src (l.getD i default) := by
 induction l generalizing ks i with
 | nil => simp at h
 | cons v r ih =>
   cases i with
   | zero => cases ks <;> simp [src.srcM, List.headD]
   | succ i =>
     have := ih ks.tail i (by simpa using h)
     cases ks <;> simpa [src.srcM] using this
theorem srcAt_get (l : List Ex) (i need : Nat) (h : i < l.length) : src.srcAt l i need = paren (decide (force (l.getD i default) < need)) (src (l.getD i default)) := by
 induction l generalizing i with
 | nil => simp at h
 | cons v r ih =>
   cases i with
   | zero => simp [src.srcAt]
   | succ i => have := ih i (by simpa using h); simpa [src.srcAt] using this
theorem srcAt_none (l : List Ex) (i need : Nat) (h : l.length ≤ i) : src.srcAt l i need = [] := by
 induction l generalizing i with
 | nil => simp [src.srcAt]
 | cons v r ih =>
   cases i with
   | zero => simp at h
   | succ i => have := ih i (by simpa using h); simpa [src.srcAt] using this
theorem src_eq (e : Ex) : src e =
   if e.kind = 1 then showV e.value else if e.kind = 2 then e.name
   else if e.kind = 3 then src.srcAt e.args 0 8 ++ [46] ++ e.name
   else if e.kind = 4 then src.srcAt e.args 0 8 ++ [91] ++ src.srcAt e.args 1 1 ++ [93]
   else if e.kind = 5 then e.name ++ [40] ++ joinF [44, 32] (e.args.map src) ++ [41]
   else if e.kind = 6 then e.name ++ src.srcAt e.args 0 7
   else if e.kind = 7 then src.srcAt e.args 0 (if strength e.name = 4 then 5 else strength e.name) ++ [32] ++ e.name ++ [32] ++ src.srcAt e.args 1 (strength e.name + 1)
   else if e.kind = 8 then src.srcAt e.args 0 2 ++ [32, 63, 32] ++ src.srcAt e.args 1 1 ++ [32, 58, 32] ++ src.srcAt e.args 2 1
   else if e.kind = 9 then [91] ++ joinF [44, 32] (e.args.map src) ++ [93]
   else [123] ++ joinF [44, 32] (src.srcM e.args e.keys) ++ [125] := by
 cases e; rw [src]; simp only [srcL_map]; rfl
def eBulk : Ex → Nat
 | .mk _ n v ar ks => 64 + n.length + vBulk v + vBulk.kBulk ks + eBulkL ar
where eBulkL : List Ex → Nat
 | [] => 0
 | e :: r => eBulk e + eBulkL r
theorem eBulk_eq (e : Ex) : eBulk e = 64 + e.name.length + vBulk e.value + vBulk.kBulk e.keys + eBulk.eBulkL e.args := by cases e; rw [eBulk]; rfl
theorem eBulkL_mem {l : List Ex} {v : Ex} (h : v ∈ l) : eBulk v ≤ eBulk.eBulkL l := by
 induction l with
 | nil => simp at h
 | cons a r ih =>
   simp only [eBulk.eBulkL]
   rcases List.mem_cons.1 h with rfl | h
   · omega
   · have := ih h; omega
def eInt : Ex → Prop
 | .mk _ _ v ar _ => vInt v ∧ eIntL ar
where eIntL : List Ex → Prop
 | [] => True
 | v :: r => eInt v ∧ eIntL r
theorem eIntL_iff : ∀ l : List Ex, eInt.eIntL l ↔ ∀ v ∈ l, eInt v
 | [] => by simp [eInt.eIntL]
 | v :: r => by simp [eInt.eIntL, eIntL_iff r]
theorem eInt_iff (e : Ex) : eInt e ↔ vInt e.value ∧ ∀ x ∈ e.args, eInt x := by
 cases e; simp only [eInt, eIntL_iff, Ex.value, Ex.args]
theorem showV_len {v : Val} (h : vInt v) : (showV v).length + 8 ≤ vBulk v := by
 have := litV_len v h
 have h2 := vBulk_eq v
 rw [showV]; split
 · simp only [List.length_nil]; omega
 · exact this
theorem lens_src {l : List Ex} (h : ∀ v ∈ l, (src v).length + 16 ≤ eBulk v) : lens (l.map src) ≤ eBulk.eBulkL l := by
 induction l with
 | nil => simp [lens, eBulk.eBulkL]
 | cons a r ih =>
   have h1 := h a (by simp)
   have h2 := ih fun v hv => h v (by simp [hv])
   simp only [List.map_cons, lens, eBulk.eBulkL]; omega
theorem lens_srcM {l : List Ex} : ∀ {ks : List Str}, (∀ v ∈ l, (src v).length + 16 ≤ eBulk v) → lens (src.srcM l ks) ≤ eBulk.eBulkL l + vBulk.kBulk ks := by
 induction l with
 | nil => intro ks h; simp [src.srcM, lens]
 | cons a r ih =>
   intro ks h
   have h1 := h a (by simp)
   have h2 := ih (ks := ks.tail) fun v hv => h v (by simp [hv])
   have h3 := quoteF_len (ks.headD [])
   cases ks with
   | nil => simp only [src.srcM, lens, eBulk.eBulkL, List.length_append, List.length_cons, List.length_nil, List.headD_nil, List.tail_nil, vBulk.kBulk] at *; omega
   | cons k ks => simp only [src.srcM, lens, eBulk.eBulkL, List.length_append, List.length_cons, List.length_nil, List.headD_cons, List.tail_cons, vBulk.kBulk] at *; omega
theorem paren_len (b : Bool) (s : Str) : (paren b s).length ≤ s.length + 2 := by unfold paren; split <;> simp
def atB (l : List Ex) (i : Nat) : Nat := if i < l.length then eBulk (l.getD i default) else 0
theorem atB_sum (l : List Ex) : atB l 0 + atB l 1 + atB l 2 ≤ eBulk.eBulkL l := by
 match l with
 | [] => simp [atB]
 | [a] => simp [atB, eBulk.eBulkL]
 | [a, b] => simp [atB, eBulk.eBulkL]
 | a :: b :: c :: r => simp [atB, eBulk.eBulkL]; omega
theorem srcAt_len {l : List Ex} (h : ∀ v ∈ l, (src v).length + 16 ≤ eBulk v) (i need : Nat) : (src.srcAt l i need).length ≤ atB l i - 14 := by
 by_cases hi : i < l.length
 · rw [srcAt_get l i need hi, atB, if_pos hi]
   have h1 := paren_len (decide (force (l.getD i default) < need)) (src (l.getD i default))
   have h2 := h (l.getD i default) (by simp [List.getD_eq_getElem?_getD, hi])
   omega
 · rw [srcAt_none l i need (by omega)]; simp
theorem src_len : ∀ e : Ex, eInt e → (src e).length + 16 ≤ eBulk e := by
 intro e
 induction e using Ex.ind with
 | h e ih =>
   intro hv
   obtain ⟨h1, h3⟩ := (eInt_iff e).1 hv
   have ih := fun x hx => ih x hx (h3 x hx)
   have hl := lens_src ih
   have hm := lens_srcM (ks := e.keys) ih
   have hj := joinF_len (sep := [44, 32]) (by simp) (e.args.map src)
   have hk := joinF_len (sep := [44, 32]) (by simp) (src.srcM e.args e.keys)
   have hs := showV_len h1
   have hat := srcAt_len ih
   have hsum := atB_sum e.args
   have hvb := vBulk_eq e.value
   rw [src_eq, eBulk_eq]
   have a0 := hat 0
   have a1 := hat 1
   have a2 := hat 2
   have a08 := a0 8
   have a07 := a0 7
   have a02 := a0 2
   have a05 := a0 5
   have a0s := a0 (strength e.name)
   have a11 := a1 1
   have a1n := a1 (strength e.name + 1)
   have a21 := a2 1
   repeat' split
   all_goals (try simp only [List.length_append, List.length_cons, List.length_nil])
   all_goals first | omega | (simp only [*] at *; omega)
def simpleF : Ex → Bool
 | .mk k _ v ar _ => !(decide (k = 1) && (decide (3 < v.kind) || decide (v.int < 0))) && simpleL ar
where simpleL : List Ex → Bool
 | [] => true
 | e :: r => simpleF e && simpleL r
theorem simpleF_eq (e : Ex) : simpleF e = (!(decide (e.kind = 1) && (decide (3 < e.value.kind) || decide (e.value.int < 0))) && simpleF.simpleL e.args) := by cases e; rw [simpleF]; rfl
theorem simpleL_all (l : List Ex) : simpleF.simpleL l = l.all simpleF := by induction l <;> simp_all [simpleF.simpleL]
end Go.Proofs.YtofbdmdigopaoaaGreatDoor
end
