/- A step of the proofs of the seat's theorems. -/
import Derived.WalkKit
import Derived.WalkLawsBesides
import Derived.Orders
import Derived.Below
set_option linter.unusedSimpArgs false
set_option linter.unusedVariables false
section
namespace Go.Abs
open Go.RowKit
inductive D where
 | bool (b : Bool)
 | int (k : IntKind) (n : Int)
 | str (s : List UInt8)
 | nilp
 | nilf
 | nili
 | nilm
 | nz
 | iface (t : TypeId) (v : D)
 | agg (cs : List D)
 | sl (es : List (List D))
 deriving Inhabited
inductive V where
 | junk
 | d (x : D)
 | nils
 | own (id : Nat) (es : List (List D))
 | ptr (b off : Nat)
 | ep (cs : List D) (off : Nat)
 | clo (f : FuncId) (cap : List V)
 | agg (cs : List V)
 | tup (vs : List V)
 deriving Inhabited
abbrev GH := Nat → Nat → Option Value
inductive RelD (H : GH) : Value → D → Prop where
 | bool (b : Bool) : RelD H (.bool b) (.bool b)
 | int (k : IntKind) (n : Int) : RelD H (.int k n) (.int k n)
 | str (s : ByteArray) (l : List UInt8) : s.data.toList = l → RelD H (.string s) (.str l)
 | nilp : RelD H (.pointer none) .nilp
 | nilf : RelD H .nilFunc .nilf
 | nili : RelD H .nilIface .nili
 | nilm : RelD H (.map none) .nilm
 | nz (t : TypeId) (v : Value) : RelD H (.iface t v) .nz
 | iface (t : TypeId) (v : Value) (x : D) : RelD H v x → RelD H (.iface t v) (.iface t x)
 | agg (arr : Array Value) (cs : List D) : arr.size = cs.length → (∀ i, i < cs.length → RelD H (arr.getD i undef) (cs.getD i .nilp)) → RelD H (.agg arr) (.agg cs)
 | slnil : RelD H (.slice none 0 0) (.sl [])
 | sl0 (a : Addr) : RelD H (.slice (some a) 0 0) (.sl [])
 | sl (k off n cap sz : Nat) (vs : Nat → Nat → Value) (es : List (List D)) : es.length = n → n ≤ cap → (∀ r ∈ es, r.length = sz) →
     (∀ i j, i < n → j < sz → H k (off + i * sz + j) = some (vs i j)) →
     (∀ i j, i < n → j < sz → RelD H (vs i j) ((es.getD i []).getD j .nilp)) →
     RelD H (.slice (some ⟨k, off, none⟩) n cap) (.sl es)
structure Tok where
 val : Value
 e : TypeId
 sz : Nat
 len : Nat
structure Ctx where
 H : GH
 mu : List Nat
 tok : List Tok
 base : Nat
 w0 : World
inductive Rel (c : Ctx) : Value → V → Prop where
 | junk (v : Value) : Rel c v .junk
 | d (v : Value) (x : D) : RelD c.H v x → Rel c v (.d x)
 | nils : Rel c (.slice none 0 0) .nils
 | own (v : Value) (id : Nat) (es : List (List D)) (t : Tok) : RelD c.H v (.sl es) → c.tok[id]? = some t → (∀ r ∈ es, r.length = t.sz) → es.length ≤ t.len →
     (es.length = t.len → v = t.val) → Rel c v (.own id es)
 | ptr (b k off : Nat) : c.mu[b]? = some k → Rel c (.pointer (some ⟨k, off, none⟩)) (.ptr b off)
 | ep (k base off : Nat) (vs : Nat → Value) (cs : List D) : (∀ j, j < cs.length → c.H k (base + j) = some (vs j)) →
     (∀ j, j < cs.length → RelD c.H (vs j) (cs.getD j .nilp)) → Rel c (.pointer (some ⟨k, base + off, none⟩)) (.ep cs off)
 | clo (f : FuncId) (arr : Array Value) (cap : List V) : arr.size = cap.length → (∀ i, i < cap.length → Rel c (arr.getD i undef) (cap.getD i .junk)) → Rel c (.func (.func f) #[] arr) (.clo f cap)
 | agg (arr : Array Value) (cs : List V) : arr.size = cs.length → (∀ i, i < cs.length → Rel c (arr.getD i undef) (cs.getD i .junk)) → Rel c (.agg arr) (.agg cs)
 | tup (arr : Array Value) (vs : List V) : arr.size = vs.length → (∀ i, i < vs.length → Rel c (arr.getD i undef) (vs.getD i .junk)) → Rel c (.tuple arr) (.tup vs)
inductive Blk where
 | cells (cs : List V)
 | iter (s : List UInt8) (pos : Nat)
 | tc (e : TypeId) (cs : List V)
 deriving Inhabited
structure St where
 blks : List Blk
 toks : List (Nat × Nat × Nat)
 deriving Inhabited
inductive BlkRel (c : Ctx) : Obj → Blk → Prop where
 | cells (arr : Array Value) (elem : TypeId) (cs : List V) : arr.size = cs.length → (∀ i, i < cs.length → Rel c (arr.getD i undef) (cs.getD i .junk)) → BlkRel c (.cells arr elem (0, 0)) (.cells cs)
 | iter (s : ByteArray) (l : List UInt8) (pos : Nat) : s.data.toList = l → BlkRel c (.stringIter s pos) (.iter l pos)
 | tc (arr : Array Value) (elem : TypeId) (cs : List V) : arr.size = cs.length → (∀ i, i < cs.length → Rel c (arr.getD i undef) (cs.getD i .junk)) → BlkRel c (.cells arr elem (0, 0)) (.tc elem cs)
structure Conf (c : Ctx) (w : World) (st : St) : Prop where
 mulen : c.mu.length = st.blks.length
 muinj : ∀ (i j k : Nat), c.mu[i]? = some k → c.mu[j]? = some k → i = j
 mubase : ∀ (i k : Nat), c.mu[i]? = some k → c.base ≤ k
 muH : ∀ (i k o : Nat), c.mu[i]? = some k → c.H k o = none
 blk : ∀ (b k : Nat) (B : Blk), c.mu[b]? = some k → st.blks[b]? = some B → ∃ o, w.heap[k]? = some o ∧ BlkRel c o B
 toklen : c.tok.map (fun t => (t.e, t.sz, t.len)) = st.toks
 tokown : ∀ (id : Nat) (t : Tok), c.tok[id]? = some t → 0 < t.sz ∧ ((maxLen < t.len ∧ t.val.ownBlock = none) ∨ ∃ xs, w.ownsRow c.base t.e t.sz t.val t.len xs ∧
     (∀ g, t.val.ownBlock = some g → (∀ o, o < t.len * t.sz → c.H g o = xs[o]?) ∧ (∀ o, t.len * t.sz ≤ o → c.H g o = none) ∧ g ∉ c.mu))
 tokinj : ∀ (i j : Nat) (s t : Tok) (g : Nat), c.tok[i]? = some s → c.tok[j]? = some t → s.val.ownBlock = some g → t.val.ownBlock = some g → i = j
 sealed : ∀ k o v, c.H k o = some v → w.cell? ⟨k, o, none⟩ = some v
 below : Below c.base c.w0 w
 basele : c.base ≤ w.heap.size
structure Ext (c c' : Ctx) : Prop where
 H : ∀ k o v, c.H k o = some v → c'.H k o = some v
 mu : ∀ (i k : Nat), c.mu[i]? = some k → c'.mu[i]? = some k
 tok : ∀ (id : Nat) (t : Tok), c.tok[id]? = some t → ∃ t', c'.tok[id]? = some t' ∧ t'.sz = t.sz ∧ t.len ≤ t'.len ∧ (t.len = t'.len → t' = t)
 base : c'.base = c.base
 w0 : c'.w0 = c.w0
theorem Ext.refl (c : Ctx) : Ext c c := ⟨fun _ _ _ h => h, fun _ _ h => h, fun _ t h => ⟨t, h, rfl, Nat.le_refl _, fun _ => rfl⟩, rfl, rfl⟩
theorem Ext.trans {a b c : Ctx} (h : Ext a b) (k : Ext b c) : Ext a c := by
 refine ⟨fun x o v hv => k.H _ _ _ (h.H _ _ _ hv), fun i x hx => k.mu _ _ (h.mu _ _ hx), fun id t ht => ?_, k.base.trans h.base, k.w0.trans h.w0⟩
 obtain ⟨t1, h1, s1, l1, e1⟩ := h.tok id t ht
 obtain ⟨t2, h2, s2, l2, e2⟩ := k.tok id t1 h1
 refine ⟨t2, h2, s2.trans s1, Nat.le_trans l1 l2, fun e => ?_⟩
 have : t.len = t1.len := by omega
 have h1' := e1 this
 subst h1'
 exact e2 (by omega)
theorem RelD.mono {H H' : GH} (h : ∀ k o v, H k o = some v → H' k o = some v) {v : Value} {x : D} (r : RelD H v x) : RelD H' v x := by
 induction r with
 | bool b => exact .bool b
 | int k n => exact .int k n
 | str s l e => exact .str s l e
 | nilp => exact .nilp
 | nilf => exact .nilf
 | nili => exact .nili
 | nilm => exact .nilm
 | nz t v => exact .nz t v
 | iface t v x _ ih => exact .iface t v x ih
 | agg arr cs hs _ ih => exact .agg arr cs hs ih
 | slnil => exact .slnil
 | sl0 a => exact .sl0 a
 | sl k off n cap sz vs es h1 h2 h3 h4 _ ih => exact .sl k off n cap sz vs es h1 h2 h3 (fun i j hi hj => h _ _ _ (h4 i j hi hj)) ih
theorem Rel.mono {c c' : Ctx} (h : Ext c c') {v : Value} {x : V} (r : Rel c v x) : Rel c' v x := by
 induction r with
 | junk v => exact .junk v
 | d v x r => exact .d v x (r.mono h.H)
 | nils => exact .nils
 | own v id es t r ht hsz hle heq =>
   obtain ⟨t', ht', hs, hl, he⟩ := h.tok id t ht
   refine .own v id es t' (r.mono h.H) ht' (fun r hr => (hsz r hr).trans hs.symm) (Nat.le_trans hle hl) fun e => ?_
   have : t.len = t'.len := by omega
   rw [he this]
   exact heq (by omega)
 | ptr b k off hb => exact .ptr b k off (h.mu _ _ hb)
 | ep k base off vs cs h1 h2 => exact .ep k base off vs cs (fun j hj => h.H _ _ _ (h1 j hj)) (fun j hj => (h2 j hj).mono h.H)
 | clo f arr cap hs _ ih => exact .clo f arr cap hs ih
 | agg arr cs hs _ ih => exact .agg arr cs hs ih
 | tup arr cs hs _ ih => exact .tup arr cs hs ih
theorem BlkRel.mono {c c' : Ctx} (h : Ext c c') {o : Obj} {B : Blk} (r : BlkRel c o B) : BlkRel c' o B := by
 cases r with
 | cells arr elem cs hs hr => exact .cells arr elem cs hs fun i hi => (hr i hi).mono h
 | iter s l pos e => exact .iter s l pos e
 | tc arr elem cs hs hr => exact .tc arr elem cs hs fun i hi => (hr i hi).mono h
abbrev Fr := Nat → V
def FrRel (c : Ctx) (tmps : Array Value) (fr : Fr) : Prop := ∀ t, Rel c (tmps.getD t undef) (fr t)
theorem FrRel.mono {c c' : Ctx} (h : Ext c c') {tmps : Array Value} {fr : Fr} (r : FrRel c tmps fr) : FrRel c' tmps fr := fun t => (r t).mono h
def upd (fr : Fr) (i : Nat) (v : V) : Fr := fun j => if j = i then v else fr j
@[simp] theorem upd_same (fr : Fr) (i : Nat) (v : V) : upd fr i v i = v := by simp [upd]
theorem upd_other (fr : Fr) (i j : Nat) (v : V) (h : j ≠ i) : upd fr i v j = fr j := by simp [upd, h]
theorem FrRel.put {c : Ctx} {tmps : Array Value} {fr : Fr} (r : FrRel c tmps fr) {i : Nat} (hi : i < tmps.size) {v : Value} {x : V} (h : Rel c v x) :
   FrRel c (tmps.setIfInBounds i v) (upd fr i x) := by
 intro t
 by_cases ht : t = i
 · subst ht
   simp [Array.getD, hi, h]
 · rw [upd_other _ _ _ _ ht]
   have := r t
   simpa [Array.getD_eq_getD_getElem?, Array.getElem?_setIfInBounds_ne (Ne.symm ht)] using this
end Go.Abs
end
section
namespace Go.Abs
open Go.RowKit
def szOf (P : Program) (t : TypeId) : Option Nat := (P.info? t).map (·.size)
def isAggB (P : Program) (t : TypeId) : Option Bool := (P.underlying t).map fun | .struct _ | .array _ _ => true | _ => false
def zeroOf (P : Program) (t : TypeId) : Option Value := (P.info? t).bind (·.zero)
def zeroSz (P : Program) (t : TypeId) : Option Nat := (zeroOf P t).map (·.cells.size)
def fld (P : Program) (t : TypeId) (f : Nat) : Option (Nat × Nat × Bool) :=
 match P.underlying t with
 | some (.struct fs) => match fs[f]? with
   | some g => match szOf P g.type, isAggB P g.type with
     | some s, some b => some (g.offset, s, b)
     | _, _ => none
   | none => none
 | _ => none
def slE (P : Program) (t : TypeId) : Option (TypeId × Nat × Nat) :=
 match P.underlying t with
 | some (.slice e) => (P.info? e).map fun i => (e, i.size, i.bytes)
 | _ => none
def arE (P : Program) (t : TypeId) : Option (Nat × Nat × Bool) :=
 match P.underlying t with
 | some (.array n e) => match szOf P e, isAggB P e with
   | some s, some b => some (n, s, b)
   | _, _ => none
 | _ => none
def isStr (P : Program) (t : TypeId) : Bool := match P.underlying t with | some .string => true | _ => false
def isBool (P : Program) (t : TypeId) : Bool := match P.underlying t with | some .bool => true | _ => false
def intK (P : Program) (t : TypeId) : Option IntKind := match P.underlying t with | some (.int k) => some k | _ => none
def isIface (P : Program) (t : TypeId) : Option Bool := (P.underlying t).map fun | .interface _ => true | _ => false
def isBytes (P : Program) (t : TypeId) : Bool := match P.underlying t with
 | some (.slice e) => (match P.underlying e with | some (.int .u8) => true | _ => false)
 | _ => false
def ofCell : Value → Option V
 | .bool b => some (.d (.bool b))
 | .int k n => some (.d (.int k n))
 | .string s => some (.d (.str s.data.toList))
 | .pointer none => some (.d .nilp)
 | .slice none 0 0 => some .nils
 | .nilFunc => some (.d .nilf)
 | .nilIface => some (.d .nili)
 | .map none => some (.d .nilm)
 | _ => none
def ofCells : List Value → Option (List V)
 | [] => some []
 | v :: r => match ofCell v, ofCells r with
   | some x, some l => some (x :: l)
   | _, _ => none
def ofConst : Value → V
 | .agg cs => match ofCells cs.toList with
   | some l => .agg l
   | none => .junk
 | v => (ofCell v).getD .junk
def ev (fr : Fr) : Operand → V
 | .tmp t => fr t
 | .const v => ofConst v
 | .func f => .clo f []
 | .global _ => .junk
def zeroCs (P : Program) (t : TypeId) : Option (List V) := (zeroOf P t).bind fun z => ofCells z.cells.toList
def V.toD : V → Option D
 | .d x => some x
 | .nils => some (.sl [])
 | .own _ es => some (.sl es)
 | _ => none
def allD : List V → Option (List D)
 | [] => some []
 | v :: r => match v.toD, allD r with
   | some x, some l => some (x :: l)
   | _, _ => none
def V.cells : V → Option (List V)
 | .agg cs => some cs
 | .d (.agg cs) => some (cs.map .d)
 | .junk => none
 | .tup _ => none
 | v => some [v]
def V.cellsD (v : V) : Option (List D) := v.cells.bind allD
def D.one : D → Bool
 | .agg _ => false
 | _ => true
def V.one : V → Bool
 | .junk | .agg _ | .tup _ => false
 | .d x => x.one
 | _ => true
def V.held : V → Option D
 | .agg cs => (allD cs).map .agg
 | v => v.toD
def splice {α : Type} (l : List α) (off : Nat) (x : List α) : List α := l.take off ++ x ++ l.drop (off + x.length)
def maxI : Int := 9223372036854775807
def binD (op : BinOp) : D → D → Option D
 | .int k a, .int k' b =>
   if k = k' then match op with
     | .add => some (.int k (k.wrap (a + b)))
     | .sub => some (.int k (k.wrap (a - b)))
     | .mul => some (.int k (k.wrap (a * b)))
     | .quo => if b = 0 then none else some (.int k (k.wrap (a.tdiv b)))
     | .rem => if b = 0 then none else some (.int k (a.tmod b))
     | .eql => some (.bool (a == b))
     | .neq => some (.bool (a != b))
     | .lss => some (.bool (decide (a < b)))
     | .leq => some (.bool (decide (a ≤ b)))
     | .gtr => some (.bool (decide (a > b)))
     | .geq => some (.bool (decide (a ≥ b)))
     | _ => none
   else none
 | .str a, .str b => match op with
   | .add => if ((a.length + b.length : Nat) : Int) ≤ maxI then some (.str (a ++ b)) else none
   | .eql => some (.bool (a == b))
   | .neq => some (.bool (!(a == b)))
   | .lss => some (.bool (Op.bytesLess a b))
   | .leq => some (.bool (Op.bytesLess a b || a == b))
   | .gtr => some (.bool (!(Op.bytesLess a b || a == b)))
   | .geq => some (.bool (!(Op.bytesLess a b)))
   | _ => none
 | _, _ => none
def evalBin (P : Program) (op : BinOp) (t : TypeId) (x y : V) : Option V :=
 match x, y with
 | .d (.bool a), .d (.bool b) =>
   if isBool P t then match op with
     | .eql => some (.d (.bool (a == b)))
     | .neq => some (.d (.bool (!(a == b))))
     | _ => none
   else none
 | .d a, .d b => (binD op a b).map .d
 | _, _ => none
def isCst : Operand → Bool
 | .const _ => true
 | _ => false
def nilX (op : BinOp) (i : Option Bool) (k b : Bool) : Option V :=
 if i = some true then (if k then match op with
   | .eql => some (.d (.bool b))
   | .neq => some (.d (.bool (!b)))
   | _ => none
   else none) else none
def evalNil (P : Program) (op : BinOp) (t : TypeId) (k : Bool) (x y : V) : Option V :=
 match x, y with
 | .d .nz, .d .nili => nilX op (isIface P t) true false
 | .d .nili, .d .nili => nilX op (isIface P t) k true
 | _, _ => none
def binX (a b : Option V) (st : St) : Option (V × St) :=
 match a with
 | some z => some (z, st)
 | none => b.map (·, st)
def evalUn (op : UnOp) (x : V) : Option V :=
 match op, x with
 | .not, .d (.bool b) => some (.d (.bool (!b)))
 | .neg, .d (.int k n) => some (.d (.int k (k.wrap (0 - n))))
 | _, _ => none
def byteOf : List D → Option UInt8
 | [.int .u8 n] => some (UInt8.ofNat n.toNat)
 | _ => none
def bytesOf : List (List D) → Option (List UInt8)
 | [] => some []
 | r :: rs => match byteOf r, bytesOf rs with
   | some b, some l => some (b :: l)
   | _, _ => none
def evalConv (P : Program) (src dst : TypeId) (x : V) : Option V :=
 match x with
 | .d (.int _ n) => match intK P src, intK P dst with
   | some _, some k => some (.d (.int k (k.wrap n)))
   | _, _ => none
 | .d (.str s) => if isStr P src && isStr P dst then some (.d (.str s)) else none
 | x => match x.toD with
   | some (.sl es) => if isBytes P src && isStr P dst then (bytesOf es).map fun l => .d (.str l) else none
   | _ => none
def Blk.row : Blk → Option (List V)
 | .cells cs => some cs
 | .tc _ cs => some cs
 | .iter _ _ => none
def Blk.putRow : Blk → List V → Blk
 | .cells _, cs => .cells cs
 | .tc e _, cs => .tc e cs
 | .iter s p, _ => .iter s p
def loadCs (b : Bool) (cs : List V) (off sz : Nat) : Option V :=
 if b then if off + sz ≤ cs.length then some (.agg ((cs.drop off).take sz)) else none
 else cs[off]?
def loadDs (b : Bool) (cs : List D) (off sz : Nat) : Option V :=
 if b then if off + sz ≤ cs.length then some (.agg (((cs.drop off).take sz).map .d)) else none
 else (cs[off]?).map .d
def evalLoad (P : Program) (t : TypeId) (a : V) (st : St) : Option V :=
 match isAggB P t, szOf P t with
 | some b, some sz => match a with
   | .ptr k off => match (st.blks[k]?).bind Blk.row with
     | some cs => loadCs b cs off sz
     | none => none
   | .ep cs off => loadDs b cs off sz
   | _ => none
 | _, _ => none
def setBlk (st : St) (k : Nat) (B : Blk) : St := { st with blks := st.blks.set k B }
def putBlk (B : Blk) (k off sz : Nat) (l : List V) (st : St) : Option St :=
 match B.row with
 | some cs => if off + sz ≤ cs.length then some (setBlk st k (B.putRow (splice cs off l))) else none
 | none => none
def evalStore (P : Program) (t : TypeId) (a x : V) (st : St) : Option St :=
 match a, szOf P t, x.cells with
 | .ptr k off, some sz, some l =>
   if l.length = sz ∧ l.all (·.one) = true then match st.blks[k]? with
     | some B => putBlk B k off sz l st
     | none => none
   else none
 | _, _, _ => none
def tcT (P : Program) (e : TypeId) : Bool := match zeroCs P e with
 | some [.d .nilp, .nils] => true
 | _ => false
def newBlk (P : Program) (e : TypeId) (cs : List V) : Blk := if tcT P e = true then .tc e cs else .cells cs
def pushB (st : St) (B : Blk) : V × St := (.ptr st.blks.length 0, { st with blks := st.blks ++ [B] })
def fillV (P : Program) (t : TypeId) (fr : Fr) : List V → List (Nat × Operand) → Option (List V)
 | cs, [] => some cs
 | cs, (i, x) :: r => match fld P t i, (ev fr x).cells with
   | some (off, sz, _), some l => if l.length = sz ∧ off + l.length ≤ cs.length then fillV P t fr (splice cs off l) r else none
   | _, _ => none
def isStruct (P : Program) (t : TypeId) : Bool := match P.underlying t with | some (.struct fs) => fs.toList.all fun f => (szOf P f.type).isSome | _ => false
def evalBuild (P : Program) (t : TypeId) (fr : Fr) (parts : List (Nat × Operand)) : Option V :=
 if isStruct P t then match zeroCs P t with
   | some cs => (fillV P t fr cs parts).map .agg
   | none => none
 else none
def rowsOf (sz : Nat) (fr : Fr) : Nat → List (Nat × Operand) → Option (List (List D))
 | _, [] => some []
 | i, (j, x) :: r => if i = j then match (ev fr x).cellsD, rowsOf sz fr (i + 1) r with
     | some l, some rs => if l.length = sz then some (l :: rs) else none
     | _, _ => none
   else none
def evalBuildSlice (P : Program) (t : TypeId) (n : Nat) (fr : Fr) (parts : List (Nat × Operand)) : Option V :=
 match slE P t with
 | some (e, sz, _) => if parts.length = n ∧ n * sz ≤ 16777216 ∧ 0 < sz ∧ (zeroSz P e).isSome = true then (rowsOf sz fr 0 parts).map fun rs => .d (.sl rs) else none
 | none => none
def rowsLen (sz : Nat) (es : List (List D)) : Bool := es.all (·.length == sz)
def bound (fr : Fr) (dflt : Nat) : Option Operand → Option Nat
 | none => some dflt
 | some x => match ev fr x with
   | .d (.int _ n) => if 0 ≤ n then some n.toNat else none
   | _ => none
def evalSlice (P : Program) (t : TypeId) (x : V) (fr : Fr) (lo hi : Option Operand) : Option V :=
 match x with
 | .d (.str s) =>
   if isStr P t then match bound fr 0 lo, bound fr s.length hi with
     | some l, some h => if l ≤ h ∧ h ≤ s.length then some (.d (.str ((s.take h).drop l))) else none
     | _, _ => none
   else none
 | x => match x.toD, slE P t with
   | some (.sl es), some (_, sz, _) => match bound fr 0 lo, bound fr es.length hi with
     | some l, some h => if l ≤ h ∧ h ≤ es.length ∧ rowsLen sz es = true then some (.d (.sl ((es.take h).drop l))) else none
     | _, _ => none
   | _, _ => none
def evalFieldAddr (P : Program) (t : TypeId) (x : V) (f : Nat) : Option V :=
 match fld P t f with
 | some (off, sz, _) => if sz = 0 then none else match x with
   | .ptr k o => some (.ptr k (o + off))
   | .ep cs o => some (.ep cs (o + off))
   | _ => none
 | none => none
def evalField (P : Program) (t : TypeId) (x : V) (f : Nat) : Option V :=
 match fld P t f, x.cells with
 | some (off, sz, b), some cs => (match x with | .agg _ | .d (.agg _) => loadCs b cs off sz | _ => none)
 | _, _ => none
def evalIndexAddr (P : Program) (t : TypeId) (x i : V) : Option V :=
 match i with
 | .d (.int _ n) =>
   if 0 ≤ n then match x.toD, slE P t with
     | some (.sl es), some (_, sz, _) => if n.toNat < es.length ∧ rowsLen sz es = true then some (.ep (es.getD n.toNat []) 0) else none
     | _, _ => match x, arE P t with
       | .ptr k off, some (m, sz, _) => if n < m then some (.ptr k (off + n.toNat * sz)) else none
       | .ep cs off, some (m, sz, _) => if n < m then some (.ep cs (off + n.toNat * sz)) else none
       | _, _ => none
   else none
 | _ => none
def evalIndex (P : Program) (t : TypeId) (x i : V) : Option V :=
 match i, x with
 | .d (.int _ n), .d (.str s) => if isStr P t && decide (0 ≤ n) then (s[n.toNat]?).map fun b => .d (.int .u8 b.toNat) else none
 | _, _ => none
def evalExtract (x : V) (i : Nat) : Option V :=
 match x with
 | .tup vs => vs[i]?
 | _ => none
def evalLen (P : Program) (t : TypeId) (x : V) : Option V :=
 match x with
 | .d (.str s) => if isStr P t then some (.d (.int .i64 s.length)) else none
 | x => match x.toD, slE P t with
   | some (.sl es), some _ => some (.d (.int .i64 es.length))
   | _, _ => none
def rowsOK (sz : Nat) (xs : List (List D)) : Bool := xs.all fun r => r.length == sz && r.all D.one
def roomB : Nat := 140737488355328
def evalAppend (P : Program) (t : TypeId) (s x : V) (st : St) : Option (V × St) :=
 match slE P t, x.toD with
 | some (e, sz, by_), some (.sl xs) =>
   if rowsOK sz xs = true ∧ 0 < sz ∧ zeroSz P e = some sz then match s with
     | .nils =>
       if xs.length * by_ ≤ roomB ∧ xs.length ≤ maxLen then
         if xs.isEmpty then some (.nils, st) else some (.own st.toks.length xs, { st with toks := st.toks ++ [(e, sz, xs.length)] })
       else none
     | .own id es =>
       if st.toks[id]? = some (e, sz, es.length) ∧ rowsLen sz es = true ∧ (es.length + xs.length) * by_ ≤ roomB ∧ es.length + xs.length ≤ maxLen then
         if xs.isEmpty then some (.own id es, st) else some (.own id (es ++ xs), { st with toks := st.toks.set id (e, sz, es.length + xs.length) })
       else none
     | _ => none
   else none
 | _, _ => none
def byteRows (l : List UInt8) : List (List D) := l.map fun b => [.int .u8 b.toNat]
def byteOK (P : Program) (t : TypeId) : Bool := match slE P t with
 | some (e, 1, 1) => (match zeroOf P e with | some (.int .u8 0) => true | _ => false)
 | _ => false
def evalAppS (P : Program) (t u : TypeId) (s x : V) (st : St) : Option (V × St) :=
 match x with
 | .d (.str l) => if isStr P u = true ∧ byteOK P t = true then evalAppend P t s (.d (.sl (byteRows l))) st else none
 | _ => none
def evalMax (x y : V) : Option V :=
 match x, y with
 | .d (.int k a), .d (.int k' b) => if k = k' then some (.d (.int k (if b > a then b else a))) else none
 | _, _ => none
def evalMin (x y : V) : Option V :=
 match x, y with
 | .d (.int k a), .d (.int k' b) => if k = k' then some (.d (.int k (if b < a then b else a))) else none
 | _, _ => none
def evalRange (P : Program) (t : TypeId) (x : V) (st : St) : Option (V × St) :=
 match x with
 | .d (.str s) => if isStr P t then some (pushB st (.iter s 0)) else none
 | _ => none
def evalNext (x : V) (st : St) : Option (V × St) :=
 match x with
 | .ptr k 0 => match st.blks[k]? with
   | some (.iter s pos) =>
     if pos < s.length then
       some (.tup [.d (.bool true), .d (.int .i64 pos), .d (.int .i32 (Utf8.decode ⟨s.toArray⟩ pos).1)], setBlk st k (.iter s (pos + (Utf8.decode ⟨s.toArray⟩ pos).2)))
     else some (.tup [.d (.bool false)], st)
   | _ => none
 | _ => none
def evalAssert (P : Program) (x : V) (as : TypeId) (ok : Bool) : Option V :=
 match x, isIface P as with
 | .d .nili, some false => if ok then match zeroOf P as with
     | some z => some (.tup [ofConst z, .d (.bool false)])
     | none => none
   else none
 | .d (.iface t v), some false => if t = as then (if ok then some (.tup [.d v, .d (.bool true)]) else some (.d v)) else none
 | _, _ => none
def evalBuiltin (P : Program) (b : Builtin) (ts : List TypeId) (args : List V) (st : St) : Option (V × St) :=
 match b, ts, args with
 | .len, [t], [x] => (evalLen P t x).map (·, st)
 | .append, [t, t'], [s, x] => if t = t' then evalAppend P t s x st else evalAppS P t t' s x st
 | .max, _, [x, y] => (evalMax x y).map (·, st)
 | .min, _, [x, y] => (evalMin x y).map (·, st)
 | _, _, _ => none
def evalOp (P : Program) (o : Oper) (fr : Fr) (st : St) : Option (V × St) :=
 match o.op with
 | .move x | .assign x => some (ev fr x, st)
 | .pick c a b => match ev fr c with
   | .d (.bool t) => some (if t then ev fr a else ev fr b, st)
   | _ => none
 | .alloc e => match zeroCs P e with
   | some cs => some (pushB st (newBlk P e cs))
   | none => none
 | .box _ x => match (ev fr x).cells with
   | some cs => some (pushB st (.cells cs))
   | none => none
 | .build t parts => (evalBuild P t fr parts.toList).map (·, st)
 | .buildSlice t n parts => (evalBuildSlice P t n fr parts.toList).map (·, st)
 | .load t a => (evalLoad P t (ev fr a) st).map (·, st)
 | .store t a x => (evalStore P t (ev fr a) (ev fr x) st).map fun st' => (.junk, st')
 | .nilCheck x => match ev fr x with
   | .ptr b off => some (.ptr b off, st)
   | .ep cs off => some (.ep cs off, st)
   | .clo f cap => some (.clo f cap, st)
   | _ => none
 | .binOp op t x y _ => binX (evalBin P op t (ev fr x) (ev fr y)) (evalNil P op t (isCst x || isCst y) (ev fr x) (ev fr y)) st
 | .unOp op _ x => (evalUn op (ev fr x)).map (·, st)
 | .convert s d x => (evalConv P s d (ev fr x)).map (·, st)
 | .makeInterface t x => if isIface P t = some false then (ev fr x).held.map fun d => (.d (.iface t d), st) else none
 | .makeFunc (.func f) first captured => if first.isEmpty then some (.clo f (captured.toList.map (ev fr)), st) else none
 | .slice t x lo hi none => (evalSlice P t (ev fr x) fr lo hi).map (·, st)
 | .fieldAddr t x f => (evalFieldAddr P t (ev fr x) f).map (·, st)
 | .field t x f => (evalField P t (ev fr x) f).map (·, st)
 | .indexAddr t x i => (evalIndexAddr P t (ev fr x) (ev fr i)).map (·, st)
 | .index t x i => (evalIndex P t (ev fr x) (ev fr i)).map (·, st)
 | .extract x i => (evalExtract (ev fr x) i).map (·, st)
 | .range t x => evalRange P t (ev fr x) st
 | .next x true => evalNext (ev fr x) st
 | .typeAssert x _ as ok => (evalAssert P (ev fr x) as ok).map (·, st)
 | .call { callee := .builtin b, args, argTypes } => evalBuiltin P b argTypes.toList (args.toList.map (ev fr)) st
 | _ => none
end Go.Abs
end
section
namespace Go.Abs
open Go.RowKit
variable {c : Ctx} {w : World} {st : St}
theorem Rel.toD {v : Value} {x : V} {y : D} (r : Rel c v x) (h : x.toD = some y) : RelD c.H v y := by
 cases r with
 | d v x r => simp only [V.toD, Option.some.injEq] at h; exact h ▸ r
 | nils => simp only [V.toD, Option.some.injEq] at h; subst h; exact .slnil
 | own v id es t r ht hsz hle heq => simp only [V.toD, Option.some.injEq] at h; subst h; exact r
 | _ => simp [V.toD] at h
theorem Rel.cells {v : Value} {x : V} {l : List V} (r : Rel c v x) (h : x.cells = some l) :
   v.cells.size = l.length ∧ ∀ i, i < l.length → Rel c (v.cells.getD i undef) (l.getD i .junk) := by
 have one : ∀ (v : Value) (y : V), Rel c v y → v.cells = #[v] → l = [y] → v.cells.size = l.length ∧ ∀ i, i < l.length → Rel c (v.cells.getD i undef) (l.getD i .junk) := by
   intro v y r hv hl
   subst hl
   rw [hv]
   refine ⟨rfl, fun i hi => ?_⟩
   have : i = 0 := by simpa using hi
   subst this
   simpa using r
 cases r with
 | junk v => simp [V.cells] at h
 | d v x r =>
   cases r with
   | agg arr cs hs hr =>
     simp only [V.cells, Option.some.injEq] at h
     subst h
     refine ⟨by simpa [Value.cells] using hs, fun i hi => ?_⟩
     simp only [List.length_map] at hi
     have := hr i hi
     simp only [Value.cells]
     rw [show (cs.map V.d).getD i .junk = .d (cs.getD i .nilp) by simp [List.getD_eq_getElem?_getD, List.getElem?_map, List.getElem?_eq_getElem hi]]
     exact .d _ _ this
   | bool b => exact one _ _ (.d _ _ (.bool b)) rfl (by simpa [V.cells] using h.symm)
   | int k n => exact one _ _ (.d _ _ (.int k n)) rfl (by simpa [V.cells] using h.symm)
   | str s l' e => exact one _ _ (.d _ _ (.str s l' e)) rfl (by simpa [V.cells] using h.symm)
   | nilp => exact one _ _ (.d _ _ .nilp) rfl (by simpa [V.cells] using h.symm)
   | nilf => exact one _ _ (.d _ _ .nilf) rfl (by simpa [V.cells] using h.symm)
   | nili => exact one _ _ (.d _ _ .nili) rfl (by simpa [V.cells] using h.symm)
   | nilm => exact one _ _ (.d _ _ .nilm) rfl (by simpa [V.cells] using h.symm)
   | nz t v => exact one _ _ (.d _ _ (.nz t v)) rfl (by simpa [V.cells] using h.symm)
   | iface t v x r => exact one _ _ (.d _ _ (.iface t v x r)) rfl (by simpa [V.cells] using h.symm)
   | slnil => exact one _ _ (.d _ _ .slnil) rfl (by simpa [V.cells] using h.symm)
   | sl0 a => exact one _ _ (.d _ _ (.sl0 a)) rfl (by simpa [V.cells] using h.symm)
   | sl k off n cap sz vs es h1 h2 h3 h4 h5 => exact one _ _ (.d _ _ (.sl k off n cap sz vs es h1 h2 h3 h4 h5)) rfl (by simpa [V.cells] using h.symm)
 | nils => exact one _ _ .nils rfl (by simpa [V.cells] using h.symm)
 | own v id es t r ht hsz hle heq =>
   refine one _ _ (.own v id es t r ht hsz hle heq) ?_ (by simpa [V.cells] using h.symm)
   cases r <;> rfl
 | ptr b k off hb => exact one _ _ (.ptr b k off hb) rfl (by simpa [V.cells] using h.symm)
 | ep k base off vs cs h1 h2 => exact one _ _ (.ep k base off vs cs h1 h2) rfl (by simpa [V.cells] using h.symm)
 | clo f arr cap hs hr => exact one _ _ (.clo f arr cap hs hr) rfl (by simpa [V.cells] using h.symm)
 | agg arr cs hs hr =>
   simp only [V.cells, Option.some.injEq] at h
   subst h
   exact ⟨hs, hr⟩
 | tup arr vs hs hr => simp [V.cells] at h
theorem RelD.one {H : GH} {v : Value} {x : D} (r : RelD H v x) (h : x.one = true) : v.oneCell' = true := by
 cases r <;> first | rfl | (simp [D.one] at h)
theorem Rel.one {v : Value} {x : V} (r : Rel c v x) (h : x.one = true) : v.oneCell' = true := by
 cases r with
 | junk v => simp [V.one] at h
 | d v x r => exact r.one h
 | nils => rfl
 | own v id es t r ht hsz hle heq => cases r <;> rfl
 | ptr b k off hb => rfl
 | ep k base off vs cs h1 h2 => rfl
 | clo f arr cap hs hr => rfl
 | agg arr cs hs hr => simp [V.one] at h
 | tup arr vs hs hr => simp [V.one] at h
theorem ofCell_rel {v : Value} {x : V} (h : ofCell v = some x) : Rel c v x := by
 unfold ofCell at h
 split at h <;> simp only [Option.some.injEq, reduceCtorEq] at h <;> subst h
 · exact .d _ _ (.bool _)
 · exact .d _ _ (.int _ _)
 · exact .d _ _ (.str _ _ rfl)
 · exact .d _ _ .nilp
 · exact .nils
 · exact .d _ _ .nilf
 · exact .d _ _ .nili
 · exact .d _ _ .nilm
theorem ofCells_rel : ∀ {l : List Value} {xs : List V}, ofCells l = some xs → l.length = xs.length ∧ ∀ i, i < xs.length → Rel c (l.getD i undef) (xs.getD i .junk)
 | [], xs, h => by simp only [ofCells, Option.some.injEq] at h; subst h; simp
 | v :: r, xs, h => by
   simp only [ofCells] at h
   split at h <;> simp only [Option.some.injEq, reduceCtorEq] at h
   rename_i x l h1 h2
   subst h
   obtain ⟨h3, h4⟩ := ofCells_rel h2
   refine ⟨by simp [h3], fun i hi => ?_⟩
   cases i with
   | zero => simpa using ofCell_rel h1
   | succ i => simpa using h4 i (by simpa using hi)
theorem array_getD_toList (arr : Array Value) (i : Nat) : arr.getD i undef = arr.toList.getD i undef := by
 simp [Array.getD_eq_getD_getElem?, List.getD_eq_getElem?_getD]
theorem ofConst_rel (v : Value) : Rel c v (ofConst v) := by
 unfold ofConst
 split
 · rename_i cs
   split
   · rename_i l h
     obtain ⟨h1, h2⟩ := ofCells_rel (c := c) h
     exact .agg _ _ (by simpa using h1) fun i hi => by rw [array_getD_toList]; exact h2 i hi
   · exact .junk _
 · cases h : ofCell v with
   | none => exact .junk _
   | some x => exact ofCell_rel h
theorem ev_rel {a : Act} {fr : Fr} (h : FrRel c a.tmps fr) (x : Operand) : Rel c (a.eval x) (ev fr x) := by
 cases x with
 | tmp t => exact h t
 | const v => exact ofConst_rel v
 | global g => exact .junk _
 | func f => exact .clo f #[] [] rfl (fun i hi => by simp at hi)
theorem allD_rel : ∀ {l : List V} {ds : List D}, allD l = some ds → l.length = ds.length ∧ ∀ {vs : List Value}, (∀ i, i < l.length → Rel c (vs.getD i undef) (l.getD i .junk)) → ∀ i, i < ds.length → RelD c.H (vs.getD i undef) (ds.getD i .nilp)
 | [], ds, h => by simp only [allD, Option.some.injEq] at h; subst h; simp
 | v :: r, ds, h => by
   simp only [allD] at h
   split at h <;> simp only [Option.some.injEq, reduceCtorEq] at h
   rename_i x l h1 h2
   subst h
   obtain ⟨h3, h4⟩ := allD_rel h2
   refine ⟨by simp [h3], fun {vs} hv i hi => ?_⟩
   cases i with
   | zero => simpa using (hv 0 (by simp)).toD (by simpa using h1)
   | succ i =>
     have := h4 (vs := vs.tail) (fun j hj => by
       have := hv (j + 1) (by simpa using hj)
       cases vs <;> simpa using this) i (by simpa using hi)
     cases vs <;> simpa using this
theorem Conf.fresh (h : Conf c w st) {k : Nat} (hk : w.heap.size ≤ k) (o : Nat) : c.H k o = none := by
 cases hv : c.H k o with
 | none => rfl
 | some v =>
   have := World.block_lt_of_cell? w _ (h.sealed k o v hv)
   simp at this
   omega
theorem Conf.mult (h : Conf c w st) {i k : Nat} (hk : c.mu[i]? = some k) : k < w.heap.size := by
 have hi : i < st.blks.length := by rw [← h.mulen]; exact (List.getElem?_eq_some_iff.1 hk).1
 obtain ⟨o, ho, _⟩ := h.blk i k _ hk (List.getElem?_eq_getElem hi)
 exact (Array.getElem?_eq_some_iff.1 ho).1
theorem Conf.tokblk (h : Conf c w st) {id : Nat} {t : Tok} (ht : c.tok[id]? = some t) {g : Nat} (hg : t.val.ownBlock = some g) : c.base ≤ g ∧ g < w.heap.size := by
 obtain ⟨_, ⟨_, hd⟩ | ⟨xs, ho, _⟩⟩ := h.tokown id t ht
 · rw [hd] at hg; cases hg
 exact ho.lt g hg
theorem getElem?_snoc_left {α : Type} {l : List α} {x y : α} {i : Nat} (h : l[i]? = some y) : (l ++ [x])[i]? = some y := by
 rw [List.getElem?_append_left (List.getElem?_eq_some_iff.1 h).1]; exact h
theorem getElem?_snoc_cases {α : Type} {l : List α} {x y : α} {i : Nat} (h : (l ++ [x])[i]? = some y) : l[i]? = some y ∨ (i = l.length ∧ y = x) := by
 by_cases hi : i < l.length
 · rw [List.getElem?_append_left hi] at h; exact .inl h
 · rw [List.getElem?_append_right (by omega)] at h
   have : i - l.length = 0 := by
     rcases Nat.eq_zero_or_pos (i - l.length) with h' | h'
     · exact h'
     · rw [List.getElem?_eq_none (by simp; omega)] at h; simp at h
   rw [this] at h
   simp at h
   exact .inr ⟨by omega, h.symm⟩
def Ctx.pushB (c : Ctx) (k : Nat) : Ctx := { c with mu := c.mu ++ [k] }
theorem Ext.pushB (c : Ctx) (k : Nat) : Ext c (c.pushB k) :=
 ⟨fun _ _ _ h => h, fun _ _ h => getElem?_snoc_left h, fun _ t h => ⟨t, h, rfl, Nat.le_refl _, fun _ => rfl⟩, rfl, rfl⟩
theorem Conf.alloc (h : Conf c w st) {o : Obj} {B : Blk} (hb : BlkRel c o B) :
   Conf (c.pushB w.heap.size) (w.alloc o) { st with blks := st.blks ++ [B] } where
 mulen := by simp [Ctx.pushB, h.mulen]
 muinj := by
   intro i j k hi hj
   rcases getElem?_snoc_cases hi with hi | ⟨hi, hk⟩ <;> rcases getElem?_snoc_cases hj with hj | ⟨hj, hk'⟩
   · exact h.muinj i j k hi hj
   · subst hk'; have := h.mult hi; omega
   · subst hk; have := h.mult hj; omega
   · omega
 mubase := by
   intro i k hi
   rcases getElem?_snoc_cases hi with hi | ⟨_, hk⟩
   · exact h.mubase i k hi
   · subst hk; exact h.basele
 muH := by
   intro i k o hi
   rcases getElem?_snoc_cases hi with hi | ⟨_, hk⟩
   · exact h.muH i k o hi
   · subst hk; exact h.fresh (Nat.le_refl _) o
 blk := by
   intro b k B' hk hB
   rcases getElem?_snoc_cases hk with hk | ⟨hb', hk⟩
   · have hbl : b < st.blks.length := by rw [← h.mulen]; exact (List.getElem?_eq_some_iff.1 hk).1
     obtain ⟨o', ho', hr⟩ := h.blk b k B' hk (by rw [List.getElem?_append_left hbl] at hB; exact hB)
     exact ⟨o', by rw [heap_alloc_old w o (h.mult hk)]; exact ho', hr.mono (Ext.pushB c _)⟩
   · subst hk
     rw [hb', h.mulen] at hB
     simp at hB
     subst hB
     exact ⟨o, heap_alloc_new w o, hb.mono (Ext.pushB c _)⟩
 toklen := h.toklen
 tokown := by
   intro id t ht
   obtain ⟨h0, hd | ⟨xs, ho, hg⟩⟩ := h.tokown id t ht
   · exact ⟨h0, .inl hd⟩
   refine ⟨h0, .inr ⟨xs, ho.alloc o, fun g hgb => ?_⟩⟩
   obtain ⟨h1, h2, h3⟩ := hg g hgb
   refine ⟨h1, h2, ?_⟩
   have := (ho.lt g hgb).2
   simp only [Ctx.pushB, List.mem_append, List.mem_singleton, not_or]
   exact ⟨h3, by omega⟩
 tokinj := h.tokinj
 sealed := by
   intro k o' v hv
   have := h.sealed k o' v hv
   rw [World.cell?_alloc_lt w o _ (World.block_lt_of_cell? w _ this)]
   exact this
 below := h.below.alloc h.basele o
 basele := by
   have := h.basele
   simp only [World.size_alloc, Ctx.pushB]
   omega
def Ctx.sealC (c : Ctx) (k : Nat) (cs : Array Value) : Ctx := { c with H := fun b o => if b = k then cs[o]? else c.H b o }
theorem Conf.extSeal (h : Conf c w st) (cs : Array Value) : Ext c (c.sealC w.heap.size cs) := by
 refine ⟨fun k o v hv => ?_, fun _ _ h => h, fun _ t h => ⟨t, h, rfl, Nat.le_refl _, fun _ => rfl⟩, rfl, rfl⟩
 have : k ≠ w.heap.size := by
   intro e
   subst e
   rw [h.fresh (Nat.le_refl _)] at hv
   simp at hv
 simp [Ctx.sealC, this, hv]
theorem Conf.sealC (h : Conf c w st) (cs : Array Value) (e : TypeId) : Conf (c.sealC w.heap.size cs) (w.alloc (.cells cs e)) st where
 mulen := h.mulen
 muinj := h.muinj
 mubase := h.mubase
 muH := by
   intro i k o hk
   have := h.mult hk
   simp only [Ctx.sealC]
   rw [if_neg (by omega)]
   exact h.muH i k o hk
 blk := by
   intro b k B hk hB
   obtain ⟨o, ho, hr⟩ := h.blk b k B hk hB
   exact ⟨o, by rw [heap_alloc_old w _ (h.mult hk)]; exact ho, hr.mono (h.extSeal cs)⟩
 toklen := h.toklen
 tokown := by
   intro id t ht
   obtain ⟨h0, hd | ⟨xs, ho, hg⟩⟩ := h.tokown id t ht
   · exact ⟨h0, .inl hd⟩
   refine ⟨h0, .inr ⟨xs, ho.alloc _, fun g hgb => ?_⟩⟩
   obtain ⟨h1, h2, h3⟩ := hg g hgb
   have hlt := (ho.lt g hgb).2
   have hne : g ≠ w.heap.size := by omega
   exact ⟨fun o ho => by simp only [Ctx.sealC, if_neg hne]; exact h1 o ho, fun o ho => by simp only [Ctx.sealC, if_neg hne]; exact h2 o ho, h3⟩
 tokinj := h.tokinj
 sealed := by
   intro k o v hv
   by_cases hk : k = w.heap.size
   · subst hk
     simp only [Ctx.sealC, if_true] at hv
     rw [World.cell?_alloc_new]
     exact hv
   · simp only [Ctx.sealC, if_neg hk] at hv
     have := h.sealed k o v hv
     rw [World.cell?_alloc_lt w _ _ (World.block_lt_of_cell? w _ this)]
     exact this
 below := h.below.alloc h.basele _
 basele := by
   have := h.basele
   simp only [World.size_alloc, Ctx.sealC]
   omega
theorem Conf.drew (h : Conf c w st) : Conf c w.drew st where
 mulen := h.mulen
 muinj := h.muinj
 mubase := h.mubase
 muH := h.muH
 blk := h.blk
 toklen := h.toklen
 tokown := h.tokown
 tokinj := h.tokinj
 sealed := h.sealed
 below := h.below.drew
 basele := h.basele
end Go.Abs
end
