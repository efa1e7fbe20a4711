/- A step of the proofs of the seat's theorems. -/
import Derived.Test.YtofbdmdigopaoaaGreatDoorQ10
set_option linter.unusedSimpArgs false
set_option linter.unusedVariables false
section
namespace Go.Abs
open Go.RowKit
def entersOp : Op → Bool
 | .call { callee := .value _, .. } => true
 | .call { callee := .invoke .., .. } => true
 | .panic _ => true
 | _ => false
def ask (res : List Nat) : Option (Nat × Bool) → Bool
 | none => true
 | some (j, _) => res.contains j
def runL (P : Program) (n : NDs) (all : Array Oper) (res : List Nat) : List Oper → Fr → St → Option (List Oper × Fr × St)
 | [], fr, st => some ([], fr, st)
 | o :: r, fr, st =>
   if ask res o.guard then
     match goes all o fr with
     | some true => if entersOp o.op then some (o :: r, fr, st) else match evalOp P o fr st with
       | some (v, st') => if dstOK n o.dst then runL P n all res r (putA fr o.dst v) st' else none
       | none => none
     | some false => if dstOK n o.dst then runL P n all res r (putA fr o.dst (.tup [])) st else none
     | none => none
   else some (o :: r, fr, st)
section
variable {P : Program} {G : World → Nat → Prop} {n : NDs} {st0 : St} {Q : AX → Fr → St → Prop}
theorem OW.run {all : Array Oper} {res : List Nat} : ∀ {l : List Oper} {fr : Fr} {st : St} {rest : List Oper} {fr' : Fr} {st' : St}, runL P n all res l fr st = some (rest, fr', st') → OW P G n st0 all Q rest fr' st' → OW P G n st0 all Q l fr st
 | [], fr, st, rest, fr', st', h, k => by
   simp only [runL, Option.some.injEq, Prod.mk.injEq] at h
   obtain ⟨rfl, rfl, rfl⟩ := h
   exact k
 | o :: r, fr, st, rest, fr', st', h, k => by
   simp only [runL] at h
   split at h
   · split at h
     · rename_i hg
       split at h
       · simp only [Option.some.injEq, Prod.mk.injEq] at h
         obtain ⟨rfl, rfl, rfl⟩ := h
         exact k
       · split at h
         · rename_i v st1 he
           split at h
           · rename_i hd
             exact OW.op hg he hd (OW.run h k)
           · simp at h
         · simp at h
     · rename_i hg
       split at h
       · rename_i hd
         exact OW.skip hg hd (OW.run h k)
       · simp at h
     · simp at h
   · simp only [Option.some.injEq, Prod.mk.injEq] at h
     obtain ⟨rfl, rfl, rfl⟩ := h
     exact k
end
def runA (P : Program) (n : NDs) (all : Array Oper) (res : List Nat) (k : Bool) (g : Option Bool) (e : Bool) (o : Oper) (r : List Oper) (fr : Fr) (st : St) : Option (List Oper × Fr × St) :=
 if k then
   match g with
   | some true => if e then some (o :: r, fr, st) else match evalOp P o fr st with
     | some (v, st') => if dstOK n o.dst then runL P n all res r (putA fr o.dst v) st' else none
     | none => none
   | some false => if dstOK n o.dst then runL P n all res r (putA fr o.dst (.tup [])) st else none
   | none => none
 else some (o :: r, fr, st)
def runV (P : Program) (n : NDs) (all : Array Oper) (res : List Nat) (x : Option (V × St)) (ok : Bool) (d : Option Tmp) (r : List Oper) (fr : Fr) : Option (List Oper × Fr × St) :=
 match x with
 | some (v, st') => if ok then runL P n all res r (putA fr d v) st' else none
 | none => none
def runS (P : Program) (n : NDs) (all : Array Oper) (res : List Nat) (ok : Bool) (d : Option Tmp) (r : List Oper) (fr : Fr) (st : St) : Option (List Oper × Fr × St) :=
 if ok then runL P n all res r (putA fr d (.tup [])) st else none
section
variable (P : Program) (n : NDs) (all : Array Oper) (res : List Nat) (o : Oper) (r : List Oper) (fr : Fr) (st : St) (d : Option Tmp) (v : V) (ty : TypeId) (pos : String) (af : Array Edge) (gd : Option (Nat × Bool))
theorem runL_nil : runL P n all res [] fr st = some ([], fr, st) := rfl
def askO (res : List Nat) (o : Oper) : Bool := ask res o.guard
theorem askO_eq (op : Op) : askO res ⟨d, op, ty, pos, af, gd⟩ = ask res gd := rfl
theorem ask_none : ask res none = true := rfl
theorem ask_nil (j : Nat) (b : Bool) : ask [] (some (j, b)) = false := rfl
theorem ask_cons (k j : Nat) (b : Bool) : ask (k :: res) (some (j, b)) = (j == k || ask res (some (j, b))) := List.contains_cons
theorem runL_cons : runL P n all res (o :: r) fr st = runA P n all res (askO res o) (goes all o fr) (entersOp o.op) o r fr st := rfl
theorem runA_stop (g : Option Bool) (e : Bool) : runA P n all res false g e o r fr st = some (o :: r, fr, st) := rfl
theorem runA_enter : runA P n all res true (some true) true o r fr st = some (o :: r, fr, st) := rfl
theorem runA_op : runA P n all res true (some true) false o r fr st = runV P n all res (evalOp P o fr st) (dstOK n o.dst) o.dst r fr := rfl
theorem runA_skip (e : Bool) : runA P n all res true (some false) e o r fr st = runS P n all res (dstOK n o.dst) o.dst r fr st := rfl
theorem runV_some : runV P n all res (some (v, st)) true d r fr = runL P n all res r (putA fr d v) st := rfl
theorem runS_ok : runS P n all res true d r fr st = runL P n all res r (putA fr d (.tup [])) st := rfl
theorem goes_none (op : Op) : goes all ⟨d, op, ty, pos, af, none⟩ fr = some true := rfl
def goesX : V → Bool → Option Bool
 | .d (.bool t), b => some (t == b)
 | .tup [], _ => some false
 | _, _ => none
def goesD (d : Option Tmp) (fr : Fr) (b : Bool) : Option Bool := match d with | some t => goesX (fr t) b | none => none
theorem goes_some (op : Op) (j : Nat) (b : Bool) : goes all ⟨d, op, ty, pos, af, some (j, b)⟩ fr = goesD ((all[j]?).bind (·.dst)) fr b := by
 simp only [goes, goesD]
 cases ((all[j]?).bind (·.dst)) with
 | none => rfl
 | some q =>
   simp only [goesX]
   cases fr q with
   | d y => cases y <;> rfl
   | tup l => cases l <;> rfl
   | _ => rfl
theorem goesX_tt : goesX (.d (.bool true)) true = some true := rfl
theorem goesX_tf : goesX (.d (.bool true)) false = some false := rfl
theorem goesX_ft : goesX (.d (.bool false)) true = some false := rfl
theorem goesX_ff : goesX (.d (.bool false)) false = some true := rfl
theorem goesX_und (b : Bool) : goesX (.tup []) b = some false := rfl
theorem goesD_some (t : Tmp) (b : Bool) : goesD (some t) fr b = goesX (fr t) b := rfl
theorem upd_app (i : Nat) (j : Nat) : upd fr i v j = if j = i then v else fr j := rfl
theorem putA_some (i : Nat) : putA fr (some i) v = upd fr i v := rfl
theorem putA_none : putA fr none v = fr := rfl
theorem dstOK_some (k i : Nat) (ds : List Deferred) : dstOK ⟨k, ds⟩ (some i) = decide (i < k) := rfl
theorem dstOK_none (n : NDs) : dstOK n none = true := rfl
theorem entryFr_0 (l : List V) : entryFr (v :: l) 0 = v := rfl
theorem entryFr_1 (l : List V) : entryFr (v :: l) 1 = entryFr l 0 := rfl
theorem entryFr_2 (l : List V) : entryFr (v :: l) 2 = entryFr l 1 := rfl
theorem ent_move (x) : entersOp (.move x) = false := rfl
theorem ent_assign (x) : entersOp (.assign x) = false := rfl
theorem ent_pick (x y z) : entersOp (.pick x y z) = false := rfl
theorem ent_alloc (x) : entersOp (.alloc x) = false := rfl
theorem ent_box (x y) : entersOp (.box x y) = false := rfl
theorem ent_build (x y) : entersOp (.build x y) = false := rfl
theorem ent_buildSlice (x y z) : entersOp (.buildSlice x y z) = false := rfl
theorem ent_load (x y) : entersOp (.load x y) = false := rfl
theorem ent_store (x y z) : entersOp (.store x y z) = false := rfl
theorem ent_nilCheck (x) : entersOp (.nilCheck x) = false := rfl
theorem ent_binOp (a b c d e) : entersOp (.binOp a b c d e) = false := rfl
theorem ent_unOp (a b c) : entersOp (.unOp a b c) = false := rfl
theorem ent_convert (a b c) : entersOp (.convert a b c) = false := rfl
theorem ent_mkI (a b) : entersOp (.makeInterface a b) = false := rfl
theorem ent_slice (a b c d e) : entersOp (.slice a b c d e) = false := rfl
theorem ent_fieldAddr (a b c) : entersOp (.fieldAddr a b c) = false := rfl
theorem ent_indexAddr (a b c) : entersOp (.indexAddr a b c) = false := rfl
theorem ent_index (a b c) : entersOp (.index a b c) = false := rfl
theorem ent_extract (a b) : entersOp (.extract a b) = false := rfl
theorem ent_range (a b) : entersOp (.range a b) = false := rfl
theorem ent_next (a b) : entersOp (.next a b) = false := rfl
theorem ent_assert (a b c d) : entersOp (.typeAssert a b c d) = false := rfl
theorem ent_builtin (b a t) : entersOp (.call ⟨.builtin b, a, t⟩) = false := rfl
theorem ent_call (f a t) : entersOp (.call ⟨.value f, a, t⟩) = true := rfl
theorem ent_panic (x) : entersOp (.panic x) = true := rfl
theorem ev_tmp (t : Tmp) : ev fr (.tmp t) = fr t := rfl
theorem ev_int (k : IntKind) (i : Int) : ev fr (.const (.int k i)) = .d (.int k i) := rfl
theorem ev_bool (b : Bool) : ev fr (.const (.bool b)) = .d (.bool b) := rfl
theorem ev_str (s : ByteArray) : ev fr (.const (.string s)) = .d (.str s.data.toList) := rfl
theorem ev_nils : ev fr (.const (.slice none 0 0)) = .nils := rfl
theorem ev_nili : ev fr (.const .nilIface) = .d .nili := rfl
theorem ev_func (f : FuncId) : ev fr (.func f) = .clo f [] := rfl
theorem eo_move (x) : evalOp P ⟨d, .move x, ty, pos, af, gd⟩ fr st = some (ev fr x, st) := rfl
theorem eo_assign (x) : evalOp P ⟨d, .assign x, ty, pos, af, gd⟩ fr st = some (ev fr x, st) := rfl
def pickX : V → V → V → St → Option (V × St)
 | .d (.bool t), x, y, st => some (if t then x else y, st)
 | _, _, _, _ => none
theorem eo_pick (c a b) : evalOp P ⟨d, .pick c a b, ty, pos, af, gd⟩ fr st = pickX (ev fr c) (ev fr a) (ev fr b) st := by
 simp only [evalOp, pickX]
 split <;> simp_all
theorem pickX_true (x y : V) : pickX (.d (.bool true)) x y st = some (x, st) := rfl
theorem pickX_false (x y : V) : pickX (.d (.bool false)) x y st = some (y, st) := rfl
theorem pickX_and (t b : Bool) : pickX (.d (.bool t)) (.d (.bool b)) (.d (.bool false)) st = some (.d (.bool (t && b)), st) := by cases t <;> rfl
theorem pickX_or (t b : Bool) : pickX (.d (.bool t)) (.d (.bool true)) (.d (.bool b)) st = some (.d (.bool (t || b)), st) := by cases t <;> rfl
def pushX : Option (List V) → St → Option (V × St)
 | some cs, st => some (pushB st (.cells cs))
 | none, _ => none
def allocX (b : Bool) (e : TypeId) : Option (List V) → St → Option (V × St)
 | some cs, st => some (pushB st (if b = true then .tc e cs else .cells cs))
 | none, _ => none
theorem eo_alloc (e) : evalOp P ⟨d, .alloc e, ty, pos, af, gd⟩ fr st = allocX (tcT P e) e (zeroCs P e) st := by simp only [evalOp, allocX, newBlk]; split <;> simp_all
theorem allocX_f (e : TypeId) (cs : List V) : allocX false e (some cs) st = some (.ptr st.blks.length 0, ⟨st.blks ++ [.cells cs], st.toks⟩) := rfl
theorem allocX_t (e : TypeId) (cs : List V) : allocX true e (some cs) st = some (.ptr st.blks.length 0, ⟨st.blks ++ [.tc e cs], st.toks⟩) := rfl
theorem eo_box (e x) : evalOp P ⟨d, .box e x, ty, pos, af, gd⟩ fr st = pushX (ev fr x).cells st := by simp only [evalOp, pushX]; split <;> simp_all
theorem pushX_some (cs : List V) : pushX (some cs) st = some (.ptr st.blks.length 0, ⟨st.blks ++ [.cells cs], st.toks⟩) := rfl
theorem eo_build (t parts) : evalOp P ⟨d, .build t parts, ty, pos, af, gd⟩ fr st = (evalBuild P t fr parts.toList).map (·, st) := rfl
theorem eo_buildSlice (t k parts) : evalOp P ⟨d, .buildSlice t k parts, ty, pos, af, gd⟩ fr st = (evalBuildSlice P t k fr parts.toList).map (·, st) := rfl
theorem eo_load (t a) : evalOp P ⟨d, .load t a, ty, pos, af, gd⟩ fr st = (evalLoad P t (ev fr a) st).map (·, st) := rfl
theorem eo_store (t a x) : evalOp P ⟨d, .store t a x, ty, pos, af, gd⟩ fr st = (evalStore P t (ev fr a) (ev fr x) st).map (.junk, ·) := rfl
def nilC : V → St → Option (V × St)
 | .ptr b off, st => some (.ptr b off, st)
 | .ep cs off, st => some (.ep cs off, st)
 | .clo f cap, st => some (.clo f cap, st)
 | _, _ => none
theorem eo_nilCheck (x) : evalOp P ⟨d, .nilCheck x, ty, pos, af, gd⟩ fr st = nilC (ev fr x) st := by simp only [evalOp, nilC]; split <;> simp_all
theorem nilC_ptr (b off : Nat) : nilC (.ptr b off) st = some (.ptr b off, st) := rfl
theorem eo_binOp (op t x y u) : evalOp P ⟨d, .binOp op t x y u, ty, pos, af, gd⟩ fr st = binX (evalBin P op t (ev fr x) (ev fr y)) (evalNil P op t (isCst x || isCst y) (ev fr x) (ev fr y)) st := rfl
theorem binX_some (z : V) (b : Option V) : binX (some z) b st = some (z, st) := rfl
theorem binX_none (z : V) : binX none (some z) st = some (z, st) := rfl
theorem bin_nz (op t) : evalBin P op t (.d .nz) (.d .nili) = none := by cases op <;> rfl
theorem bin_nn (op t) : evalBin P op t (.d .nili) (.d .nili) = none := by cases op <;> rfl
theorem nil_nz (op t k) : evalNil P op t k (.d .nz) (.d .nili) = nilX op (isIface P t) true false := rfl
theorem nil_nn (op t k) : evalNil P op t k (.d .nili) (.d .nili) = nilX op (isIface P t) k true := rfl
theorem nilX_eql (b : Bool) : nilX .eql (some true) true b = some (.d (.bool b)) := rfl
theorem isCst_c (v : Value) : isCst (.const v) = true := rfl
theorem isCst_t (i : Nat) : isCst (.tmp i) = false := rfl
theorem eo_unOp (op t x) : evalOp P ⟨d, .unOp op t x, ty, pos, af, gd⟩ fr st = (evalUn op (ev fr x)).map (·, st) := rfl
theorem eo_convert (s t x) : evalOp P ⟨d, .convert s t x, ty, pos, af, gd⟩ fr st = (evalConv P s t (ev fr x)).map (·, st) := rfl
def mkIX (b : Option Bool) (t : TypeId) (x : Option D) (st : St) : Option (V × St) :=
 match b, x with
 | some false, some y => some (.d (.iface t y), st)
 | _, _ => none
theorem eo_mkI (t x) : evalOp P ⟨d, .makeInterface t x, ty, pos, af, gd⟩ fr st = mkIX (isIface P t) t (ev fr x).held st := by
 simp only [evalOp, mkIX]
 split
 · rename_i h; rw [h]; cases (ev fr x).held <;> rfl
 · rename_i h; split <;> simp_all
theorem mkIX_ok (t : TypeId) (y : D) : mkIX (some false) t (some y) st = some (.d (.iface t y), st) := rfl
theorem eo_slice (t x lo hi) : evalOp P ⟨d, .slice t x lo hi none, ty, pos, af, gd⟩ fr st = (evalSlice P t (ev fr x) fr lo hi).map (·, st) := rfl
theorem eo_fieldAddr (t x f) : evalOp P ⟨d, .fieldAddr t x f, ty, pos, af, gd⟩ fr st = (evalFieldAddr P t (ev fr x) f).map (·, st) := rfl
theorem eo_indexAddr (t x i) : evalOp P ⟨d, .indexAddr t x i, ty, pos, af, gd⟩ fr st = (evalIndexAddr P t (ev fr x) (ev fr i)).map (·, st) := rfl
theorem eo_index (t x i) : evalOp P ⟨d, .index t x i, ty, pos, af, gd⟩ fr st = (evalIndex P t (ev fr x) (ev fr i)).map (·, st) := rfl
theorem eo_extract (x i) : evalOp P ⟨d, .extract x i, ty, pos, af, gd⟩ fr st = (evalExtract (ev fr x) i).map (·, st) := rfl
theorem eo_range (t x) : evalOp P ⟨d, .range t x, ty, pos, af, gd⟩ fr st = evalRange P t (ev fr x) st := rfl
theorem eo_next (x) : evalOp P ⟨d, .next x true, ty, pos, af, gd⟩ fr st = evalNext (ev fr x) st := rfl
theorem eo_assert (x t u ok) : evalOp P ⟨d, .typeAssert x t u ok, ty, pos, af, gd⟩ fr st = (evalAssert P (ev fr x) u ok).map (·, st) := rfl
theorem eo_builtin (b a t) : evalOp P ⟨d, .call ⟨.builtin b, a, t⟩, ty, pos, af, gd⟩ fr st = evalBuiltin P b t.toList (a.toList.map (ev fr)) st := rfl
def appS (b : Bool) (P : Program) (t : TypeId) (s : V) (l : List UInt8) (st : St) : Option (V × St) := if b = true then evalAppend P t s (.d (.sl (byteRows l))) st else none
theorem appS_ok (t : TypeId) (s : V) (l : List UInt8) : appS true P t s l st = evalAppend P t s (.d (.sl (byteRows l))) st := rfl
theorem eb_len (t : TypeId) (x : V) : evalBuiltin P .len [t] [x] st = (evalLen P t x).map (·, st) := rfl
theorem eb_append (t : TypeId) (s x : V) : evalBuiltin P .append [t, t] [s, x] st = evalAppend P t s x st := by simp [evalBuiltin]
theorem eb_appS (t u : TypeId) (s : V) (l : List UInt8) (h : (t == u) = false) : evalBuiltin P .append [t, u] [s, .d (.str l)] st = appS (isStr P u && byteOK P t) P t s l st := by
 have : ¬ t = u := by simpa using h
 simp only [evalBuiltin, if_neg this, evalAppS, appS, Bool.and_eq_true]
theorem eb_max (t u : TypeId) (x y : V) : evalBuiltin P .max [t, u] [x, y] st = (evalMax x y).map (·, st) := rfl
theorem evalMax_int (k : IntKind) (a b : Int) : evalMax (.d (.int k a)) (.d (.int k b)) = some (.d (.int k (if b > a then b else a))) := by simp [evalMax]
def loadX (b : Option Bool) (sz : Option Nat) (a : V) (st : St) : Option V :=
 match b, sz with
 | some b, some sz => match a with
   | .ptr k off => match (st.blks[k]?).bind Blk.row with
     | some cs => loadCs b cs off sz
     | none => none
   | .ep cs off => loadDs b cs off sz
   | _ => none
 | _, _ => none
def loadB (b : Bool) (sz : Nat) (B : Option Blk) (off : Nat) : Option V := match B.bind Blk.row with | some cs => loadCs b cs off sz | none => none
theorem evalLoad_eq (t : TypeId) (a : V) : evalLoad P t a st = loadX (isAggB P t) (szOf P t) a st := rfl
theorem loadX_ptr (b : Bool) (sz k off : Nat) : loadX (some b) (some sz) (.ptr k off) st = loadB b sz st.blks[k]? off := by
 simp only [loadX, loadB]
theorem loadX_ep (b : Bool) (sz : Nat) (cs : List D) (off : Nat) : loadX (some b) (some sz) (.ep cs off) st = loadDs b cs off sz := rfl
theorem loadB_cells (b : Bool) (sz : Nat) (cs : List V) (off : Nat) : loadB b sz (some (.cells cs)) off = loadCs b cs off sz := rfl
theorem loadB_tc (b : Bool) (sz e : Nat) (cs : List V) (off : Nat) : loadB b sz (some (.tc e cs)) off = loadCs b cs off sz := rfl
theorem loadCs_one (cs : List V) (off sz : Nat) : loadCs false cs off sz = cs[off]? := rfl
theorem loadCs_agg (cs : List V) (off sz : Nat) : loadCs true cs off sz = if off + sz ≤ cs.length then some (.agg ((cs.drop off).take sz)) else none := rfl
theorem loadDs_one (cs : List D) (off sz : Nat) : loadDs false cs off sz = (cs[off]?).map .d := rfl
theorem loadDs_agg (cs : List D) (off sz : Nat) : loadDs true cs off sz = if off + sz ≤ cs.length then some (.agg (((cs.drop off).take sz).map .d)) else none := rfl
def storeX (a : V) (sz : Option Nat) (l : Option (List V)) (st : St) : Option St :=
 match a, sz, l with
 | .ptr k off, some sz, some l =>
   if l.length = sz ∧ l.all (·.one) = true then match st.blks[k]? with
     | some B => putBlk B k off sz l st
     | none => none
   else none
 | _, _, _ => none
def storeB (B : Option Blk) (k off sz : Nat) (l : List V) (st : St) : Option St := match B with
 | some B => putBlk B k off sz l st
 | none => none
theorem evalStore_eq (t : TypeId) (a x : V) : evalStore P t a x st = storeX a (szOf P t) x.cells st := rfl
theorem storeX_ptr (k off sz : Nat) (l : List V) : storeX (.ptr k off) (some sz) (some l) st = if l.length = sz ∧ l.all (·.one) = true then storeB st.blks[k]? k off sz l st else none := by
 simp only [storeX, storeB]
theorem storeB_cells (k off sz : Nat) (cs l : List V) : storeB (some (.cells cs)) k off sz l st = if off + sz ≤ cs.length then some ⟨st.blks.set k (.cells (splice cs off l)), st.toks⟩ else none := rfl
theorem storeB_tc (k off sz e : Nat) (cs l : List V) : storeB (some (.tc e cs)) k off sz l st = if off + sz ≤ cs.length then some ⟨st.blks.set k (.tc e (splice cs off l)), st.toks⟩ else none := rfl
theorem blk_at (l r : List Blk) (j : Nat) : (l ++ r)[l.length + j]? = r[j]? := by rw [List.getElem?_append_right (by omega)]; congr 1; omega
theorem blk_at0 (l r : List Blk) : (l ++ r)[l.length]? = r[0]? := by rw [List.getElem?_append_right (by omega)]; congr 1; omega
theorem blk_set (l r : List Blk) (j : Nat) (B : Blk) : (l ++ r).set (l.length + j) B = l ++ r.set j B := by
 rw [List.set_append_right _ _ (by omega)]; congr 2; omega
theorem blk_set0 (l r : List Blk) (B : Blk) : (l ++ r).set l.length B = l ++ r.set 0 B := by
 rw [List.set_append_right _ _ (by omega)]; congr 2; omega
def buildX (b : Bool) (cs : Option (List V)) (P : Program) (t : TypeId) (fr : Fr) (parts : List (Nat × Operand)) : Option V :=
 if b then match cs with
   | some cs => (fillV P t fr cs parts).map .agg
   | none => none
 else none
theorem evalBuild_eq (t : TypeId) (parts : List (Nat × Operand)) : evalBuild P t fr parts = buildX (isStruct P t) (zeroCs P t) P t fr parts := rfl
theorem buildX_ok (t : TypeId) (cs : List V) (parts : List (Nat × Operand)) : buildX true (some cs) P t fr parts = (fillV P t fr cs parts).map .agg := rfl
theorem fillV_nil (t : TypeId) (cs : List V) : fillV P t fr cs [] = some cs := rfl
def fillX (f : Option (Nat × Nat × Bool)) (l : Option (List V)) (P : Program) (t : TypeId) (fr : Fr) (cs : List V) (r : List (Nat × Operand)) : Option (List V) :=
 match f, l with
 | some (off, sz, _), some l => if l.length = sz ∧ off + l.length ≤ cs.length then fillV P t fr (splice cs off l) r else none
 | _, _ => none
theorem fillV_cons (t : TypeId) (cs : List V) (i : Nat) (x : Operand) (q : List (Nat × Operand)) : fillV P t fr cs ((i, x) :: q) = fillX (fld P t i) (ev fr x).cells P t fr cs q := rfl
theorem fillX_ok (t : TypeId) (cs l : List V) (off sz : Nat) (b : Bool) (q : List (Nat × Operand)) : fillX (some (off, sz, b)) (some l) P t fr cs q = if l.length = sz ∧ off + l.length ≤ cs.length then fillV P t fr (splice cs off l) q else none := rfl
def buildSX (s : Option (Nat × Nat × Nat)) (k : Nat) (P : Program) (fr : Fr) (parts : List (Nat × Operand)) : Option V :=
 match s with
 | some (e, sz, _) => if parts.length = k ∧ k * sz ≤ 16777216 ∧ 0 < sz ∧ (zeroSz P e).isSome = true then (rowsOf sz fr 0 parts).map fun rs => .d (.sl rs) else none
 | none => none
theorem evalBuildSlice_eq (t k : Nat) (parts : List (Nat × Operand)) : evalBuildSlice P t k fr parts = buildSX (slE P t) k P fr parts := rfl
theorem buildSX_ok (e sz by_ k : Nat) (parts : List (Nat × Operand)) : buildSX (some (e, sz, by_)) k P fr parts = if parts.length = k ∧ k * sz ≤ 16777216 ∧ 0 < sz ∧ (zeroSz P e).isSome = true then (rowsOf sz fr 0 parts).map fun rs => .d (.sl rs) else none := rfl
theorem rowsOf_nil (sz i : Nat) : rowsOf sz fr i [] = some [] := rfl
def rowsX (l : Option (List D)) (rs : Option (List (List D))) (sz : Nat) : Option (List (List D)) :=
 match l, rs with
 | some l, some rs => if l.length = sz then some (l :: rs) else none
 | _, _ => none
theorem rowsOf_cons (sz i j : Nat) (x : Operand) (q : List (Nat × Operand)) : rowsOf sz fr i ((j, x) :: q) = if i = j then rowsX (ev fr x).cellsD (rowsOf sz fr (i + 1) q) sz else none := rfl
theorem rowsX_ok (sz : Nat) (l : List D) (rs : List (List D)) : rowsX (some l) (some rs) sz = if l.length = sz then some (l :: rs) else none := rfl
theorem cells_agg (cs : List V) : (V.agg cs).cells = some cs := rfl
theorem cells_int (k : IntKind) (i : Int) : (V.d (.int k i)).cells = some [.d (.int k i)] := rfl
theorem cells_bool (b : Bool) : (V.d (.bool b)).cells = some [.d (.bool b)] := rfl
theorem cells_str (s : List UInt8) : (V.d (.str s)).cells = some [.d (.str s)] := rfl
theorem cells_sl (s : List (List D)) : (V.d (.sl s)).cells = some [.d (.sl s)] := rfl
theorem cells_own (i : Nat) (es : List (List D)) : (V.own i es).cells = some [.own i es] := rfl
theorem toD_d (x : D) : (V.d x).toD = some x := rfl
theorem cellsD_eq (x : V) : x.cellsD = x.cells.bind allD := rfl
theorem allD_nil : allD [] = some [] := rfl
def allX (x : Option D) (l : Option (List D)) : Option (List D) := match x, l with | some x, some l => some (x :: l) | _, _ => none
theorem allD_cons (x : V) (l : List V) : allD (x :: l) = allX x.toD (allD l) := rfl
theorem allX_ok (x : D) (l : List D) : allX (some x) (some l) = some (x :: l) := rfl
theorem allD_map (l : List D) : allD (l.map .d) = some l := by induction l <;> simp_all [allD, V.toD]
theorem one_int (k : IntKind) (i : Int) : (V.d (.int k i)).one = true := rfl
theorem one_bool (b : Bool) : (V.d (.bool b)).one = true := rfl
theorem one_str (s : List UInt8) : (V.d (.str s)).one = true := rfl
theorem one_sl (s : List (List D)) : (V.d (.sl s)).one = true := rfl
theorem one_nils : V.nils.one = true := rfl
theorem one_own (i : Nat) (es : List (List D)) : (V.own i es).one = true := rfl
theorem held_agg (cs : List V) : (V.agg cs).held = (allD cs).map .agg := rfl
theorem share_d (x : D) : (V.d x).share = .d x := rfl
theorem share_nils : V.nils.share = .d (.sl []) := rfl
theorem share_own (i : Nat) (es : List (List D)) : (V.own i es).share = .d (.sl es) := rfl
theorem share_ptr (b off : Nat) : (V.ptr b off).share = .ptr b off := rfl
theorem share_clo (f : FuncId) (cap : List V) : (V.clo f cap).share = .clo f cap := rfl
theorem share_agg (cs : List V) : (V.agg cs).share = .agg (V.share.shareL cs) := rfl
theorem share_tup (cs : List V) : (V.tup cs).share = .tup (V.share.shareL cs) := rfl
theorem shareL_nil : V.share.shareL [] = [] := rfl
theorem shareL_cons (x : V) (l : List V) : V.share.shareL (x :: l) = x.share :: V.share.shareL l := rfl
theorem shareL_map (l : List D) : V.share.shareL (l.map .d) = l.map .d := by induction l <;> simp_all [V.share.shareL, V.share]
def faX (f : Option (Nat × Nat × Bool)) (x : V) : Option V :=
 match f with
 | some (off, sz, _) => if sz = 0 then none else match x with
   | .ptr k o => some (.ptr k (o + off))
   | .ep cs o => some (.ep cs (o + off))
   | _ => none
 | none => none
theorem evalFieldAddr_eq (t : TypeId) (x : V) (f : Nat) : evalFieldAddr P t x f = faX (fld P t f) x := rfl
theorem faX_ptr (off sz k i : Nat) (b : Bool) : faX (some (off, sz, b)) (.ptr k i) = if sz = 0 then none else some (.ptr k (i + off)) := rfl
theorem faX_ep (off sz i : Nat) (b : Bool) (cs : List D) : faX (some (off, sz, b)) (.ep cs i) = if sz = 0 then none else some (.ep cs (i + off)) := rfl
theorem ix_slice {t e sz by_ : Nat} (h : slE P t = some (e, sz, by_)) {x : V} {es : List (List D)} (hx : x.toD = some (.sl es)) (k : IntKind) (i : Int) :
   evalIndexAddr P t x (.d (.int k i)) = if 0 ≤ i ∧ i.toNat < es.length ∧ rowsLen sz es = true then some (.ep (es.getD i.toNat []) 0) else none := by
 simp only [evalIndexAddr, hx, h]
 by_cases h0 : 0 ≤ i <;> simp [h0]
theorem evalExtract_tup (vs : List V) (i : Nat) : evalExtract (.tup vs) i = vs[i]? := rfl
theorem evalLen_str (t : TypeId) (s : List UInt8) : evalLen P t (.d (.str s)) = if isStr P t then some (.d (.int .i64 s.length)) else none := rfl
def lenX (s : Option (Nat × Nat × Nat)) (k : Nat) : Option V := match s with | some _ => some (.d (.int .i64 k)) | none => none
theorem evalLen_sl (t : TypeId) (es : List (List D)) : evalLen P t (.d (.sl es)) = lenX (slE P t) es.length := by simp only [evalLen, lenX, V.toD]; split <;> split <;> simp_all
theorem evalLen_nils (t : TypeId) : evalLen P t .nils = lenX (slE P t) 0 := by simp only [evalLen, lenX, V.toD]; split <;> split <;> simp_all
theorem evalLen_own (t i : Nat) (es : List (List D)) : evalLen P t (.own i es) = lenX (slE P t) es.length := by simp only [evalLen, lenX, V.toD]; split <;> split <;> simp_all
theorem lenX_some (q : Nat × Nat × Nat) (k : Nat) : lenX (some q) k = some (.d (.int .i64 k)) := rfl
variable (k : IntKind) (a b : Int) (t : TypeId)
theorem bin_add : evalBin P .add t (.d (.int k a)) (.d (.int k b)) = some (.d (.int k (k.wrap (a + b)))) := by simp [evalBin, binD]
theorem bin_sub : evalBin P .sub t (.d (.int k a)) (.d (.int k b)) = some (.d (.int k (k.wrap (a - b)))) := by simp [evalBin, binD]
theorem bin_mul : evalBin P .mul t (.d (.int k a)) (.d (.int k b)) = some (.d (.int k (k.wrap (a * b)))) := by simp [evalBin, binD]
theorem bin_quo : evalBin P .quo t (.d (.int k a)) (.d (.int k b)) = if b = 0 then none else some (.d (.int k (k.wrap (a.tdiv b)))) := by simp [evalBin, binD]; split <;> simp
theorem bin_rem : evalBin P .rem t (.d (.int k a)) (.d (.int k b)) = if b = 0 then none else some (.d (.int k (a.tmod b))) := by simp [evalBin, binD]; split <;> simp
theorem bin_eql : evalBin P .eql t (.d (.int k a)) (.d (.int k b)) = some (.d (.bool (a == b))) := by simp [evalBin, binD]
theorem bin_neq : evalBin P .neq t (.d (.int k a)) (.d (.int k b)) = some (.d (.bool (a != b))) := by simp [evalBin, binD]
theorem bin_lss : evalBin P .lss t (.d (.int k a)) (.d (.int k b)) = some (.d (.bool (decide (a < b)))) := by simp [evalBin, binD]
theorem bin_leq : evalBin P .leq t (.d (.int k a)) (.d (.int k b)) = some (.d (.bool (decide (a ≤ b)))) := by simp [evalBin, binD]
theorem bin_gtr : evalBin P .gtr t (.d (.int k a)) (.d (.int k b)) = some (.d (.bool (decide (a > b)))) := by simp [evalBin, binD]
theorem bin_geq : evalBin P .geq t (.d (.int k a)) (.d (.int k b)) = some (.d (.bool (decide (a ≥ b)))) := by simp [evalBin, binD]
variable (x y : List UInt8)
theorem bin_sadd : evalBin P .add t (.d (.str x)) (.d (.str y)) = if ((x.length + y.length : Nat) : Int) ≤ maxI then some (.d (.str (x ++ y))) else none := by simp only [evalBin, binD]; split <;> rfl
theorem bin_seql : evalBin P .eql t (.d (.str x)) (.d (.str y)) = some (.d (.bool (x == y))) := by simp [evalBin, binD]
theorem bin_sneq : evalBin P .neq t (.d (.str x)) (.d (.str y)) = some (.d (.bool (!(x == y)))) := by simp [evalBin, binD]
theorem bin_slss : evalBin P .lss t (.d (.str x)) (.d (.str y)) = some (.d (.bool (Op.bytesLess x y))) := by simp [evalBin, binD]
theorem bin_sgtr : evalBin P .gtr t (.d (.str x)) (.d (.str y)) = some (.d (.bool (!(Op.bytesLess x y || x == y)))) := by simp [evalBin, binD]
theorem bin_bneq (p q : Bool) : evalBin P .neq t (.d (.bool p)) (.d (.bool q)) = if isBool P t then some (.d (.bool (!(p == q)))) else none := by simp [evalBin]
theorem un_not (p : Bool) : evalUn .not (.d (.bool p)) = some (.d (.bool (!p))) := rfl
def convX (s d : Option IntKind) (a : Int) : Option V := match s, d with | some _, some k => some (.d (.int k (k.wrap a))) | _, _ => none
theorem conv_int (s u : TypeId) : evalConv P s u (.d (.int k a)) = convX (intK P s) (intK P u) a := rfl
theorem convX_ok (k k' : IntKind) : convX (some k) (some k') a = some (.d (.int k' (k'.wrap a))) := rfl
theorem conv_sl (s u : TypeId) (es : List (List D)) : evalConv P s u (.d (.sl es)) = if isBytes P s && isStr P u then (bytesOf es).map fun l => .d (.str l) else none := rfl
theorem bound_none (dflt : Nat) : bound fr dflt none = some dflt := rfl
def boundX : V → Option Nat | .d (.int _ n) => if 0 ≤ n then some n.toNat else none | _ => none
theorem bound_some (dflt : Nat) (z : Operand) : bound fr dflt (some z) = boundX (ev fr z) := by simp only [bound, boundX]; split <;> simp_all
def sliceS (b : Bool) (l h : Option Nat) (s : List UInt8) : Option V :=
 if b then match l, h with
   | some l, some h => if l ≤ h ∧ h ≤ s.length then some (.d (.str ((s.take h).drop l))) else none
   | _, _ => none
 else none
theorem evalSlice_str (lo hi : Option Operand) : evalSlice P t (.d (.str x)) fr lo hi = sliceS (isStr P t) (bound fr 0 lo) (bound fr x.length hi) x := rfl
def sliceL (s : Option (Nat × Nat × Nat)) (l h : Option Nat) (es : List (List D)) : Option V :=
 match s with
 | some (_, sz, _) => match l, h with
   | some l, some h => if l ≤ h ∧ h ≤ es.length ∧ rowsLen sz es = true then some (.d (.sl ((es.take h).drop l))) else none
   | _, _ => none
 | none => none
theorem evalSlice_sl (es : List (List D)) (lo hi : Option Operand) : evalSlice P t (.d (.sl es)) fr lo hi = sliceL (slE P t) (bound fr 0 lo) (bound fr es.length hi) es := by
 simp only [evalSlice, sliceL, V.toD]; cases slE P t <;> rfl
def rangeX (b : Bool) (s : List UInt8) (st : St) : Option (V × St) := if b then some (.ptr st.blks.length 0, ⟨st.blks ++ [.iter s 0], st.toks⟩) else none
theorem evalRange_str : evalRange P t (.d (.str x)) st = rangeX (isStr P t) x st := rfl
theorem rangeX_ok : rangeX true x st = some (.ptr st.blks.length 0, ⟨st.blks ++ [.iter x 0], st.toks⟩) := rfl
def nextX (B : Option Blk) (k : Nat) (st : St) : Option (V × St) := match B with
 | some (.iter s pos) =>
     if pos < s.length then
       some (.tup [.d (.bool true), .d (.int .i64 pos), .d (.int .i32 (Utf8.decode ⟨s.toArray⟩ pos).1)], ⟨st.blks.set k (.iter s (pos + (Utf8.decode ⟨s.toArray⟩ pos).2)), st.toks⟩)
     else some (.tup [.d (.bool false)], st)
 | _ => none
theorem evalNext_ptr (k : Nat) : evalNext (.ptr k 0) st = nextX st.blks[k]? k st := rfl
theorem nextX_iter (k pos : Nat) : nextX (some (.iter x pos)) k st = if pos < x.length then
       some (.tup [.d (.bool true), .d (.int .i64 pos), .d (.int .i32 (Utf8.decode ⟨x.toArray⟩ pos).1)], ⟨st.blks.set k (.iter x (pos + (Utf8.decode ⟨x.toArray⟩ pos).2)), st.toks⟩)
     else some (.tup [.d (.bool false)], st) := rfl
end
theorem splice_eq (l : List V) (off : Nat) (x : List V) : splice l off x = l.take off ++ (x ++ l.drop (off + x.length)) := by simp [splice]
attribute [go_sem] runL_nil askO_eq ask_none ask_nil ask_cons runL_cons runA_stop runA_enter runA_op runA_skip runV_some runS_ok goes_none goes_some goesD_some goesX_tt goesX_tf goesX_ft goesX_ff goesX_und upd_app putA_some putA_none dstOK_some dstOK_none entryFr_0 entryFr_1 entryFr_2 ent_move ent_assign ent_pick ent_alloc ent_box ent_build ent_buildSlice ent_load ent_store ent_nilCheck ent_binOp ent_unOp ent_convert ent_mkI ent_slice ent_fieldAddr ent_indexAddr ent_index ent_extract ent_range ent_next ent_assert ent_builtin ent_call ent_panic ev_tmp ev_int ev_bool ev_str ev_nils ev_nili ev_func eo_move eo_assign eo_pick pickX_true pickX_false pickX_and pickX_or eo_alloc allocX_f allocX_t eo_box pushX_some eo_build eo_buildSlice eo_load eo_store eo_nilCheck nilC_ptr eo_binOp binX_some binX_none bin_nz bin_nn nil_nz nil_nn nilX_eql isCst_c isCst_t eo_unOp eo_convert eo_mkI mkIX_ok eo_slice eo_fieldAddr eo_indexAddr eo_index eo_extract eo_range eo_next eo_assert eo_builtin eb_len eb_append eb_appS appS_ok eb_max evalMax_int evalLoad_eq loadX_ptr loadX_ep loadB_cells loadB_tc loadCs_one loadCs_agg loadDs_one loadDs_agg evalStore_eq storeX_ptr storeB_cells storeB_tc blk_at blk_at0 blk_set blk_set0 evalBuild_eq buildX_ok fillV_nil fillV_cons fillX_ok evalBuildSlice_eq buildSX_ok rowsOf_nil rowsOf_cons rowsX_ok cells_agg cells_int cells_bool cells_str cells_sl cells_own toD_d cellsD_eq allD_nil allD_cons allX_ok allD_map one_int one_bool one_str one_sl one_nils one_own held_agg share_d share_nils share_own share_ptr share_clo share_agg share_tup shareL_nil shareL_cons shareL_map evalFieldAddr_eq faX_ptr faX_ep evalExtract_tup evalLen_str evalLen_sl evalLen_nils evalLen_own lenX_some bin_add bin_sub bin_mul bin_lss bin_leq bin_gtr bin_geq bin_slss bin_sgtr bin_bneq un_not conv_int convX_ok conv_sl bound_none bound_some evalSlice_str evalSlice_sl evalRange_str rangeX_ok evalNext_ptr nextX_iter splice_eq
end Go.Abs
end
section
namespace Go.Abs
open Go.RowKit
section congr
variable {P : Program} {fr fr' : Fr}
theorem fillV_congr (t : TypeId) : ∀ (ps : List (Nat × Operand)) (cs : List V), (∀ p ∈ ps, ev fr p.2 = ev fr' p.2) → fillV P t fr cs ps = fillV P t fr' cs ps
 | [], _, _ => rfl
 | (i, x) :: r, cs, h => by
   have h1 : ev fr x = ev fr' x := h (i, x) (by simp)
   have h2 := fun cs => fillV_congr t r cs fun p hp => h p (by simp [hp])
   simp only [fillV, h1, h2]
theorem rowsOf_congr (sz : Nat) : ∀ (ps : List (Nat × Operand)) (i : Nat), (∀ p ∈ ps, ev fr p.2 = ev fr' p.2) → rowsOf sz fr i ps = rowsOf sz fr' i ps
 | [], _, _ => rfl
 | (j, x) :: r, i, h => by
   have h1 : ev fr x = ev fr' x := h (j, x) (by simp)
   have h2 := fun i => rowsOf_congr sz r i fun p hp => h p (by simp [hp])
   simp only [rowsOf, h1, h2]
theorem bound_congr (dflt : Nat) (o : Option Operand) (h : ∀ x ∈ o, ev fr x = ev fr' x) : bound fr dflt o = bound fr' dflt o := by
 cases o with
 | none => rfl
 | some x => simp only [bound, h x rfl]
theorem evalOp_congr (o : Oper) {st : St} (h : ∀ x ∈ o.op.operands, ev fr x = ev fr' x) : evalOp P o fr st = evalOp P o fr' st := by
 obtain ⟨dst, op, type, pos, after, guard⟩ := o
 cases op <;> simp only [Op.operands] at h <;> simp only [evalOp]
 case build t ps =>
   simp only [evalBuild, fillV_congr (P := P) (fr := fr) (fr' := fr') t ps.toList _ (fun p hp => h p.2 (by simp; exact ⟨p.1, by simpa using hp⟩))]
 case buildSlice t n ps =>
   simp only [evalBuildSlice, rowsOf_congr (fr := fr) (fr' := fr') _ ps.toList _ (fun p hp => h p.2 (by simp; exact ⟨p.1, by simpa using hp⟩))]
 case makeFunc fn first captured =>
   have : captured.toList.map (ev fr) = captured.toList.map (ev fr') := List.map_congr_left fun x hx => h x (by simp at hx; simp [hx])
   cases fn <;> simp only [this]
 case slice t x lo hi mx =>
   have hx := h x (by simp)
   have hlo := fun d => bound_congr (fr := fr) (fr' := fr') d lo fun y hy => h y (by simp at hy; simp [hy])
   have hhi := fun d => bound_congr (fr := fr) (fr' := fr') d hi fun y hy => h y (by simp at hy; simp [hy])
   cases mx <;> simp only [evalSlice, hx, hlo, hhi]
 case call c =>
   obtain ⟨callee, args, ats⟩ := c
   have : args.toList.map (ev fr) = args.toList.map (ev fr') := List.map_congr_left fun x hx => h x (by simp at hx; simp [Call.operands, hx])
   cases callee <;> simp only [this]
 case next x b => cases b <;> simp_all
 case pick c a b => simp only [h c (by simp), h a (by simp), h b (by simp)]
 all_goals (first | rfl | (simp_all; done))
end congr
def stQuiet : Op → Bool
 | .move _ | .assign _ | .pick .. | .build .. | .buildSlice .. | .nilCheck _ | .binOp .. | .unOp .. | .convert .. | .makeInterface .. | .makeFunc .. | .slice .. | .fieldAddr .. | .field .. | .indexAddr .. | .index .. | .extract .. | .typeAssert .. => true
 | .call { callee := .builtin .len, .. } | .call { callee := .builtin .max, .. } | .call { callee := .builtin .min, .. } => true
 | _ => false
theorem map_pair {α β : Type} {o : Option α} {s s' : β} {v : α} (h : o.map (·, s) = some (v, s')) : s' = s ∧ o = some v := by
 cases o <;> simp_all
theorem evalOp_quiet {P : Program} {o : Oper} {fr : Fr} {st st' : St} {v : V} (hq : stQuiet o.op = true) (h : evalOp P o fr st = some (v, st')) :
   st' = st ∧ ∀ st1, evalOp P o fr st1 = some (v, st1) := by
 obtain ⟨dst, op, type, pos, after, guard⟩ := o
 cases op <;> simp only [stQuiet, Bool.false_eq_true] at hq <;> simp only [evalOp] at h ⊢
 case call c =>
   obtain ⟨callee, args, ats⟩ := c
   cases callee with
   | builtin b =>
     cases b <;> simp at hq <;> simp only [evalBuiltin] at h ⊢ <;>
     · split at h <;> first
         | (obtain ⟨rfl, h2⟩ := map_pair h; exact ⟨rfl, fun st1 => by simp_all⟩)
         | simp_all
   | _ => simp at hq
 case nilCheck x => split at h <;> simp_all
 case pick a b c => split at h <;> simp_all
 case makeFunc fn first captured => cases fn <;> simp_all
 case slice t x lo hi mx =>
   cases mx with
   | none => obtain ⟨rfl, h2⟩ := map_pair h; exact ⟨rfl, fun st1 => by simp only []; rw [h2]; rfl⟩
   | some z => simp at h
 case binOp op t x y u =>
   rw [binX_or] at h
   obtain ⟨rfl, h2⟩ := map_pair h
   exact ⟨rfl, fun st1 => by rw [binX_or, h2]; rfl⟩
 case makeInterface t x =>
   split at h <;> simp_all
   obtain ⟨y, h1, h2⟩ := h
   simp_all
 all_goals first
   | (obtain ⟨rfl, h2⟩ := map_pair h; exact ⟨rfl, fun st1 => by rw [h2]; rfl⟩)
   | (simp_all; done)
section
variable {P : Program} {G : World → Nat → Prop} {n : NDs}
inductive StepOK (P : Program) (G : World → Nat → Prop) (n : NDs) (all : Array Oper) (o : Oper) (fr : Fr) (st : St) : V → St → Prop
 | op (v : V) (st' : St) : goes all o fr = some true → evalOp P o fr st = some (v, st') → dstOK n o.dst = true → StepOK P G n all o fr st v st'
 | skip : goes all o fr = some false → dstOK n o.dst = true → StepOK P G n all o fr st (.tup []) st
 | call (v : V) (st' : St) (g : FuncId) (cap : List V) (x : Operand) (args : Array Operand) (ats : Array TypeId) : goes all o fr = some true →
     o.op = .call { callee := .value x, args := args, argTypes := ats } → ev fr x = .clo g cap → (∀ args w, (callFunc g args).run P w = .ok (.enter g args) w) → dstOK n o.dst = true →
     Acalls P G g (args.toList.map (fun o => (ev fr o).share) ++ cap) st (fun q s => q = .ret v ∧ s = st') → StepOK P G n all o fr st v st'
theorem goes_congr {all : Array Oper} {o : Oper} {fr fr' : Fr} (h : ∀ t ∈ o.looksAt all, fr t = fr' t) : goes all o fr = goes all o fr' := by
 unfold goes
 cases hg : o.guard with
 | none => rfl
 | some p =>
   obtain ⟨j, b⟩ := p
   simp only
   cases hd : (all[j]?).bind (·.dst) with
   | none => rfl
   | some d =>
     have : fr d = fr' d := h d (by simp [Oper.looksAt, hg, hd])
     simp only [this]
theorem ev_congr {all : Array Oper} {o : Oper} {fr fr' : Fr} (h : ∀ t ∈ o.looksAt all, fr t = fr' t) : ∀ x ∈ o.op.operands, ev fr x = ev fr' x := by
 intro x hx
 cases x with
 | tmp t => exact h t (by unfold Oper.looksAt; exact List.mem_append_left _ (List.mem_filterMap.2 ⟨.tmp t, by simpa using hx, rfl⟩))
 | _ => rfl
theorem StepOK.congr {all : Array Oper} {o : Oper} {fr fr' : Fr} {st st' : St} {v : V} (hs : StepOK P G n all o fr st v st') (h : ∀ t ∈ o.looksAt all, fr t = fr' t) : StepOK P G n all o fr' st v st' := by
 have hg := goes_congr h
 have he := ev_congr h
 cases hs with
 | op _ _ h1 h2 h3 => exact .op _ _ (hg ▸ h1) (by rw [← evalOp_congr o he]; exact h2) h3
 | skip h1 h2 => exact .skip (hg ▸ h1) h2
 | call _ _ g cap x args ats h1 h2 h3 h4 h5 h6 =>
   have hx := he x (by rw [h2]; simp [Op.operands, Call.operands])
   have ha : args.toList.map (fun o => (ev fr o).share) = args.toList.map (fun o => (ev fr' o).share) := List.map_congr_left fun y hy => by
     rw [he y (by rw [h2]; simp at hy; simp [Op.operands, Call.operands, hy])]
   exact .call _ _ g cap x args ats (hg ▸ h1) h2 (hx ▸ h3) h4 h5 (ha ▸ h6)
theorem StepOK.quiet {all : Array Oper} {o : Oper} {fr : Fr} {st st' : St} {v : V} (hs : StepOK P G n all o fr st v st') (hq : stQuiet o.op = true) : st' = st ∧ ∀ st1, StepOK P G n all o fr st1 v st1 := by
 cases hs with
 | op _ _ h1 h2 h3 =>
   obtain ⟨h4, h5⟩ := evalOp_quiet hq h2
   exact ⟨h4, fun st1 => .op _ _ h1 (h5 st1) h3⟩
 | skip h1 h2 => exact ⟨rfl, fun st1 => .skip h1 h2⟩
 | call _ _ g cap x args ats h1 h2 h3 h4 h5 h6 => rw [h2] at hq; simp [stQuiet] at hq
theorem call_args {c : Ctx} {a : Act} {fr : Fr} {args : Array Operand} {arr : Array Value} {cap : List V} (hf : FrRel c a.tmps fr) (hcr : ∀ i, i < cap.length → Rel c (arr.getD i undef) (cap.getD i .junk)) :
   ∀ i, i < (args.toList.map (fun o => (ev fr o).share) ++ cap).length → Rel c ((args.map a.eval ++ arr).getD i undef) ((args.toList.map (fun o => (ev fr o).share) ++ cap).getD i .junk) := by
 intro i hi
 simp only [List.length_append, List.length_map, Array.length_toList] at hi
 by_cases hlt : i < args.size
 · rw [show (args.map a.eval ++ arr).getD i undef = a.eval args[i] by
     simp [Array.getD_eq_getD_getElem?, Array.getElem?_append, hlt]]
   rw [show (args.toList.map (fun o => (ev fr o).share) ++ cap).getD i .junk = (ev fr args[i]).share by
     simp [List.getD_eq_getElem?_getD, List.getElem?_append, hlt]]
   exact (ev_rel hf _).share
 · rw [show (args.map a.eval ++ arr).getD i undef = arr.getD (i - args.size) undef by
     simp [Array.getD_eq_getD_getElem?, Array.getElem?_append, hlt]]
   rw [show (args.toList.map (fun o => (ev fr o).share) ++ cap).getD i .junk = cap.getD (i - args.size) .junk by
     simp [List.getD_eq_getElem?_getD, List.getElem?_append, hlt]]
   exact hcr _ (by omega)
theorem wpOp_of_step {ops : Array Oper} {Q : Exit → Act → World → Prop} {i : Nat} {o : Oper} (ho : ops[i]? = some o) {c : Ctx} {a : Act} {w : World} {fr : Fr} {st st' : St} {v : V} {K : Act → World → Prop}
   (hc : Conf c w st) (hG : G c.w0 c.base) (hf : FrRel c a.tmps fr) (hs : a.tmps.size = n.sz) (hdf : a.defers = n.ds) (h : StepOK P G n ops o fr st v st')
   (hK : ∀ c' a' w', Ext c c' → Conf c' w' st' → FrRel c' a'.tmps (putA fr o.dst v) → a'.tmps.size = n.sz → a'.defers = n.ds → K a' w') : wpOp P ops Q i K a w := by
 unfold wpOp
 simp only [ho]
 cases h with
 | op _ _ hg he hd =>
   obtain ⟨cv, w', c', hr, hv, hc', hext⟩ := evalOp_sound (P := P) hc o hf he
   rw [if_pos (goes_wanted hf hg)]
   refine .inl ?_
   have hk : K (a.put o.dst cv) w' := hK c' _ w' hext hc' ((hf.mono hext).putA hs hd hv) ((put_size _ _ _).trans hs) ((put_defers _ _ _).trans hdf)
   unfold Oper.wp
   rcases hr with hr | ⟨hr, rfl⟩ <;> rw [hr] <;> exact hk
 | skip hg hd =>
   rw [if_neg (by rw [goes_wanted hf hg]; simp)]
   exact hK c _ w (Ext.refl c) hc (hf.putA hs hd .und) ((put_size _ _ _).trans hs) ((put_defers _ _ _).trans hdf)
 | call _ _ g cap x args ats hg ho2 hx hcall hd hA =>
   obtain ⟨dst, op, type, pos, after, guard⟩ := o
   simp only at ho2
   subst ho2
   have hxr := ev_rel hf x
   rw [hx] at hxr
   generalize hq : a.eval x = q at hxr
   cases hxr with | clo _ arr _ hcs hcr => ?_
   rw [if_pos (goes_wanted hf hg)]
   refine .inl ?_
   unfold Oper.wp
   have hexec : (execOp a.eval { dst := dst, op := .call { callee := .value x, args := args, argTypes := ats }, type := type, pos := pos, after := after, guard := guard }).run P w = .ok (.enter g (args.map a.eval ++ arr)) w := by
     simp only [execOp, resolve, hq, Deferred.ofValue, Sem.run_bind, Sem.run_pure, Result.andThen_ok, invoke, hcall]
     simp
   rw [hexec, Oper.upon_enter]
   refine (hA c w (args.map a.eval ++ arr) hc hG (by simp [hcs]) (call_args hf hcr)).mono ?_
   rintro e w' ⟨out, s1, c', ⟨rfl, rfl⟩, hext, hc', hend⟩
   cases e <;> simp only [EndRel] at hend
   exact hK c' _ w' hext hc' ((hf.mono hext).putA hs hd hend) ((put_size _ _ _).trans hs) ((put_defers _ _ _).trans hdf)
end
end Go.Abs
end
