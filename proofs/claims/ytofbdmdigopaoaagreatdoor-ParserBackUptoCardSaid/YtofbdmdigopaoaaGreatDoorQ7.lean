/- A step of the proofs of the seat's theorems. -/
import Derived.Test.YtofbdmdigopaoaaGreatDoorQ6
set_option linter.unusedSimpArgs false
set_option linter.unusedVariables false
section
namespace Go.Abs
open Go.RowKit
variable {P : Program} {c : Ctx} {w : World} {st : St}
theorem szOf_info {t : TypeId} {n : Nat} (h : szOf P t = some n) : ∃ i, P.info? t = some i ∧ i.size = n := by
 unfold szOf at h
 cases hi : P.info? t with
 | none => simp [hi] at h
 | some i => exact ⟨i, rfl, by simpa [hi] using h⟩
theorem run_sizeOf' {t : TypeId} {n : Nat} (h : szOf P t = some n) (w : World) : (sizeOf t).run P w = .ok n w := by
 obtain ⟨i, hi, hs⟩ := szOf_info h
 simp [sizeOf, typeInfo, hi, hs]
theorem run_isAgg' {t : TypeId} {b : Bool} (h : isAggB P t = some b) (w : World) : (isAgg t).run P w = .ok b w := by
 unfold isAggB at h
 cases hd : P.underlying t with
 | none => simp [hd] at h
 | some d =>
   rw [hd] at h
   simp only [isAgg, Sem.run_bind, run_underlying hd, Result.andThen_ok]
   cases d <;> simp_all
theorem run_zero' {t : TypeId} {z : Value} (h : zeroOf P t = some z) (w : World) : (zeroValue t).run P w = .ok z w := by
 unfold zeroOf at h
 cases hi : P.info? t with
 | none => simp [hi] at h
 | some i =>
   rw [hi] at h
   simp only [Option.bind_some] at h
   simp [zeroValue, typeInfo, hi, h]
theorem isStr_eq {t : TypeId} (h : isStr P t = true) : P.underlying t = some .string := by
 unfold isStr at h
 split at h <;> simp_all
theorem isBool_eq {t : TypeId} (h : isBool P t = true) : P.underlying t = some .bool := by
 unfold isBool at h
 split at h <;> simp_all
theorem intK_eq {t : TypeId} {k : IntKind} (h : intK P t = some k) : P.underlying t = some (.int k) := by
 unfold intK at h
 split at h <;> simp_all
theorem slE_eq {t e : TypeId} {sz by_ : Nat} (h : slE P t = some (e, sz, by_)) : P.underlying t = some (.slice e) ∧ ∃ i, P.info? e = some i ∧ i.size = sz ∧ i.bytes = by_ := by
 unfold slE at h
 split at h
 · rename_i e' he
   cases hi : P.info? e' with
   | none => simp [hi] at h
   | some i =>
     rw [hi] at h
     simp at h
     obtain ⟨rfl, rfl, rfl⟩ := h
     exact ⟨he, i, hi, rfl, rfl⟩
 · simp at h
theorem elem_eq {t e : TypeId} (h : P.underlying t = some (.slice e)) : P.underlying t = some (.slice (P.elem t)) := by
 simp [Program.elem, h]
theorem toList_eq (s : ByteArray) : s.toList = s.data.toList := ByteArray.toList_eq s
theorem run_eqGuard (op : BinOp) (t : TypeId) (xo yo : Operand) (x y : Value) (h1 : x.oneCell' = true) (h2 : x ≠ .nilIface) (w : World) :
   (eqGuard op t xo yo x y).run P w = .ok () w := by
 unfold eqGuard
 cases x <;> cases op <;> cases y <;> simp_all [Value.oneCell']
theorem binD_sound (op : BinOp) (t : TypeId) {x y : Value} {a b r : D} (hx : RelD c.H x a) (hy : RelD c.H y b) (h : binD op a b = some r) :
   x.oneCell' = true ∧ x ≠ .nilIface ∧ ∃ cv, (binOp op t x y).run P w = .ok cv w ∧ RelD c.H cv r := by
 cases hx <;> cases hy <;> simp only [binD, reduceCtorEq] at h
 case int.int k n k' m =>
   refine ⟨rfl, by simp, ?_⟩
   split at h
   · rename_i hk
     subst hk
     cases op <;> simp only [Option.some.injEq, reduceCtorEq] at h
     case add => subst h; exact ⟨_, by simp [binOp, Op.intArith], .int _ _⟩
     case sub => subst h; exact ⟨_, by simp [binOp, Op.intArith], .int _ _⟩
     case mul => subst h; exact ⟨_, by simp [binOp, Op.intArith], .int _ _⟩
     case quo => split at h <;> simp only [Option.some.injEq, reduceCtorEq] at h; subst h; exact ⟨_, by simp [binOp, Op.intDiv, *], .int _ _⟩
     case rem => split at h <;> simp only [Option.some.injEq, reduceCtorEq] at h; subst h; exact ⟨_, by simp [binOp, Op.intDiv, *], .int _ _⟩
     case eql => subst h; exact ⟨_, by simp [binOp, Op.intCmp], .bool _⟩
     case neq => subst h; exact ⟨_, by simp [binOp, Op.intCmp], .bool _⟩
     case lss => subst h; exact ⟨_, by simp [binOp, Op.intCmp], .bool _⟩
     case leq => subst h; exact ⟨_, by simp [binOp, Op.intCmp], .bool _⟩
     case gtr => subst h; exact ⟨_, by simp [binOp, Op.intCmp], .bool _⟩
     case geq => subst h; exact ⟨_, by simp [binOp, Op.intCmp], .bool _⟩
   · simp at h
 case str.str s l hl s' l' hl' =>
   refine ⟨rfl, by simp, ?_⟩
   subst hl
   subst hl'
   cases op <;> simp only [Option.some.injEq, reduceCtorEq] at h
   case add =>
     split at h <;> simp only [Option.some.injEq, reduceCtorEq] at h
     rename_i hle
     subst h
     have h' : s.size + s'.size ≤ 9223372036854775807 := by
       simp only [maxI, Array.length_toList] at hle
       have e1 : s.data.size = s.size := rfl
       have e2 : s'.data.size = s'.size := rfl
       omega
     refine ⟨.string (s ++ s'), ?_, .str _ _ (by simp)⟩
     have := run_string_add_sum (P := P) w s s' h'
     simpa [binOp] using this
   all_goals
     subst h
     refine ⟨_, ?_, .bool _⟩
     simp only [binOp, Op.stringOp, toList_eq]
     first | rfl | simp
theorem evalBin_sound (op : BinOp) (t : TypeId) (xo yo : Operand) {x y : Value} {X Y Z : V} (hx : Rel c x X) (hy : Rel c y Y) (h : evalBin P op t X Y = some Z) :
   ∃ cv, (do eqGuard op t xo yo x y; binOp op t x y : Sem Value).run P w = .ok cv w ∧ Rel c cv Z := by
 unfold evalBin at h
 split at h
 · rename_i a b
   cases hx with | d _ _ hx => ?_
   cases hy with | d _ _ hy => ?_
   cases hx
   cases hy
   split at h
   · rename_i hb
     have hu := isBool_eq hb
     split at h <;> simp only [Option.some.injEq, reduceCtorEq] at h <;> subst h
     · refine ⟨.bool (a == b), ?_, .d _ _ (.bool _)⟩
       simp only [Sem.run_bind, run_eqGuard (P := P) _ t xo yo (.bool a) _ rfl (by simp), Result.andThen_ok, run_eql_bool (P := P) w t a b hu]
     · refine ⟨.bool (!(a == b)), ?_, .d _ _ (.bool _)⟩
       simp only [Sem.run_bind, run_eqGuard (P := P) _ t xo yo (.bool a) _ rfl (by simp), Result.andThen_ok, run_neq_bool (P := P) w t a b hu]
   · simp at h
 · rename_i a b _
   cases hx with | d _ _ hx => ?_
   cases hy with | d _ _ hy => ?_
   cases hr : binD op a b with
   | none => simp [hr] at h
   | some r =>
     rw [hr] at h
     simp only [Option.map_some, Option.some.injEq] at h
     subst h
     obtain ⟨h1, h2, cv, h3, h4⟩ := binD_sound (P := P) (w := w) op t hx hy hr
     exact ⟨cv, by simp only [Sem.run_bind, run_eqGuard (P := P) _ t xo yo _ _ h1 h2, Result.andThen_ok, h3], .d _ _ h4⟩
 · simp at h
theorem isIface_t {t : TypeId} (h : isIface P t = some true) : P.underlying t = some (.interface (P.methodsAt t)) := by
 unfold isIface at h
 unfold Program.methodsAt
 cases hu : P.underlying t with
 | none => simp [hu] at h
 | some d => cases d <;> simp_all
theorem evalNil_sound (op : BinOp) (t : TypeId) (xo yo : Operand) {x y : Value} {X Y Z : V} (hx : Rel c x X) (hy : Rel c y Y) (h : evalNil P op t (isCst xo || isCst yo) X Y = some Z) :
   ∃ cv, (do eqGuard op t xo yo x y; binOp op t x y : Sem Value).run P w = .ok cv w ∧ Rel c cv Z := by
 unfold evalNil at h
 split at h
 · cases hx with | d _ _ hx => ?_
   cases hy with | d _ _ hy => ?_
   cases hx with | nz u v => ?_
   cases hy
   unfold nilX at h
   split at h
   · rename_i hi
     have hu := isIface_t hi
     simp only [if_true] at h
     split at h <;> simp only [Option.some.injEq, reduceCtorEq] at h <;> subst h
     · exact ⟨_, by simp only [Sem.run_bind, run_eqGuard (P := P) _ t xo yo (.iface u v) _ rfl (by simp), Result.andThen_ok, run_eql_held_nil (P := P) w t u v hu], .d _ _ (.bool _)⟩
     · exact ⟨.bool true, by simp only [Sem.run_bind, run_eqGuard (P := P) _ t xo yo (.iface u v) _ rfl (by simp), Result.andThen_ok, run_neq_held_nil (P := P) w t u v hu], .d _ _ (.bool true)⟩
   · simp at h
 · cases hx with | d _ _ hx => ?_
   cases hy with | d _ _ hy => ?_
   cases hx
   cases hy
   unfold nilX at h
   split at h
   · rename_i hi
     have hu := isIface_t hi
     split at h
     · rename_i hk
       have hg : ∀ op, (eqGuard op t xo yo .nilIface .nilIface).run P w = .ok () w := by
         intro op
         unfold eqGuard
         cases xo <;> cases yo <;> cases op <;> simp_all [isCst]
       split at h <;> simp only [Option.some.injEq, reduceCtorEq] at h <;> subst h
       · exact ⟨_, by simp only [Sem.run_bind, hg, Result.andThen_ok, run_eql_nil_nil (P := P) w t hu], .d _ _ (.bool _)⟩
       · exact ⟨.bool false, by simp only [Sem.run_bind, hg, Result.andThen_ok, run_neq_nil_nil (P := P) w t hu], .d _ _ (.bool false)⟩
     · simp at h
   · simp at h
 · simp at h
theorem evalBN_sound (op : BinOp) (t : TypeId) (xo yo : Operand) {x y : Value} {X Y Z : V} (hx : Rel c x X) (hy : Rel c y Y) (h : (evalBin P op t X Y).or (evalNil P op t (isCst xo || isCst yo) X Y) = some Z) :
   ∃ cv, (do eqGuard op t xo yo x y; binOp op t x y : Sem Value).run P w = .ok cv w ∧ Rel c cv Z := by
 cases hb : evalBin P op t X Y with
 | some z => rw [hb] at h; simp only [Option.some_or, Option.some.injEq] at h; subst h; exact evalBin_sound op t xo yo hx hy hb
 | none => rw [hb] at h; simp only [Option.none_or] at h; exact evalNil_sound op t xo yo hx hy h
theorem binX_or (a b : Option V) (st : St) : binX a b st = (a.or b).map (·, st) := by cases a <;> rfl
theorem evalUn_sound (op : UnOp) {x : Value} {X Z : V} (hx : Rel c x X) (h : evalUn op X = some Z) : ∃ cv, (Op.unary op x).run P w = .ok cv w ∧ Rel c cv Z := by
 unfold evalUn at h
 split at h <;> simp only [Option.some.injEq, reduceCtorEq] at h <;> subst h
 · cases hx with | d _ _ hx => ?_
   cases hx
   exact ⟨_, rfl, .d _ _ (.bool _)⟩
 · cases hx with | d _ _ hx => ?_
   cases hx
   exact ⟨_, rfl, .d _ _ (.int _ _)⟩
theorem bytes_run {H : GH} (hs : ∀ k o v, H k o = some v → w.cell? ⟨k, o, none⟩ = some v) {v : Value} {es : List (List D)} {l : List UInt8} (r : RelD H v (.sl es)) (hb : bytesOf es = some l) :
   ∃ s, (Conv.bytesToString v).run P w = .ok (.string s) w ∧ s.data.toList = l := by
 cases r with
 | slnil =>
   simp only [bytesOf, Option.some.injEq] at hb
   subst hb
   exact ⟨.empty, rfl, rfl⟩
 | sl0 a =>
   simp only [bytesOf, Option.some.injEq] at hb
   subst hb
   exact ⟨.empty, rfl, rfl⟩
 | sl k off n cap sz vs es h1 h2 h3 h4 h5 =>
   have key : ∀ (es : List (List D)) (l : List UInt8), bytesOf es = some l → ∃ ns : List Int, es = ns.map (fun n => [D.int .u8 n]) ∧ l = ns.map (fun n => UInt8.ofNat n.toNat) := by
     intro es
     induction es with
     | nil => intro l h; simp only [bytesOf, Option.some.injEq] at h; exact ⟨[], rfl, h.symm⟩
     | cons r rs ih =>
       intro l h
       simp only [bytesOf] at h
       split at h <;> simp only [Option.some.injEq, reduceCtorEq] at h
       rename_i b l' hb hl
       obtain ⟨ns, e1, e2⟩ := ih l' hl
       unfold byteOf at hb
       split at hb <;> simp only [Option.some.injEq, reduceCtorEq] at hb
       rename_i n
       exact ⟨n :: ns, by simp [e1], by simp [← h, ← hb, e2]⟩
   obtain ⟨ns, e1, e2⟩ := key es l hb
   subst e1
   simp only [List.length_map] at h1
   have hcell : ∀ j v, (ns.map (Value.int .u8))[j]? = some v → w.cell? ((⟨k, off, none⟩ : Addr).add j) = some v := by
     intro j v hv
     have hj : j < ns.length := by
       have := (List.getElem?_eq_some_iff.1 hv).1
       simpa using this
     have hsz : sz = 1 := by
       have := h3 [D.int .u8 ns[0]] (List.mem_map.2 ⟨ns[0], List.getElem_mem _, rfl⟩)
       simpa using this.symm
     subst hsz
     have ha := hs _ _ _ (h4 j 0 (by omega) (by omega))
     have hr := h5 j 0 (by omega) (by omega)
     simp only [List.getD_eq_getElem?_getD, List.getElem?_map, List.getElem?_eq_getElem hj, Option.map_some, Option.getD_some, List.getElem?_cons_zero] at hr
     simp only [List.getElem?_map, List.getElem?_eq_getElem hj, Option.map_some, Option.some.injEq] at hv
     have hadd : (⟨k, off, none⟩ : Addr).add j = ⟨k, off + j * 1 + 0, none⟩ := by unfold Addr.add; split <;> simp_all
     rw [hadd, ha, ← hv]
     generalize vs j 0 = q at hr
     cases hr
     rfl
   have hl := run_loadCells_list (P := P) w ⟨k, off, none⟩ (ns.map (Value.int .u8)) hcell
   simp only [List.length_map, h1] at hl
   refine ⟨_, run_bytesToString (P := P) w _ n cap ns hl, ?_⟩
   rw [e2]
   have fold : ∀ (ns : List Int) (s : ByteArray), (ns.foldl (fun r n => r.push (UInt8.ofNat n.toNat)) s).data.toList = s.data.toList ++ ns.map (fun n => UInt8.ofNat n.toNat) := by
     intro ns
     induction ns with
     | nil => intro s; simp
     | cons n ns ih => intro s; simp only [List.foldl_cons, ih]; simp [ByteArray.push]
   rw [fold]
   simp
theorem isBytes_eq {t : TypeId} (h : isBytes P t = true) : ∃ e, P.underlying t = some (.slice e) ∧ P.underlying e = some (.int .u8) := by
 unfold isBytes at h
 split at h
 · rename_i e he
   split at h
   · rename_i hu; exact ⟨e, he, hu⟩
   · simp at h
 · simp at h
theorem evalConv_sound (hc : Conf c w st) (src dst : TypeId) {x : Value} {X Z : V} (hx : Rel c x X) (h : evalConv P src dst X = some Z) :
   ∃ cv, (convert src dst x).run P w = .ok cv w ∧ Rel c cv Z := by
 unfold evalConv at h
 split at h
 · cases hx with | d _ _ hx => ?_
   cases hx
   rename_i k n
   split at h <;> simp only [Option.some.injEq, reduceCtorEq] at h
   rename_i ks k' hs hd
   subst h
   refine ⟨.int k' (k'.wrap n), ?_, .d _ _ (.int _ _)⟩
   have hs' := intK_eq hs
   have hd' := intK_eq hd
   simp [convert, run_underlying hs', run_underlying hd', Conv.intToInt]
 · cases hx with | d _ _ hx => ?_
   cases hx with | str s l e => ?_
   split at h <;> simp only [Option.some.injEq, reduceCtorEq] at h
   rename_i hsd
   simp only [Bool.and_eq_true] at hsd
   subst h
   refine ⟨.string s, ?_, .d _ _ (.str s _ e)⟩
   have hs' := isStr_eq hsd.1
   have hd' := isStr_eq hsd.2
   simp [convert, run_underlying hs', run_underlying hd']
 · split at h
   · rename_i es he
     split at h
     · rename_i hb
       simp only [Bool.and_eq_true] at hb
       obtain ⟨e, h1, h2⟩ := isBytes_eq hb.1
       have h3 := isStr_eq hb.2
       cases hl : bytesOf es with
       | none => simp [hl] at h
       | some l =>
         rw [hl] at h
         simp only [Option.map_some, Option.some.injEq] at h
         subst h
         have r := hx.toD he
         obtain ⟨s, hr, hs⟩ := bytes_run (P := P) (w := w) hc.sealed r hl
         refine ⟨.string s, ?_, .d _ _ (.str s l hs)⟩
         have : ∃ a n k, x = .slice a n k := by cases r <;> exact ⟨_, _, _, rfl⟩
         obtain ⟨a, n, k, rfl⟩ := this
         rw [run_convert_bytes_string (P := P) w src dst e a n k h1 h2 h3]
         exact hr
     · simp at h
   · simp at h
end Go.Abs
end
section
namespace Go.Abs
open Go.RowKit
variable {P : Program} {c : Ctx} {w : World} {st : St}
theorem addr_add (k off j : Nat) : (⟨k, off, none⟩ : Addr).add j = ⟨k, off + j, none⟩ := by unfold Addr.add; split <;> simp_all
theorem run_loadVar_agg {t : TypeId} {sz : Nat} (hb : isAggB P t = some true) (hz : szOf P t = some sz) (k off : Nat) (f : Nat → Value) (h : ∀ j, j < sz → w.cell? ⟨k, off + j, none⟩ = some (f j)) :
   (loadVar t ⟨k, off, none⟩).run P w = .ok (.agg ((List.range sz).map f).toArray) w := by
 have hl := run_loadCells (P := P) w ⟨k, off, none⟩ sz f (fun j hj => by rw [addr_add]; exact h j hj)
 simp only [loadVar, Sem.run_bind, run_isAgg' hb, Result.andThen_ok, if_true, run_sizeOf' hz, hl, Sem.run_pure]
theorem run_loadVar_one {t : TypeId} (hb : isAggB P t = some false) (a : Addr) (v : Value) (h : w.cell? a = some v) : (loadVar t a).run P w = .ok v w := by
 simp [loadVar, run_isAgg' hb, h]
theorem rangeMap_getD (n : Nat) (f : Nat → Value) (i : Nat) (hi : i < n) : ((List.range n).map f).toArray.getD i undef = f i := by
 simp [Array.getD_eq_getD_getElem?, hi]
theorem Conf.rowAt (hc : Conf c w st) {b k : Nat} {B : Blk} {cs : List V} (hk : c.mu[b]? = some k) (hB : st.blks[b]? = some B) (hrow : B.row = some cs) :
   ∃ arr elem, w.heap[k]? = some (.cells arr elem (0, 0)) ∧ arr.size = cs.length ∧ (∀ i, i < cs.length → Rel c (arr.getD i undef) (cs.getD i .junk)) ∧ (∀ e cs', B = .tc e cs' → elem = e) := by
 obtain ⟨o, ho, hr⟩ := hc.blk b k _ hk hB
 cases hr with
 | cells arr elem cs' hs hr => simp only [Blk.row, Option.some.injEq] at hrow; subst hrow; exact ⟨arr, elem, ho, hs, hr, fun e cs' h => by cases h⟩
 | tc arr elem cs' hs hr => simp only [Blk.row, Option.some.injEq] at hrow; subst hrow; exact ⟨arr, elem, ho, hs, hr, fun e cs' h => by cases h; rfl⟩
 | iter s l pos e => simp [Blk.row] at hrow
theorem drop_take_getD {α : Type} (l : List α) (off sz i : Nat) (d : α) (hi : i < sz) : ((l.drop off).take sz).getD i d = l.getD (off + i) d := by
 simp [List.getD_eq_getElem?_getD, hi, List.getElem?_drop]
theorem run_loadAt (t : TypeId) (a : Addr) (w : World) : (Instr.loadAt t (.pointer (some a))).run P w = (loadVar t a).run P w := by
 simp only [Instr.loadAt, Instr.sureAddr, Sem.run_bind, Sem.run_pure, Result.andThen_ok]
theorem evalLoad_sound (hc : Conf c w st) (t : TypeId) {av : Value} {A Z : V} (ha : Rel c av A) (h : evalLoad P t A st = some Z) :
   ∃ cv, (Instr.loadAt t av).run P w = .ok cv w ∧ Rel c cv Z := by
 unfold evalLoad at h
 split at h
 case h_2 => simp at h
 rename_i b sz hb hz
 split at h
 · rename_i k off
   split at h
   case h_2 => simp at h
   rename_i cs hBr
   obtain ⟨B, hB, hrow⟩ := Option.bind_eq_some_iff.1 hBr
   cases ha with | ptr _ kk _ hk => ?_
   obtain ⟨arr, elem, hh, hs, hr, _⟩ := hc.rowAt hk hB hrow
   have hcell : ∀ j, j < cs.length → w.cell? ⟨kk, j, none⟩ = some (arr.getD j undef) := by
     intro j hj
     simp [World.cell?, hh, Array.getD_eq_getD_getElem?, hs ▸ hj]
   unfold loadCs at h
   split at h
   · rename_i hbt
     subst hbt
     split at h <;> simp only [Option.some.injEq, reduceCtorEq] at h
     rename_i hle
     subst h
     refine ⟨_, (run_loadAt t _ w).trans (run_loadVar_agg hb hz kk off (fun j => arr.getD (off + j) undef) (fun j hj => hcell _ (by omega))), ?_⟩
     · refine .agg _ _ (by simp; omega) fun i hi => ?_
       simp only [List.length_take, List.length_drop] at hi
       rw [rangeMap_getD _ _ _ (by omega), drop_take_getD _ _ _ _ _ (by omega)]
       exact hr _ (by omega)
   · rename_i hbt
     have hbt' : b = false := by simpa using hbt
     subst hbt'
     have hlt : off < cs.length := (List.getElem?_eq_some_iff.1 h).1
     refine ⟨_, (run_loadAt t _ w).trans (run_loadVar_one hb _ _ (hcell off hlt)), ?_⟩
     · have := hr off hlt
       rwa [show cs.getD off .junk = Z by simp [List.getD_eq_getElem?_getD, h]] at this
 · rename_i cs off
   cases ha with | ep kk base _ vs _ h1 h2 => ?_
   have hcell : ∀ j, j < cs.length → w.cell? ⟨kk, base + j, none⟩ = some (vs j) := fun j hj => hc.sealed _ _ _ (h1 j hj)
   unfold loadDs at h
   split at h
   · rename_i hbt
     subst hbt
     split at h <;> simp only [Option.some.injEq, reduceCtorEq] at h
     rename_i hle
     subst h
     refine ⟨_, (run_loadAt t _ w).trans (run_loadVar_agg hb hz kk (base + off) (fun j => vs (off + j)) (fun j hj => by rw [Nat.add_assoc]; exact hcell _ (by omega))), ?_⟩
     · refine .agg _ _ (by simp; omega) fun i hi => ?_
       simp only [List.length_map, List.length_take, List.length_drop] at hi
       rw [rangeMap_getD _ _ _ (by omega)]
       rw [show (((cs.drop off).take sz).map V.d).getD i .junk = .d (cs.getD (off + i) .nilp) by
         simp only [List.getD_eq_getElem?_getD, List.getElem?_map, List.getElem?_take, List.getElem?_drop]
         rw [if_pos (by omega), List.getElem?_eq_getElem (by omega)]
         rfl]
       exact .d _ _ (h2 _ (by omega))
   · rename_i hbt
     have hbt' : b = false := by simpa using hbt
     subst hbt'
     cases hx : cs[off]? with
     | none => simp [hx] at h
     | some x =>
       rw [hx] at h
       simp only [Option.map_some, Option.some.injEq] at h
       subst h
       have hlt : off < cs.length := (List.getElem?_eq_some_iff.1 hx).1
       refine ⟨_, (run_loadAt t _ w).trans (run_loadVar_one hb _ _ (hcell off hlt)), ?_⟩
       · have := h2 off hlt
         rw [show cs.getD off .nilp = x by simp [List.getD_eq_getElem?_getD, hx]] at this
         exact .d _ _ this
 · simp at h
theorem splice_length {α : Type} (l : List α) (off : Nat) (x : List α) (h : off + x.length ≤ l.length) : (splice l off x).length = l.length := by
 simp [splice]; omega
theorem splice_getD {α : Type} (l : List α) (off : Nat) (x : List α) (d : α) (h : off + x.length ≤ l.length) (i : Nat) :
   (splice l off x).getD i d = if i < off then l.getD i d else if i < off + x.length then x.getD (i - off) d else l.getD i d := by
 unfold splice
 simp only [List.getD_eq_getElem?_getD]
 by_cases h1 : i < off
 · rw [if_pos h1, List.append_assoc, List.getElem?_append_left (by simp; omega), List.getElem?_take, if_pos h1]
 · rw [if_neg h1]
   by_cases h2 : i < off + x.length
   · rw [if_pos h2, List.getElem?_append_left (by simp; omega), List.getElem?_append_right (by simp; omega)]
     simp only [List.length_take]
     rw [Nat.min_eq_left (by omega)]
   · rw [if_neg h2, List.getElem?_append_right (by simp; omega)]
     simp only [List.length_append, List.length_take, List.getElem?_drop]
     rw [Nat.min_eq_left (by omega)]
     congr 2
     omega
theorem Conf.setRow (hc : Conf c w st) {b k : Nat} {cs' : List V} {arr arr' : Array Value} {elem : TypeId} (hk : c.mu[b]? = some k) {B B2 : Blk} (hB : st.blks[b]? = some B)
   (hh : w.heap[k]? = some (.cells arr elem (0, 0))) (hs : arr'.size = cs'.length) (hr : ∀ i, i < cs'.length → Rel c (arr'.getD i undef) (cs'.getD i .junk)) (hB2 : B2 = .cells cs' ∨ B2 = .tc elem cs') :
   Conf c (w.setRow k arr') (setBlk st b B2) where
 mulen := by simp [setBlk, hc.mulen]
 muinj := hc.muinj
 mubase := hc.mubase
 muH := hc.muH
 blk := by
   intro b' k' B' hk' hB'
   by_cases hbb : b' = b
   · subst hbb
     have hkk : k' = k := by rw [hk] at hk'; exact (Option.some.inj hk').symm
     subst hkk
     have hlt : b' < st.blks.length := (List.getElem?_eq_some_iff.1 hB).1
     simp only [setBlk, List.getElem?_set_self hlt, Option.some.injEq] at hB'
     subst hB'
     refine ⟨_, setRow_heap w k' arr arr' elem (0, 0) hh, ?_⟩
     rcases hB2 with rfl | rfl
     · exact .cells _ _ _ hs hr
     · exact .tc _ _ _ hs hr
   · have hne : k' ≠ k := fun e => hbb (hc.muinj b' b k (e ▸ hk') hk)
     simp only [setBlk, List.getElem?_set_ne (Ne.symm hbb)] at hB'
     obtain ⟨o, ho, hrel⟩ := hc.blk b' k' B' hk' hB'
     exact ⟨o, by rw [setRow_other w k k' arr' hne]; exact ho, hrel⟩
 toklen := hc.toklen
 tokown := by
   intro id t ht
   obtain ⟨h0, hd | ⟨xs, ho, hg⟩⟩ := hc.tokown id t ht
   · exact ⟨h0, .inl hd⟩
   refine ⟨h0, .inr ⟨xs, ho.kept (row := some k) ⟨rfl, rfl, rfl, by simp, fun k' _ hk' => setRow_other w k k' _ (fun e => hk' (by rw [e]))⟩ (.inr ?_), hg⟩⟩
   intro e
   exact (hg k e).2.2 (List.mem_of_getElem? hk)
 tokinj := hc.tokinj
 sealed := by
   intro k' o v hv
   have hne : k' ≠ k := by
     intro e
     subst e
     rw [hc.muH b k' o hk] at hv
     simp at hv
   have := hc.sealed k' o v hv
   rw [World.cell?_of_block (w := w) (setRow_other w k k' arr' hne)]
   exact this
 below := hc.below.trans ⟨rfl, rfl, rfl, by simp, fun k' hk' => setRow_other w k k' _ (by have := hc.mubase b k hk; omega)⟩
 basele := by simpa using hc.basele
theorem evalStore_sound (hc : Conf c w st) (t : TypeId) {av xv : Value} {A X : V} {st' : St} (ha : Rel c av A) (hx : Rel c xv X) (h : evalStore P t A X st = some st') :
   ∃ w', (Instr.storeAt t av xv).run P w = .ok () w' ∧ Conf c w' st' := by
 unfold evalStore at h
 split at h
 case h_2 => simp at h
 rename_i k off sz l hz hl
 split at h
 case isFalse => simp at h
 rename_i hcond
 obtain ⟨hlen, hone⟩ := hcond
 split at h
 case h_2 => simp at h
 rename_i B hB
 unfold putBlk at h
 split at h
 case h_2 => simp at h
 rename_i cs hrow
 split at h <;> simp only [Option.some.injEq, reduceCtorEq] at h
 rename_i hle
 subst h
 cases ha with | ptr _ kk _ hk => ?_
 obtain ⟨arr, elem, hh, hs, hr, hty⟩ := hc.rowAt hk hB hrow
 have hB2 : B.putRow (splice cs off l) = .cells (splice cs off l) ∨ B.putRow (splice cs off l) = .tc elem (splice cs off l) := by
   cases B with
   | cells cs => exact .inl rfl
   | tc e cs' => exact .inr (by rw [hty e cs' rfl]; rfl)
   | iter s pos => simp [Blk.row] at hrow
 obtain ⟨hxs, hxr⟩ := hx.cells hl
 have hst := run_storeCells_at P kk off elem xv.cells.toList 0 arr w hh (by simp [hxs]; omega) (by
   intro v hv
   obtain ⟨i, hi, rfl⟩ := List.mem_iff_getElem.1 hv
   have hi' : i < l.length := by simpa [hxs] using hi
   have h1 := hxr i hi'
   have h2 : (l.getD i .junk).one = true := by
     rw [List.getD_eq_getElem?_getD, List.getElem?_eq_getElem hi', Option.getD_some]
     exact List.all_eq_true.1 hone _ (List.getElem_mem _)
   have := h1.one h2
   rw [Array.getD_eq_getD_getElem?, Array.getElem?_eq_getElem (by omega), Option.getD_some] at this
   simpa using this)
 simp only [Nat.add_zero] at hst
 refine ⟨_, ?_, hc.setRow hk hB hh (cs' := splice cs off l) (arr' := (splice arr.toList off xv.cells.toList).toArray) ?_ ?_ hB2⟩
 · simp only [Instr.storeAt, Instr.sureAddr, Sem.run_bind, Sem.run_pure, Result.andThen_ok, storeVar, run_sizeOf' hz]
   rw [if_neg (by rw [hxs, hlen]; simp)]
   simpa [splice] using hst
 · simp [splice_length arr.toList off xv.cells.toList (by simp [hs, hxs]; omega), splice_length cs off l (by omega), hs]
 · intro i hi
   rw [splice_length cs off l (by omega)] at hi
   rw [array_getD_toList, splice_getD arr.toList off xv.cells.toList undef (by simp [hs, hxs]; omega) i, splice_getD cs off l .junk (by omega) i]
   simp only [Array.length_toList, hxs]
   split
   · rw [← array_getD_toList]; exact hr i hi
   · split
     · rw [← array_getD_toList]; exact hxr _ (by omega)
     · rw [← array_getD_toList]; exact hr i hi
end Go.Abs
end
section
namespace Go.Abs
open Go.RowKit
variable {P : Program} {c : Ctx} {w : World} {st : St}
theorem run_newVar (t : TypeId) (v : Value) (w : World) : (newVar t v).run P w = .ok ⟨w.heap.size, 0, none⟩ (w.alloc (.cells v.cells t)) := rfl
theorem pushB_sound (hc : Conf c w st) (t : TypeId) {v : Value} {cs : List V} (hs : v.cells.size = cs.length) (hr : ∀ i, i < cs.length → Rel c (v.cells.getD i undef) (cs.getD i .junk)) :
   Conf (c.pushB w.heap.size) (w.alloc (.cells v.cells t)) (pushB st (.cells cs)).2 ∧ Ext c (c.pushB w.heap.size) ∧
     Rel (c.pushB w.heap.size) (.pointer (some ⟨w.heap.size, 0, none⟩)) (pushB st (.cells cs)).1 :=
 ⟨hc.alloc (.cells _ _ _ hs hr), Ext.pushB c _, .ptr _ _ _ (by simp [Ctx.pushB, ← hc.mulen])⟩
theorem fold_splice (off : Nat) : ∀ (vs : List Value) (j : Nat) (arr : Array Value), off + j + vs.length ≤ arr.size →
   ((vs.zipIdx j).foldl (fun cs x => cs.setIfInBounds (off + x.2) x.1) arr).toList = splice arr.toList (off + j) vs
 | [], j, arr, _ => by simp [splice]
 | v :: r, j, arr, h => by
   simp only [List.zipIdx_cons, List.foldl_cons]
   have hlen : off + (j + 1) + r.length ≤ (arr.setIfInBounds (off + j) v).size := by simp at h ⊢; omega
   rw [fold_splice off r (j + 1) _ hlen]
   have e := list_seg_step arr.toList (off + j) v r (by simp at h ⊢; omega)
   simp only [Array.toList_setIfInBounds, splice]
   simpa [Nat.add_assoc] using e
theorem fill_step (cells : Array Value) (v : Value) (off : Nat) (h : off + v.cells.size ≤ cells.size) :
   (v.cells.zipIdx.foldl (fun cs (x : Value × Nat) => cs.setIfInBounds (off + x.2) x.1) cells).toList = splice cells.toList off v.cells.toList := by
 rw [← Array.foldl_toList, Array.toList_zipIdx]
 exact fold_splice off v.cells.toList 0 cells (by simpa using h)
theorem rel_splice {arr : Array Value} {cs : List V} (hs : arr.size = cs.length) (hr : ∀ i, i < cs.length → Rel c (arr.getD i undef) (cs.getD i .junk))
   {v : Value} {l : List V} (hl : v.cells.size = l.length) (hlr : ∀ i, i < l.length → Rel c (v.cells.getD i undef) (l.getD i .junk)) {off : Nat} (hle : off + l.length ≤ cs.length)
   {arr' : Array Value} (ha : arr'.toList = splice arr.toList off v.cells.toList) :
   arr'.size = (splice cs off l).length ∧ ∀ i, i < (splice cs off l).length → Rel c (arr'.getD i undef) ((splice cs off l).getD i .junk) := by
 have hle' : off + v.cells.toList.length ≤ arr.toList.length := by simp [hs, hl]; omega
 have hsz : arr'.size = (splice cs off l).length := by
   rw [splice_length cs off l hle, ← Array.length_toList, ha, splice_length _ _ _ hle']
   simp [hs]
 refine ⟨hsz, fun i hi => ?_⟩
 rw [splice_length cs off l hle] at hi
 rw [array_getD_toList, ha, splice_getD arr.toList off v.cells.toList undef hle' i, splice_getD cs off l .junk hle i]
 simp only [Array.length_toList, hl]
 split
 · rw [← array_getD_toList]; exact hr i hi
 · split
   · rw [← array_getD_toList]; exact hlr _ (by omega)
   · rw [← array_getD_toList]; exact hr i hi
theorem fld_eq {t : TypeId} {i off sz : Nat} {b : Bool} (h : fld P t i = some (off, sz, b)) :
   ∃ fs f, P.underlying t = some (.struct fs) ∧ fs[i]? = some f ∧ szOf P f.type = some sz ∧ isAggB P f.type = some b ∧ f.offset = off := by
 unfold fld at h
 split at h
 · rename_i fs hu
   split at h
   · rename_i f hf
     split at h <;> simp only [Option.some.injEq, Prod.mk.injEq, reduceCtorEq] at h
     rename_i s b' h1 h2
     obtain ⟨rfl, rfl, rfl⟩ := h
     exact ⟨fs, f, hu, hf, h1, h2, rfl⟩
   · simp at h
 · simp at h
theorem places_run (fs : Array Field) (h : (fs.toList.all fun f => (szOf P f.type).isSome) = true) (w : World) :
   (fs.mapM fun f => do pure (f.offset, ← sizeOf f.type) : Sem (Array (Nat × Nat))).run P w = .ok (fs.map fun f => (f.offset, (szOf P f.type).getD 0)) w := by
 rw [Array.mapM_eq_mapM_toList]
 have key : ∀ l : List Field, (l.all fun f => (szOf P f.type).isSome) = true →
     (l.mapM (fun f => do pure (f.offset, ← sizeOf f.type) : Field → Sem (Nat × Nat))).run P w = .ok (l.map fun f => (f.offset, (szOf P f.type).getD 0)) w := by
   intro l
   induction l with
   | nil => intro _; simp
   | cons f r ih =>
     intro h
     simp only [List.all_cons, Bool.and_eq_true] at h
     obtain ⟨n, hn⟩ := Option.isSome_iff_exists.1 h.1
     simp only [List.mapM_cons, Sem.run_bind, run_sizeOf' hn, Result.andThen_ok, Sem.run_pure, ih h.2, List.map_cons, hn, Option.getD_some]
 have := key fs.toList h
 simp only [Sem.run_map, this, Result.andThen_ok]
 congr 1
 apply Array.ext'
 simp
theorem fillV_sound {t : TypeId} {fs : Array Field} (hu : P.underlying t = some (.struct fs)) {a : Act} {fr : Fr} (hf : FrRel c a.tmps fr) :
   ∀ (parts : List (Nat × Operand)) (cs : List V) (arr : Array Value), arr.size = cs.length → (∀ i, i < cs.length → Rel c (arr.getD i undef) (cs.getD i .junk)) →
     ∀ {cs' : List V}, fillV P t fr cs parts = some cs' →
     ∃ arr', Instr.fill (fun i => (fs.map fun f => (f.offset, (szOf P f.type).getD 0))[i]?) arr (parts.map fun p => (p.1, a.eval p.2)) = some arr' ∧
       arr'.size = cs'.length ∧ ∀ i, i < cs'.length → Rel c (arr'.getD i undef) (cs'.getD i .junk)
 | [], cs, arr, hs, hr, cs', h => by
   simp only [fillV, Option.some.injEq] at h
   subst h
   exact ⟨arr, rfl, hs, hr⟩
 | (i, x) :: rest, cs, arr, hs, hr, cs', h => by
   simp only [fillV] at h
   split at h
   case h_2 => simp at h
   rename_i off sz b l hfl hl
   split at h
   case isFalse => simp at h
   rename_i hcond
   obtain ⟨hlen, hle⟩ := hcond
   obtain ⟨fs', f, hu', hff, hsz, _, hoff⟩ := fld_eq hfl
   rw [hu] at hu'
   have : fs = fs' := by simpa using hu'
   subst this
   obtain ⟨hvs, hvr⟩ := (ev_rel hf x).cells hl
   have hplace : (fs.map fun f => (f.offset, (szOf P f.type).getD 0))[i]? = some (off, sz) := by
     simp [Array.getElem?_map, hff, hoff, hsz]
   have hstep := fill_step arr (a.eval x) off (by rw [hvs, hs]; exact hle)
   obtain ⟨h1, h2⟩ := rel_splice (c := c) hs hr hvs hvr hle hstep
   obtain ⟨arr', h3, h4, h5⟩ := fillV_sound hu hf rest (splice cs off l) _ h1 h2 h
   refine ⟨arr', ?_, h4, h5⟩
   simp only [List.map_cons, Instr.fill, hplace]
   rw [if_neg (by rw [hvs, hlen, hs]; simp; omega)]
   exact h3
theorem evalBuild_sound (t : TypeId) {a : Act} {fr : Fr} (hf : FrRel c a.tmps fr) (parts : Array (Nat × Operand)) {Z : V} (h : evalBuild P t fr parts.toList = some Z) :
   ∃ cv, (Instr.build t (parts.map fun p => (p.1, a.eval p.2))).run P w = .ok cv w ∧ Rel c cv Z := by
 unfold evalBuild at h
 split at h
 case isFalse => simp at h
 rename_i hst
 split at h
 case h_2 => simp at h
 rename_i cs hz
 unfold zeroCs at hz
 cases hzz : zeroOf P t with
 | none => simp [hzz] at hz
 | some z =>
   rw [hzz] at hz
   simp only [Option.bind_some] at hz
   unfold isStruct at hst
   split at hst
   case h_2 => simp at hst
   rename_i fs hu
   obtain ⟨hcl, hcr⟩ := ofCells_rel (c := c) hz
   cases hfv : fillV P t fr cs parts.toList with
   | none => simp [hfv] at h
   | some cs' =>
     rw [hfv] at h
     simp only [Option.map_some, Option.some.injEq] at h
     subst h
     obtain ⟨arr', h1, h2, h3⟩ := fillV_sound hu hf parts.toList cs z.cells (by simpa using hcl) (fun i hi => by rw [array_getD_toList]; exact hcr i hi) hfv
     refine ⟨.agg arr', ?_, .agg _ _ h2 h3⟩
     simp only [Instr.build, Sem.run_bind, run_zero' hzz, Result.andThen_ok, run_underlying hu, places_run fs hst]
     rw [Array.toList_map, h1]
     simp
theorem cellsD_rel {v : Value} {x : V} {l : List D} (r : Rel c v x) (h : x.cellsD = some l) : v.cells.size = l.length ∧ ∀ i, i < l.length → RelD c.H (v.cells.getD i undef) (l.getD i .nilp) := by
 unfold V.cellsD at h
 cases hx : x.cells with
 | none => simp [hx] at h
 | some vs =>
   rw [hx] at h
   simp only [Option.bind_some] at h
   obtain ⟨h1, h2⟩ := r.cells hx
   obtain ⟨h3, h4⟩ := allD_rel (c := c) h
   refine ⟨h1.trans h3, fun i hi => ?_⟩
   rw [array_getD_toList]
   exact h4 (vs := v.cells.toList) (fun j hj => by rw [← array_getD_toList]; exact h2 j hj) i hi
theorem rowsOf_length {sz : Nat} {fr : Fr} : ∀ {parts : List (Nat × Operand)} {i : Nat} {rs : List (List D)}, rowsOf sz fr i parts = some rs → rs.length = parts.length ∧ ∀ r ∈ rs, r.length = sz
 | [], i, rs, h => by simp only [rowsOf, Option.some.injEq] at h; subst h; simp
 | (j, x) :: rest, i, rs, h => by
   simp only [rowsOf] at h
   split at h
   case isFalse => simp at h
   split at h
   case h_2 => simp at h
   rename_i l rs' h1 h2
   split at h <;> simp only [Option.some.injEq, reduceCtorEq] at h
   rename_i hl
   subst h
   obtain ⟨h3, h4⟩ := rowsOf_length h2
   exact ⟨by simp [h3], by simpa [hl] using h4⟩
theorem rows_fill {a : Act} {fr : Fr} (hf : FrRel c a.tmps fr) {sz : Nat} :
   ∀ (parts : List (Nat × Operand)) (i : Nat) (arr : Array Value) {rs : List (List D)}, rowsOf sz fr i parts = some rs → (i + parts.length) * sz ≤ arr.size →
     ∃ arr', Instr.fill (fun i => some (i * sz, sz)) arr (parts.map fun p => (p.1, a.eval p.2)) = some arr' ∧ arr'.size = arr.size ∧
       (∀ q, q < i * sz → arr'.getD q undef = arr.getD q undef) ∧
       ∀ m j, m < rs.length → j < sz → RelD c.H (arr'.getD ((i + m) * sz + j) undef) ((rs.getD m []).getD j .nilp)
 | [], i, arr, rs, h, _ => by
   simp only [rowsOf, Option.some.injEq] at h
   subst h
   exact ⟨arr, rfl, rfl, fun _ _ => rfl, fun m j hm => by simp at hm⟩
 | (j, x) :: rest, i, arr, rs, h, hle => by
   simp only [rowsOf] at h
   split at h
   case isFalse => simp at h
   rename_i hij
   subst hij
   split at h
   case h_2 => simp at h
   rename_i l rs' h1 h2
   split at h <;> simp only [Option.some.injEq, reduceCtorEq] at h
   rename_i hl
   subst h
   obtain ⟨hvs, hvr⟩ := cellsD_rel (ev_rel hf x) h1
   have hmul : (i + (rest.length + 1)) * sz = i * sz + sz + rest.length * sz := by
     rw [Nat.add_mul, Nat.add_mul]; omega
   have hfit : i * sz + (a.eval x).cells.size ≤ arr.size := by
     rw [hvs, hl]
     simp only [List.length_cons] at hle
     rw [hmul] at hle
     exact Nat.le_trans (Nat.le_add_right _ _) hle
   have hstep := fill_step arr (a.eval x) (i * sz) hfit
   generalize harr1 : ((a.eval x).cells.zipIdx.foldl (fun cs (y : Value × Nat) => cs.setIfInBounds (i * sz + y.2) y.1) arr) = arr1 at hstep
   have hfit' : i * sz + (a.eval x).cells.toList.length ≤ arr.toList.length := by simpa using hfit
   have hsz1 : arr1.size = arr.size := by
     rw [← Array.length_toList, hstep, splice_length _ _ _ hfit']
     simp
   have hget : ∀ q, arr1.getD q undef = if q < i * sz then arr.getD q undef else if q < i * sz + sz then (a.eval x).cells.getD (q - i * sz) undef else arr.getD q undef := by
     intro q
     rw [array_getD_toList, hstep, splice_getD _ _ _ undef hfit' q]
     simp only [Array.length_toList, hvs, hl, ← array_getD_toList]
   obtain ⟨arr', h3, h4, h5, h6⟩ := rows_fill hf rest (i + 1) arr1 h2 (by rw [hsz1]; simp only [List.length_cons] at hle; rw [show i + 1 + rest.length = i + (rest.length + 1) by omega]; exact hle)
   refine ⟨arr', ?_, h4.trans hsz1, fun q hq => ?_, fun m j hm hj => ?_⟩
   · simp only [List.map_cons, Instr.fill]
     rw [if_neg (by rw [hvs, hl] at hfit ⊢; simp; omega)]
     exact (congrArg (fun z => Instr.fill _ z _) harr1).trans h3
   · rw [h5 q (by rw [Nat.add_mul]; omega), hget, if_pos hq]
   · cases m with
     | zero =>
       rw [show (i + 0) * sz + j = i * sz + j by simp, h5 _ (by rw [Nat.add_mul]; omega), hget, if_neg (by omega), if_pos (by omega)]
       have := hvr j (by omega)
       simpa using this
     | succ m =>
       have := h6 m j (by simpa using hm) hj
       rw [show i + (m + 1) = i + 1 + m by omega]
       simpa using this
theorem evalBuildSlice_sound (hc : Conf c w st) (t : TypeId) (n : Nat) {a : Act} {fr : Fr} (hf : FrRel c a.tmps fr) (parts : Array (Nat × Operand)) {Z : V} (h : evalBuildSlice P t n fr parts.toList = some Z) :
   ∃ cv w' c', (Instr.buildSlice t n (parts.map fun p => (p.1, a.eval p.2))).run P w = .ok cv w' ∧ Rel c' cv Z ∧ Conf c' w' st ∧ Ext c c' := by
 unfold evalBuildSlice at h
 split at h
 case h_2 => simp at h
 rename_i e sz by_ hsl
 obtain ⟨hu, ie, hie, hsz, _⟩ := slE_eq hsl
 split at h
 case isFalse => simp at h
 rename_i hcond
 obtain ⟨hpn, hsmall, hpos, hzs⟩ := hcond
 have hzs' : (zeroOf P e).isSome = true := by simpa [zeroSz] using hzs
 obtain ⟨z, hz⟩ := Option.isSome_iff_exists.1 hzs'
 cases hr : rowsOf sz fr 0 parts.toList with
 | none => simp [hr] at h
 | some rs =>
   rw [hr] at h
   simp only [Option.map_some, Option.some.injEq] at h
   subst h
   obtain ⟨hrl, hrs⟩ := rowsOf_length hr
   obtain ⟨arr', h3, h4, _, h6⟩ := rows_fill hf parts.toList 0 ((Array.range (n * sz)).map (fun i => (if n * sz = 0 then (#[] : Array Value) else z.cells)[i % (if n * sz = 0 then (#[] : Array Value) else z.cells).size]!)) hr (by simp [hpn])
   have hsz4 : arr'.size = n * sz := by rw [h4]; simp
   refine ⟨.slice (some ⟨w.heap.size, 0, none⟩) n n, w.alloc (.cells arr' e), c.sealC w.heap.size arr', ?_, ?_, hc.sealC arr' e, hc.extSeal arr'⟩
   · have hle : ¬ (n * ie.size > 2 ^ 24) := by rw [hsz]; omega
     simp only [Instr.buildSlice, Sem.run_bind, run_underlying hu, Result.andThen_ok, sizeOf, typeInfo, run_program, hie, Sem.run_pure, hsz]
     rw [if_neg (by rw [hsz] at hle; exact hle)]
     by_cases h0 : n * sz = 0
     · simp only [h0, if_true] at h3 ⊢
       rw [pure_bind, Array.toList_map, h3]
       simp [newRow]
     · simp only [h0, if_false] at h3 ⊢
       simp only [Sem.run_bind, run_zero' hz, Sem.run_pure, Result.andThen_ok]
       rw [Array.toList_map, h3]
       simp [newRow]
   · have hln : rs.length = n := by rw [hrl, hpn]
     refine .d _ _ (.sl w.heap.size 0 n n sz (fun i j => arr'.getD (i * sz + j) undef) rs hln (Nat.le_refl _) hrs (fun i j hi hj => ?_) (fun i j hi hj => ?_))
     · have hlt : 0 + i * sz + j < arr'.size := by
         rw [hsz4]
         have : (i + 1) * sz ≤ n * sz := Nat.mul_le_mul_right _ hi
         rw [Nat.add_mul] at this
         omega
       simp only [Ctx.sealC, if_true]
       rw [Array.getElem?_eq_getElem hlt]
       simp [Array.getD_eq_getD_getElem?, show i * sz + j < arr'.size by omega]
     · have := h6 i j (by omega) hj
       simp only [Nat.zero_add] at this
       exact this.mono (hc.extSeal arr').H
theorem bound_run {o : Option Operand} {fr : Fr} {a : Act} (hf : FrRel c a.tmps fr) {dflt l : Nat} (h : bound fr dflt o = some l) {y : Nat} (hy : l ≤ y) (code : BoundsCode) :
   (match o.map a.eval with | some v => Instr.sliceBound v y code | none => pure dflt : Sem Nat).run P w = .ok l w := by
 cases o with
 | none => simp only [bound, Option.some.injEq] at h; subst h; simp
 | some x =>
   simp only [bound] at h
   split at h
   case h_2 => simp at h
   rename_i k n hx
   split at h <;> simp only [Option.some.injEq, reduceCtorEq] at h
   rename_i h0
   subst h
   have hr := ev_rel hf x
   rw [hx] at hr
   simp only [Option.map_some]
   generalize a.eval x = q at hr ⊢
   cases hr with | d _ _ hr => ?_
   cases hr
   exact run_sliceBound (P := P) w k n y code h0 (by omega)
theorem sliceBounds_run {lo hi : Option Operand} {fr : Fr} {a : Act} (hf : FrRel c a.tmps fr) {len cap l h : Nat} (hl : bound fr 0 lo = some l) (hh : bound fr len hi = some h) (h1 : l ≤ h) (h2 : h ≤ cap) (b : Bool) :
   (Instr.sliceBounds b len cap (lo.map a.eval) (hi.map a.eval) none).run P w = .ok (l, h, cap) w := by
 have e1 := bound_run (P := P) (w := w) hf hh (y := cap) h2 (if b then .sliceAcap else .sliceAlen)
 have e2 := bound_run (P := P) (w := w) hf hl (y := h) h1 .sliceB
 unfold Instr.sliceBounds
 cases lo <;> cases hi <;> simp_all
theorem evalSlice_sound (t : TypeId) {a : Act} {fr : Fr} (hf : FrRel c a.tmps fr) {x : Value} {X Z : V} (hx : Rel c x X) (lo hi : Option Operand) (h : evalSlice P t X fr lo hi = some Z) :
   ∃ cv, (Instr.sliceAt t x (lo.map a.eval) (hi.map a.eval) none).run P w = .ok cv w ∧ Rel c cv Z := by
 unfold evalSlice at h
 split at h
 · cases hx with | d _ _ hx => ?_
   cases hx with | str s _ e => ?_
   split at h
   case isFalse => simp at h
   rename_i hs
   have hu := isStr_eq hs
   split at h
   case h_2 => simp at h
   rename_i l hh hl hhh
   split at h <;> simp only [Option.some.injEq, reduceCtorEq] at h
   rename_i hcond
   subst h
   have hsize : s.size = (s.data.toList).length := by rw [Array.length_toList]; rfl
   rw [← e] at hhh hcond ⊢
   rw [← hsize] at hhh hcond
   refine ⟨.string (s.extract l hh), ?_, .d _ _ (.str _ _ ?_)⟩
   · rw [run_sliceAt_string (P := P) w t _ _ _ _ hu]
     simp [Instr.slice, run_underlying hu, sliceBounds_run (P := P) (w := w) hf hl hhh hcond.1 hcond.2]
   · rw [ByteArray.data_extract, Array.toList_extract, List.extract_eq_take_drop, List.drop_take]
 · split at h
   case h_2 => simp at h
   rename_i es e sz by_ he hsl
   obtain ⟨hu, ie, hie, hsz, _⟩ := slE_eq hsl
   split at h
   case h_2 => simp at h
   rename_i l hh hl hhh
   split at h <;> simp only [Option.some.injEq, reduceCtorEq] at h
   rename_i hcond
   obtain ⟨hlh, hhe, hall⟩ := hcond
   subst h
   have r := hx.toD he
   have hsizeOf : ∀ w, (sizeOf e).run P w = .ok sz w := fun w => by simp [sizeOf, typeInfo, hie, hsz]
   cases r with
   | slnil =>
     simp only [List.length_nil, Nat.le_zero_eq] at hhe hhh
     subst hhe
     simp only [Nat.le_zero_eq] at hlh
     subst hlh
     refine ⟨.slice none 0 0, ?_, .d _ _ (by simpa using RelD.slnil)⟩
     rw [run_sliceAt_slice (P := P) w t _ _ _ _ (elem_eq hu)]
     simp only [Instr.slice, Sem.run_bind, run_underlying hu, Result.andThen_ok, sliceBounds_run (P := P) (w := w) hf hl hhh (Nat.le_refl 0) (Nat.le_refl 0), hsizeOf, Sem.run_pure]
     simp
   | sl0 a =>
     simp only [List.length_nil, Nat.le_zero_eq] at hhe hhh
     subst hhe
     simp only [Nat.le_zero_eq] at hlh
     subst hlh
     refine ⟨.slice (some a) 0 0, ?_, .d _ _ (by simpa using RelD.sl0 a)⟩
     rw [run_sliceAt_slice (P := P) w t _ _ _ _ (elem_eq hu)]
     simp only [Instr.slice, Sem.run_bind, run_underlying hu, Result.andThen_ok, sliceBounds_run (P := P) (w := w) hf hl hhh (Nat.le_refl 0) (Nat.le_refl 0), hsizeOf, Sem.run_pure]
     simp
   | sl k off n cap sz' vs es h1 h2 h3 h4 h5 =>
     subst h1
     refine ⟨.slice (if cap = l then some ⟨k, off, none⟩ else some ⟨k, off + l * sz, none⟩) (hh - l) (cap - l), ?_, .d _ _ ?_⟩
     · rw [run_sliceAt_slice (P := P) w t _ _ _ _ (elem_eq hu)]
       simp only [Instr.slice, Sem.run_bind, run_underlying hu, Result.andThen_ok, sliceBounds_run (P := P) (w := w) hf hl hhh hlh (Nat.le_trans hhe h2), hsizeOf, Sem.run_pure, Option.map_some, addr_add]
     · by_cases hcl : cap = l
       · rw [if_pos hcl]
         have : hh - l = 0 := by omega
         rw [this, show (es.take hh).drop l = [] by apply List.drop_eq_nil_of_le; simp; omega]
         exact .sl k off 0 (cap - l) 0 (fun _ _ => undef) [] rfl (Nat.zero_le _) (by simp) (by simp) (by simp)
       · rw [if_neg hcl]
         refine .sl k (off + l * sz) (hh - l) (cap - l) sz (fun i j => vs (l + i) j) _ ?_ (by omega) ?_ ?_ ?_
         · simp; omega
         · intro r hr
           have hr' : r ∈ es := List.mem_of_mem_take (List.mem_of_mem_drop hr)
           simpa using List.all_eq_true.1 hall r hr'
         · intro i j hi hj
           have hlt : l + i < es.length := by omega
           have hsz' : sz' = sz := by
             have e1 := h3 es[l + i] (List.getElem_mem _)
             have e2 := List.all_eq_true.1 hall es[l + i] (List.getElem_mem _)
             simp at e2
             omega
           have := h4 (l + i) j hlt (by omega)
           rw [← this, hsz', Nat.add_mul]
           congr 1
           omega
         · intro i j hi hj
           have hlt : l + i < es.length := by omega
           have hsz' : sz' = sz := by
             have e1 := h3 es[l + i] (List.getElem_mem _)
             have e2 := List.all_eq_true.1 hall es[l + i] (List.getElem_mem _)
             simp at e2
             omega
           have := h5 (l + i) j hlt (by omega)
           rw [show ((es.take hh).drop l).getD i [] = es.getD (l + i) [] by
             simp only [List.getD_eq_getElem?_getD, List.getElem?_drop, List.getElem?_take]
             rw [if_pos (by omega)]]
           exact this
end Go.Abs
end
