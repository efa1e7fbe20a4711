/- A step of the proofs of the seat's theorems. -/
import Derived.Test.YtofbdmdigopaoaaGreatDoorQ14
import Derived.Recover
set_option linter.unusedSimpArgs false
set_option linter.unusedVariables false
section
namespace Go.Abs
open Go.RowKit
theorem wpOpsS_of_wpList {P : Program} {ops : Array Oper} {Q : Exit → Act → List Frame → World → Prop} {cs : List Frame} (hQ : ∀ a w, ¬ Q .outgrown a cs w) : ∀ (l : List Oper) (k : Nat), (∀ j : Nat, l[j]? = ops[k + j]?) → ∀ (a : Act) (w : World), wpList P ops (fun e a w => Q e a cs w) l a w → wpOpsS P ops Q (List.range' k l.length) a cs w
 | [], k, _, a, w, h => h
 | o :: l, k, hl, a, w, h => by
   have h0 : ops[k]? = some o := by simpa using (hl 0).symm
   have ih := wpOpsS_of_wpList (P := P) hQ l (k + 1) (fun j => by have := hl (j + 1); simpa [Nat.add_assoc, Nat.add_comm 1 j] using this)
   simp only [List.length_cons, List.range'_succ, wpOpsS, h0]
   unfold wpList at h
   split
   · rename_i hw
     rw [if_pos hw] at h
     rcases h with h | ⟨_, a', w', h⟩
     · unfold Oper.wp at h
       split
       · rename_i w' hr
         rw [hr] at h
         exact absurd h (by simp [Oper.upon])
       · exact upon_mono2 (fun a w h => ih a w h) (fun _ _ _ h => h) _ h
     · exact absurd h (hQ _ _)
   · rename_i hw
     rw [if_neg hw] at h
     exact ih _ _ h
section
variable {P : Program} {G : World → Nat → Prop} {st : St}
def modeOf (v : Option Value) : FrameMode := match v with | none => .returning | some p => .panicking [{ v := p, recovered := false }]
def modeTo (v : Option Value) : FrameMode := match v with | none => .returning | some p => .panicking [{ v := p, recovered := true }]
def recRel (c : Ctx) (x : Option V) (p : Option Value) : Prop := match x, p with
 | none, none => True
 | some v, some q => Rel c q v
 | _, _ => False
def DCalls (P : Program) (G : World → Nat → Prop) (f : FuncId) (args : List V) (x : Option V) (st : St) (R : Out → St → Prop) : Prop :=
 ∀ (c : Ctx) (w : World) (cargs : Array Value) (pv : Option Value), Conf c w st → G c.w0 c.base → cargs.size = args.length → (∀ i, i < args.length → Rel c (cargs.getD i undef) (args.getD i .junk)) → recRel c x pv →
   CallsD P f cargs (modeOf pv) w fun e u' w' => u' = modeTo pv ∧ ∃ out st' c', R out st' ∧ Ext c c' ∧ Conf c' w' st' ∧ EndRel c' e out
theorem DCalls.mono {f : FuncId} {args : List V} {x : Option V} {R R' : Out → St → Prop} (h : DCalls P G f args x st R) (hr : ∀ o s, R o s → R' o s) : DCalls P G f args x st R' :=
 fun c w cargs pv hc hg hs ha hx => (h c w cargs pv hc hg hs ha hx).mono fun _ _ _ ⟨h0, o, s, c', h1, h2⟩ => ⟨h0, o, s, c', hr _ _ h1, h2⟩
def FinQ (P : Program) (fn : Func) (R : Out → St → Prop) (c : Ctx) (tmps : Array Value) (w : World) : Exit → Prop
 | .normal | .ret => ∃ v, (results fn tmps).run P w = .ok v w ∧ ∃ out st c', R out st ∧ Ext c c' ∧ Conf c' w st ∧ EndRel c' (.returned v) out
 | .panic chain => ∃ out st c', R out st ∧ Ext c c' ∧ Conf c' w st ∧ EndRel c' (.panicked chain) out
 | _ => False
theorem bodyQ_sound {fn : Func} {R : Out → St → Prop} {c c' : Ctx} {w w' : World} {st' : St} {tmps : Array Value} {fr : Fr} (hc : Conf c w st) (hext : Ext c c') (hc' : Conf c' w' st') (hf' : FrRel c' tmps fr) {e : Exit} {x : AX} (hx : XRel c' e x) (hq : bodyQ P fn st R x fr st') : FinQ P fn R c tmps w' e := by
 obtain ⟨m, hcut, h5⟩ := hq
 obtain ⟨hcc, hext'⟩ := hcut.conf hc.at0 hext hc'
 have fin : ∀ l, resOf P fr st' fn.results.toList = some l → (resV l).share.within st.blks.length m = true → R (.ret (resV l).share) (st'.cut st.blks.length m) →
     ∃ v, (results fn tmps).run P w' = .ok v w' ∧ ∃ out st'' c'', R out st'' ∧ Ext c c'' ∧ Conf c'' w' st'' ∧ EndRel c'' (.returned v) out := by
   intro l hl hw hR
   obtain ⟨cv, hrun, hrel⟩ := resV_sound (P := P) hc' hf' hl
   exact ⟨cv, hrun, _, _, _, hR, hext', hcc, hrel.share.cut hw⟩
 cases e <;> cases x <;> simp only [XRel] at hx
 · obtain ⟨l, a1, a2, a3⟩ := h5
   exact fin l a1 a2 a3
 · exact h5.elim
 · obtain ⟨l, a1, a2, a3⟩ := h5
   exact fin l a1 a2 a3
 · obtain ⟨a1, a2⟩ := h5
   obtain ⟨cv, b1, b2⟩ := hx
   exact ⟨_, _, _, a2, hext', hcc, cv, b1, b2.cut a1⟩
theorem entry_rel {c : Ctx} {args : List V} {cargs : Array Value} {k : Nat} (hs : cargs.size = args.length) (hr : ∀ i, i < args.length → Rel c (cargs.getD i undef) (args.getD i .junk)) : FrRel c (cargs ++ Array.replicate k undef) (entryFr args) := by
 intro t
 simp only [entryFr]
 by_cases ht : t < args.length
 · rw [show (cargs ++ Array.replicate k undef).getD t undef = cargs.getD t undef by
     simp [Array.getD_eq_getD_getElem?, Array.getElem?_append, show t < cargs.size by omega]]
   exact hr t ht
 · rw [show args.getD t .junk = .junk by simp [List.getD_eq_getElem?_getD, show args.length ≤ t by omega]]
   exact .junk _
theorem DCalls.body {f : FuncId} {fn : Func} {k id : Nat} {o0 : Oper} {l : List Oper} {rest : Code} {args : List V} {x : Option V} {R : Out → St → Prop} {t : Tmp} {ca : Array Operand} {cat : Array TypeId}
   (hf : P.funcs[f]? = some fn) (hb : fn.body = some (.seq (.region id (o0 :: l).toArray false) rest)) (hn : fn.ntmps = k) (hargs : args.length ≤ k)
   (ho : o0.op = .call { callee := .builtin .recover, args := ca, argTypes := cat }) (hg0 : o0.guard = none) (hd0 : o0.dst = some t) (ht : t < k)
   (h : OW P G ⟨k, []⟩ st (o0 :: l).toArray (thenQ (AW P G ⟨k, []⟩ st rest (bodyQ P fn st R)) (bodyQ P fn st R)) l (upd (entryFr args) t (x.getD (.d .nili))) st) : DCalls P G f args x st R := by
 intro c w cargs pv hc hG hs hr hx
 refine callsD_of_wpS hf hb fun c₀ cs hu => ?_
 have hfr := entry_rel (k := fn.ntmps - cargs.size) hs hr
 have hsz : (cargs ++ Array.replicate (fn.ntmps - cargs.size) undef).size = k := by
   simp only [Array.size_append, Array.size_replicate]; omega
 generalize cargs ++ Array.replicate (fn.ntmps - cargs.size) undef = tmps at hfr hsz
 apply wpS_seq
 apply wpS_region
 have hrange : List.range (o0 :: l).toArray.size = 0 :: List.range' 1 l.length := by
   rw [List.range_eq_range', List.size_toArray, List.length_cons, List.range'_succ]
 rw [hrange]
 have hexec : (execOp (Act.eval { tmps := tmps, defers := [] }) o0).run P w = .ok .recover w := by
   simp [execOp, ho, resolve, invoke, builtin, Sem.run]
 have hwant : ∀ y, Region.wanted o0 y = true := fun y => by simp [Region.wanted, hg0]
 have key : ∀ (v : Value) (cs' : List Frame), cs' = { c₀ with mode := modeTo pv } :: cs → Rel c v (x.getD (.d .nili)) →
     wpOpsS P (o0 :: l).toArray (Exit.thenS (rest.wpS P (bodyPostS P fn c₀ cs fun e u' w' => u' = modeTo pv ∧ ∃ out st' c', R out st' ∧ Ext c c' ∧ Conf c' w' st' ∧ EndRel c' e out)) (bodyPostS P fn c₀ cs fun e u' w' => u' = modeTo pv ∧ ∃ out st' c', R out st' ∧ Ext c c' ∧ Conf c' w' st' ∧ EndRel c' e out)) (List.range' 1 l.length) (Act.put { tmps := tmps, defers := [] } o0.dst v) cs' w := by
   intro v cs' hcs hv
   have post : ∀ e (a : Act) (w' : World) (x : AX) (fr : Fr) (st' : St) (c' : Ctx), Ext c c' → Conf c' w' st' → FrRel c' a.tmps fr → a.defers = [] → XRel c' e x → bodyQ P fn st R x fr st' →
       bodyPostS P fn c₀ cs (fun e u' w' => u' = modeTo pv ∧ ∃ out st' c', R out st' ∧ Ext c c' ∧ Conf c' w' st' ∧ EndRel c' e out) e a cs' w' := by
     intro e a w' x fr st' c' he hc' hf' hd' hx' hq
     have := bodyQ_sound hc he hc' hf' hx' hq
     cases e with
     | normal =>
       obtain ⟨v, h1, h2⟩ := this
       exact ⟨hd', _, hcs, v, h1, rfl, h2⟩
     | ret =>
       obtain ⟨v, h1, h2⟩ := this
       exact ⟨hd', _, hcs, v, h1, rfl, h2⟩
     | panic ch => exact ⟨hd', _, hcs, rfl, this⟩
     | exit i => exact this.elim
     | goto i => exact this.elim
     | outgrown => exact this.elim
   refine wpOpsS_of_wpList (fun a w => ?_) l 1 (fun j => by simp [Nat.add_comm 1 j]) _ _ ?_
   · rintro ⟨u', _, out, st', c', _, _, _, hE⟩
     cases out <;> exact hE
   · have hput : FrRel c (Act.put { tmps := tmps, defers := [] } o0.dst v).tmps (upd (entryFr args) t (x.getD (.d .nili))) := by
       rw [hd0]
       exact hfr.put (by rw [hsz]; exact ht) hv
     refine wpList_mono2 (fun e a w' hl => ?_) l _ _ (h c c w _ hc.at0 (Ext.refl c) hc hG hput (by rw [put_size]; exact hsz) (by rw [put_defers]))
     obtain ⟨x', fr', st', c', hq, he, hc', hf', hs', hd', hx'⟩ := hl
     cases e <;> cases x' <;> simp only [XRel] at hx'
     · refine wpS_of_wp (wp_mono (hq c c' w' a hc.at0 he hc' (by rw [he.w0, he.base]; exact hG) hf' hs' hd') ?_)
       rintro e a2 w2 ⟨x2, fr2, st2, c2, hq2, he2, hc2, hf2, hs2, hd2, hx2⟩
       exact post e a2 w2 x2 fr2 st2 c2 he2 hc2 hf2 hd2 hx2 hq2
     · exact post (.exit _) a w' (.exit _) fr' st' c' he hc' hf' hd' hx' (by exact hq)
     · exact post .ret a w' .ret fr' st' c' he hc' hf' hd' trivial (by exact hq)
     · exact post (.panic _) a w' (.pan _) fr' st' c' he hc' hf' hd' hx' (by exact hq)
 unfold wpOpsS
 simp only [List.getElem?_toArray, List.getElem?_cons_zero, hwant, if_true, hexec]
 cases pv with
 | none =>
   cases x with
   | some v => exact hx.elim
   | none =>
     have : recoverD (c₀ :: cs) = none := by simp [recoverD, hu, modeOf]
     rw [this]
     refine key _ _ ?_ (.d _ _ .nili)
     rw [modeTo]; simp only [modeOf] at hu; rw [← hu]
 | some p =>
   cases x with
   | none => exact hx.elim
   | some v =>
     have : recoverD (c₀ :: cs) = some (p, { c₀ with mode := modeTo (some p) } :: cs) := by simp [recoverD, hu, modeOf, modeTo]
     rw [this]
     exact key _ _ rfl hx
def DQ (P : Program) (G : World → Nat → Prop) (fd : FuncId) (fn : Func) (st : St) (R : Out → St → Prop) (xs : List V) : AX → Fr → St → Prop := fun x fr3 st3 => match x with
 | .ret => DCalls P G fd xs none st3 (fun o s => (∃ v, o = .ret v) ∧ bodyQ P fn st R .ret fr3 s)
 | .pan v => DCalls P G fd xs (some v) st3 (fun o s => (∃ v, o = .ret v) ∧ bodyQ P fn st R .ret fr3 s)
 | _ => False
theorem DQ_ret {fd : FuncId} {fn : Func} {R : Out → St → Prop} {xs : List V} {fr3 : Fr} {st3 : St} (h : DCalls P G fd xs none st3 (fun o s => (∃ v, o = .ret v) ∧ bodyQ P fn st R .ret fr3 s)) : DQ P G fd fn st R xs .ret fr3 st3 := h
theorem DQ_pan {fd : FuncId} {fn : Func} {R : Out → St → Prop} {xs : List V} {fr3 : Fr} {st3 : St} {v : V} (h : DCalls P G fd xs (some v) st3 (fun o s => (∃ v, o = .ret v) ∧ bodyQ P fn st R .ret fr3 s)) : DQ P G fd fn st R xs (.pan v) fr3 st3 := h
theorem Acalls.bodyD {f : FuncId} {fn : Func} {k id : Nat} {A B rest : Code} {om od : Oper} {args : List V} {R : Out → St → Prop} {fd : FuncId} {tm : Tmp} {caps : Array Operand} {ats : Array TypeId}
   (hf : P.funcs[f]? = some fn) (hb : fn.body = some (.seq A (.seq B (.seq (.region id #[om, od] false) rest)))) (hn : fn.ntmps = k) (hargs : args.length ≤ k)
   (hom : om.op = .makeFunc (.func fd) #[] caps) (hmg : om.guard = none) (hmd : om.dst = some tm) (htm : tm < k)
   (hod : od.op = .defer { callee := .value (.tmp tm), args := #[], argTypes := ats }) (hog : od.guard = none) (hodd : od.dst = none)
   (hcall : ∀ args w, (callFunc fd args).run P w = .ok (.enter fd args) w)
   (h : AW P G ⟨k, []⟩ st A (fun x fr1 st1 => x = .normal ∧ AW P G ⟨k, []⟩ st B (fun x fr2 st2 => x = .normal ∧ ∃ xs, caps.toList.map (ev fr2) = xs ∧ ∀ ds, AW P G ⟨k, ds⟩ st2 rest (DQ P G fd fn st R xs) (upd fr2 tm .junk) st2) fr1 st1) (entryFr args) st) : Acalls P G f args st R := by
 intro c w cargs hc hG hs hr
 have hfr := entry_rel (k := fn.ntmps - cargs.size) hs hr
 have hsz : (cargs ++ Array.replicate (fn.ntmps - cargs.size) undef).size = k := by
   simp only [Array.size_append, Array.size_replicate]; omega
 refine calls_of_wp_defers hf hb ?_
 generalize cargs ++ Array.replicate (fn.ntmps - cargs.size) undef = tmps at hfr hsz ⊢
 refine wp_seq (wp_mono (h c c w _ hc.at0 (Ext.refl c) hc hG hfr hsz rfl) ?_)
 rintro e1 a1 w1 ⟨x1, f1, s1, c1, ⟨rfl, h2⟩, he1, hc1, hf1, hs1, hd1, hx1⟩
 cases e1 <;> simp only [XRel] at hx1
 refine wp_seq (wp_mono (h2 c c1 w1 a1 hc.at0 he1 hc1 (by rw [he1.w0, he1.base]; exact hG) hf1 hs1 hd1) ?_)
 rintro e2 a2 w2 ⟨x2, f2, s2, c2, ⟨rfl, xs, rfl, h3⟩, he2, hc2, hf2, hs2, hd2, hx2⟩
 cases e2 <;> simp only [XRel] at hx2
 refine wp_seq (wp_region_list ?_)
 have r1 : (execOp a2.eval om).run P w2 = .ok (.value (.func (.func fd) #[] (caps.map a2.eval))) w2 := by
   simp [execOp, hom, Instr.makeFunc]
 have w1' : ∀ y, Region.wanted om y = true := fun y => by simp [Region.wanted, hmg]
 have w2' : ∀ y, Region.wanted od y = true := fun y => by simp [Region.wanted, hog]
 have hev : (a2.put om.dst (.func (.func fd) #[] (caps.map a2.eval))).eval (.tmp tm) = .func (.func fd) #[] (caps.map a2.eval) := by
   rw [hmd]
   simp [Act.eval, Act.put, Array.getD, htm, hs2]
 have r2 : (execOp (a2.put om.dst (.func (.func fd) #[] (caps.map a2.eval))).eval od).run P w2 = .ok (.defer { target := .fn (.func fd) (caps.map a2.eval), args := #[] }) w2 := by
   simp [execOp, hod, resolve, hev, Deferred.ofValue]
 show wpList P _ _ [om, od] a2 w2
 unfold wpList
 rw [if_pos (w1' _)]
 refine .inl ?_
 unfold Oper.wp
 rw [r1, Oper.upon_value]
 unfold wpList
 rw [if_pos (w2' _)]
 refine .inl ?_
 unfold Oper.wp
 rw [r2, Oper.upon_defer]
 refine wpList_nil ?_
 show rest.wp P _ _ w2
 have hG2 : G c2.w0 c2.base := by rw [he2.w0, he2.base]; exact hG
 have hfr3 : FrRel c2 (Act.put { a2.put om.dst (.func (.func fd) #[] (caps.map a2.eval)) with defers := { target := .fn (.func fd) (caps.map a2.eval), args := #[] } :: (a2.put om.dst (.func (.func fd) #[] (caps.map a2.eval))).defers } od.dst undef).tmps (upd f2 tm .junk) := by
   rw [hodd, hmd]
   exact hf2.put (by rw [show a2.tmps.size = k from hs2]; exact htm) (.junk _)
 refine wp_mono (h3 [{ target := .fn (.func fd) (caps.map a2.eval), args := #[] }] c2 c2 w2 _ hc2.at0 (Ext.refl c2) hc2 hG2 hfr3 ?_ ?_) ?_
 · rw [hodd, hmd]
   simp [Act.put]
   exact hs2
 · rw [hodd, hmd]
   simp [Act.put]
   exact hd2
 rintro e3 a3 w3 ⟨x3, f3, s3, c3, hq, he3, hc3, hf3, hs3, hd3, hx3⟩
 simp only at hd3
 have hG3 : G c3.w0 c3.base := by rw [he3.w0, he3.base]; exact hG2
 have hce : c.base = c3.base := by rw [he3.base, he2.base]
 have hcaps : ∀ i, i < (caps.toList.map (ev f2)).length → Rel c3 ((#[] ++ caps.map a2.eval).getD i undef) ((caps.toList.map (ev f2)).getD i .junk) := by
   intro i hi
   rw [List.length_map] at hi
   have hi' : i < caps.size := by simpa using hi
   have := (ev_rel hf2 caps[i]).mono he3
   simpa [Array.getD_eq_getD_getElem?, List.getD_eq_getElem?_getD, hi'] using this
 have fin : ∀ (pv : Option Value) (x : Option V), recRel c3 x pv → DCalls P G fd (caps.toList.map (ev f2)) x s3 (fun o s => (∃ v, o = .ret v) ∧ bodyQ P fn st R .ret f3 s) →
     Leaves P fn a3.tmps (fun e w' => ∃ out st' c', R out st' ∧ Ext c c' ∧ Conf c' w' st' ∧ EndRel c' e out) a3.defers (modeOf pv) w3 := by
   intro pv x hrec hD
   rw [hd3]
   refine leaves_cons (f := fd) (args := #[] ++ caps.map a2.eval) (by cases pv <;> simp [modeOf]) (by simp only [invoke]; exact hcall _ _) ?_
   refine (hD c3 w3 (#[] ++ caps.map a2.eval) pv hc3 hG3 (by simp) hcaps hrec).mono ?_
   rintro e u' w4 ⟨rfl, out, s4, c4, ⟨⟨v, rfl⟩, hbq⟩, he4, hc4, hE⟩
   cases e with
   | panicked ch => exact hE.elim
   | outgrown => exact hE.elim
   | returned v' =>
     have hset : settle (modeTo pv) = .returning := by cases pv <;> simp [modeTo, settle]
     show Leaves P fn a3.tmps _ [] (settle (modeTo pv)) w4
     rw [hset]
     exact bodyQ_sound (e := .ret) (x := .ret) hc ((he2.trans he3).trans he4) hc4 (hf3.mono he4) trivial hbq
 cases e3 <;> cases x3 <;> simp only [XRel, DQ] at hx3 hq
 · exact fin none none trivial hq
 · obtain ⟨cv, rfl, hrel⟩ := hx3
   exact fin (some cv) (some _) hrel hq
end
end Go.Abs
end
section
namespace Go.Abs
open Go.RowKit
def Wk (p : Prop) : Prop := p
def TQ (b : Bool) (X Y : Fr → St → Prop) (f1 f2 : Fr) (st : St) : Prop := if b = true then X f1 st else Y f2 st
def chk (b : Bool) (p : Prop) : Prop := b = true ∧ p
def tstV (v : V) (X Y : Fr → St → Prop) (fr : Fr) (st : St) : Prop := match v with
 | .d (.bool b) => TQ b X Y fr fr st
 | _ => False
def apK (K : Fr → St → Prop) (fr : Fr) (st : St) : Prop := K fr st
def entersB (P : Program) (g : FuncId) : Bool := match P.funcs[g]? with
 | some fn => fn.body.isSome && !(fn.name == "runtime.NumGoroutine")
 | none => false
def EnP (P : Program) (g : FuncId) (p : Prop) : Prop := (∀ args w, (callFunc g args).run P w = .ok (.enter g args) w) ∧ p
theorem entersB_call {P : Program} {g : FuncId} (h : entersB P g = true) (args : Array Value) (w : World) : (callFunc g args).run P w = .ok (.enter g args) w := by
 unfold entersB at h
 split at h
 · rename_i fn hf
   simp only [Bool.and_eq_true, Bool.not_eq_true'] at h
   obtain ⟨h1, h2⟩ := h
   have hb : fn.body.isNone = false := by cases hb : fn.body <;> simp_all
   simp only [callFunc, Sem.run_bind, run_program, Result.andThen_ok, hf, h2, hb, Bool.false_eq_true, if_false]
   rfl
 · cases h
theorem EnP_eq {P : Program} {g : FuncId} (h : entersB P g = true) (p : Prop) : EnP P g p = p := propext ⟨fun k => k.2, fun k => ⟨entersB_call h, k⟩⟩
section
variable (P : Program) (G : World → Nat → Prop) (n : NDs) (st0 : St)
def CallQ (d : Bool) (g : FuncId) (xs : List V) (st : St) (K Kp : V → St → Prop) : Prop := match d with
 | false => ∃ R, Acalls P G g xs st R ∧ (∀ v s, R (.ret v) s → K v s) ∧ (∀ v s, R (.pan v) s → Kp v s)
 | true => ∃ v, Acalls P G g xs st (fun q s => q = .ret v ∧ s = st) ∧ K v st
def RX (d : Bool) (res : List Nat) (all : Array Oper) (Q : AX → Fr → St → Prop) : Option (List Oper × Fr × St) → Prop
 | some ([], fr, st) => Q .normal fr st
 | some (o :: r, fr, st) => OX P G n st0 d res all Q (o :: r) fr st
 | none => False
def RL (d : Bool) (res : List Nat) (all : Array Oper) (Q : AX → Fr → St → Prop) (l : List Oper) (fr : Fr) (st : St) : Prop := RX P G n st0 d res all Q (runL P n all res l fr st)
def KR (d : Bool) (res : List Nat) (all : Array Oper) (Q : AX → Fr → St → Prop) (r : List Oper) (fr : Fr) (dd : Option Tmp) (v : V) (st : St) : Prop := RX P G n st0 d res all Q (runL P n all res r (putA fr dd v) st)
def KP (d : Bool) (Q : AX → Fr → St → Prop) (fr : Fr) (v : V) (st : St) : Prop := chk (!d) (Q (.pan v) fr st)
def OXh (d : Bool) (res : List Nat) (all : Array Oper) (Q : AX → Fr → St → Prop) (o : Oper) (r : List Oper) (fr : Fr) (st : St) : Prop := OX P G n st0 d res all Q (o :: r) fr st
def GX (d : Bool) (res : List Nat) (all : Array Oper) (Q : AX → Fr → St → Prop) (v : V) (j t : Nat) (l : List Oper) (fr : Fr) (st : St) : Prop := match v with
 | .d (.bool b) => TQ b (RL P G n st0 d (j :: res) all Q l) (RL P G n st0 d (j :: res) all Q l) (upd fr t (.d (.bool true))) (upd fr t (.d (.bool false))) st
 | .tup [] => RX P G n st0 d (j :: res) all Q (runL P n all (j :: res) l fr st)
 | _ => False
def CV (d : Bool) (res : List Nat) (all : Array Oper) (Q : AX → Fr → St → Prop) (v : V) (args : List Operand) (dd : Option Tmp) (r : List Oper) (fr : Fr) (st : St) : Prop := match v with
 | .clo g cap => EnP P g (CallQ P G d g (args.map (fun o => (ev fr o).share) ++ cap) st (KR P G n st0 d res all Q r fr dd) (KP d Q fr))
 | _ => False
def PV (d : Bool) (Q : AX → Fr → St → Prop) (v : V) (fr : Fr) (st : St) : Prop := match v with
 | .d (.iface t y) => chk (!d) (Q (.pan (.d (.iface t y))) fr st)
 | _ => False
def CX (d : Bool) (res : List Nat) (all : Array Oper) (Q : AX → Fr → St → Prop) (o : Oper) (r : List Oper) (fr : Fr) (st : St) : Prop := match o.op with
 | .call { callee := .value x, args, .. } => chk (decide (goes all o fr = some true)) (chk (dstOK n o.dst) (CV P G n st0 d res all Q (ev fr x) args.toList o.dst r fr st))
 | .panic x => chk (decide (goes all o fr = some true)) (PV d Q (ev fr x) fr st)
 | _ => False
def GD (d : Bool) (res : List Nat) (all : Array Oper) (Q : AX → Fr → St → Prop) (t : Option Tmp) (j : Nat) (o : Oper) (r : List Oper) (fr : Fr) (st : St) : Prop := match t with
 | some t => GX P G n st0 d res all Q (fr t) j t (o :: r) fr st
 | none => False
def HX (d : Bool) (res : List Nat) (all : Array Oper) (Q : AX → Fr → St → Prop) (o : Oper) (r : List Oper) (fr : Fr) (st : St) : Prop := match o.guard with
 | none => CX P G n st0 d res all Q o r fr st
 | some (j, _) => if res.contains j = true then CX P G n st0 d res all Q o r fr st else GD P G n st0 d res all Q ((all[j]?).bind (·.dst)) j o r fr st
def exQ (b : Bool) (Q : AX → Fr → St → Prop) (j : Nat) (fr : Fr) (st : St) : Prop := if b = true then Q .normal fr st else Q (.exit j) fr st
def SW : Code → (AX → Fr → St → Prop) → Fr → St → Prop
 | .seq x y, Q, fr, st => SW x (thenQ (SW y Q) Q) fr st
 | .block id x, Q, fr, st => SW x (blockQ id Q) fr st
 | .scope x, Q, fr, st => SW x Q fr st
 | .skip, Q, fr, st => Q .normal fr st
 | .label _, Q, fr, st => Q .normal fr st
 | .exit i, Q, fr, st => Q (.exit i) fr st
 | .ret, Q, fr, st => Q .ret fr st
 | .cond o x y, Q, fr, st => tstV (ev fr o) (SW x Q) (SW y Q) fr st
 | .region id ops false, Q, fr, st => RX P G n st0 false [] ops Q (runL P n ops [] ops.toList fr st)
 | c, Q, fr, st => AW P G n st0 c Q fr st
end
section
variable {P : Program} {G : World → Nat → Prop} {n : NDs} {st0 : St} {Q : AX → Fr → St → Prop} {fr : Fr} {st : St} {d : Bool} {res : List Nat} {all : Array Oper}
theorem RX.sound {l : List Oper} (h : RX P G n st0 d res all Q (runL P n all res l fr st)) : OX P G n st0 d res all Q l fr st := by
 cases hr : runL P n all res l fr st with
 | none => rw [hr] at h; exact h.elim
 | some x =>
   obtain ⟨l', fr', st'⟩ := x
   rw [hr] at h
   refine OX.run hr ?_
   cases l' with
   | nil => exact OX.nil h
   | cons o r => exact h
theorem CX.sound {o : Oper} {r : List Oper} (h : CX P G n st0 d res all Q o r fr st) : OX P G n st0 d res all Q (o :: r) fr st := by
 obtain ⟨dd, op, ty, pos, after, gd⟩ := o
 unfold CX at h
 split at h
 · rename_i x args ats hop
   simp only at hop
   subst hop
   obtain ⟨h1, h2, h3⟩ := h
   have h1 := of_decide_eq_true h1
   unfold CV at h3
   split at h3
   · rename_i g cap hcl
     obtain ⟨h4, h5⟩ := h3
     have hcall := h4
     cases d with
     | false =>
       obtain ⟨R, hA, hr, hp⟩ := h5
       refine OW.call h1 hcl hcall h2 (hA.mono ?_)
       rintro (v | v) s hR
       · exact (RX.sound (d := false) (hr v s hR) : _)
       · exact (hp v s hR).2
     | true =>
       obtain ⟨v, hA, hk⟩ := h5
       exact OX.call hcall hcl h1 h2 rfl hA (RX.sound hk)
   · exact h3.elim
 · rename_i x hop
   simp only at hop
   subst hop
   obtain ⟨h1, h2⟩ := h
   have h1 := of_decide_eq_true h1
   unfold PV at h2
   split at h2
   · rename_i t y hx
     obtain ⟨h3, h4⟩ := h2
     cases d with
     | false => exact OX.panic rfl h1 hx h4
     | true => cases h3
   · exact h2.elim
 · exact h.elim
theorem GX.sound {j t : Nat} {l : List Oper} (h : GX P G n st0 d res all Q (fr t) j t l fr st) : OX P G n st0 d res all Q l fr st := by
 unfold GX at h
 split at h
 · rename_i b hb
   unfold TQ at h
   split at h
   · rename_i hbt
     subst hbt
     rw [upd_id hb] at h
     exact RX.sound (res := j :: res) h
   · rename_i hbf
     rw [Bool.not_eq_true] at hbf
     subst hbf
     rw [upd_id hb] at h
     exact RX.sound (res := j :: res) h
 · exact RX.sound (res := j :: res) h
 · exact h.elim
theorem HX.sound {o : Oper} {r : List Oper} (h : HX P G n st0 d res all Q o r fr st) : OX P G n st0 d res all Q (o :: r) fr st := by
 unfold HX at h
 split at h
 · exact h.sound
 · split at h
   · exact h.sound
   · unfold GD at h
     split at h
     · exact h.sound
     · exact h.elim
theorem SW.sound : ∀ (c : Code) {Q : AX → Fr → St → Prop} {fr : Fr} {st : St}, SW P G n st0 c Q fr st → AW P G n st0 c Q fr st
 | .seq x y, Q, fr, st, h => by
   refine AW.seq ((SW.sound x h).mono fun e fr' st' hx => ?_)
   cases e with
   | normal => exact SW.sound y hx
   | _ => exact hx
 | .block id x, Q, fr, st, h => AW.block (SW.sound x h)
 | .scope x, Q, fr, st, h => AW.scope (SW.sound x h)
 | .skip, Q, fr, st, h => AW.skip h
 | .label _, Q, fr, st, h => AW.label h
 | .exit i, Q, fr, st, h => AW.exit h
 | .ret, Q, fr, st, h => AW.ret h
 | .cond o x y, Q, fr, st, h => by
   unfold SW tstV at h
   split at h
   · rename_i b hb
     refine AW.cond hb ?_
     unfold TQ at h
     split at h
     · rename_i hbt; rw [if_pos hbt]; exact SW.sound x h
     · rename_i hbf; rw [if_neg hbf]; exact SW.sound y h
   · exact h.elim
 | .region id ops false, Q, fr, st, h => by
   have := RX.sound (show RX P G n st0 false [] ops Q (runL P n ops [] ops.toList fr st) from h)
   have e : AW P G n st0 (.region id ops.toList.toArray false) Q fr st := AW.region (by simpa using (show OW P G n st0 ops Q ops.toList fr st from this))
   simpa using e
 | .region id ops true, Q, fr, st, h => h
 | .loop x, Q, fr, st, h => h
 | .rangeFunc a b c e, Q, fr, st, h => h
 | .goto l, Q, fr, st, h => h
 | .refuse s, Q, fr, st, h => h
class Pl (Q : AX → Fr → St → Prop) (e : AX) (fr : Fr) (st : St) (p : outParam Prop) : Prop where
 h : p → Q e fr st
class NeN (i j : Nat) : Prop where
 h : i ≠ j
instance (priority := low) Pl_any {e : AX} : Pl Q e fr st (Q e fr st) := ⟨id⟩
instance Pl_tn {K : Fr → St → Prop} : Pl (thenQ K Q) .normal fr st (K fr st) := ⟨id⟩
instance Pl_tr {K : Fr → St → Prop} {p : Prop} [k : Pl Q .ret fr st p] : Pl (thenQ K Q) .ret fr st p := ⟨k.h⟩
instance Pl_te {K : Fr → St → Prop} {p : Prop} {i : Nat} [k : Pl Q (.exit i) fr st p] : Pl (thenQ K Q) (.exit i) fr st p := ⟨k.h⟩
instance Pl_tp {K : Fr → St → Prop} {p : Prop} {v : V} [k : Pl Q (.pan v) fr st p] : Pl (thenQ K Q) (.pan v) fr st p := ⟨k.h⟩
instance Pl_bn {p : Prop} {i : Nat} [k : Pl Q .normal fr st p] : Pl (blockQ i Q) .normal fr st p := ⟨k.h⟩
instance Pl_br {p : Prop} {i : Nat} [k : Pl Q .ret fr st p] : Pl (blockQ i Q) .ret fr st p := ⟨k.h⟩
instance Pl_bp {p : Prop} {i : Nat} {v : V} [k : Pl Q (.pan v) fr st p] : Pl (blockQ i Q) (.pan v) fr st p := ⟨k.h⟩
instance Pl_be {p : Prop} {i : Nat} [k : Pl Q .normal fr st p] : Pl (blockQ i Q) (.exit i) fr st p := ⟨fun h => by simp only [blockQ, if_true]; exact k.h h⟩
instance Pl_bx {p : Prop} {i j : Nat} [ne : NeN j i] [k : Pl Q (.exit j) fr st p] : Pl (blockQ i Q) (.exit j) fr st p := ⟨fun h => by simp only [blockQ, if_neg ne.h]; exact k.h h⟩
instance NeN_s {i j : Nat} [h : NeN i j] : NeN (i + 1) (j + 1) := ⟨fun e => h.h (Nat.succ.inj e)⟩
instance NeN_0 {j : Nat} : NeN 0 (j + 1) := ⟨by omega⟩
instance NeN_1 {j : Nat} : NeN (j + 1) 0 := ⟨by omega⟩
theorem Wk.aw {c : Code} (h : ∀ Q', Q' = Q → Wk (SW P G n st0 c Q' fr st)) : AW P G n st0 c Q fr st := SW.sound c (h Q rfl)
theorem Wk.q {Q' : AX → Fr → St → Prop} {e : AX} {p : Prop} (hQ : Q' = Q) [k : Pl Q e fr st p] (h : p) : Q' e fr st := by subst hQ; exact k.h h
theorem Wk.sw {c : Code} (h : ∀ Q', Q' = Q → Wk (SW P G n st0 c Q' fr st)) : SW P G n st0 c Q fr st := h _ rfl
theorem Wk.ow {all : Array Oper} {l : List Oper} (h : ∀ Q', Q' = Q → Wk (RX P G n st0 false [] all Q' (runL P n all [] l fr st))) : OW P G n st0 all Q l fr st := RX.sound (d := false) (h _ rfl)
theorem Wk.i {p : Prop} (h : Wk p) : Wk p := h
theorem Wk.o {p : Prop} (h : p) : Wk p := h
theorem Wk.k {K : Fr → St → Prop} (h : K fr st) : Wk (apK K fr st) := h
theorem Wk.th {K : Fr → St → Prop} {x : AX} (h : Wk (thenQ K Q x fr st)) : thenQ K Q x fr st := h
theorem Wk.bl {i : Nat} {x : AX} (h : Wk (blockQ i Q x fr st)) : blockQ i Q x fr st := h
theorem Wk.hd {o : Oper} {r : List Oper} (h : Wk (HX P G n st0 d res all Q o r fr st)) : Wk (OXh P G n st0 d res all Q o r fr st) := HX.sound h
theorem Wk.rnd {body : Code} {k : Nat} (h : ∀ Q', Q' = thenQ (RoundsA P G n st0 body Q k) Q → Wk (SW P G n st0 body Q' fr st)) : RoundsA P G n st0 body Q (k + 1) fr st := SW.sound body (h _ rfl)
theorem Wk.drawn (hm : P.follows .mixedOrders = true) {id : Nat} {l : List Oper} (hok : drawOK l [] [] l.length = true) (h : Wk (RX P G n st0 true [] l.toArray Q (runL P n l.toArray [] l fr st))) : Wk (AW P G n st0 (.region id l.toArray true) Q fr st) :=
 AW.drawn hm hok (RX.sound (d := true) h)
theorem Wk.ox {l : List Oper} (h : Wk (RX P G n st0 d res all Q (some (l, fr, st)))) : OX P G n st0 d res all Q l fr st := by
 cases l with
 | nil => exact OX.nil h
 | cons o r => exact h
theorem Wk.atX {l : Array Oper} (id : Nat) (h : AW P G n st0 (.region id l true) Q fr st) : Wk (AW P G n st0 (.region id l true) Q fr st) := h
theorem EnP_h {g : FuncId} {p : Prop} (hcall : ∀ args w, (callFunc g args).run P w = .ok (.enter g args) w) (h : Wk p) : Wk (EnP P g p) := ⟨hcall, h⟩
theorem CQ_ok {g : FuncId} {xs : List V} {v : V} {K Kp : V → St → Prop} (h : Acalls P G g xs st (fun q s => q = .ret v ∧ s = st)) (k : Wk (K v st)) : Wk (CallQ P G d g xs st K Kp) := by
 cases d
 · exact ⟨_, h, by rintro v s ⟨hv, rfl⟩; cases hv; exact k, by rintro v s ⟨hv, _⟩; cases hv⟩
 · exact ⟨v, h, k⟩
theorem CQ_st {g : FuncId} {xs : List V} {v : V} {st' : St} {K Kp : V → St → Prop} (h : Acalls P G g xs st (fun q s => q = .ret v ∧ s = st')) (k : Wk (K v st')) : Wk (CallQ P G false g xs st K Kp) :=
 ⟨_, h, by rintro v s ⟨hv, rfl⟩; cases hv; exact k, by rintro v s ⟨hv, _⟩; cases hv⟩
theorem CQ_pan {g : FuncId} {xs : List V} {v : V} {st' : St} {K Kp : V → St → Prop} (h : Acalls P G g xs st (fun q s => q = .pan v ∧ s = st')) (k : Wk (Kp v st')) : Wk (CallQ P G false g xs st K Kp) :=
 ⟨_, h, (by rintro v s ⟨hv, _⟩; cases hv), (by rintro v s ⟨hv, rfl⟩; cases hv; exact k)⟩
theorem CQ_exP {τ : Type} {f : τ → V} {p : τ → Prop} {g : FuncId} {xs : List V} {K Kp : V → St → Prop} (h : Acalls P G g xs st (fun q s => ∃ x, q = .ret (f x) ∧ p x ∧ s = st)) (k : ∀ x, p x → Wk (K (f x) st)) : Wk (CallQ P G false g xs st K Kp) :=
 ⟨_, h, by rintro v s ⟨x, hv, hp, rfl⟩; cases hv; exact k x hp, by rintro v s ⟨x, hv, _⟩; cases hv⟩
class Sp (b : Bool) (p q : outParam Prop) : Prop where
 t : b = true → p
 f : b = false → q
instance Sp_b (b : Bool) : Sp b (b = true) (b = false) := ⟨id, id⟩
instance Sp_n (b : Bool) : Sp (!b) (b = false) (b = true) := ⟨by simp, by simp⟩
instance Sp_d (p : Prop) [Decidable p] : Sp (decide p) p (¬ p) := ⟨of_decide_eq_true, of_decide_eq_false⟩
theorem TQ_s {b : Bool} {p q : Prop} {X Y : Fr → St → Prop} {f1 f2 : Fr} [s : Sp b p q] (h1 : p → Wk (X f1 st)) (h2 : q → Wk (Y f2 st)) : Wk (TQ b X Y f1 f2 st) := by
 cases b
 · exact h2 (s.f rfl)
 · exact h1 (s.t rfl)
theorem nob {b : Bool} (h : b = true) (k : b = false) : False := by rw [h] at k; cases k
def RetG (R : Out → St → Prop) (st : St) (v : V) : Prop := R (.ret v) st
def RetV (R : Out → St → Prop) (st : St) (v : V) : Prop := chk (v.within st.blks.length st.toks.length) (RetG R st v)
def RetO (R : Out → St → Prop) (st : St) (o : Option (List V)) : Prop := match o with
 | some l => RetV R st (resV l).share
 | none => False
def RetS (P : Program) (fn : Func) (st : St) (R : Out → St → Prop) (fr : Fr) (st' : St) : Prop := st'.blks.take st.blks.length = st.blks ∧ st'.toks.take st.toks.length = st.toks ∧ RetO R st (resOf P fr st' fn.results.toList)
theorem Wk.ret {fn : Func} {R : Out → St → Prop} {st' : St} (h : ∀ R', R' = R → Wk (RetS P fn st R' fr st')) : bodyQ P fn st R .ret fr st' := by
 obtain ⟨h1, h2, h3⟩ := h R rfl
 unfold RetO at h3
 split at h3
 · rename_i l hl
   exact bodyQ_ret h1 h2 hl rfl h3.1 h3.2
 · exact h3.elim
theorem Wk.fin {R R' : Out → St → Prop} {v : V} (hR : R' = R) (h : R (.ret v) st) : Wk (RetG R' st v) := by subst hR; exact h
end
section
variable (P : Program) (G : World → Nat → Prop) (n : NDs) (st0 : St) (Q : AX → Fr → St → Prop) (fr : Fr) (st : St) (d : Bool) (res : List Nat) (all : Array Oper) (K : Fr → St → Prop) (X Y : Fr → St → Prop)
theorem TQ_t (g : Fr) : TQ true X Y fr g st = X fr st := by simp [TQ]
theorem TQ_f (g : Fr) : TQ false X Y fr g st = Y g st := by simp [TQ]
theorem chk_t (p : Prop) : chk true p = p := by simp [chk]
theorem tstV_b (b : Bool) : tstV (.d (.bool b)) X Y fr st = TQ b X Y fr fr st := rfl
theorem SW_seq (x y : Code) : SW P G n st0 (.seq x y) Q fr st = SW P G n st0 x (thenQ (SW P G n st0 y Q) Q) fr st := rfl
theorem SW_block (i : Nat) (x : Code) : SW P G n st0 (.block i x) Q fr st = SW P G n st0 x (blockQ i Q) fr st := rfl
theorem SW_skip : SW P G n st0 .skip Q fr st = Q .normal fr st := rfl
theorem SW_exit (i : Nat) : SW P G n st0 (.exit i) Q fr st = Q (.exit i) fr st := rfl
theorem SW_ret : SW P G n st0 .ret Q fr st = Q .ret fr st := rfl
theorem SW_cond (o : Operand) (x y : Code) : SW P G n st0 (.cond o x y) Q fr st = tstV (ev fr o) (SW P G n st0 x Q) (SW P G n st0 y Q) fr st := rfl
theorem SW_region (id : Nat) (l : List Oper) : SW P G n st0 (.region id l.toArray false) Q fr st = RX P G n st0 false [] l.toArray Q (runL P n l.toArray [] l fr st) := rfl
theorem SW_drawn (id : Nat) (l : Array Oper) : SW P G n st0 (.region id l true) Q fr st = AW P G n st0 (.region id l true) Q fr st := rfl
theorem SW_loop (x : Code) : SW P G n st0 (.loop x) Q fr st = AW P G n st0 (.loop x) Q fr st := rfl
theorem RX_nil : RX P G n st0 d res all Q (some ([], fr, st)) = Q .normal fr st := rfl
theorem RX_cons (o : Oper) (r : List Oper) : RX P G n st0 d res all Q (some (o :: r, fr, st)) = OXh P G n st0 d res all Q o r fr st := rfl
theorem HX_none (dd op ty pos af) (r : List Oper) : HX P G n st0 d res all Q ⟨dd, op, ty, pos, af, none⟩ r fr st = CX P G n st0 d res all Q ⟨dd, op, ty, pos, af, none⟩ r fr st := rfl
def HG (b : Bool) (j : Nat) (o : Oper) (r : List Oper) : Prop := if b = true then CX P G n st0 d res all Q o r fr st else GD P G n st0 d res all Q ((all[j]?).bind (·.dst)) j o r fr st
theorem HX_some (dd op ty pos af) (j : Nat) (b : Bool) (r : List Oper) : HX P G n st0 d res all Q ⟨dd, op, ty, pos, af, some (j, b)⟩ r fr st = HG P G n st0 Q fr st d res all (ask res (some (j, b))) j ⟨dd, op, ty, pos, af, some (j, b)⟩ r := rfl
theorem HG_t (j : Nat) (o : Oper) (r : List Oper) : HG P G n st0 Q fr st d res all true j o r = CX P G n st0 d res all Q o r fr st := by simp [HG]
theorem HG_f (j : Nat) (o : Oper) (r : List Oper) : HG P G n st0 Q fr st d res all false j o r = GD P G n st0 d res all Q ((all[j]?).bind (·.dst)) j o r fr st := by simp [HG]
theorem GD_some (t j : Nat) (o : Oper) (r : List Oper) : GD P G n st0 d res all Q (some t) j o r fr st = GX P G n st0 d res all Q (fr t) j t (o :: r) fr st := rfl
theorem GX_b (b : Bool) (j t : Nat) (l : List Oper) : GX P G n st0 d res all Q (.d (.bool b)) j t l fr st = TQ b (RL P G n st0 d (j :: res) all Q l) (RL P G n st0 d (j :: res) all Q l) (upd fr t (.d (.bool true))) (upd fr t (.d (.bool false))) st := rfl
theorem RL_eq (l : List Oper) : RL P G n st0 d res all Q l fr st = RX P G n st0 d res all Q (runL P n all res l fr st) := rfl
theorem KR_eq (l : List Oper) (dd : Option Tmp) (v : V) : KR P G n st0 d res all Q l fr dd v st = RX P G n st0 d res all Q (runL P n all res l (putA fr dd v) st) := rfl
theorem KP_eq (v : V) : KP d Q fr v st = chk (!d) (Q (.pan v) fr st) := rfl
theorem GX_u (j t : Nat) (l : List Oper) : GX P G n st0 d res all Q (.tup []) j t l fr st = RX P G n st0 d (j :: res) all Q (runL P n all (j :: res) l fr st) := rfl
theorem CX_call (dd ty pos af gd) (x : Operand) (args ats) (r : List Oper) : CX P G n st0 d res all Q ⟨dd, .call ⟨.value x, args, ats⟩, ty, pos, af, gd⟩ r fr st = chk (decide (goes all ⟨dd, .call ⟨.value x, args, ats⟩, ty, pos, af, gd⟩ fr = some true)) (chk (dstOK n dd) (CV P G n st0 d res all Q (ev fr x) args.toList dd r fr st)) := rfl
theorem CX_panic (dd ty pos af gd) (x : Operand) (r : List Oper) : CX P G n st0 d res all Q ⟨dd, .panic x, ty, pos, af, gd⟩ r fr st = chk (decide (goes all ⟨dd, .panic x, ty, pos, af, gd⟩ fr = some true)) (PV d Q (ev fr x) fr st) := rfl
theorem CV_clo (g : FuncId) (cap : List V) (args : List Operand) (dd : Option Tmp) (r : List Oper) : CV P G n st0 d res all Q (.clo g cap) args dd r fr st = EnP P g (CallQ P G d g (args.map (fun o => (ev fr o).share) ++ cap) st (KR P G n st0 d res all Q r fr dd) (KP d Q fr)) := rfl
theorem PV_i (t : TypeId) (y : D) : PV d Q (.d (.iface t y)) fr st = chk (!d) (Q (.pan (.d (.iface t y))) fr st) := rfl
theorem tq_n : thenQ K Q .normal fr st = apK K fr st := rfl
theorem tq_r : thenQ K Q .ret fr st = Q .ret fr st := rfl
theorem tq_e (i : Nat) : thenQ K Q (.exit i) fr st = Q (.exit i) fr st := rfl
theorem tq_p (v : V) : thenQ K Q (.pan v) fr st = Q (.pan v) fr st := rfl
theorem apK_sw (y : Code) : apK (SW P G n st0 y Q) fr st = SW P G n st0 y Q fr st := rfl
theorem bq_n (i : Nat) : blockQ i Q .normal fr st = Q .normal fr st := rfl
theorem bq_r (i : Nat) : blockQ i Q .ret fr st = Q .ret fr st := rfl
theorem bq_p (i : Nat) (v : V) : blockQ i Q (.pan v) fr st = Q (.pan v) fr st := rfl
theorem bq_e (i j : Nat) : blockQ i Q (.exit j) fr st = exQ (j == i) Q j fr st := by simp [blockQ, exQ]
theorem exQ_t (j : Nat) : exQ true Q j fr st = Q .normal fr st := by simp [exQ]
theorem RetS_eq (fn : Func) (s : St) (R : Out → St → Prop) : RetS P fn s R fr st = (st.blks.take s.blks.length = s.blks ∧ st.toks.take s.toks.length = s.toks ∧ RetO R s (resOf P fr st fn.results.toList)) := rfl
theorem RetO_some (R : Out → St → Prop) (l : List V) : RetO R st (some l) = RetV R st (resV l).share := rfl
theorem RetV_eq (R : Out → St → Prop) (v : V) : RetV R st v = chk (v.within st.blks.length st.toks.length) (RetG R st v) := rfl
end
attribute [irreducible] EnP RL KR KP Wk TQ chk tstV apK RX OXh GX CV PV CX GD HX HG exQ SW CallQ RetG RetV RetO RetS
attribute [go_sem] TQ_t TQ_f chk_t tstV_b SW_seq SW_block SW_skip SW_exit SW_ret SW_cond SW_region SW_drawn SW_loop RX_nil RX_cons HX_none HX_some HG_t HG_f GD_some GX_b RL_eq KR_eq KP_eq GX_u CX_call CX_panic CV_clo PV_i tq_n tq_r tq_e tq_p apK_sw bq_n bq_r bq_p bq_e exQ_t RetS_eq RetO_some RetV_eq
theorem rowsLen_nil (sz : Nat) : rowsLen sz [] = true := rfl
theorem rowsLen_cons (sz : Nat) (r : List D) (es : List (List D)) : rowsLen sz (r :: es) = (r.length == sz && rowsLen sz es) := rfl
def asX (b : Option Bool) (q : Bool) (v : D) (ok : Bool) : Option V := match b with
 | some false => if q = true then (if ok then some (.tup [.d v, .d (.bool true)]) else some (.d v)) else none
 | _ => none
theorem ea_i (P : Program) (t u : TypeId) (v : D) (ok : Bool) : evalAssert P (.d (.iface t v)) u ok = asX (isIface P u) (t == u) v ok := by
 unfold evalAssert asX
 cases hi : isIface P u with
 | none => rfl
 | some b => cases b <;> simp_all
theorem asX_ok (v : D) : asX (some false) true v true = some (.tup [.d v, .d (.bool true)]) := rfl
def asN (b : Option Bool) (z : Option V) : Option V := match b, z with
 | some false, some z => some (.tup [z, .d (.bool false)])
 | _, _ => none
theorem ea_n (P : Program) (u : TypeId) : evalAssert P (.d .nili) u true = asN (isIface P u) ((zeroOf P u).map ofConst) := by
 unfold evalAssert asN
 cases hi : isIface P u with
 | none => rfl
 | some b => cases b <;> cases hz : zeroOf P u <;> simp_all
theorem asN_ok (z : V) : asN (some false) (some z) = some (.tup [z, .d (.bool false)]) := rfl
attribute [go_sem] ea_i asX_ok ea_n asN_ok
theorem ixR_0 (r : List D) (es : List (List D)) : ixR true (r :: es) 0 = some (.ep r 0) := by rw [ixR_ok (by omega) (by simp)]; rfl
theorem ixR_s (r : List D) (es : List (List D)) (i : Int) (h : 0 < i) : ixR true (r :: es) i = ixR true es (i - 1) := by
 obtain ⟨k, rfl⟩ : ∃ k : Nat, i = (k : Int) + 1 := ⟨(i - 1).toNat, by omega⟩
 have e1 : ((k : Int) + 1).toNat = k + 1 := by omega
 have e2 : ((k : Int) + 1 - 1).toNat = k := by omega
 have e3 : ((k : Int) + 1 - 1) = k := by omega
 by_cases hk : k < es.length
 · rw [ixR_ok (by omega) (by rw [e1]; simpa using hk), ixR_ok (by omega) (by rw [e2]; exact hk), e1, e2]; rfl
 · simp [ixR, e3, e1, hk]
def consO (b : UInt8) : Option (List UInt8) → Option (List UInt8)
 | some l => some (b :: l)
 | none => none
theorem bytesOf_nil : bytesOf [] = some [] := rfl
theorem bytesOf_cons (n : Int) (rs : List (List D)) : bytesOf ([.int .u8 n] :: rs) = consO (UInt8.ofNat n.toNat) (bytesOf rs) := by
 simp only [bytesOf, byteOf]
 cases bytesOf rs <;> rfl
theorem consO_some (b : UInt8) (l : List UInt8) : consO b (some l) = some (b :: l) := rfl
attribute [go_sem] ixR_0 ixR_s rowsLen_nil rowsLen_cons bytesOf_nil bytesOf_cons consO_some
end Go.Abs
end
