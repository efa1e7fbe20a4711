/- A step of the proofs of the seat's theorems. -/
import Derived.Test.YtofbdmdigopaoaaGreatDoorQ9
import Derived.Deep.LoopGhost
import Derived.Scope
set_option linter.unusedSimpArgs false
set_option linter.unusedVariables false
namespace Go.Abs
open Go.RowKit
inductive Out where
 | ret (v : V)
 | pan (v : V)
def EndRel (c : Ctx) : Ending → Out → Prop
 | .returned cv, .ret v => Rel c cv v
 | .panicked chain, .pan v => ∃ cv, chain = [{ v := cv, recovered := false }] ∧ Rel c cv v
 | _, _ => False
def V.share : V → V
 | .nils => .d (.sl [])
 | .own _ es => .d (.sl es)
 | .agg cs => .agg (shareL cs)
 | .tup cs => .tup (shareL cs)
 | v => v
where shareL : List V → List V
 | [] => []
 | v :: r => v.share :: shareL r
theorem shareL_length : ∀ l : List V, (V.share.shareL l).length = l.length
 | [] => rfl
 | v :: r => by simp [V.share.shareL, shareL_length r]
theorem shareL_getD : ∀ (l : List V) (i : Nat), i < l.length → (V.share.shareL l).getD i .junk = (l.getD i .junk).share
 | [], i, h => by simp at h
 | v :: r, 0, _ => by simp [V.share.shareL]
 | v :: r, i + 1, h => by
   have := shareL_getD r i (by simpa using h)
   simpa [V.share.shareL] using this
variable {P : Program} {c : Ctx} {w : World} {st : St}
theorem Rel.share {v : Value} {x : V} (r : Rel c v x) : Rel c v x.share := by
 induction r with
 | junk v => exact .junk v
 | d v x r => exact .d v x r
 | nils => exact .d _ _ .slnil
 | own v id es t r ht hsz hle heq => exact .d _ _ r
 | ptr b k off hb => exact .ptr b k off hb
 | ep k base off vs cs h1 h2 => exact .ep k base off vs cs h1 h2
 | clo f arr cap hs hr _ => exact .clo f arr cap hs hr
 | agg arr cs hs _ ih =>
   refine .agg _ _ (by rw [shareL_length]; exact hs) fun i hi => ?_
   rw [shareL_length] at hi
   rw [shareL_getD cs i hi]
   exact ih i hi
 | tup arr cs hs _ ih =>
   refine .tup _ _ (by rw [shareL_length]; exact hs) fun i hi => ?_
   rw [shareL_length] at hi
   rw [shareL_getD cs i hi]
   exact ih i hi
def Acalls (P : Program) (G : World → Nat → Prop) (f : FuncId) (args : List V) (st : St) (R : Out → St → Prop) : Prop :=
 ∀ (c : Ctx) (w : World) (cargs : Array Value), Conf c w st → G c.w0 c.base → cargs.size = args.length → (∀ i, i < args.length → Rel c (cargs.getD i undef) (args.getD i .junk)) →
   Calls P f cargs w fun e w' => ∃ out st' c', R out st' ∧ Ext c c' ∧ Conf c' w' st' ∧ EndRel c' e out
theorem Acalls.mono {G : World → Nat → Prop} {f : FuncId} {args : List V} {R R' : Out → St → Prop} (h : Acalls P G f args st R) (hr : ∀ o s, R o s → R' o s) : Acalls P G f args st R' :=
 fun c w cargs hc hg hs ha => (h c w cargs hc hg hs ha).mono fun _ _ ⟨o, s, c', h1, h2⟩ => ⟨o, s, c', hr _ _ h1, h2⟩
def V.within (n m : Nat) : V → Bool
 | .ptr b _ => decide (b < n)
 | .own id _ => decide (id < m)
 | .clo _ cap => all n m cap
 | .agg cs => all n m cs
 | .tup vs => all n m vs
 | _ => true
where all (n m : Nat) : List V → Bool
 | [] => true
 | v :: r => v.within n m && all n m r
def Blk.within (n m : Nat) : Blk → Bool
 | .cells cs => V.within.all n m cs
 | .tc _ cs => V.within.all n m cs
 | .iter _ _ => true
theorem within_all {n m : Nat} : ∀ {l : List V}, V.within.all n m l = true ↔ ∀ i, i < l.length → (l.getD i .junk).within n m = true
 | [] => by simp [V.within.all]
 | v :: r => by
   simp only [V.within.all, Bool.and_eq_true, within_all (l := r), List.length_cons]
   constructor
   · rintro ⟨h1, h2⟩ i hi
     cases i with
     | zero => simpa using h1
     | succ i => simpa using h2 i (by omega)
   · intro h
     exact ⟨by simpa using h 0 (by omega), fun i hi => by simpa using h (i + 1) (by omega)⟩
theorem Rel.within {v : Value} {x : V} (r : Rel c v x) : x.within c.mu.length c.tok.length = true := by
 induction r with
 | junk v => rfl
 | d v x r => rfl
 | nils => rfl
 | own v id es t r ht _ _ _ => simpa [V.within] using (List.getElem?_eq_some_iff.1 ht).1
 | ptr b k off hb => simpa [V.within] using (List.getElem?_eq_some_iff.1 hb).1
 | ep k base off vs cs h1 h2 => rfl
 | clo f arr cap hs _ ih => exact within_all.2 ih
 | agg arr cs hs _ ih => exact within_all.2 ih
 | tup arr vs hs _ ih => exact within_all.2 ih
def Ctx.cut (c : Ctx) (n m : Nat) : Ctx := { c with mu := c.mu.take n, tok := c.tok.take m }
def St.cut (st : St) (n m : Nat) : St := ⟨st.blks.take n, st.toks.take m⟩
theorem Rel.cut {v : Value} {x : V} (r : Rel c v x) {n m : Nat} (h : x.within n m = true) : Rel (c.cut n m) v x := by
 induction r with
 | junk v => exact .junk v
 | d v x r => exact .d v x r
 | nils => exact .nils
 | own v id es t r ht hsz hle heq =>
   have hlt : id < m := by simpa [V.within] using h
   exact .own v id es t r (by simp only [Ctx.cut]; rw [List.getElem?_take_of_lt hlt]; exact ht) hsz hle heq
 | ptr b k off hb =>
   have hlt : b < n := by simpa [V.within] using h
   exact .ptr b k off (by simp only [Ctx.cut]; rw [List.getElem?_take_of_lt hlt]; exact hb)
 | ep k base off vs cs h1 h2 => exact .ep k base off vs cs h1 h2
 | clo f arr cap hs _ ih => exact .clo f arr cap hs fun i hi => ih i hi (within_all.1 h i hi)
 | agg arr cs hs _ ih => exact .agg arr cs hs fun i hi => ih i hi (within_all.1 h i hi)
 | tup arr vs hs _ ih => exact .tup arr vs hs fun i hi => ih i hi (within_all.1 h i hi)
theorem BlkRel.cut {o : Obj} {B : Blk} (r : BlkRel c o B) {n m : Nat} (h : B.within n m = true) : BlkRel (c.cut n m) o B := by
 cases r with
 | cells arr elem cs hs hr => exact .cells arr elem cs hs fun i hi => (hr i hi).cut (within_all.1 h i hi)
 | tc arr elem cs hs hr => exact .tc arr elem cs hs fun i hi => (hr i hi).cut (within_all.1 h i hi)
 | iter s l pos e => exact .iter s l pos e
theorem BlkRel.within {o : Obj} {B : Blk} (r : BlkRel c o B) : B.within c.mu.length c.tok.length = true := by
 cases r with
 | cells arr elem cs hs hr => exact within_all.2 fun i hi => (hr i hi).within
 | tc arr elem cs hs hr => exact within_all.2 fun i hi => (hr i hi).within
 | iter s l pos e => rfl
theorem take_some {α : Type} {l : List α} {n i : Nat} {x : α} (h : (l.take n)[i]? = some x) : i < n ∧ l[i]? = some x := by
 rw [List.getElem?_take] at h
 split at h
 · rename_i hi; exact ⟨hi, h⟩
 · simp at h
theorem Conf.cut (h : Conf c w st) (n m : Nat) (hw : ∀ (b : Nat) (B : Blk), b < n → st.blks[b]? = some B → B.within n m = true) : Conf (c.cut n m) w (st.cut n m) where
 mulen := by simp [Ctx.cut, St.cut, h.mulen]
 muinj := by
   intro i j k hi hj
   exact h.muinj i j k (take_some hi).2 (take_some hj).2
 mubase := by
   intro i k hi
   exact h.mubase i k (take_some hi).2
 muH := by
   intro i k o hi
   exact h.muH i k o (take_some hi).2
 blk := by
   intro b k B hk hB
   obtain ⟨hlt, hk⟩ := take_some hk
   obtain ⟨_, hB⟩ := take_some hB
   obtain ⟨o, ho, hr⟩ := h.blk b k B hk hB
   exact ⟨o, ho, hr.cut (hw b B hlt hB)⟩
 toklen := by simp [Ctx.cut, St.cut, ← h.toklen]
 tokown := by
   intro id t ht
   obtain ⟨h0, hd | ⟨xs, ho, hg⟩⟩ := h.tokown id t (take_some ht).2
   · exact ⟨h0, .inl hd⟩
   refine ⟨h0, .inr ⟨xs, ho, fun g hgb => ?_⟩⟩
   obtain ⟨h1, h2, h3⟩ := hg g hgb
   exact ⟨h1, h2, fun hm => h3 (List.mem_of_mem_take hm)⟩
 tokinj := by
   intro i j s t g hi hj
   exact h.tokinj i j s t g (take_some hi).2 (take_some hj).2
 sealed := h.sealed
 below := h.below
 basele := h.basele
theorem within_le {n m n' m' : Nat} (hn : n ≤ n') (hm : m ≤ m') : ∀ v : V, v.within n m = true → v.within n' m' = true := by
 have key : ∀ k : Nat, ∀ v : V, SizeOf.sizeOf v ≤ k → v.within n m = true → v.within n' m' = true := by
   intro k
   induction k with
   | zero => intro v hv; cases v <;> simp at hv
   | succ k ih =>
     have lst : ∀ l : List V, SizeOf.sizeOf l ≤ k → V.within.all n m l = true → V.within.all n' m' l = true := by
       intro l
       induction l with
       | nil => intro _ _; rfl
       | cons v r ihr =>
         intro hs h
         simp only [V.within.all, Bool.and_eq_true] at h ⊢
         simp only [List.cons.sizeOf_spec] at hs
         exact ⟨ih v (by omega) h.1, ihr (by omega) h.2⟩
     intro v hv h
     cases v with
     | own id es => simp only [V.within, decide_eq_true_eq] at h ⊢; omega
     | ptr b off => simp only [V.within, decide_eq_true_eq] at h ⊢; omega
     | clo f cap => simp only [V.clo.sizeOf_spec] at hv; exact lst cap (by omega) h
     | agg cs => simp only [V.agg.sizeOf_spec] at hv; exact lst cs (by omega) h
     | tup vs => simp only [V.tup.sizeOf_spec] at hv; exact lst vs (by omega) h
     | _ => exact h
 exact fun v => key _ v (Nat.le_refl _)
theorem blk_within_le2 {n m n' m' : Nat} (hn : n ≤ n') (hm : m ≤ m') (B : Blk) (h : B.within n m = true) : B.within n' m' = true := by
 cases B with
 | cells cs => exact within_all.2 fun i hi => within_le hn hm _ (within_all.1 h i hi)
 | tc e cs => exact within_all.2 fun i hi => within_le hn hm _ (within_all.1 h i hi)
 | iter s pos => rfl
structure NDs where
 sz : Nat
 ds : List Deferred
inductive AX where
 | normal
 | exit (id : Nat)
 | ret
 | pan (v : V)
def XRel (c : Ctx) : Exit → AX → Prop
 | .normal, .normal => True
 | .exit i, .exit j => i = j
 | .ret, .ret => True
 | .panic chain, .pan v => ∃ cv, chain = [{ v := cv, recovered := false }] ∧ Rel c cv v
 | _, _ => False
def Lift (c : Ctx) (n : NDs) (Q : AX → Fr → St → Prop) : Exit → Act → World → Prop := fun e a w =>
 ∃ x fr st c', Q x fr st ∧ Ext c c' ∧ Conf c' w st ∧ FrRel c' a.tmps fr ∧ a.tmps.size = n.sz ∧ a.defers = n.ds ∧ XRel c' e x
theorem Lift.ext {c c1 : Ctx} {n : NDs} {Q : AX → Fr → St → Prop} (h : Ext c c1) {e : Exit} {a : Act} {w : World} (hl : Lift c1 n Q e a w) : Lift c n Q e a w :=
 let ⟨x, fr, st, c', h1, h2, h3⟩ := hl
 ⟨x, fr, st, c', h1, h.trans h2, h3⟩
def St.wf (st : St) : Prop := ∀ (b : Nat) (B : Blk), st.blks[b]? = some B → B.within st.blks.length st.toks.length = true
structure At0 (c0 : Ctx) (st0 : St) : Prop where
 mu : c0.mu.length = st0.blks.length
 tok : c0.tok.length = st0.toks.length
 wf : st0.wf
def AW (P : Program) (G : World → Nat → Prop) (n : NDs) (st0 : St) (code : Code) (Q : AX → Fr → St → Prop) (fr : Fr) (st : St) : Prop :=
 ∀ (c0 c : Ctx) (w : World) (a : Act), At0 c0 st0 → Ext c0 c → Conf c w st → G c.w0 c.base → FrRel c a.tmps fr → a.tmps.size = n.sz → a.defers = n.ds → code.wp P (Lift c0 n Q) a w
def OW (P : Program) (G : World → Nat → Prop) (n : NDs) (st0 : St) (all : Array Oper) (Q : AX → Fr → St → Prop) (l : List Oper) (fr : Fr) (st : St) : Prop :=
 ∀ (c0 c : Ctx) (w : World) (a : Act), At0 c0 st0 → Ext c0 c → Conf c w st → G c.w0 c.base → FrRel c a.tmps fr → a.tmps.size = n.sz → a.defers = n.ds → wpList P all (Lift c0 n Q) l a w
section rules
variable {G : World → Nat → Prop} {n : NDs} {st0 : St} {Q Q' : AX → Fr → St → Prop} {fr : Fr}
theorem AW.mono {code : Code} (h : AW P G n st0 code Q fr st) (hq : ∀ x fr st, Q x fr st → Q' x fr st) : AW P G n st0 code Q' fr st :=
 fun c0 c w a h0 he hc hg hf hs hd => wp_mono (h c0 c w a h0 he hc hg hf hs hd) fun _ _ _ ⟨x, fr, st, c', h1, h2⟩ => ⟨x, fr, st, c', hq _ _ _ h1, h2⟩
theorem AW.prune {code : Code} (fr' : Fr) (hp : ∀ t, fr' t = fr t ∨ fr' t = .junk) (h : AW P G n st0 code Q fr' st) : AW P G n st0 code Q fr st :=
 fun c0 c w a h0 he hc hg hf hs hd => h c0 c w a h0 he hc hg (fun t => by rcases hp t with e | e <;> rw [e]; exact hf t; exact .junk _) hs hd
def thenQ (K : Fr → St → Prop) (Q : AX → Fr → St → Prop) : AX → Fr → St → Prop
 | .normal, fr, st => K fr st
 | x, fr, st => Q x fr st
theorem AW.seq {x y : Code} (h : AW P G n st0 x (thenQ (AW P G n st0 y Q) Q) fr st) : AW P G n st0 (.seq x y) Q fr st := by
 intro c0 c w a h0 he0 hc hg hf hs hd
 refine wp_seq (wp_mono (h c0 c w a h0 he0 hc hg hf hs hd) ?_)
 rintro e a1 w1 ⟨x1, fr1, st1, c1, hq, he, hc1, hf1, hs1, hd1, hx⟩
 cases e <;> cases x1 <;> simp only [XRel] at hx
 · exact hq c0 c1 w1 a1 h0 he hc1 (by rw [he.w0, he.base, ← he0.w0, ← he0.base]; exact hg) hf1 hs1 hd1
 · exact ⟨.exit _, fr1, st1, c1, hq, he, hc1, hf1, hs1, hd1, hx⟩
 · exact ⟨.ret, fr1, st1, c1, hq, he, hc1, hf1, hs1, hd1, trivial⟩
 · exact ⟨.pan _, fr1, st1, c1, hq, he, hc1, hf1, hs1, hd1, hx⟩
theorem AW.skip (h : Q .normal fr st) : AW P G n st0 .skip Q fr st :=
 fun _ c _ _ _ he hc _ hf hs hd => wp_skip ⟨.normal, fr, st, c, h, he, hc, hf, hs, hd, trivial⟩
theorem AW.label {l : Nat} (h : Q .normal fr st) : AW P G n st0 (.label l) Q fr st :=
 fun _ c _ _ _ he hc _ hf hs hd => wp_label ⟨.normal, fr, st, c, h, he, hc, hf, hs, hd, trivial⟩
theorem AW.exit {id : Nat} (h : Q (.exit id) fr st) : AW P G n st0 (.exit id) Q fr st :=
 fun _ c _ _ _ he hc _ hf hs hd => wp_exit ⟨.exit id, fr, st, c, h, he, hc, hf, hs, hd, rfl⟩
theorem AW.ret (h : Q .ret fr st) : AW P G n st0 .ret Q fr st :=
 fun _ c _ _ _ he hc _ hf hs hd => wp_ret ⟨.ret, fr, st, c, h, he, hc, hf, hs, hd, trivial⟩
theorem eval_bool {a : Act} (hf : FrRel c a.tmps fr) {x : Operand} {b : Bool} (h : ev fr x = .d (.bool b)) : a.eval x = .bool b := by
 have hr := ev_rel hf x
 rw [h] at hr
 generalize a.eval x = q at hr ⊢
 cases hr with | d _ _ hr => ?_
 cases hr
 rfl
theorem AW.cond {x y : Code} {o : Operand} {b : Bool} (hb : ev fr o = .d (.bool b)) (h : AW P G n st0 (if b = true then x else y) Q fr st) : AW P G n st0 (.cond o x y) Q fr st :=
 fun c0 c w a h0 he hc hg hf hs hd => wp_cond (eval_bool hf hb) (h c0 c w a h0 he hc hg hf hs hd)
def blockQ (id : Nat) (Q : AX → Fr → St → Prop) : AX → Fr → St → Prop
 | .exit j, fr, st => if j = id then Q .normal fr st else Q (.exit j) fr st
 | x, fr, st => Q x fr st
theorem AW.block {x : Code} {id : Nat} (h : AW P G n st0 x (blockQ id Q) fr st) : AW P G n st0 (.block id x) Q fr st := by
 intro c0 c w a h0 he0 hc hg hf hs hd
 refine wp_block (wp_mono (h c0 c w a h0 he0 hc hg hf hs hd) ?_)
 rintro e a1 w1 ⟨x1, fr1, st1, c1, hq, he, hc1, hf1, hs1, hd1, hx⟩
 cases e <;> cases x1 <;> simp only [XRel] at hx
 · exact ⟨.normal, fr1, st1, c1, hq, he, hc1, hf1, hs1, hd1, trivial⟩
 · rename_i i j
   subst hx
   simp only [Exit.inBlock]
   simp only [blockQ] at hq
   split
   · rename_i h1
     rw [if_pos h1] at hq
     exact ⟨.normal, fr1, st1, c1, hq, he, hc1, hf1, hs1, hd1, trivial⟩
   · rename_i h1
     rw [if_neg h1] at hq
     exact ⟨.exit i, fr1, st1, c1, hq, he, hc1, hf1, hs1, hd1, rfl⟩
 · exact ⟨.ret, fr1, st1, c1, hq, he, hc1, hf1, hs1, hd1, trivial⟩
 · exact ⟨.pan _, fr1, st1, c1, hq, he, hc1, hf1, hs1, hd1, hx⟩
theorem AW.scope {x : Code} (h : AW P G n st0 x Q fr st) : AW P G n st0 (.scope x) Q fr st := by
 intro c0 c w a h0 he0 hc hg hf hs hd
 refine wp_scope_straight (wp_mono (h c0 c w a h0 he0 hc hg hf hs hd) ?_)
 intro e a1 w1 hl
 cases e
 case goto l =>
   obtain ⟨x1, _, _, _, _, _, _, _, _, _, hx⟩ := hl
   cases x1 <;> exact hx.elim
 all_goals exact hl
def sweep (N M : Nat) (fr : Fr) : Fr := fun t => if (fr t).within N M = true then fr t else .junk
structure CutOK (st0 st : St) (N M : Nat) : Prop where
 blks : st0.blks.length ≤ N
 toks : st0.toks.length ≤ M
 old : ∀ (b : Nat) (B : Blk), b < N → st.blks[b]? = some B → st0.blks[b]? = some B ∨ B.within N M = true
theorem CutOK.conf {c0 : Ctx} {N M : Nat} (h : CutOK st0 st N M) (h0 : At0 c0 st0) (he : Ext c0 c) (hc : Conf c w st) : Conf (c.cut N M) w (st.cut N M) ∧ Ext c0 (c.cut N M) := by
 refine ⟨hc.cut N M fun b B hb hB => ?_, ⟨he.H, fun i k hk => ?_, fun id t ht => ?_, he.base, he.w0⟩⟩
 · rcases h.old b B hb hB with h1 | h1
   · exact blk_within_le2 h.blks h.toks B (h0.wf b B h1)
   · exact h1
 · have hlt : i < N := by have := (List.getElem?_eq_some_iff.1 hk).1; have := h.blks; have := h0.mu; omega
   simp only [Ctx.cut]
   rw [List.getElem?_take_of_lt hlt]
   exact he.mu i k hk
 · have hlt : id < M := by have := (List.getElem?_eq_some_iff.1 ht).1; have := h.toks; have := h0.tok; omega
   obtain ⟨t', a1, a2⟩ := he.tok id t ht
   exact ⟨t', by simp only [Ctx.cut]; rw [List.getElem?_take_of_lt hlt]; exact a1, a2⟩
theorem FrRel.sweep {tmps : Array Value} (hf : FrRel c tmps fr) (N M : Nat) : FrRel (c.cut N M) tmps (Abs.sweep N M fr) := by
 intro t
 unfold Abs.sweep
 split
 · rename_i h; exact (hf t).cut h
 · exact .junk _
theorem AW.loop {body : Code} (I : Fr → St → Prop) (μ : Fr → St → Nat) (h0 : I fr st)
   (round : ∀ fr st, I fr st → AW P G n st0 body (thenQ (fun fr' st' => I fr' st' ∧ μ fr' st' < μ fr st) Q) fr st) : AW P G n st0 (.loop body) Q fr st := by
 intro c0 c w a h0' he0 hc hg hf hs hd
 refine wp_loop_ghost (fun k a w => ∃ fr st c1, I fr st ∧ μ fr st = k ∧ Ext c0 c1 ∧ Conf c1 w st ∧ FrRel c1 a.tmps fr ∧ a.tmps.size = n.sz ∧ a.defers = n.ds) (μ fr st)
   ⟨fr, st, c, h0, rfl, he0, hc, hf, hs, hd⟩ ?_
 rintro k a1 w1 ⟨fr1, st1, c1, hI, rfl, he, hc1, hf1, hs1, hd1⟩
 refine wp_mono (round fr1 st1 hI c0 c1 w1 a1 h0' he hc1 (by rw [he.w0, he.base, ← he0.w0, ← he0.base]; exact hg) hf1 hs1 hd1) ?_
 rintro e a2 w2 ⟨x2, fr2, st2, c2, hq, he2, hc2, hf2, hs2, hd2, hx⟩
 cases e <;> cases x2 <;> simp only [XRel] at hx
 · exact ⟨_, hq.2, fr2, st2, c2, hq.1, rfl, he2, hc2, hf2, hs2, hd2⟩
 · exact ⟨.exit _, fr2, st2, c2, hq, he2, hc2, hf2, hs2, hd2, hx⟩
 · exact ⟨.ret, fr2, st2, c2, hq, he2, hc2, hf2, hs2, hd2, trivial⟩
 · exact ⟨.pan _, fr2, st2, c2, hq, he2, hc2, hf2, hs2, hd2, hx⟩
theorem AW.region {id : Nat} {l : List Oper} (h : OW P G n st0 l.toArray Q l fr st) : AW P G n st0 (.region id l.toArray false) Q fr st :=
 fun c0 c w a h0 he hc hg hf hs hd => wp_region_lit (h c0 c w a h0 he hc hg hf hs hd)
theorem OW.nil {all : Array Oper} (h : Q .normal fr st) : OW P G n st0 all Q [] fr st :=
 fun _ c _ _ _ he hc _ hf hs hd => wpList_nil ⟨.normal, fr, st, c, h, he, hc, hf, hs, hd, trivial⟩
def putA (fr : Fr) (d : Option Tmp) (v : V) : Fr := match d with | some i => upd fr i v | none => fr
def dstOK (n : NDs) (d : Option Tmp) : Bool := match d with | some i => decide (i < n.sz) | none => true
theorem FrRel.putA {a : Act} (hf : FrRel c a.tmps fr) (hs : a.tmps.size = n.sz) {d : Option Tmp} (hd : dstOK n d = true) {v : Value} {x : V} (r : Rel c v x) :
   FrRel c (a.put d v).tmps (Abs.putA fr d x) := by
 cases d with
 | none => exact hf
 | some i => exact hf.put (by simpa [dstOK, hs] using hd) r
theorem put_size (a : Act) (d : Option Tmp) (v : Value) : (a.put d v).tmps.size = a.tmps.size := by cases d <;> simp [Act.put]
theorem put_defers (a : Act) (d : Option Tmp) (v : Value) : (a.put d v).defers = a.defers := by cases d <;> rfl
def goes (all : Array Oper) (o : Oper) (fr : Fr) : Option Bool :=
 match o.guard with
 | none => some true
 | some (j, b) => match (all[j]?).bind (·.dst) with
   | some d => match fr d with
     | .d (.bool t) => some (t == b)
     | .tup [] => some false
     | _ => none
   | none => none
theorem goes_wanted {all : Array Oper} {o : Oper} {a : Act} (hf : FrRel c a.tmps fr) {b : Bool} (h : goes all o fr = some b) : Region.wanted o (yielded all a.tmps) = b := by
 unfold goes at h
 unfold Region.wanted
 split at h
 · rename_i hg
   simp only [Option.some.injEq] at h
   rw [hg, ← h]
 · rename_i j want hg
   rw [hg]
   split at h
   case h_2 => simp at h
   rename_i d hd
   have hr := hf d
   have hget : a.tmps[d]? = some (a.tmps.getD d undef) ∨ a.tmps[d]? = none ∧ a.tmps.getD d undef = undef := by
     rw [Array.getD_eq_getD_getElem?]
     cases a.tmps[d]? <;> simp
   split at h <;> simp only [Option.some.injEq, reduceCtorEq] at h
   · rename_i t ht
     rw [ht] at hr
     have hv : a.tmps[d]? = some (.bool t) := by
       rcases hget with hq | ⟨hq, hu⟩
       · rw [hq]
         generalize a.tmps.getD d undef = q at hr
         cases hr with | d _ _ hr => ?_
         cases hr
         rfl
       · rw [hu] at hr
         cases hr with | d _ _ hr => cases hr
     simp only [yielded, hd, Option.bind_some, hv, ← h]
     cases t <;> cases want <;> rfl
   · rename_i ht
     rw [ht] at hr
     have hv : a.tmps[d]? = none ∨ ∃ arr, a.tmps[d]? = some (.tuple arr) := by
       rcases hget with hq | ⟨hq, hu⟩
       · rw [hq]
         generalize a.tmps.getD d undef = q at hr
         cases hr
         exact .inr ⟨_, rfl⟩
       · exact .inl hq
     rcases hv with hv | ⟨arr, hv⟩ <;> simp only [yielded, hd, Option.bind_some, hv, ← h] <;> rfl
theorem Rel.und {c : Ctx} : Rel c undef (.tup []) := .tup _ _ rfl (by simp)
theorem upon_mono2 {o : Oper} {a : Act} {K K' : Act → World → Prop} {q q' : Exit → Act → World → Prop} (hK : ∀ a w, K a w → K' a w) (hQ : ∀ e a w, q e a w → q' e a w) (r : Result Next)
   (h : o.upon P a K q r) : o.upon P a K' q' r := by
 cases r with
 | ok nx w =>
   cases nx <;> simp only [Oper.upon] at h ⊢ <;>
     first
       | exact hK _ _ h
       | exact Calls.mono h (fun e w'' he => by
           cases e
           · exact hK _ _ he
           · exact hQ _ _ _ he
           · obtain ⟨a0, w0, h0⟩ := he
             exact ⟨a0, w0, hQ _ _ _ h0⟩)
       | exact Rows.mono h (fun _ _ he => hK _ _ he)
 | halt x w =>
   cases x <;> simp only [Oper.upon] at h ⊢
   exact hQ _ _ _ h
theorem wpList_mono2 {all : Array Oper} {q q' : Exit → Act → World → Prop} (hQ : ∀ e a w, q e a w → q' e a w) : ∀ (l : List Oper) (a : Act) (w : World), wpList P all q l a w → wpList P all q' l a w
 | [], _, _, h => hQ _ _ _ h
 | o :: rest, a, w, h => by
   unfold wpList at h ⊢
   split at h
   · rename_i hw
     rw [if_pos hw]
     rcases h with h | ⟨h1, a0, w0, h2⟩
     · exact .inl (upon_mono2 (fun a w h => wpList_mono2 hQ rest a w h) hQ _ h)
     · exact .inr ⟨h1, a0, w0, hQ _ _ _ h2⟩
   · rename_i hw
     rw [if_neg hw]
     exact wpList_mono2 hQ rest _ _ h
theorem OW.op {all : Array Oper} {o : Oper} {rest : List Oper} {v : V} {st' : St} (hg : goes all o fr = some true) (he : evalOp P o fr st = some (v, st')) (hd : dstOK n o.dst = true)
   (h : OW P G n st0 all Q rest (putA fr o.dst v) st') : OW P G n st0 all Q (o :: rest) fr st := by
 intro c0 c w a h0 he0 hc hG hf hs hdf
 obtain ⟨cv, w', c', hr, hv, hc', hext⟩ := evalOp_sound (P := P) hc o hf he
 unfold wpList
 rw [if_pos (goes_wanted hf hg)]
 refine .inl ?_
 have hk : wpList P all (Lift c0 n Q) rest (a.put o.dst cv) w' :=
   h c0 c' w' (a.put o.dst cv) h0 (he0.trans hext) hc' (by rw [hext.w0, hext.base]; exact hG) ((hf.mono hext).putA hs hd hv) ((put_size _ _ _).trans hs) ((put_defers _ _ _).trans hdf)
 unfold Oper.wp
 rcases hr with hr | ⟨hr, rfl⟩ <;> rw [hr] <;> exact hk
theorem OW.skip {all : Array Oper} {o : Oper} {rest : List Oper} (hg : goes all o fr = some false) (hd : dstOK n o.dst = true)
   (h : OW P G n st0 all Q rest (putA fr o.dst (.tup [])) st) : OW P G n st0 all Q (o :: rest) fr st := by
 intro c0 c w a h0 he0 hc hG hf hs hdf
 unfold wpList
 rw [if_neg (by rw [goes_wanted hf hg]; simp)]
 exact h c0 c w (a.put o.dst undef) h0 he0 hc hG (hf.putA hs hd .und) ((put_size _ _ _).trans hs) ((put_defers _ _ _).trans hdf)
def callQ (P : Program) (G : World → Nat → Prop) (n : NDs) (st0 : St) (all : Array Oper) (Q : AX → Fr → St → Prop) (rest : List Oper) (d : Option Tmp) (fr : Fr) : Out → St → Prop
 | .ret v, st' => OW P G n st0 all Q rest (putA fr d v) st'
 | .pan v, st' => Q (.pan v) fr st'
theorem OW.call {all : Array Oper} {d : Option Tmp} {x : Operand} {args : Array Operand} {ats : Array TypeId} {ty : TypeId} {pos : String} {after : Array Edge} {gd : Option (Nat × Bool)} {rest : List Oper} {g : FuncId} {cap : List V}
   (hg : goes all { dst := d, op := .call { callee := .value x, args := args, argTypes := ats }, type := ty, pos := pos, after := after, guard := gd } fr = some true)
   (hf : ev fr x = .clo g cap) (hcall : ∀ args w, (callFunc g args).run P w = .ok (.enter g args) w) (hd : dstOK n d = true)
   (h : Acalls P G g (args.toList.map (fun o => (ev fr o).share) ++ cap) st (callQ P G n st0 all Q rest d fr)) :
   OW P G n st0 all Q ({ dst := d, op := .call { callee := .value x, args := args, argTypes := ats }, type := ty, pos := pos, after := after, guard := gd } :: rest) fr st := by
 intro c0 c w a h0 he0 hc hG hfr hs hdf
 have hx := ev_rel hfr x
 rw [hf] at hx
 generalize hq : a.eval x = q at hx
 cases hx with | clo _ arr _ hcs hcr => ?_
 unfold wpList
 rw [if_pos (goes_wanted hfr hg)]
 refine .inl ?_
 unfold Oper.wp
 have hexec : (execOp a.eval { dst := d, op := .call { callee := .value x, args := args, argTypes := ats }, type := ty, pos := pos, after := after, guard := gd }).run P w = .ok (.enter g (args.map a.eval ++ arr)) w := by
   simp only [execOp, resolve, hq, Deferred.ofValue, Sem.run_bind, Sem.run_pure, Result.andThen_ok, invoke, hcall]
   simp
 rw [hexec, Oper.upon_enter]
 have hargs : ∀ i, i < (args.toList.map (fun o => (ev fr o).share) ++ cap).length → Rel c ((args.map a.eval ++ arr).getD i undef) ((args.toList.map (fun o => (ev fr o).share) ++ cap).getD i .junk) := by
   intro i hi
   simp only [List.length_append, List.length_map, Array.length_toList] at hi
   by_cases hlt : i < args.size
   · rw [show (args.map a.eval ++ arr).getD i undef = a.eval args[i] by
       simp [Array.getD_eq_getD_getElem?, Array.getElem?_append, hlt]]
     rw [show (args.toList.map (fun o => (ev fr o).share) ++ cap).getD i .junk = (ev fr args[i]).share by
       simp [List.getD_eq_getElem?_getD, List.getElem?_append, hlt]]
     exact (ev_rel hfr _).share
   · rw [show (args.map a.eval ++ arr).getD i undef = arr.getD (i - args.size) undef by
       simp [Array.getD_eq_getD_getElem?, Array.getElem?_append, hlt]]
     rw [show (args.toList.map (fun o => (ev fr o).share) ++ cap).getD i .junk = cap.getD (i - args.size) .junk by
       simp [List.getD_eq_getElem?_getD, List.getElem?_append, hlt]]
     exact hcr _ (by omega)
 refine (h c w (args.map a.eval ++ arr) hc hG (by simp [hcs]) hargs).mono ?_
 rintro e w' ⟨out, st', c', hR, hext, hc', hend⟩
 cases e <;> cases out <;> simp only [EndRel] at hend
 · simp only [callQ] at hR
   exact hR c0 c' w' (a.put d _) h0 (he0.trans hext) hc' (by rw [hext.w0, hext.base]; exact hG) ((hfr.mono hext).putA hs hd hend) ((put_size _ _ _).trans hs) ((put_defers _ _ _).trans hdf)
 · exact ⟨.pan _, fr, st', c', hR, he0.trans hext, hc', hfr.mono hext, hs, hdf, hend⟩
theorem OW.panic {all : Array Oper} {o : Oper} {x : Operand} {rest : List Oper} {t : TypeId} {y : D} (hg : goes all o fr = some true) (ho : o.op = .panic x) (hx : ev fr x = .d (.iface t y))
   (h : Q (.pan (.d (.iface t y))) fr st) : OW P G n st0 all Q (o :: rest) fr st := by
 intro c0 c w a _ he0 hc _ hf hs hdf
 have hr := ev_rel hf x
 rw [hx] at hr
 generalize hq : a.eval x = q at hr
 cases hr with | d _ _ hr => ?_
 cases hr with | iface _ v _ hv => ?_
 unfold wpList
 rw [if_pos (goes_wanted hf hg)]
 refine .inl ?_
 unfold Oper.wp
 have hexec : (execOp a.eval o).run P w = .halt (.panic (.iface t v)) w := by
   simp [execOp, ho, hq, Instr.panic]
 rw [hexec, Oper.upon_panic]
 exact ⟨.pan _, fr, st, c, h, he0, hc, hf, hs, hdf, .iface t v, rfl, .d _ _ (.iface t v _ hv)⟩
def resOf (P : Program) (fr : Fr) (st : St) : List ResultVar → Option (List V)
 | [] => some []
 | .tmp t :: r => (resOf P fr st r).map (fr t :: ·)
 | .cell a t :: r => match evalLoad P t (fr a) st, resOf P fr st r with
   | some v, some l => some (v :: l)
   | _, _ => none
def resGet (tmps : Array Value) : ResultVar → Sem Value
 | .tmp t => pure (tmps.getD t undef)
 | .cell a t => do loadVar t (← asAddr (tmps.getD a undef))
theorem results_eq (fn : Func) (tmps : Array Value) : results fn tmps = (do
   let vs ← fn.results.mapM (resGet tmps)
   pure (if h : vs.size = 1 then vs[0] else .tuple vs)) := by
 unfold results
 congr 2
def resV (l : List V) : V := match l with | [v] => v | l => .tup l
theorem resOf_sound (hc : Conf c w st) {tmps : Array Value} (hf : FrRel c tmps fr) : ∀ (rs : List ResultVar) {l : List V}, resOf P fr st rs = some l →
   ∃ vs : List Value, (rs.mapM (resGet tmps)).run P w = .ok vs w ∧ vs.length = l.length ∧ ∀ i, i < l.length → Rel c (vs.getD i undef) (l.getD i .junk)
 | [], l, h => by
   simp only [resOf, Option.some.injEq] at h
   subst h
   exact ⟨[], by simp, rfl, by simp⟩
 | .tmp t :: r, l, h => by
   simp only [resOf, Option.map_eq_some_iff] at h
   obtain ⟨l', h1, rfl⟩ := h
   obtain ⟨vs, h2, h3, h4⟩ := resOf_sound hc hf r h1
   refine ⟨tmps.getD t undef :: vs, ?_, by simp [h3], fun i hi => ?_⟩
   · simp only [List.mapM_cons, resGet, Sem.run_bind, Sem.run_pure, Result.andThen_ok, h2]
   · cases i with
     | zero => simpa using hf t
     | succ i => simpa using h4 i (by simpa using hi)
 | .cell a t :: r, l, h => by
   simp only [resOf] at h
   split at h <;> simp only [Option.some.injEq, reduceCtorEq] at h
   rename_i v l' hv h1
   subst h
   obtain ⟨vs, h2, h3, h4⟩ := resOf_sound hc hf r h1
   obtain ⟨cv, h5, h6⟩ := evalLoad_sound (P := P) hc t (hf a) hv
   have hptr : ∃ ad, tmps.getD a undef = .pointer (some ad) := by
     have hr := hf a
     unfold evalLoad at hv
     split at hv
     case h_2 => simp at hv
     generalize fr a = y at hr hv
     generalize tmps.getD a undef = q at hr ⊢
     split at hv
     · cases hr with | ptr _ k _ _ => exact ⟨_, rfl⟩
     · cases hr with | ep k base _ vs _ _ _ => exact ⟨_, rfl⟩
     · simp at hv
   obtain ⟨ad, had⟩ := hptr
   rw [had, run_loadAt] at h5
   refine ⟨cv :: vs, ?_, by simp [h3], fun i hi => ?_⟩
   · have hasA : (asAddr (.pointer (some ad))).run P w = .ok ad w := rfl
     rw [List.mapM_cons]
     simp only [resGet, had, hasA, Sem.run_bind, Sem.run_pure, Result.andThen_ok, h5, h2]
   · cases i with
     | zero => simpa using h6
     | succ i => simpa using h4 i (by simpa using hi)
theorem resV_sound (hc : Conf c w st) {fn : Func} {tmps : Array Value} (hf : FrRel c tmps fr) {l : List V} (h : resOf P fr st fn.results.toList = some l) :
   ∃ cv, (results fn tmps).run P w = .ok cv w ∧ Rel c cv (resV l) := by
 obtain ⟨vs, h1, h2, h3⟩ := resOf_sound hc hf fn.results.toList h
 rw [results_eq, Array.mapM_eq_mapM_toList]
 simp only [Sem.run_bind, Sem.run_map, h1, Result.andThen_ok, Sem.run_pure]
 refine ⟨_, rfl, ?_⟩
 match l, vs, h2 with
 | [], [], _ => exact .tup _ _ rfl (by simp)
 | [v], [x], _ => simpa [resV] using h3 0 (by simp)
 | v :: v2 :: r, x :: x2 :: r2, h2 =>
   rw [dif_neg (by simp)]
   refine .tup _ _ (by simpa using h2) fun i hi => ?_
   rw [array_getD_toList]
   exact h3 i hi
def bodyQ (P : Program) (fn : Func) (st0 : St) (R : Out → St → Prop) : AX → Fr → St → Prop := fun x fr st =>
 ∃ m, CutOK st0 st st0.blks.length m ∧
   match x with
   | .normal | .ret => ∃ l, resOf P fr st fn.results.toList = some l ∧ (resV l).share.within st0.blks.length m = true ∧ R (.ret (resV l).share) (st.cut st0.blks.length m)
   | .pan v => v.within st0.blks.length m = true ∧ R (.pan v) (st.cut st0.blks.length m)
   | .exit _ => False
def entryFr (args : List V) : Fr := fun t => args.getD t .junk
theorem Conf.at0 (hc : Conf c w st) : At0 c st := by
 refine ⟨hc.mulen, by rw [← hc.toklen]; simp, fun b B hB => ?_⟩
 have hbk : b < c.mu.length := by rw [hc.mulen]; exact (List.getElem?_eq_some_iff.1 hB).1
 obtain ⟨o, _, hr⟩ := hc.blk b _ B (List.getElem?_eq_getElem hbk) hB
 have := hr.within
 rwa [hc.mulen, show c.tok.length = st.toks.length by rw [← hc.toklen]; simp] at this
theorem Acalls.body {f : FuncId} {fn : Func} {code : Code} {args : List V} {R : Out → St → Prop} {k : Nat} (hf : P.funcs[f]? = some fn) (hb : fn.body = some code) (hn : fn.ntmps = k) (hargs : args.length ≤ k)
   (h : AW P G ⟨k, []⟩ st code (bodyQ P fn st R) (entryFr args) st) : Acalls P G f args st R := by
 intro c w cargs hc hG hs hr
 refine calls_of_wp hf hb (wp_mono (h c c w _ hc.at0 (Ext.refl c) hc hG (fun t => ?_) ?_ rfl) ?_)
 · simp only [entryFr]
   by_cases ht : t < args.length
   · rw [show (cargs ++ Array.replicate (fn.ntmps - cargs.size) undef).getD t undef = cargs.getD t undef by
       simp [Array.getD_eq_getD_getElem?, Array.getElem?_append, show t < cargs.size by omega]]
     exact hr t ht
   · rw [show args.getD t .junk = .junk by simp [List.getD_eq_getElem?_getD, show args.length ≤ t by omega]]
     exact .junk _
 · simp only [Array.size_append, Array.size_replicate]
   omega
 · rintro e a' w' ⟨x, fr, st', c', ⟨m, hcut, h5⟩, hext, hc', hf', hs', hd', hx⟩
   obtain ⟨hcc, hext'⟩ := hcut.conf hc.at0 hext hc'
   have fin : ∀ l, resOf P fr st' fn.results.toList = some l → (resV l).share.within st.blks.length m = true → R (.ret (resV l).share) (st'.cut st.blks.length m) →
       ∃ v, (results fn a'.tmps).run P w' = .ok v w' ∧ ∃ out st'' c'', R out st'' ∧ Ext c c'' ∧ Conf c'' w' st'' ∧ EndRel c'' (.returned v) out := by
     intro l hl hw hR
     obtain ⟨cv, hrun, hrel⟩ := resV_sound (P := P) hc' hf' hl
     exact ⟨cv, hrun, _, _, _, hR, hext', hcc, hrel.share.cut hw⟩
   cases e <;> cases x <;> simp only [XRel] at hx
   · obtain ⟨l, a1, a2, a3⟩ := h5
     exact ⟨hd', fin l a1 a2 a3⟩
   · exact h5.elim
   · obtain ⟨l, a1, a2, a3⟩ := h5
     exact ⟨hd', fin l a1 a2 a3⟩
   · obtain ⟨a1, a2⟩ := h5
     obtain ⟨cv, b1, b2⟩ := hx
     exact ⟨hd', _, _, _, a2, hext', hcc, cv, b1, b2.cut a1⟩
end rules
end Go.Abs
