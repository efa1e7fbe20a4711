/- A step of the proofs of the seat's theorems. -/
import Derived.Test.YtofbdmdigopaoaaGreatDoorQ12
set_option linter.unusedSimpArgs false
set_option linter.unusedVariables false
section
namespace Go.Abs
open Go.RowKit
def frOf : List (Nat × V) → Fr
 | [] => fun _ => .junk
 | (i, v) :: r => fun t => if t = i then v else frOf r t
theorem frOf_cons (i : Nat) (v : V) (r : List (Nat × V)) (t : Nat) : frOf ((i, v) :: r) t = if t = i then v else frOf r t := rfl
def okF (fr : Fr) : List (Nat × V) → Prop
 | [] => True
 | (t, v) :: r => fr t = v ∧ okF fr r
def okW (N M : Nat) : List (Nat × V) → Bool
 | [] => true
 | (_, v) :: r => v.within N M && okW N M r
theorem okF_nil (fr : Fr) : okF fr [] = True := rfl
theorem okF_cons (fr : Fr) (t : Nat) (v : V) (r : List (Nat × V)) : okF fr ((t, v) :: r) = (fr t = v ∧ okF fr r) := rfl
theorem okW_nil (N M : Nat) : okW N M [] = true := rfl
theorem okW_cons (N M : Nat) (t : Nat) (v : V) (r : List (Nat × V)) : okW N M ((t, v) :: r) = (v.within N M && okW N M r) := rfl
theorem frOf_prune {fr : Fr} : ∀ {l : List (Nat × V)}, okF fr l → ∀ t, frOf l t = fr t ∨ frOf l t = .junk
 | [], _, _ => .inr rfl
 | (i, v) :: r, h, t => by
   simp only [frOf]
   split
   · rename_i e; subst e; exact .inl h.1.symm
   · exact frOf_prune h.2 t
theorem okF_sweep {fr : Fr} {N M : Nat} : ∀ {l : List (Nat × V)}, okF fr l → okW N M l = true → okF (sweep N M fr) l
 | [], _, _ => trivial
 | (i, v) :: r, h, hw => by
   simp only [okW, Bool.and_eq_true] at hw
   refine ⟨?_, okF_sweep h.2 hw.2⟩
   unfold sweep
   rw [h.1, if_pos hw.1]
theorem vi_congr {k : IntKind} {a b : Int} (h : a = b) : V.d (D.int k a) = V.d (D.int k b) := by rw [h]
theorem vs_congr {a b : List UInt8} (h : a = b) : V.d (D.str a) = V.d (D.str b) := by rw [h]
theorem vown_congr {i : Nat} {a b : List (List D)} (h : a = b) : V.own i a = V.own i b := by rw [h]
section loops
variable {P : Program} {G : World → Nat → Prop} {n : NDs} {st0 : St} {Q : AX → Fr → St → Prop}
structure Nxt {τ : Type} (st0 : St) (σ : τ → List (Nat × V)) (L : τ → List Blk) (U : τ → List (Nat × Nat × Nat)) (p : τ → Prop) (μ : τ → Nat) (x : τ) (fr : Fr) (st : St) (x' : τ) : Prop where
 slots : okF fr (σ x')
 ok : p x'
 less : μ x' < μ x
 blks : st.blks.take (st0.blks.length + (L x').length) = st0.blks ++ L x'
 toks : st.toks.take (st0.toks.length + (U x').length) = st0.toks ++ U x'
 win : okW (st0.blks.length + (L x').length) (st0.toks.length + (U x').length) (σ x') = true
 winB : (L x').all (fun B => B.within (st0.blks.length + (L x').length) (st0.toks.length + (U x').length)) = true
theorem AW.loopS {τ : Type} (σ : τ → List (Nat × V)) (L : τ → List Blk) (U : τ → List (Nat × Nat × Nat)) (p : τ → Prop) (μ : τ → Nat) (x0 : τ) {body : Code} {fr : Fr} {st : St}
   (hst : st = ⟨st0.blks ++ L x0, st0.toks ++ U x0⟩) (h0 : okF fr (σ x0)) (hp : p x0)
   (round : ∀ x, p x → AW P G n st0 body (thenQ (fun fr' st' => ∃ x', Nxt st0 σ L U p μ x fr' st' x') Q) (frOf (σ x)) ⟨st0.blks ++ L x, st0.toks ++ U x⟩) : AW P G n st0 (.loop body) Q fr st := by
 subst hst
 refine AW.prune (frOf (σ x0)) (frOf_prune h0) ?_
 intro c0 c w a h0' he0 hc hg hf hs hd
 refine wp_loop_ghost (fun k a w => ∃ x c1, p x ∧ μ x = k ∧ Ext c0 c1 ∧ Conf c1 w ⟨st0.blks ++ L x, st0.toks ++ U x⟩ ∧ FrRel c1 a.tmps (frOf (σ x)) ∧ a.tmps.size = n.sz ∧ a.defers = n.ds) (μ x0)
   ⟨x0, c, hp, rfl, he0, hc, hf, hs, hd⟩ ?_
 rintro k a1 w1 ⟨x, c1, hI, rfl, he, hc1, hf1, hs1, hd1⟩
 refine wp_mono (round x hI c0 c1 w1 a1 h0' he hc1 (by rw [he.w0, he.base, ← he0.w0, ← he0.base]; exact hg) hf1 hs1 hd1) ?_
 rintro e a2 w2 ⟨x2, fr2, st2, c2, hq, he2, hc2, hf2, hs2, hd2, hx⟩
 cases e <;> cases x2 <;> simp only [XRel] at hx
 · obtain ⟨x', hN⟩ := hq
   have hcut : CutOK st0 st2 (st0.blks.length + (L x').length) (st0.toks.length + (U x').length) := by
     refine ⟨by omega, by omega, fun b B hb hB => ?_⟩
     have hB' : (st0.blks ++ L x')[b]? = some B := by rw [← hN.blks, List.getElem?_take_of_lt hb]; exact hB
     by_cases hlt : b < st0.blks.length
     · rw [List.getElem?_append_left hlt] at hB'
       exact .inl hB'
     · rw [List.getElem?_append_right (by omega)] at hB'
       exact .inr ((List.all_eq_true.1 hN.winB) B (List.mem_of_getElem? hB'))
   obtain ⟨h1, h2⟩ := hcut.conf h0' he2 hc2
   refine ⟨_, hN.less, x', _, hN.ok, rfl, h2, ?_, ?_, hs2, hd2⟩
   · have : st2.cut (st0.blks.length + (L x').length) (st0.toks.length + (U x').length) = ⟨st0.blks ++ L x', st0.toks ++ U x'⟩ := by
       simp only [St.cut, hN.blks, hN.toks]
     rw [← this]
     exact h1
   · have := hf2.sweep (st0.blks.length + (L x').length) (st0.toks.length + (U x').length)
     intro t
     rcases frOf_prune (okF_sweep hN.slots hN.win) t with e | e <;> rw [e]
     · exact this t
     · exact .junk _
 · exact ⟨.exit _, fr2, st2, c2, hq, he2, hc2, hf2, hs2, hd2, hx⟩
 · exact ⟨.ret, fr2, st2, c2, hq, he2, hc2, hf2, hs2, hd2, trivial⟩
 · exact ⟨.pan _, fr2, st2, c2, hq, he2, hc2, hf2, hs2, hd2, hx⟩
end loops
section
variable {P : Program}
def ixS (b : Bool) (s : List UInt8) (i : Int) : Option V := if b && decide (0 ≤ i) then (s[i.toNat]?).map fun b => .d (.int .u8 b.toNat) else none
theorem evalIndex_S (t : TypeId) (s : List UInt8) (k : IntKind) (i : Int) : evalIndex P t (.d (.str s)) (.d (.int k i)) = ixS (isStr P t) s i := rfl
theorem ixS_ok {s : List UInt8} {i : Int} (h0 : 0 ≤ i) (h1 : i.toNat < s.length) : ixS true s i = some (.d (.int .u8 (s.getD i.toNat 0).toNat)) := by simp [ixS, h0, h1]
def ixR (r : Bool) (es : List (List D)) (i : Int) : Option V := if 0 ≤ i ∧ i.toNat < es.length ∧ r = true then some (.ep (es.getD i.toNat []) 0) else none
def ixL (s : Option (Nat × Nat × Nat)) (es : List (List D)) (i : Int) : Option V := match s with | some (_, sz, _) => ixR (rowsLen sz es) es i | none => none
theorem evalIndexAddr_sl {t e sz by_ : Nat} (h : slE P t = some (e, sz, by_)) (es : List (List D)) (k : IntKind) (i : Int) : evalIndexAddr P t (.d (.sl es)) (.d (.int k i)) = ixR (rowsLen sz es) es i := by
 rw [ix_slice P h (x := .d (.sl es)) rfl]; rfl
theorem ixR_ok {es : List (List D)} {i : Int} (h0 : 0 ≤ i) (h1 : i.toNat < es.length) : ixR true es i = some (.ep (es.getD i.toNat []) 0) := by simp [ixR, h0, h1]
theorem ixR_map {α : Type} [Inhabited α] {f : α → List D} {l : List α} {i : Int} (h0 : 0 ≤ i) (h1 : i.toNat < l.length) : ixR true (l.map f) i = some (.ep (f (l.getD i.toNat default)) 0) := by
 simp [ixR, h0, h1, List.getD_eq_getElem?_getD]
theorem boundX_ok {k : IntKind} {a : Int} (h : 0 ≤ a) : boundX (.d (.int k a)) = some a.toNat := by simp [boundX, h]
theorem sliceS_in {l h : Nat} {x : List UInt8} (h1 : l ≤ h) (h2 : h ≤ x.length) : sliceS true (some l) (some h) x = some (.d (.str ((x.take h).drop l))) := by simp [sliceS, h1, h2]
def slR (r : Bool) (l h : Nat) (es : List (List D)) : Option V := if l ≤ h ∧ h ≤ es.length ∧ r = true then some (.d (.sl ((es.take h).drop l))) else none
theorem sliceL_R (e sz by_ l h : Nat) (es : List (List D)) : sliceL (some (e, sz, by_)) (some l) (some h) es = slR (rowsLen sz es) l h es := rfl
theorem slR_ok {l h : Nat} {es : List (List D)} (h1 : l ≤ h) (h2 : h ≤ es.length) : slR true l h es = some (.d (.sl ((es.take h).drop l))) := by simp [slR, h1, h2]
variable (k : IntKind) (t : TypeId)
theorem bin_quo' {a b : Int} (h : b ≠ 0) : evalBin P .quo t (.d (.int k a)) (.d (.int k b)) = some (.d (.int k (k.wrap (a.tdiv b)))) := by rw [bin_quo, if_neg h]
theorem bin_rem' {a b : Int} (h : b ≠ 0) : evalBin P .rem t (.d (.int k a)) (.d (.int k b)) = some (.d (.int k (a.tmod b))) := by rw [bin_rem, if_neg h]
theorem bin_eql' (a b : Int) : evalBin P .eql t (.d (.int k a)) (.d (.int k b)) = some (.d (.bool (decide (a = b)))) := by
 rw [bin_eql]; by_cases h : a = b <;> simp [h]
theorem bin_neq' (a b : Int) : evalBin P .neq t (.d (.int k a)) (.d (.int k b)) = some (.d (.bool (decide (a ≠ b)))) := by
 rw [bin_neq]; by_cases h : a = b <;> simp [h]
theorem bin_seql' (x y : List UInt8) : evalBin P .eql t (.d (.str x)) (.d (.str y)) = some (.d (.bool (decide (x = y)))) := by
 rw [bin_seql]; by_cases h : x = y <;> simp [h]
theorem bin_sneq' (x y : List UInt8) : evalBin P .neq t (.d (.str x)) (.d (.str y)) = some (.d (.bool (decide (x ≠ y)))) := by
 rw [bin_sneq]; by_cases h : x = y <;> simp [h]
theorem bin_sadd' {x y : List UInt8} (h : ((x.length + y.length : Nat) : Int) ≤ 9223372036854775807) : evalBin P .add t (.d (.str x)) (.d (.str y)) = some (.d (.str (x ++ y))) := by
 rw [bin_sadd]; exact if_pos h
theorem not_decide (p : Prop) [Decidable p] : (!decide p) = decide (¬ p) := by by_cases h : p <;> simp [h]
theorem wrap64 {n : Int} (h1 : -9223372036854775808 ≤ n) (h2 : n ≤ 9223372036854775807) : IntKind.i64.wrap n = n := Go.IntWalk.i64_in n ⟨h1, h2⟩
theorem wrap8 {n : Int} (h1 : 0 ≤ n) (h2 : n ≤ 255) : IntKind.u8.wrap n = n := Go.IntWalk.u8_in n ⟨h1, h2⟩
theorem getD_mem {α : Type} [Inhabited α] {l : List α} {i : Nat} (h : i < l.length) : l.getD i default ∈ l := by simp [List.getD_eq_getElem?_getD, h]
theorem getD_eq {α : Type} [Inhabited α] {l : List α} {i : Nat} (h : i < l.length) : l.getD i default = l[i] := by simp [List.getD_eq_getElem?_getD, h]
theorem cast_add_one (i : Nat) : (i : Int) + 1 = ((i + 1 : Nat) : Int) := rfl
theorem cast_add_2 (i : Nat) : (i : Int) + 2 = ((i + 2 : Nat) : Int) := rfl
theorem cast_add_3 (i : Nat) : (i : Int) + 3 = ((i + 3 : Nat) : Int) := rfl
theorem cast_add (i j : Nat) : (i : Int) + (j : Int) = ((i + j : Nat) : Int) := rfl
theorem cast_lt (i j : Nat) : ((i : Int) < (j : Int)) = (i < j) := propext Int.ofNat_lt
theorem cast_le (i j : Nat) : ((i : Int) ≤ (j : Int)) = (i ≤ j) := propext Int.ofNat_le
theorem cast_eq (i j : Nat) : ((i : Int) = (j : Int)) = (i = j) := propext Int.ofNat_inj
theorem cast_sub {i j : Nat} (h : j ≤ i) : (i : Int) - (j : Int) = ((i - j : Nat) : Int) := by omega
theorem take_app {α : Type} (l m : List α) (k : Nat) : (l ++ m).take (l.length + k) = l ++ m.take k := by
 have : l.take (l.length + k) = l := List.take_of_length_le (by omega)
 simp [List.take_append, this]
attribute [go_sem] frOf_cons okF_nil okF_cons okW_nil okW_cons take_app
attribute [go_sem] cast_add_one cast_add_2 cast_add_3 cast_add cast_lt cast_le cast_eq cast_sub
attribute [go_sem] evalIndex_S ixS_ok ixR_map boundX_ok sliceS_in sliceL_R slR_ok bin_quo' bin_rem' bin_eql' bin_neq' bin_seql' bin_sneq' bin_sadd' wrap64 wrap8 not_decide
end
end Go.Abs
end
section
namespace Go.Abs
open Go.RowKit
section
variable {P : Program} {G : World → Nat → Prop} {n : NDs} {st0 : St} {Q : AX → Fr → St → Prop} {fr : Fr} {st : St}
def condQ (P : Program) (G : World → Nat → Prop) (n : NDs) (st0 : St) (b : Bool) (x y : Code) (Q : AX → Fr → St → Prop) (fr : Fr) (st : St) : Prop := AW P G n st0 (if b = true then x else y) Q fr st
theorem AW.condB {x y : Code} {o : Operand} {b : Bool} (hb : ev fr o = .d (.bool b)) (h : condQ P G n st0 b x y Q fr st) : AW P G n st0 (.cond o x y) Q fr st := AW.cond hb h
theorem condQ_t {x y : Code} (h : AW P G n st0 x Q fr st) : condQ P G n st0 true x y Q fr st := h
theorem condQ_f {x y : Code} (h : AW P G n st0 y Q fr st) : condQ P G n st0 false x y Q fr st := h
theorem condQ_dT {x y : Code} {p : Prop} [Decidable p] (hp : p) (h : AW P G n st0 x Q fr st) : condQ P G n st0 (decide p) x y Q fr st := by
 rw [decide_eq_true hp]; exact h
theorem condQ_dF {x y : Code} {p : Prop} [Decidable p] (hp : ¬ p) (h : AW P G n st0 y Q fr st) : condQ P G n st0 (decide p) x y Q fr st := by
 rw [decide_eq_false hp]; exact h
theorem condQ_d {x y : Code} {p : Prop} [Decidable p] (ht : p → AW P G n st0 x Q fr st) (hf : ¬ p → AW P G n st0 y Q fr st) : condQ P G n st0 (decide p) x y Q fr st := by
 by_cases hp : p
 · exact condQ_dT hp (ht hp)
 · exact condQ_dF hp (hf hp)
theorem condQ_bT {x y : Code} {b : Bool} (hb : b = true) (h : AW P G n st0 x Q fr st) : condQ P G n st0 b x y Q fr st := by subst hb; exact h
theorem condQ_bF {x y : Code} {b : Bool} (hb : b = false) (h : AW P G n st0 y Q fr st) : condQ P G n st0 b x y Q fr st := by subst hb; exact h
theorem condQ_b {x y : Code} {b : Bool} (ht : b = true → AW P G n st0 x Q fr st) (hf : b = false → AW P G n st0 y Q fr st) : condQ P G n st0 b x y Q fr st := by
 cases b
 · exact hf rfl
 · exact ht rfl
theorem condQ_nb {x y : Code} {b : Bool} (ht : b = false → AW P G n st0 x Q fr st) (hf : b = true → AW P G n st0 y Q fr st) : condQ P G n st0 (!b) x y Q fr st := by
 cases b
 · exact ht rfl
 · exact hf rfl
variable {d : Bool} {res : List Nat} {all : Array Oper}
def GQ (P : Program) (G : World → Nat → Prop) (n : NDs) (st0 : St) (d : Bool) (res : List Nat) (all : Array Oper) (Q : AX → Fr → St → Prop) (v : V) (j t : Nat) (l : List Oper) (fr : Fr) (st : St) : Prop :=
 fr t = v → OX P G n st0 d res all Q l fr st
theorem OX.gd {dd : Option Tmp} {op : Op} {ty : TypeId} {pos : String} {after : Array Edge} {r : List Oper} {j : Nat} {want : Bool} {t : Tmp} {v : V} (_hn : res.contains j = false) (_ht : (all[j]?).bind (·.dst) = some t) (hb : fr t = v)
   (h : GQ P G n st0 d res all Q v j t ({ dst := dd, op := op, type := ty, pos := pos, after := after, guard := some (j, want) } :: r) fr st) :
   OX P G n st0 d res all Q ({ dst := dd, op := op, type := ty, pos := pos, after := after, guard := some (j, want) } :: r) fr st := h hb
theorem GQ_und {l : List Oper} {j t : Nat} (h : OX P G n st0 d (j :: res) all Q l fr st) : GQ P G n st0 d res all Q (.tup []) j t l fr st := fun _ => h
theorem GQ_t {l : List Oper} {j t : Nat} (h : OX P G n st0 d (j :: res) all Q l fr st) : GQ P G n st0 d res all Q (.d (.bool true)) j t l fr st := fun _ => h
theorem GQ_f {l : List Oper} {j t : Nat} (h : OX P G n st0 d (j :: res) all Q l fr st) : GQ P G n st0 d res all Q (.d (.bool false)) j t l fr st := fun _ => h
theorem GQ_b {l : List Oper} {j t : Nat} {b : Bool} (h1 : b = true → OX P G n st0 d (j :: res) all Q l (upd fr t (.d (.bool true))) st) (h2 : b = false → OX P G n st0 d (j :: res) all Q l (upd fr t (.d (.bool false))) st) :
   GQ P G n st0 d res all Q (.d (.bool b)) j t l fr st := by
 intro hb
 cases b
 · rw [upd_id hb] at h2; exact h2 rfl
 · rw [upd_id hb] at h1; exact h1 rfl
theorem GQ_d {l : List Oper} {j t : Nat} {p : Prop} [Decidable p] (h1 : p → OX P G n st0 d (j :: res) all Q l (upd fr t (.d (.bool true))) st) (h2 : ¬ p → OX P G n st0 d (j :: res) all Q l (upd fr t (.d (.bool false))) st) :
   GQ P G n st0 d res all Q (.d (.bool (decide p))) j t l fr st :=
 GQ_b (fun h => h1 (of_decide_eq_true h)) (fun h => h2 (of_decide_eq_false h))
theorem GQ_dT {l : List Oper} {j t : Nat} {p : Prop} [Decidable p] (hp : p) (h1 : OX P G n st0 d (j :: res) all Q l (upd fr t (.d (.bool true))) st) :
   GQ P G n st0 d res all Q (.d (.bool (decide p))) j t l fr st := GQ_d (fun _ => h1) fun h => absurd hp h
theorem GQ_dF {l : List Oper} {j t : Nat} {p : Prop} [Decidable p] (hp : ¬ p) (h1 : OX P G n st0 d (j :: res) all Q l (upd fr t (.d (.bool false))) st) :
   GQ P G n st0 d res all Q (.d (.bool (decide p))) j t l fr st := GQ_d (fun h => absurd h hp) fun _ => h1
structure NxtT {τ : Type} (st0 : St) (σ : τ → List (Nat × V)) (S : τ → St) (p : τ → Prop) (μ : τ → Nat) (x : τ) (fr : Fr) (st : St) (x' : τ) : Prop where
 slots : okF fr (σ x')
 ok : p x'
 less : μ x' < μ x
 state : st.cut (S x').blks.length (S x').toks.length = S x'
 blks : st0.blks.length ≤ (S x').blks.length
 toks : st0.toks.length ≤ (S x').toks.length
 win : okW (S x').blks.length (S x').toks.length (σ x') = true
 old : ∀ (b : Nat) (B : Blk), (S x').blks[b]? = some B → st0.blks[b]? = some B ∨ B.within (S x').blks.length (S x').toks.length = true
theorem AW.loopT {τ : Type} (σ : τ → List (Nat × V)) (S : τ → St) (p : τ → Prop) (μ : τ → Nat) (x0 : τ) {body : Code}
   (hst : st = S x0) (h0 : okF fr (σ x0)) (hp : p x0)
   (round : ∀ x, p x → AW P G n st0 body (thenQ (fun fr' st' => ∃ x', NxtT st0 σ S p μ x fr' st' x') Q) (frOf (σ x)) (S x)) : AW P G n st0 (.loop body) Q fr st := by
 subst hst
 refine AW.prune (frOf (σ x0)) (frOf_prune h0) ?_
 intro c0 c w a h0' he0 hc hg hf hs hd
 refine wp_loop_ghost (fun k a w => ∃ x c1, p x ∧ μ x = k ∧ Ext c0 c1 ∧ Conf c1 w (S x) ∧ FrRel c1 a.tmps (frOf (σ x)) ∧ a.tmps.size = n.sz ∧ a.defers = n.ds) (μ x0)
   ⟨x0, c, hp, rfl, he0, hc, hf, hs, hd⟩ ?_
 rintro k a1 w1 ⟨x, c1, hI, rfl, he, hc1, hf1, hs1, hd1⟩
 refine wp_mono (round x hI c0 c1 w1 a1 h0' he hc1 (by rw [he.w0, he.base, ← he0.w0, ← he0.base]; exact hg) hf1 hs1 hd1) ?_
 rintro e a2 w2 ⟨x2, fr2, st2, c2, hq, he2, hc2, hf2, hs2, hd2, hx⟩
 cases e <;> cases x2 <;> simp only [XRel] at hx
 · obtain ⟨x', hN⟩ := hq
   have hb : st2.blks.take (S x').blks.length = (S x').blks := congrArg St.blks hN.state
   have hcut : CutOK st0 st2 (S x').blks.length (S x').toks.length := by
     refine ⟨hN.blks, hN.toks, fun b B hlt hB => hN.old b B ?_⟩
     rw [← hb, List.getElem?_take_of_lt hlt]; exact hB
   obtain ⟨h1, h2⟩ := hcut.conf h0' he2 hc2
   refine ⟨_, hN.less, x', _, hN.ok, rfl, h2, ?_, ?_, hs2, hd2⟩
   · rw [← hN.state]; rw [← hN.state] at h1; simpa [hN.state] using h1
   · have := hf2.sweep (S x').blks.length (S x').toks.length
     intro t
     rcases frOf_prune (okF_sweep hN.slots hN.win) t with e | e <;> rw [e]
     · exact this t
     · exact .junk _
 · exact ⟨.exit _, fr2, st2, c2, hq, he2, hc2, hf2, hs2, hd2, hx⟩
 · exact ⟨.ret, fr2, st2, c2, hq, he2, hc2, hf2, hs2, hd2, trivial⟩
 · exact ⟨.pan _, fr2, st2, c2, hq, he2, hc2, hf2, hs2, hd2, hx⟩
theorem bodyQ_panS {fn : Func} {R : Out → St → Prop} {st' s1 : St} {v : V} (hs : st'.cut st.blks.length st.toks.length = s1)
   (ho : ∀ (b : Nat) (B : Blk), s1.blks[b]? = some B → st.blks[b]? = some B ∨ B.within st.blks.length st.toks.length = true)
   (hw : v.within st.blks.length st.toks.length = true) (hR : R (.pan v) s1) : bodyQ P fn st R (.pan v) fr st' := by
 subst hs
 refine ⟨st.toks.length, ⟨Nat.le_refl _, Nat.le_refl _, fun b B h1 h2 => ho b B ?_⟩, hw, hR⟩
 simp only [St.cut]
 rw [List.getElem?_take_of_lt h1]; exact h2
end
attribute [go_sem] List.length_cons List.length_nil List.length_append List.length_map List.append_assoc List.cons_append List.nil_append List.append_nil List.getElem?_cons_zero List.getElem?_cons_succ List.take_succ_cons List.take_zero List.take_nil List.drop_succ_cons List.drop_zero List.drop_nil List.map_cons List.map_nil List.map_append List.all_cons List.all_nil List.set_cons_zero List.set_cons_succ Option.map_some Option.map_none Option.bind_some Option.bind_none Option.getD_some Nat.add_zero Nat.zero_add Nat.le_refl Option.isSome_some Int.toNat_natCast List.getElem?_toArray Nat.sub_self List.length_set List.take_length List.take_left' st_eta Bool.true_or Bool.false_or Bool.or_true Bool.or_false Bool.not_true Bool.not_false Bool.and_false Bool.false_and decide_true decide_false decide_eq_true_eq Bool.false_eq_true Bool.true_and Bool.and_true true_and and_true if_true if_false and_self
attribute [go_sem] List.toList_toArray Int.zero_add Int.add_zero Int.mul_zero Int.zero_mul Int.sub_zero
end Go.Abs
namespace Go.Abs
open Go.RowKit
section
variable {P : Program} {G : World → Nat → Prop} {n : NDs} {st0 : St} {Q : AX → Fr → St → Prop} {fr : Fr} {st : St}
theorem AW.cutB {x y : Code} (id : Nat) (σ : List (Nat × V)) (S : St) (h1 : AW P G n st0 (.block id x) (thenQ (fun fr' st' => okF fr' σ ∧ st' = S) Q) fr st) (h2 : AW P G n st0 y Q (frOf σ) S) : AW P G n st0 (.seq (.block id x) y) Q fr st := by
 refine AW.seq (h1.mono fun e fr' st' hx => ?_)
 cases e <;> simp only [thenQ] at hx ⊢
 · obtain ⟨ho, rfl⟩ := hx
   exact AW.prune (frOf σ) (frOf_prune ho) h2
 all_goals exact hx
end
end Go.Abs
namespace Go.Abs
open Go.RowKit
section
variable {P : Program} {G : World → Nat → Prop} {n : NDs} {st0 : St} {Q : AX → Fr → St → Prop} {fr : Fr} {st : St}
def RoundsA (P : Program) (G : World → Nat → Prop) (n : NDs) (st0 : St) (body : Code) (Q : AX → Fr → St → Prop) : Nat → Fr → St → Prop
 | 0, _, _ => False
 | k + 1, fr, st => AW P G n st0 body (thenQ (RoundsA P G n st0 body Q k) Q) fr st
theorem RoundsA_succ {body : Code} {k : Nat} (h : AW P G n st0 body (thenQ (RoundsA P G n st0 body Q k) Q) fr st) : RoundsA P G n st0 body Q (k + 1) fr st := h
theorem AW.rounds {body : Code} (k : Nat) (h : RoundsA P G n st0 body Q k fr st) : AW P G n st0 (.loop body) Q fr st := by
 intro c0 c w a h0' he0 hc hg hf hs hd
 refine wp_loop_ghost (fun k a w => ∃ c1 fr st, RoundsA P G n st0 body Q k fr st ∧ Ext c0 c1 ∧ Conf c1 w st ∧ FrRel c1 a.tmps fr ∧ a.tmps.size = n.sz ∧ a.defers = n.ds) k
   ⟨c, fr, st, h, he0, hc, hf, hs, hd⟩ ?_
 rintro k a1 w1 ⟨c1, fr1, st1, hI, he, hc1, hf1, hs1, hd1⟩
 cases k with
 | zero => exact hI.elim
 | succ k =>
   refine wp_mono (hI c0 c1 w1 a1 h0' he hc1 (by rw [he.w0, he.base, ← he0.w0, ← he0.base]; exact hg) hf1 hs1 hd1) ?_
   rintro e a2 w2 ⟨x2, fr2, st2, c2, hq, he2, hc2, hf2, hs2, hd2, hx⟩
   cases e <;> cases x2 <;> simp only [XRel] at hx
   · exact ⟨k, Nat.lt_succ_self _, c2, fr2, st2, hq, he2, hc2, hf2, hs2, hd2⟩
   · exact ⟨.exit _, fr2, st2, c2, hq, he2, hc2, hf2, hs2, hd2, hx⟩
   · exact ⟨.ret, fr2, st2, c2, hq, he2, hc2, hf2, hs2, hd2, trivial⟩
   · exact ⟨.pan _, fr2, st2, c2, hq, he2, hc2, hf2, hs2, hd2, hx⟩
end
end Go.Abs
namespace Go.Abs
open Go.RowKit
section
variable {P : Program} {G : World → Nat → Prop} {n : NDs} {st0 : St} {Q : AX → Fr → St → Prop} {fr : Fr} {st : St}
structure KOf (P : Program) (G : World → Nat → Prop) (n : NDs) (st0 : St) (y : Code) (Q : AX → Fr → St → Prop) (K : Fr → St → Prop) : Prop where
 use : ∀ fr st, AW P G n st0 y Q fr st → K fr st
theorem KOf.go {y : Code} {K : Fr → St → Prop} (h : KOf P G n st0 y Q K) (k : AW P G n st0 y Q fr st) : K fr st := h.use _ _ k
end
end Go.Abs
namespace Go.Abs
open Go.RowKit
section
variable {P : Program} {G : World → Nat → Prop} {n : NDs} {st0 : St} {Q : AX → Fr → St → Prop} {fr : Fr} {st : St}
theorem AW.atB {x y : Code} (id : Nat) (h : AW P G n st0 (.seq (.block id x) y) Q fr st) : AW P G n st0 (.seq (.block id x) y) Q fr st := h
theorem AW.atL {x : Code} (h : AW P G n st0 (.loop x) Q fr st) : AW P G n st0 (.loop x) Q fr st := h
end
end Go.Abs
end
section
namespace Go.Abs
open Go.RowKit
def lz (id : Nat) (es : List (List D)) : V := match es with | [] => .nils | es => .own id es
def lzT (e sz : Nat) (es : List (List D)) : List (Nat × Nat × Nat) := match es with | [] => [] | es => [(e, sz, es.length)]
theorem lz_nil (id : Nat) : lz id [] = .nils := rfl
theorem lzT_nil (e sz : Nat) : lzT e sz [] = [] := rfl
section
variable {P : Program} {t : TypeId} {st : St}
theorem lz_toD (id : Nat) (es : List (List D)) : (lz id es).toD = some (.sl es) := by cases es <;> rfl
theorem lz_share (id : Nat) (es : List (List D)) : (lz id es).share = .d (.sl es) := by cases es <;> rfl
theorem lz_one (id : Nat) (es : List (List D)) : (lz id es).one = true := by cases es <;> rfl
theorem lz_cells (id : Nat) (es : List (List D)) : (lz id es).cells = some [lz id es] := by cases es <;> rfl
theorem lz_within (N M : Nat) (e sz : Nat) (es : List (List D)) : (lz M es).within N (M + (lzT e sz es).length) = true := by cases es <;> simp [lz, lzT, V.within]
theorem lz_len (id : Nat) (es : List (List D)) : evalLen P t (lz id es) = lenX (slE P t) es.length := by
 cases es
 · exact evalLen_nils P t
 · exact evalLen_own P t id _
theorem lz_ix (id : Nat) (es : List (List D)) (k : IntKind) (i : Int) : evalIndexAddr P t (lz id es) (.d (.int k i)) = ixL (slE P t) es i := by
 cases hs : slE P t with
 | none => cases es <;> simp only [lz, evalIndexAddr, V.toD, hs, ixL] <;> split <;> rfl
 | some g =>
   obtain ⟨e, sz, by_⟩ := g
   rw [ix_slice P hs (x := lz id es) (lz_toD id es)]; rfl
theorem ixL_some (e sz by_ : Nat) (es : List (List D)) (i : Int) : ixL (some (e, sz, by_)) es i = ixR (rowsLen sz es) es i := rfl
def appA (P : Program) (o : Option (Nat × Nat × Nat)) (X : Option D) (s : V) (st : St) : Option (V × St) :=
 match o, X with
 | some (e, sz, by_), some (.sl xs) =>
   if rowsOK sz xs = true ∧ 0 < sz ∧ zeroSz P e = some sz then match s with
     | .nils =>
       if xs.length * by_ ≤ roomB ∧ xs.length ≤ maxLen then
         if xs.isEmpty then some (.nils, st) else some (.own st.toks.length xs, { st with toks := st.toks ++ [(e, sz, xs.length)] })
       else none
     | .own id es =>
       if st.toks[id]? = some (e, sz, es.length) ∧ rowsLen sz es = true ∧ (es.length + xs.length) * by_ ≤ roomB ∧ es.length + xs.length ≤ maxLen then
         if xs.isEmpty then some (.own id es, st) else some (.own id (es ++ xs), { st with toks := st.toks.set id (e, sz, es.length + xs.length) })
       else none
     | _ => none
   else none
 | _, _ => none
theorem app_eq (s x : V) : evalAppend P t s x st = appA P (slE P t) x.toD s st := rfl
def appB (z : Option Nat) (r l : Bool) (e sz by_ : Nat) (xs : List (List D)) (s : V) (st : St) : Option (V × St) :=
   if r = true ∧ 0 < sz ∧ z = some sz then match s with
     | .nils =>
       if xs.length * by_ ≤ roomB ∧ xs.length ≤ maxLen then
         if xs.isEmpty then some (.nils, st) else some (.own st.toks.length xs, { st with toks := st.toks ++ [(e, sz, xs.length)] })
       else none
     | .own id es =>
       if st.toks[id]? = some (e, sz, es.length) ∧ l = true ∧ (es.length + xs.length) * by_ ≤ roomB ∧ es.length + xs.length ≤ maxLen then
         if xs.isEmpty then some (.own id es, st) else some (.own id (es ++ xs), { st with toks := st.toks.set id (e, sz, es.length + xs.length) })
       else none
     | _ => none
   else none
theorem app_lz (e sz by_ id : Nat) (xs es : List (List D)) : appA P (some (e, sz, by_)) (some (.sl xs)) (lz id es) st = appB (zeroSz P e) (rowsOK sz xs) (rowsLen sz es) e sz by_ xs (lz id es) st := by cases es <;> rfl
theorem app_nils (e sz by_ : Nat) (xs : List (List D)) : appA P (some (e, sz, by_)) (some (.sl xs)) .nils st = appB (zeroSz P e) (rowsOK sz xs) true e sz by_ xs .nils st := rfl
theorem app_own (e sz by_ id : Nat) (xs es : List (List D)) : appA P (some (e, sz, by_)) (some (.sl xs)) (.own id es) st = appB (zeroSz P e) (rowsOK sz xs) (rowsLen sz es) e sz by_ xs (.own id es) st := rfl
theorem appB_lz (e sz by_ : Nat) (xs es : List (List D)) (B : List Blk) (T : List (Nat × Nat × Nat)) (h0 : 0 < sz) (hx : 0 < xs.length) (h1 : (es.length + xs.length) * by_ ≤ 140737488355328) (h2 : es.length + xs.length ≤ 9223372036854775807) :
   appB (some sz) true true e sz by_ xs (lz T.length es) ⟨B, T ++ lzT e sz es⟩ = some (lz T.length (es ++ xs), ⟨B, T ++ lzT e sz (es ++ xs)⟩) := by
 have hm : maxLen = 9223372036854775807 := by decide
 have hxe : xs.isEmpty = false := by cases xs <;> simp_all
 cases es with
 | nil =>
   simp only [List.length_nil, Nat.zero_add] at h1 h2
   cases xs with
   | nil => simp at hx
   | cons x xs => simp [appB, lz, lzT, roomB, hm, h0]; simp at h1 h2; exact ⟨h1, h2⟩
 | cons y es =>
   simp only [appB, lz, lzT, roomB, hm, h0]
   rw [if_pos ⟨trivial, trivial, trivial⟩, if_pos ⟨by simp, trivial, by simpa using h1, by simpa using h2⟩, hxe]
   simp; omega
attribute [go_sem] lz_nil lzT_nil lz_toD lz_share lz_one lz_cells lz_within lz_len lz_ix ixL_some app_eq app_lz appB_lz
end
end Go.Abs
end
section
namespace Go.Abs
open Go.RowKit
section
variable {P : Program} {G : World → Nat → Prop} {n : NDs} {st0 : St} {Q : AX → Fr → St → Prop} {fr : Fr} {st : St} {d : Bool} {res : List Nat} {all : Array Oper}
attribute [go_sem] share_agg share_tup shareL_nil shareL_cons shareL_map
end
end Go.Abs
end
section
namespace Go.Abs
open Go.RowKit
def shB : Blk → Blk
 | .cells cs => .cells (V.share.shareL cs)
 | .iter s p => .iter s p
 | .tc e cs => .tc e (V.share.shareL cs)
theorem shB_cells (cs : List V) : shB (.cells cs) = .cells (V.share.shareL cs) := rfl
theorem BlkRel.shB {c : Ctx} {o : Obj} {B : Blk} (r : BlkRel c o B) : BlkRel c o (Abs.shB B) := by
 cases r with
 | cells arr elem cs hs hr =>
   refine .cells arr elem _ (by rw [shareL_length]; exact hs) fun i hi => ?_
   rw [shareL_length] at hi
   rw [shareL_getD cs i hi]
   exact (hr i hi).share
 | tc arr elem cs hs hr =>
   refine .tc arr elem _ (by rw [shareL_length]; exact hs) fun i hi => ?_
   rw [shareL_length] at hi
   rw [shareL_getD cs i hi]
   exact (hr i hi).share
 | iter s l pos e => exact .iter s l pos e
theorem Conf.shB {c : Ctx} {w : World} {bs bs' : List Blk} {t : List (Nat × Nat × Nat)} (h : Conf c w ⟨bs, t⟩) (hl : bs'.length = bs.length) (hb : ∀ (i : Nat) (B B' : Blk), bs[i]? = some B → bs'[i]? = some B' → B' = B ∨ B' = Abs.shB B) : Conf c w ⟨bs', t⟩ where
 mulen := by rw [h.mulen]; exact hl.symm
 muinj := h.muinj
 mubase := h.mubase
 muH := h.muH
 blk := by
   intro b k B hk hB
   have hlt : b < bs.length := by rw [← hl]; exact (List.getElem?_eq_some_iff.1 hB).1
   obtain ⟨o, ho, hr⟩ := h.blk b k bs[b] hk (List.getElem?_eq_getElem hlt)
   rcases hb b bs[b] B (List.getElem?_eq_getElem hlt) hB with rfl | rfl
   · exact ⟨o, ho, hr⟩
   · exact ⟨o, ho, hr.shB⟩
 toklen := h.toklen
 tokown := h.tokown
 tokinj := h.tokinj
 sealed := h.sealed
 below := h.below
 basele := h.basele
section
variable {P : Program} {G : World → Nat → Prop} {n : NDs} {st0 : St} {Q : AX → Fr → St → Prop} {fr : Fr} {st : St}
structure NxtW {τ : Type} (st0 : St) (σ : τ → List (Nat × V)) (L : τ → List Blk) (U : τ → List (Nat × Nat × Nat)) (p : τ → Prop) (μ : τ → Nat) (x : τ) (fr : Fr) (st : St) (x' : τ) : Prop where
 slots : okF fr (σ x')
 ok : p x'
 less : μ x' < μ x
 blks : ∃ M, st.blks.take (st0.blks.length + (L x').length) = st0.blks ++ M ∧ M.map shB = L x'
 toks : st.toks.take (st0.toks.length + (U x').length) = st0.toks ++ U x'
 win : okW (st0.blks.length + (L x').length) (st0.toks.length + (U x').length) (σ x') = true
 winB : ∀ M, M.map shB = L x' → st.blks.take (st0.blks.length + (L x').length) = st0.blks ++ M → M.all (fun B => B.within (st0.blks.length + (L x').length) (st0.toks.length + (U x').length)) = true
end
attribute [go_sem] shB_cells
end Go.Abs
end
section
namespace Go.Abs
open Go.RowKit
section
variable {P : Program} {G : World → Nat → Prop} {n : NDs} {st0 : St} {Q : AX → Fr → St → Prop}
inductive OMr (P : Program) (G : World → Nat → Prop) (n : NDs) (all : Array Oper) (muts : List Nat) : Nat → List Oper → Fr → St → List V → List St → Fr → St → Prop
 | nil (i : Nat) (fr : Fr) (st : St) : OMr P G n all muts i [] fr st [] [] fr st
 | cons (i : Nat) (o : Oper) (r : List Oper) (fr : Fr) (st : St) (v : V) (st1 : St) (vs : List V) (ss : List St) (fr' : Fr) (st' : St) : StepOK P G n all o fr st v st1 → (kindO muts i o = 1 → st1 = st) →
     OMr P G n all muts (i + 1) r (putA fr o.dst v) st1 vs ss fr' st' → OMr P G n all muts i (o :: r) fr st (v :: vs) (st1 :: ss) fr' st'
theorem OTr.toM {all : Array Oper} {l : List Oper} {fr fr' : Fr} {st st' : St} {vs : List V} {ss : List St} (h : OTr P G n all l fr st vs ss fr' st') : ∀ i, OMr P G n all [] i l fr st vs ss fr' st' := by
 induction h with
 | nil fr st => intro i; exact .nil i fr st
 | cons o r fr st v st1 vs ss fr' st' h1 h2 _ ih => intro i; exact .cons i o r fr st v st1 vs ss fr' st' h1 (fun hk => h2 (by simpa [kindO] using hk)) (ih (i + 1))
theorem OMr.run {all : Array Oper} {muts : List Nat} {res : List Nat} : ∀ {l : List Oper} {fr : Fr} {st : St} {rest : List Oper} {fr' : Fr} {st' : St} {fr'' : Fr} {st'' : St} {i : Nat} {vs ss},
   runL P n all res l fr st = some (rest, fr', st') → OMr P G n all muts (i + (l.length - rest.length)) rest fr' st' vs ss fr'' st'' → ∃ vs ss, OMr P G n all muts i l fr st vs ss fr'' st''
 | [], fr, st, rest, fr', st', fr'', st'', i, vs, ss, h, k => by
   simp only [runL, Option.some.injEq, Prod.mk.injEq] at h
   obtain ⟨rfl, rfl, rfl⟩ := h
   exact ⟨vs, ss, by simpa using k⟩
 | o :: r, fr, st, rest, fr', st', fr'', st'', i, vs, ss, h, k => by
   simp only [runL] at h
   split at h
   · split at h
     · rename_i hg
       split at h
       · simp only [Option.some.injEq, Prod.mk.injEq] at h
         obtain ⟨rfl, rfl, rfl⟩ := h
         exact ⟨vs, ss, by simpa using k⟩
       · rename_i hne
         split at h
         · rename_i v st1 he
           split at h
           · rename_i hd
             have hlen := runL_len h
             obtain ⟨vs1, ss1, h1⟩ := OMr.run (i := i + 1) (vs := vs) (ss := ss) h (by
               have : i + 1 + (r.length - rest.length) = i + ((o :: r).length - rest.length) := by simp only [List.length_cons]; omega
               rw [this]; exact k)
             exact ⟨_, _, .cons i o r fr st v st1 _ _ _ _ (.op _ _ hg he hd) (fun hk => evalOp_reader (by simpa using hne) he (kindO_1 hk)) h1⟩
           · simp at h
         · simp at h
     · rename_i hg
       split at h
       · rename_i hd
         have hlen := runL_len h
         obtain ⟨vs1, ss1, h1⟩ := OMr.run (i := i + 1) (vs := vs) (ss := ss) h (by
               have : i + 1 + (r.length - rest.length) = i + ((o :: r).length - rest.length) := by simp only [List.length_cons]; omega
               rw [this]; exact k)
         exact ⟨_, _, .cons i o r fr st _ st _ _ _ _ (.skip hg hd) (fun _ => rfl) h1⟩
       · simp at h
     · simp at h
   · simp only [Option.some.injEq, Prod.mk.injEq] at h
     obtain ⟨rfl, rfl, rfl⟩ := h
     exact ⟨vs, ss, by simpa using k⟩
where
 runL_len : ∀ {l : List Oper} {fr : Fr} {st : St} {rest : List Oper} {fr' : Fr} {st' : St}, runL P n all res l fr st = some (rest, fr', st') → rest.length ≤ l.length
 | [], fr, st, rest, fr', st', h => by
   simp only [runL, Option.some.injEq, Prod.mk.injEq] at h
   obtain ⟨rfl, rfl, rfl⟩ := h
   exact Nat.le_refl _
 | o :: r, fr, st, rest, fr', st', h => by
   simp only [runL] at h
   split at h
   · split at h
     · split at h
       · simp only [Option.some.injEq, Prod.mk.injEq] at h
         obtain ⟨rfl, rfl, rfl⟩ := h
         exact Nat.le_refl _
       · split at h
         · split at h
           · have := runL_len h; simp only [List.length_cons]; omega
           · simp at h
         · simp at h
     · split at h
       · have := runL_len h; simp only [List.length_cons]; omega
       · simp at h
     · simp at h
   · simp only [Option.some.injEq, Prod.mk.injEq] at h
     obtain ⟨rfl, rfl, rfl⟩ := h
     exact Nat.le_refl _
 kindO_1 {i : Nat} {o : Oper} (h : kindO muts i o = 1) : kindO [] 0 o = 1 := by
   unfold kindO at h ⊢
   split at h
   · simp at h
   · simpa using h
theorem OMr.spec {all : Array Oper} {muts : List Nat} : ∀ {l : List Oper} {fr : Fr} {st : St} {vs : List V} {ss : List St} {fr' : Fr} {st' : St} {q : Nat}, OMr P G n all muts q l fr st vs ss fr' st' →
   ∀ (pre : List Oper) (fr0 : Fr) (W : Nat → V) (T : Nat → St), pre.length = q → (∀ j o d, (pre ++ l)[j]? = some o → o.dst = some d → wrt (pre ++ l) d = some j) →
     (∀ i, W (pre.length + i) = vs.getD i .junk) → (∀ i, T (pre.length + i) = (st :: ss).getD i default) → fr = valOf (pre ++ l) fr0 W (fun k => decide (k < pre.length)) →
     (∀ i o, pre.length ≤ i → (pre ++ l)[i]? = some o → StepOK P G n all o (valOf (pre ++ l) fr0 W (fun k => decide (k < i))) (T i) (W i) (T (i + 1)) ∧ (kindO muts i o = 1 → T (i + 1) = T i)) ∧
     fr' = valOf (pre ++ l) fr0 W (fun _ => true) ∧ st' = T (pre ++ l).length := by
 intro l
 induction l with
 | nil =>
   intro fr st vs ss fr' st' q h pre fr0 W T hq hd hW hT hfr
   cases h
   refine ⟨fun i o h1 h2 => ?_, ?_, ?_⟩
   · rw [List.getElem?_append_right h1] at h2
     simp at h2
   · rw [hfr]
     funext t
     unfold valOf
     cases hw : wrt (pre ++ []) t with
     | none => rfl
     | some i =>
       obtain ⟨o, h1, _⟩ := wrt_some hw
       have := (List.getElem?_eq_some_iff.1 h1).1
       simp only [List.append_nil] at this
       simp [this]
   · have := hT 0
     simp at this ⊢
     exact this.symm
 | cons o r ih =>
   intro fr st vs ss fr' st' q h pre fr0 W T hq hd hW hT hfr
   cases h with
   | cons _ _ _ _ _ v st1 vs ss _ _ hs hk hr =>
     subst hq
     have heq : (pre ++ [o]) ++ r = pre ++ o :: r := by simp
     have hlo : (pre ++ o :: r)[pre.length]? = some o := by simp
     have hput : putA fr o.dst v = valOf (pre ++ o :: r) fr0 W (fun k => decide (k < pre.length + 1)) := by
       have hv : W pre.length = v := by have := hW 0; simpa using this
       funext t
       rw [hfr]
       unfold putA
       cases hdst : o.dst with
       | none =>
         simp only [valOf]
         cases hw : wrt (pre ++ o :: r) t with
         | none => rfl
         | some i =>
           have hi : i ≠ pre.length := by
             rintro rfl
             obtain ⟨o', h1, h2⟩ := wrt_some hw
             rw [hlo] at h1
             cases h1
             rw [hdst] at h2
             cases h2
           have : (decide (i < pre.length)) = decide (i < pre.length + 1) := by simp; omega
           simp only [this]
       | some d =>
         simp only [upd]
         split
         · rename_i htd
           subst htd
           simp only [valOf, hd pre.length o t hlo hdst]
           simp [hv]
         · rename_i htd
           simp only [valOf]
           cases hw : wrt (pre ++ o :: r) t with
           | none => rfl
           | some i =>
             have hi : i ≠ pre.length := by
               rintro rfl
               obtain ⟨o', h1, h2⟩ := wrt_some hw
               rw [hlo] at h1
               cases h1
               rw [hdst] at h2
               cases h2
               exact htd rfl
             have : (decide (i < pre.length)) = decide (i < pre.length + 1) := by simp; omega
             simp only [this]
     have := ih hr (pre ++ [o]) fr0 W T (by simp) (by rw [heq]; exact hd) (fun i => by
         have := hW (i + 1)
         rw [List.length_append, List.length_singleton, show pre.length + 1 + i = pre.length + (i + 1) by omega, this]
         simp) (fun i => by
         have := hT (i + 1)
         rw [List.length_append, List.length_singleton, show pre.length + 1 + i = pre.length + (i + 1) by omega, this]
         simp) (by rw [heq, List.length_append, List.length_singleton]; exact hput)
     rw [heq, List.length_append, List.length_singleton] at this
     obtain ⟨h1, h2, h3⟩ := this
     refine ⟨fun i o' hi ho' => ?_, h2, h3⟩
     by_cases he : i = pre.length
     · subst he
       rw [hlo] at ho'
       cases ho'
       have t0 := hT 0
       have t1 := hT 1
       have w0 := hW 0
       simp at t0 t1 w0
       rw [t0, t1, w0, ← hfr]
       exact ⟨hs, hk⟩
     · exact h1 i o' (by omega) ho'
theorem OMr.len {all : Array Oper} {muts : List Nat} {q : Nat} {l : List Oper} {fr fr' : Fr} {st st' : St} {vs : List V} {ss : List St} (h : OMr P G n all muts q l fr st vs ss fr' st') : vs.length = l.length ∧ ss.length = l.length := by
 induction h with
 | nil => exact ⟨rfl, rfl⟩
 | cons i o r fr st v st1 vs ss fr' st' h1 h2 h3 ih => simp [ih.1, ih.2]
structure ExAt (P : Program) (l : List Oper) (fr' : Fr) (S : Nat → St) (i hi : Nat) : Prop where
 ex : ∃ o t ty, l[i]? = some o ∧ o.op = .load ty (.tmp t) ∧ o.guard = none ∧ (∀ j, wrt l t = some j → j < i) ∧ ∀ k, k ≤ hi → ∀ v s, evalLoad P ty (fr' t) (S i) = some v → s = S k → evalLoad P ty (fr' t) s = some v
theorem AW.drawnM {id : Nat} {l : List Oper} {fr : Fr} {st : St} {muts : List Nat} {ex : List (Nat × Nat)} (hm : P.follows .mixedOrders = true) (hok : drawOK l muts ex l.length = true)
   {vs : List V} {ss : List St} {fr' : Fr} {st' : St} (htr : OMr P G n l.toArray muts 0 l fr st vs ss fr' st') (hx : ∀ i hi, (i, hi) ∈ ex → ExAt P l fr' (fun k => (st :: ss).getD k default) i hi) (hQ : Q .normal fr' st') :
   AW P G n st0 (.region id l.toArray true) Q fr st := by
 intro c0 c w a h0 he hc hg hf hs hd
 have hg0 : G c0.w0 c0.base := by rw [← he.w0, ← he.base]; exact hg
 obtain ⟨h1, h2, h3⟩ := htr.spec [] fr (fun i => vs.getD i .junk) (fun i => (st :: ss).getD i default) rfl (fun j o d ho hd => (drawOK_facts hok ho).dst d hd) (by simp) (by simp) (by
   funext t; unfold valOf; cases wrt ([] ++ l) t <;> simp)
 simp only [List.nil_append, List.length_nil, Nat.zero_le, true_implies] at h1 h2 h3
 have R : Run P G n l muts ex l.length fr (fun i => vs.getD i .junk) (fun i => (st :: ss).getD i default) := by
   refine ⟨hok, Nat.le_refl _, fun i o hi ho => (h1 i o ho).1, fun i o hi ho => (h1 i o ho).2, ?_, trivial⟩
   intro i hi o hmem ho hil k hk hkm
   obtain ⟨o', t, ty, e1, e2, e3, e4, e5⟩ := (hx i hi hmem).ex
   rw [ho] at e1; cases e1
   obtain ⟨dst, op, type, pos, after, guard⟩ := o
   simp only at e2 e3
   subst e2 e3
   have hfr : fr' t = valOf l fr (fun i => vs.getD i .junk) (fun k => decide (k < i)) t := by
     rw [h2]; unfold valOf
     cases hw : wrt l t with
     | none => rfl
     | some j => simp only [if_true, decide_eq_true (e4 j hw)]
   have hs : StepOK P G n l.toArray _ (valOf l fr (fun i => vs.getD i .junk) (fun k => decide (k < i))) ((st :: ss).getD i default) (vs.getD i .junk) ((st :: ss).getD (i + 1) default) := (h1 i _ ho).1
   show StepOK P G n l.toArray _ (valOf l fr (fun i => vs.getD i .junk) (fun k => decide (k < i))) ((st :: ss).getD k default) (vs.getD i .junk) ((st :: ss).getD k default)
   generalize hq : valOf l fr (fun i => vs.getD i .junk) (fun k => decide (k < i)) = fq at hs hfr ⊢
   generalize vs.getD i .junk = vv at hs ⊢
   generalize hS : (st :: ss).getD i default = S1 at hs
   generalize (st :: ss).getD (i + 1) default = S2 at hs
   have e5 : ∀ v s, evalLoad P ty (fr' t) ((st :: ss).getD i default) = some v → s = (st :: ss).getD k default → evalLoad P ty (fr' t) s = some v := e5 k hk
   rw [hS] at e5
   cases hs with
   | op _ _ g1 g2 g3 =>
     refine .op _ _ rfl ?_ g3
     simp only [evalOp, ev] at g2 ⊢
     obtain ⟨q1, q2⟩ := map_pair g2
     rw [← hfr] at q2 ⊢
     rw [e5 _ _ q2 rfl]; rfl
   | skip g1 g2 => simp [goes] at g1
   | call _ _ g cap x args ats _ hop => cases hop
 refine wp_region_any hm ?_
 have hrep : ∀ i, (Array.replicate l.toArray.size false).getD i false = false := fun i => by
   rw [Array.getD_eq_getD_getElem?, Array.getElem?_replicate]
   split <;> rfl
 refine wpAny_run R hg0 (.inl ⟨rfl, by rw [← h2, ← h3]; exact hQ⟩) _ _ 0 a _ c ?_ ?_ he (drew_conf hc) ?_ hs hd
 · refine ⟨by simp, fun j o _ hj => ?_, fun j hj => ?_, Nat.zero_le _, fun i o _ _ => ?_⟩
   · exact absurd hj (by rw [hrep]; simp)
   · exact absurd hj (by rw [hrep]; simp)
   · rw [hrep]; simp
 · exact Nat.le_trans Array.count_le_size (by simp)
 · intro t
   have := hf t
   unfold valOf
   cases wrt l t with
   | none => exact this
   | some i => simp only [hrep]; exact this
def exB (l : List Oper) (fr : Fr) (i : Nat) : Bool :=
 match l[i]? with
 | some ⟨_, .load _ (.tmp t), _, _, _, none⟩ => (match wrt l t with | some j => decide (j < i) | none => true) && (match fr t with | .ep _ _ => true | _ => false)
 | _ => false
theorem exB_at {l : List Oper} {fr : Fr} {i : Nat} {S : Nat → St} (hi : Nat) (h : exB l fr i = true) : ExAt P l fr S i hi := by
 unfold exB at h
 split at h
 · rename_i a ty t b c d he
   simp only [Bool.and_eq_true] at h
   refine ⟨_, t, ty, he, rfl, rfl, fun j hj => by rw [hj] at h; simpa using h.1, fun k hk v s hv hs => ?_⟩
   have h2 := h.2
   split at h2
   · rename_i cs off he2
     rw [he2] at hv ⊢
     unfold evalLoad at hv ⊢
     exact hv
   · cases h2
 · cases h
theorem AW.regX (hm : P.follows .mixedOrders = true) {id : Nat} {l rest : List Oper} (ex : List (Nat × Nat)) (hok : drawOK l [] ex l.length = true) {fr fr' : Fr} {st st' : St} (h : runL P n l.toArray [] l fr st = some (rest, fr', st'))
   (k : OX P G n st0 true [] l.toArray (fun x fr st => (ex.all fun p => exB l fr p.1) = true ∧ Q x fr st) rest fr' st') : AW P G n st0 (.region id l.toArray true) Q fr st := by
 obtain ⟨vs, ss, fr'', st'', htr, hb, hQ⟩ := OT.run h k
 exact AW.drawnM hm hok (htr.toM 0) (fun i hi hmem => exB_at hi (List.all_eq_true.1 hb (i, hi) hmem)) hQ
theorem exEnd {ex : List (Nat × Nat)} {l : List Oper} {fr : Fr} {q : Prop} (h : (ex.all fun p => exB l fr p.1) = true) (k : q) : (ex.all fun p => exB l fr p.1) = true ∧ q := ⟨h, k⟩
theorem AW.atX {l : Array Oper} (id : Nat) {fr : Fr} {st : St} (h : AW P G n st0 (.region id l true) Q fr st) : AW P G n st0 (.region id l true) Q fr st := h
end
end Go.Abs
end
