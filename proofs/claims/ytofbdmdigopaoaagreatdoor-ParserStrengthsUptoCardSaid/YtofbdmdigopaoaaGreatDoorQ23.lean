/- A step of the proofs of the seat's theorems. -/
import Derived.Test.YtofbdmdigopaoaaGreatDoorQ3
import Derived.Test.YtofbdmdigopaoaaGreatDoorQ4
import Derived.Test.YtofbdmdigopaoaaGreatDoorQ14
import Derived.Test.YtofbdmdigopaoaaGreatDoorQ16
import Derived.Test.YtofbdmdigopaoaaGreatDoorQ21
import Derived.Test.YtofbdmdigopaoaaGreatDoorQ22
import Derived.Shelf.Strconv.ErrVarAll
set_option linter.unusedSimpArgs false
set_option linter.unusedVariables false
section
set_option maxHeartbeats 8000000
set_option maxRecDepth 20000
namespace Go.Proofs.YtofbdmdigopaoaaGreatDoor
open Go.Abs
attribute [local irreducible] AW OX condQ GQ bodyQ RoundsA thenQ blockQ Acalls
variable {G : World → Nat → Prop}
theorem c_containsF (l : List Str) (hl : l.length ≤ 1048576) (hk : ∀ k ∈ l, k.length ≤ 1048576) : Ans G 126 [vKs l, .clo 127 []] (vb (!l.all okKey)) := by
 intro st
 have h := c_indexF (G := G) l hl hk
 refine Acalls.body Tryz.func126 rfl Tryz.ntmps126 (by simp) ?_
 (try refine Wk.aw fun _ hqq => ?_); (repeat' (first | refine CQ_exP (h _) fun x_ hx_ => ?_ | ((first | refine Wk.hd ?_ | refine Wk.i ?_); simp -implicitDefEqProofs only [go_sem, seval]) | refine Wk.ret fun _ _ => ?_ | (refine Wk.fin (by assumption) ?_; refine ⟨?_, rfl⟩) | first | refine Wk.o ?_ | refine Wk.q (by assumption) ?_)); all_goals (repeat subst hqq)
 all_goals (refine ret_bool ?_; simp only [decide_eq_true_eq, ge_iff_le, hx_, Bool.not_eq_true'])
theorem c_par_keyed' (e : Ex) (fe : eFit e) : Ans G 87 [vE e] (vb (keyedF e)) := by
 obtain ⟨a1, a2, a3, a4, a5, a6⟩ := (eFit_iff e).1 fe
 exact c_par_keyed e a4 a3 (c_containsF e.keys a4 a5)
theorem c_val_keyed (v : Val) (fv : vFit v) : Ans G 161 [vV v] (vb (decide (v.keys.length = v.list.length ∧ keysAsc v.keys = true))) := by
 intro st
 rw [show decide (v.keys.length = v.list.length ∧ keysAsc v.keys = true) = (decide (v.keys.length = v.list.length) && keysAsc v.keys) from by rw [Bool.eq_iff_iff]; simp]
 obtain ⟨a1, a2, a3, a4, a5⟩ := (vFit_iff v).1 fv
 by_cases hl : v.keys.length = v.list.length
 · rw [decide_eq_true hl, Bool.true_and]
   refine Acalls.body Tryz.func161 rfl Tryz.ntmps161 (by simp) ?_
   (try refine Wk.aw fun _ hqq => ?_); (repeat' (first | ((refine Wk.i ?_); simp -implicitDefEqProofs (disch := omega) only [go_sem, seval]) | (refine TQ_s (fun hc => ?_) (fun hc => ?_) <;> try omega) | refine Wk.o ?_)); all_goals (repeat subst hqq)
   all_goals first | (exfalso; omega) | skip
   refine AW.loopS (fun i : Nat => [(1, .ptr st.blks.length 0), (13, vKs v.keys), (14, vint ↑v.keys.length), (15, vint ↑i)]) (fun _ => [.cells (v.enc.map .d)]) (fun _ => []) (fun i => i ≤ v.keys.length ∧ ascAt v.keys i = keysAsc v.keys) (fun i => v.keys.length - i) 0 (by simp -implicitDefEqProofs (disch := omega) only [go_sem, seval] <;> first | rfl | exact ⟨rfl, rfl⟩ | skip) (by simp -implicitDefEqProofs (disch := omega) only [go_sem, seval] <;> first | rfl | exact ⟨rfl, rfl⟩ | skip) ⟨by omega, ascAt_0 _⟩ ?_
   intro i ⟨h1, h2⟩
   have h3 := ascAt_step v.keys i
   rw [← h2]
   by_cases hi : i < v.keys.length
   · have hk := a4 _ (getD_mem hi)
     have hk2 := a4 _ (getD_mem (l := v.keys) (i := i - 1) (by omega))
     rw [h3 hi]
     cases ok : okKey (v.keys.getD i default)
     · simp only [okKey, decide_eq_false_iff_not] at ok
       (try refine Wk.aw fun _ hqq => ?_); (repeat' (first | ((first | refine Wk.hd ?_ | refine Wk.i ?_); simp -implicitDefEqProofs (disch := omega) only [go_sem, seval]) | (refine TQ_s (fun hc => ?_) (fun hc => ?_) <;> try omega) | refine Wk.ret fun _ _ => ?_ | (refine Wk.fin (by assumption) ?_; refine ⟨?_, rfl⟩) | first | refine Wk.o ?_ | refine Wk.q (by assumption) ?_)); all_goals (repeat subst hqq)
       all_goals first | (exfalso; omega) | (refine ret_bool ?_; simp)
     · have ok' := ok
       simp only [okKey, decide_eq_true_eq] at ok'
       by_cases hi0 : i = 0
       · subst hi0
         (try refine Wk.aw fun _ hqq => ?_); (repeat' (first | ((first | refine Wk.hd ?_ | refine Wk.i ?_); simp -implicitDefEqProofs (disch := omega) only [go_sem, seval]) | (refine TQ_s (fun hc => ?_) (fun hc => ?_) <;> try omega) | first | refine Wk.o ?_ | refine Wk.q (by assumption) ?_)); all_goals (repeat subst hqq)
         all_goals first | (exfalso; omega) | skip
         · (refine ⟨0 + 1, Nxt.mk ?_ ?_ ?_ (by simp -implicitDefEqProofs (disch := omega) only [go_sem, seval]) (by simp -implicitDefEqProofs (disch := omega) only [go_sem, seval]) (by first | rfl | (simp -implicitDefEqProofs (disch := omega) only [go_sem, seval]; all_goals omega)) (by first | rfl | (simp -implicitDefEqProofs (disch := omega) only [go_sem, seval]; all_goals omega))⟩; focus (try (simp -implicitDefEqProofs (disch := omega) only [go_sem, seval]); try ((repeat' apply And.intro) <;> first | rfl | trivial | refine vi_congr ?_ | refine vs_congr ?_ | refine vown_congr ?_ | skip)))
           · exact ⟨by omega, by simp⟩
           · omega
       · rw [decide_eq_false hi0, Bool.false_or]
         by_cases hcp : natCmp (v.keys.getD (i - 1) default) (v.keys.getD i default) < 0
         · rw [decide_eq_true hcp]
           have hcp' : ¬ natCmp (v.keys.getD (i - 1) default) (v.keys.getD i default) ≥ 0 := by omega
           (try refine Wk.aw fun _ hqq => ?_); (repeat' (first | ((first | refine Wk.hd ?_ | refine Wk.i ?_); simp -implicitDefEqProofs (disch := omega) only [go_sem, seval]) | (refine TQ_s (fun hc => ?_) (fun hc => ?_) <;> try omega) | refine CQ_ok (c_ident_Compare _ _ (by first | exact hk2 | exact a4 _ (getD_mem (by omega))) hk _) ?_ | refine Wk.ret fun _ _ => ?_ | (refine Wk.fin (by assumption) ?_; refine ⟨?_, rfl⟩) | first | refine Wk.o ?_ | refine Wk.q (by assumption) ?_)); all_goals (repeat subst hqq)
           all_goals first | (exfalso; omega) | skip
           all_goals first
             | (exfalso; refine hcp' ?_; rw [show i - 1 = (↑i - 1 : Int).toNat by omega]; assumption)
             | skip
           · (refine ⟨i + 1, Nxt.mk ?_ ?_ ?_ (by simp -implicitDefEqProofs (disch := omega) only [go_sem, seval]) (by simp -implicitDefEqProofs (disch := omega) only [go_sem, seval]) (by first | rfl | (simp -implicitDefEqProofs (disch := omega) only [go_sem, seval]; all_goals omega)) (by first | rfl | (simp -implicitDefEqProofs (disch := omega) only [go_sem, seval]; all_goals omega))⟩; focus (try (simp -implicitDefEqProofs (disch := omega) only [go_sem, seval]); try ((repeat' apply And.intro) <;> first | rfl | trivial | refine vi_congr ?_ | refine vs_congr ?_ | refine vown_congr ?_ | skip)))
             · exact ⟨by omega, by simp⟩
             · omega
         · rw [decide_eq_false hcp]
           (try refine Wk.aw fun _ hqq => ?_); (repeat' (first | ((first | refine Wk.hd ?_ | refine Wk.i ?_); simp -implicitDefEqProofs (disch := omega) only [go_sem, seval]) | (refine TQ_s (fun hc => ?_) (fun hc => ?_) <;> try omega) | refine CQ_ok (c_ident_Compare _ _ (by first | exact hk2 | exact a4 _ (getD_mem (by omega))) hk _) ?_ | refine Wk.ret fun _ _ => ?_ | (refine Wk.fin (by assumption) ?_; refine ⟨?_, rfl⟩) | first | refine Wk.o ?_ | refine Wk.q (by assumption) ?_)); all_goals (repeat subst hqq)
           all_goals first | (exfalso; omega) | skip
           all_goals first
             | (refine ret_bool ?_; simp; done)
             | (exfalso; rw [show i - 1 = (↑i - 1 : Int).toNat by omega] at hcp; omega)
   · have hi' : i = v.keys.length := by omega
     subst hi'
     rw [ascAt_end]
     (try refine Wk.aw fun _ hqq => ?_); (repeat' (first | ((refine Wk.i ?_); simp -implicitDefEqProofs (disch := omega) only [go_sem, seval, Nat.lt_irrefl]) | refine Wk.ret fun _ _ => ?_ | (refine Wk.fin (by assumption) ?_; refine ⟨?_, rfl⟩) | first | refine Wk.o ?_ | refine Wk.q (by assumption) ?_ | refine Wk.sw fun _ hqq => ?_)); all_goals (repeat subst hqq)
     all_goals rfl
 · rw [decide_eq_false hl, Bool.false_and]
   refine Acalls.body Tryz.func161 rfl Tryz.ntmps161 (by simp) ?_
   (try refine Wk.aw fun _ hqq => ?_); (repeat' (first | ((refine Wk.i ?_); simp -implicitDefEqProofs (disch := omega) only [go_sem, seval]) | (refine TQ_s (fun hc => ?_) (fun hc => ?_) <;> try omega) | refine Wk.ret fun _ _ => ?_ | (refine Wk.fin (by assumption) ?_; refine ⟨?_, rfl⟩) | first | refine Wk.o ?_ | refine Wk.q (by assumption) ?_)); all_goals (repeat subst hqq)
   all_goals first | rfl | (exfalso; omega)
theorem c_val_node (v : Val) (fv : vFit v) (level : Nat) (hl : level ≤ 1152921504606846976) : Ans G 129 [vV v, vint level] (vint (vNode v level)) := by
 intro st
 rw [vV, Val.enc_eq]
 obtain ⟨a1, a2, a3, a4, a5⟩ := (vFit_iff v).1 fv
 have hu := c_unused (G := G) v fv
 have hk := c_val_keyed (G := G) v fv
 rw [vV, Val.enc_eq] at hu hk
 have hvl : v.list = [] ↔ (v.list.length : Int) = 0 := ⟨fun h => by rw [h]; rfl, fun h => List.length_eq_zero_iff.1 (by omega)⟩
 refine Acalls.body Tryz.func129 rfl Tryz.ntmps129 (by simp) ?_
 (try refine Wk.aw fun _ hqq => ?_); (repeat' (first | ((first | refine Wk.hd ?_ | refine Wk.i ?_); simp -implicitDefEqProofs only [go_sem, seval]) | (refine TQ_s (fun hc => ?_) (fun hc => ?_) <;> try omega) | refine CQ_ok (hu _) ?_ | refine CQ_ok (hk _) ?_ | refine Wk.ret fun _ _ => ?_ | (refine Wk.fin (by assumption) ?_; refine ⟨?_, rfl⟩) | first | refine Wk.o ?_ | refine Wk.q (by assumption) ?_)); all_goals (repeat subst hqq)
 all_goals (refine ret_int ?_; rw [vNode_len]; clear fv a4 a5 hu hk; grind)
end Go.Proofs.YtofbdmdigopaoaaGreatDoor
end
section
set_option maxHeartbeats 8000000
set_option maxRecDepth 20000
namespace Go.Proofs.YtofbdmdigopaoaaGreatDoor
open Go.Abs
attribute [local irreducible] AW OX condQ GQ bodyQ RoundsA thenQ blockQ Acalls
variable {G : World → Nat → Prop}
def ValidOK (G : World → Nat → Prop) : Prop := ∀ v, vFit v → vBulk v ≤ 1099511627776 → Ans G 88 [vV v] (vint (vValid v))
def RepOK (G : World → Nat → Prop) : Prop := ∀ ks : List Str, ks.length ≤ 1048576 → (∀ k ∈ ks, k.length ≤ 1048576) → Ans G 89 [vKs ks] (vb (repF ks))
theorem c_par_node (hV : ValidOK G) (hR : RepOK G) (e : Ex) (fe : eFit e) (hb : eBulk e ≤ 1099511627776) (level : Nat) (hlv : level ≤ 100000) : Ans G 53 [vE e, vint level] (vint (eNode e level)) := by
 intro st
 obtain ⟨a1, a2, a3, a4, a5, a6⟩ := (eFit_iff e).1 fe
 have hz := c_zero (G := G) e.value a2
 have hn := c_par_named (G := G) e a1
 have ha := c_par_arity (G := G) e a3
 have hk := c_par_keyed' (G := G) e fe
 have hv := hV e.value a2 (by rw [eBulk_eq] at hb; omega)
 have hr := hR e.keys a4 a5
 have he : eNode e level = if 16 < level then 13
   else if (decide (e.kind < 1) || decide (10 < e.kind) || (decide (e.kind ≠ 1) && !vZero e.value) || !namedF e || !arityF e || !keyedF e) = true then 1
   else if (decide (e.kind = 1) && decide (vValid e.value ≠ 0)) = true then vValid e.value
   else if 1024 < e.args.length then 3 else if repF e.keys = true then 7 else 0 := by
     rw [eNode]; simp only [Bool.or_eq_true, Bool.and_eq_true, decide_eq_true_eq, Bool.not_eq_true', or_assoc]
 rw [he]
 clear he
 by_cases hd : 16 < level
 · rw [if_pos hd]
   refine Acalls.body Tryz.func53 rfl Tryz.ntmps53 (by simp) ?_
   (try refine Wk.aw fun _ hqq => ?_); (repeat' (first | ((refine Wk.i ?_); simp -implicitDefEqProofs only [go_sem, seval]) | (refine TQ_s (fun hc => ?_) (fun hc => ?_) <;> try omega) | refine Wk.ret fun _ _ => ?_ | (refine Wk.fin (by assumption) ?_; refine ⟨?_, rfl⟩) | first | refine Wk.o ?_ | refine Wk.q (by assumption) ?_)); all_goals (repeat subst hqq)
   all_goals rfl
 rw [if_neg hd]
 generalize hb1 : vZero e.value = b1 at *
 generalize hb2 : namedF e = b2 at *
 generalize hb3 : arityF e = b3 at *
 generalize hb4 : keyedF e = b4 at *
 generalize hb5 : vValid e.value = b5 at *
 generalize hb6 : repF e.keys = b6 at *
 refine Acalls.body Tryz.func53 rfl Tryz.ntmps53 (by simp) ?_
 (try refine Wk.aw fun _ hqq => ?_); (repeat' (first | ((first | refine Wk.hd ?_ | refine Wk.i ?_); simp -implicitDefEqProofs only [go_sem, seval]) | (refine TQ_s (fun hc => ?_) (fun hc => ?_) <;> try omega) | refine CQ_ok (hz _) ?_ | refine CQ_ok (hn _) ?_ | refine CQ_ok (ha _) ?_ | refine CQ_ok (hk _) ?_ | refine CQ_ok (hv _) ?_ | refine CQ_ok (hr _) ?_ | refine Wk.ret fun _ _ => ?_ | (refine Wk.fin (by assumption) ?_; refine ⟨?_, rfl⟩) | first | refine Wk.o ?_ | refine Wk.q (by assumption) ?_)); all_goals (repeat subst hqq)
 all_goals (refine congrArg (fun n : Int => Out.ret (vint n)) ?_; grind)
theorem c_par_valid (hV : ValidOK G) (hR : RepOK G) : ∀ e : Ex, eFit e → eBulk e ≤ 1099511627776 → ∀ level : Nat, level ≤ 1000 → Ans G 31 [vE e, vint level] (vint (eCheck level e)) := by
 intro e
 induction e using Ex.ind with
 | h e ih =>
   intro fe hb level hlv st
   obtain ⟨a1, a2, a3, a4, a5, a6⟩ := (eFit_iff e).1 fe
   have hnd := c_par_node hV hR e fe hb level (by omega)
   have hbl := fun x (hx : x ∈ e.args) => eBulkL_mem hx
   have hb' := hb
   rw [eBulk_eq] at hb'
   rw [eCheck_eq]
   by_cases hn : eNode e level = 0
   · rw [if_neg (by simp [hn])]
     have hlv2 : level ≤ 16 := by
       refine Nat.le_of_not_lt fun h => ?_
       rw [eNode, if_pos h] at hn; omega
     rw [hn] at hnd
     refine Acalls.body Tryz.func31 rfl Tryz.ntmps31 (by simp) ?_
     (try refine Wk.aw fun _ hqq => ?_); (repeat' (first | ((first | refine Wk.hd ?_ | refine Wk.i ?_); simp -implicitDefEqProofs (disch := omega) only [go_sem, seval]) | refine CQ_ok (hnd _) ?_ | refine Wk.o ?_)); all_goals (repeat subst hqq)
     refine AW.loopS (fun i : Nat => [(1, vint ↑level), (2, .ptr st.blks.length 0), (16, .d (.sl (e.args.map Ex.enc))), (17, vint ↑e.args.length), (18, vint ↑i)]) (fun _ => [.cells (e.enc.map .d)]) (fun _ => []) (fun i => i ≤ e.args.length ∧ eCheck.eCheckL (level + 1) (e.args.drop i) = eCheck.eCheckL (level + 1) e.args) (fun i => e.args.length - i) 0 (by simp -implicitDefEqProofs (disch := omega) only [go_sem, seval] <;> first | rfl | exact ⟨rfl, rfl⟩ | skip) (by simp -implicitDefEqProofs (disch := omega) only [go_sem, seval] <;> first | rfl | exact ⟨rfl, rfl⟩ | skip) ⟨by omega, by rw [List.drop_zero]⟩ ?_
     intro i ⟨g1, g2⟩
     have g3 := eCheckL_at (level + 1) e.args i
     rw [← g2]
     by_cases hi : i < e.args.length
     · rw [if_pos hi] at g3
       have hrc := ih _ (getD_mem hi) (a6 _ (getD_mem hi)) (by have := hbl _ (getD_mem hi); omega) (level + 1) (by omega)
       by_cases hx : eCheck (level + 1) (e.args.getD i default) = 0
       · rw [if_neg (fun h => h hx)] at g3
         rw [hx] at hrc
         (try refine Wk.aw fun _ hqq => ?_); (repeat' (first | ((first | refine Wk.hd ?_ | refine Wk.i ?_); simp -implicitDefEqProofs (disch := omega) only [go_sem, seval]) | (refine TQ_s (fun hc => ?_) (fun hc => ?_) <;> try omega) | refine CQ_ok (hrc _) ?_ | first | refine Wk.o ?_ | refine Wk.q (by assumption) ?_)); all_goals (repeat subst hqq)
         · (refine ⟨i + 1, Nxt.mk ?_ ?_ ?_ (by simp -implicitDefEqProofs (disch := omega) only [go_sem, seval]) (by simp -implicitDefEqProofs (disch := omega) only [go_sem, seval]) (by first | rfl | (simp -implicitDefEqProofs (disch := omega) only [go_sem, seval]; all_goals omega)) (by first | rfl | (simp -implicitDefEqProofs (disch := omega) only [go_sem, seval]; all_goals omega))⟩; focus (try (simp -implicitDefEqProofs (disch := omega) only [go_sem, seval]); try ((repeat' apply And.intro) <;> first | rfl | trivial | refine vi_congr ?_ | refine vs_congr ?_ | refine vown_congr ?_ | skip)))
           · exact ⟨by omega, g3.symm⟩
           · omega
       · rw [if_pos hx] at g3
         (try refine Wk.aw fun _ hqq => ?_); (repeat' (first | ((first | refine Wk.hd ?_ | refine Wk.i ?_); simp -implicitDefEqProofs (disch := omega) only [go_sem, seval]) | (refine TQ_s (fun hc => ?_) (fun hc => ?_) <;> try omega) | refine CQ_ok (hrc _) ?_ | refine Wk.ret fun _ _ => ?_ | (refine Wk.fin (by assumption) ?_; refine ⟨?_, rfl⟩) | first | refine Wk.o ?_ | refine Wk.q (by assumption) ?_)); all_goals (repeat subst hqq)
         all_goals (rw [g3])
     · rw [if_neg hi] at g3
       (try refine Wk.aw fun _ hqq => ?_); (repeat' (first | ((refine Wk.i ?_); simp -implicitDefEqProofs (disch := omega) only [go_sem, seval]) | (refine TQ_s (fun hc => ?_) (fun hc => ?_) <;> try omega) | refine Wk.ret fun _ _ => ?_ | (refine Wk.fin (by assumption) ?_; refine ⟨?_, rfl⟩) | first | refine Wk.o ?_ | refine Wk.q (by assumption) ?_ | refine Wk.sw fun _ hqq => ?_)); all_goals (repeat subst hqq)
       all_goals (rw [g3])
   · rw [if_pos hn]
     refine Acalls.body Tryz.func31 rfl Tryz.ntmps31 (by simp) ?_
     (try refine Wk.aw fun _ hqq => ?_); (repeat' (first | ((first | refine Wk.hd ?_ | refine Wk.i ?_); simp -implicitDefEqProofs (disch := omega) only [go_sem, seval]) | (refine TQ_s (fun hc => ?_) (fun hc => ?_) <;> try omega) | refine CQ_ok (hnd _) ?_ | refine Wk.ret fun _ _ => ?_ | (refine Wk.fin (by assumption) ?_; refine ⟨?_, rfl⟩) | first | refine Wk.o ?_ | refine Wk.q (by assumption) ?_)); all_goals (repeat subst hqq)
     all_goals rfl
theorem c_par_Valid (hV : ValidOK G) (hR : RepOK G) (e : Ex) (fe : eFit e) (hb : eBulk e ≤ 1099511627776) (hc : eCount e ≤ 4611686018427387904) : Ans G 17 [vE e] (vint (eValid e)) := by
 intro st
 have h1 := c_par_Count (G := G) (eCount e) e (Nat.le_refl _) hc
 have h2 := c_par_valid hV hR e fe hb 1 (by omega)
 rw [eValid]
 refine Acalls.body Tryz.func17 rfl Tryz.ntmps17 (by simp) ?_
 (try refine Wk.aw fun _ hqq => ?_); (repeat' (first | ((first | refine Wk.hd ?_ | refine Wk.i ?_); simp -implicitDefEqProofs only [go_sem, seval]) | (refine TQ_s (fun hc => ?_) (fun hc => ?_) <;> try omega) | refine CQ_ok (h1 _) ?_ | refine CQ_ok (h2 _) ?_ | refine Wk.ret fun _ _ => ?_ | (refine Wk.fin (by assumption) ?_; refine ⟨?_, rfl⟩) | first | refine Wk.o ?_ | refine Wk.q (by assumption) ?_)); all_goals (repeat subst hqq)
 · rw [if_pos (by omega)]
 · rw [if_neg (by omega)]
theorem c_val_Show (hg : GT G) (hV : ValidOK G) : ShowOK G := by
 intro v fv iv hb st
 have h := hV v fv hb
 rw [showV]
 by_cases h0 : vValid v = 0
 · rw [if_neg (by simp [h0])]
   have hck : vCheck 1 v = 0 := by
     have h1 := h0
     rw [vValid] at h1; exact h1
   have hl := c_literal hg v 1 hck fv iv hb
   rw [h0] at h
   refine Acalls.body Tryz.func57 rfl Tryz.ntmps57 (by simp) ?_
   (try refine Wk.aw fun _ hqq => ?_); (repeat' (first | ((first | refine Wk.hd ?_ | refine Wk.i ?_); simp -implicitDefEqProofs only [go_sem, seval]) | refine CQ_ok (h _) ?_ | refine CQ_ok (hl _) ?_ | refine Wk.ret fun _ _ => ?_ | (refine Wk.fin (by assumption) ?_; refine ⟨?_, rfl⟩) | first | refine Wk.o ?_ | refine Wk.q (by assumption) ?_)); all_goals (repeat subst hqq)
   all_goals rfl
 · rw [if_pos h0]
   refine Acalls.body Tryz.func57 rfl Tryz.ntmps57 (by simp) ?_
   (try refine Wk.aw fun _ hqq => ?_); (repeat' (first | ((first | refine Wk.hd ?_ | refine Wk.i ?_); simp -implicitDefEqProofs only [go_sem, seval]) | (refine TQ_s (fun hc => ?_) (fun hc => ?_) <;> try omega) | refine CQ_ok (h _) ?_ | refine Wk.ret fun _ _ => ?_ | (refine Wk.fin (by assumption) ?_; refine ⟨?_, rfl⟩) | first | refine Wk.o ?_ | refine Wk.q (by assumption) ?_)); all_goals (repeat subst hqq)
   all_goals rfl
theorem c_par_Show (hg : GT G) (hV : ValidOK G) (hR : RepOK G) (e : Ex) (fe : eFit e) (ie : eInt e) (hb : eBulk e ≤ 1099511627776) (hc : eCount e ≤ 4611686018427387904) : Ans G 19 [vE e] (vs (showE e)) := by
 intro st
 have h := c_par_Valid hV hR e fe hb hc
 rw [showE]
 by_cases h0 : eValid e = 0
 · rw [if_neg (by simp [h0])]
   have hck : eCheck 1 e = 0 := by
     have h1 := h0
     rw [eValid] at h1; split at h1
     · omega
     · exact h1
   have hl := c_source hg (c_val_Show hg hV) e 1 hck fe ie hb
   rw [h0] at h
   refine Acalls.body Tryz.func19 rfl Tryz.ntmps19 (by simp) ?_
   (try refine Wk.aw fun _ hqq => ?_); (repeat' (first | ((first | refine Wk.hd ?_ | refine Wk.i ?_); simp -implicitDefEqProofs only [go_sem, seval]) | refine CQ_ok (h _) ?_ | refine CQ_ok (hl _) ?_ | refine Wk.ret fun _ _ => ?_ | (refine Wk.fin (by assumption) ?_; refine ⟨?_, rfl⟩) | first | refine Wk.o ?_ | refine Wk.q (by assumption) ?_)); all_goals (repeat subst hqq)
   all_goals rfl
 · rw [if_pos h0]
   refine Acalls.body Tryz.func19 rfl Tryz.ntmps19 (by simp) ?_
   (try refine Wk.aw fun _ hqq => ?_); (repeat' (first | ((first | refine Wk.hd ?_ | refine Wk.i ?_); simp -implicitDefEqProofs only [go_sem, seval]) | (refine TQ_s (fun hc => ?_) (fun hc => ?_) <;> try omega) | refine CQ_ok (h _) ?_ | refine Wk.ret fun _ _ => ?_ | (refine Wk.fin (by assumption) ?_; refine ⟨?_, rfl⟩) | first | refine Wk.o ?_ | refine Wk.q (by assumption) ?_)); all_goals (repeat subst hqq)
   all_goals rfl
end Go.Proofs.YtofbdmdigopaoaaGreatDoor
end
section
set_option maxHeartbeats 8000000
set_option maxRecDepth 20000
namespace Go.Proofs.YtofbdmdigopaoaaGreatDoor
open Go.Abs Go.RowKit
variable {G : World → Nat → Prop}
theorem strV {H : GH} {v : Value} {s : Str} (h : RelD H v (.str s)) : v = .string ⟨s.toArray⟩ := by
 cases h with | str b _ h => ?_
 subst h
 simp
theorem keys_at {c : Ctx} {w : World} {st : St} (hc : Conf c w st) {q : Value} {ks : List Str} (h : Rel c q (vKs ks)) : ((∃ lp, q = .slice lp 0 0) ∧ ks = []) ∨ ∃ b off cap, q = .slice (some ⟨b, off, none⟩) ks.length cap ∧
   (0 < ks.length → b < w.heap.size) ∧ ∀ j, j < ks.length → w.cell? ⟨b, off + j, none⟩ = some (.string ⟨(ks.getD j []).toArray⟩) := by
 cases h with | d _ _ h => ?_
 generalize he : encKs ks = es at h
 cases h with
 | slnil =>
   refine .inl ⟨⟨_, rfl⟩, ?_⟩
   cases ks with
   | nil => rfl
   | cons a r => simp [encKs] at he
 | sl0 a =>
   refine .inl ⟨⟨_, rfl⟩, ?_⟩
   cases ks with
   | nil => rfl
   | cons a r => simp [encKs] at he
 | sl k off n cap sz vs _ h1 h2 h3 h4 h5 =>
   subst he
   rw [encKs_len] at h1
   subst h1
   have hcell : ∀ j, j < ks.length → w.cell? ⟨k, off + j, none⟩ = some (.string ⟨(ks.getD j []).toArray⟩) := by
     intro j hj
     have hjl : j < (encKs ks).length := by rw [encKs_len]; exact hj
     have hr := h3 _ (List.getElem_mem hjl)
     have hsz : sz = 1 := by rw [← hr]; simp [encKs]
     subst hsz
     have h4' := h4 j 0 hj (by omega)
     have h5' := h5 j 0 hj (by omega)
     rw [Nat.mul_one, Nat.add_zero] at h4'
     rw [hc.sealed _ _ _ h4']
     refine congrArg some (strV (H := c.H) ?_)
     have : ((encKs ks).getD j []).getD 0 .nilp = .str (ks.getD j []) := by
       simp [encKs, List.getD_eq_getElem?_getD, hj]
     rw [← this]
     exact h5'
   exact .inr ⟨k, off, cap, rfl, fun h0 => World.block_lt_of_cell? w _ (hcell 0 h0), hcell⟩
theorem c_repeated : RepOK G := by
 intro ks hl hkl st c w cargs hc hG hs hr
 have h0 := hr 0 (by simp)
 simp only [List.getD_cons_zero] at h0
 generalize hq : cargs.getD 0 undef = q at h0
 have ha : cargs = #[q] := by
   apply Array.ext
   · simpa using hs
   · intro i hi hi2
     have : i = 0 := by simp at hi2; omega
     subst this
     simpa [Array.getD_eq_getD_getElem?, hi] using hq
 subst ha
 have fin : ∀ (e : Ending) (w' : World), e = .returned (.bool (decide ¬ ks.Nodup)) ∧ Below w.heap.size w w' → ∃ out st' c', (out = Out.ret (vb (repF ks)) ∧ st' = st) ∧ Ext c c' ∧ Conf c' w' st' ∧ EndRel c' e out := by
   rintro e w' ⟨rfl, hb⟩
   refine ⟨.ret (vb (repF ks)), st, c, ⟨rfl, rfl⟩, Ext.refl c, hc.later hb, ?_⟩
   have : repF ks = decide ¬ ks.Nodup := by rw [Bool.eq_iff_iff, repF_iff, decide_eq_true_eq]
   rw [this]
   exact .d _ _ (.bool _)
 rcases keys_at hc h0 with ⟨⟨lp, rfl⟩, rfl⟩ | ⟨b, off, cap, rfl, hb, hcell⟩
 · refine (rep_nil lp w).mono ?_
   rintro e w' ⟨rfl, h⟩
   exact fin _ _ ⟨by simp, h⟩
 · exact (rep_any b off cap ks w (by omega) hb hkl hcell).mono fin
end Go.Proofs.YtofbdmdigopaoaaGreatDoor
end
section
set_option maxHeartbeats 8000000
set_option maxRecDepth 20000
namespace Go.Proofs.YtofbdmdigopaoaaGreatDoor
open Go.Abs Go.RowKit
variable {G : World → Nat → Prop}
theorem firstNZ_append (node : Nat → Val → Int) (a b : List (Nat × Val)) : firstNZ node (a ++ b) = if firstNZ node a ≠ 0 then firstNZ node a else firstNZ node b := by
 induction a with
 | nil => simp [firstNZ]
 | cons x r ih =>
   simp only [List.cons_append, firstNZ, ih]
   by_cases h : node x.1 x.2 ≠ 0
   · rw [if_pos h]
     simp only [if_pos h]
   · simp only [if_neg h]
theorem firstNZ_check (v : Val) : ∀ level, firstNZ (fun l v => vNode v l) (preV level v) = vCheck level v := by
 induction v using Val.ind with
 | h v ih =>
   intro level
   rw [preV_eq, vCheck_eq, firstNZ]
   by_cases h : vNode v level = 0
   · rw [if_neg (fun hh => hh h), if_neg (fun hh => hh h)]
     generalize v.list = l at ih
     induction l with
     | nil => rfl
     | cons a r ihr =>
       rw [List.flatMap_cons, firstNZ_append, ih a (by simp), vCheck.vCheckL, ihr fun x hx => ih x (by simp [hx])]
   · rw [if_pos h, if_pos h]
theorem sealed_lies {H : GH} {w : World} (hs : ∀ k o v, H k o = some v → w.cell? ⟨k, o, none⟩ = some v) : Lies w.heap.size w (fun va v => RelD H va (.agg v.enc)) where
 parts := by
   intro va v h
   rw [Val.enc_eq] at h
   cases h with | agg arr _ h1 h2 => ?_
   simp only [List.length_cons, List.length_nil] at h1 h2
   have e0 := h2 0 (by omega)
   have e1 := h2 1 (by omega)
   have e2 := h2 2 (by omega)
   have e3 := h2 3 (by omega)
   have e4 := h2 4 (by omega)
   have e5 := h2 5 (by omega)
   simp only [List.getD_cons_zero, List.getD_cons_succ] at e0 e1 e2 e3 e4 e5
   have harr : arr = #[arr.getD 0 undef, arr.getD 1 undef, arr.getD 2 undef, arr.getD 3 undef, arr.getD 4 undef, arr.getD 5 undef] := by
     apply Array.ext
     · simpa using h1
     · intro i hi hi2
       have hi6 : i < 6 := by omega
       match i, hi6 with
       | 0, _ => simp [Array.getD_eq_getD_getElem?, hi]
       | 1, _ => simp [Array.getD_eq_getD_getElem?, hi]
       | 2, _ => simp [Array.getD_eq_getD_getElem?, hi]
       | 3, _ => simp [Array.getD_eq_getD_getElem?, hi]
       | 4, _ => simp [Array.getD_eq_getD_getElem?, hi]
       | 5, _ => simp [Array.getD_eq_getD_getElem?, hi]
       | i + 6, h => omega
   rw [harr]
   generalize arr.getD 0 undef = q0 at *
   generalize arr.getD 1 undef = q1 at *
   generalize arr.getD 2 undef = q2 at *
   generalize arr.getD 3 undef = q3 at *
   generalize arr.getD 4 undef = q4 at *
   generalize arr.getD 5 undef = q5 at *
   clear h2 h1 harr
   generalize encKs v.keys = ek at e5
   have hk : ∃ (kp : Option Addr) (kn km : Nat), q5 = .slice kp kn km := by
     cases e5 with
     | slnil => exact ⟨_, _, _, rfl⟩
     | sl0 a => exact ⟨_, _, _, rfl⟩
     | sl k off n cap sz vs _ h1 h2 h3 h4 h5 => exact ⟨_, _, _, rfl⟩
   obtain ⟨kp, kn, km, rfl⟩ := hk
   cases e0
   cases e1
   cases e2
   cases e3 with | str s _ hs3 => ?_
   generalize hes : v.list.map Val.enc = es at e4
   cases e4 with
   | slnil =>
     refine ⟨_, _, _, _, _, _, _, _, _, _, rfl, .inl ⟨rfl, ?_⟩⟩
     simpa using hes
   | sl0 a =>
     refine ⟨_, _, _, _, _, _, _, _, _, _, rfl, .inl ⟨rfl, ?_⟩⟩
     simpa using hes
   | sl k off n cap sz vs _ h1 h2 h3 h4 h5 =>
     subst hes
     rw [List.length_map] at h1
     subst h1
     refine ⟨_, _, _, _, _, _, _, _, _, _, rfl, .inr ⟨k, off, vs, rfl, rfl, ?_, ?_⟩⟩
     · intro W hb i j hi hj
       have hr := h3 (v.list[i]).enc (List.mem_map.2 ⟨_, List.getElem_mem hi, rfl⟩)
       have hsz : sz = 6 := by rw [← hr, Val.enc_eq]; rfl
       subst hsz
       have hc := hs _ _ _ (h4 i j hi hj)
       rw [hb.cell (p := ⟨k, off + i * 6 + j, none⟩) (World.block_lt_of_cell? w _ hc)]
       exact hc
     · intro i hi
       have hr := h3 (v.list[i]).enc (List.mem_map.2 ⟨_, List.getElem_mem hi, rfl⟩)
       have hsz : sz = 6 := by rw [← hr, Val.enc_eq]; rfl
       subst hsz
       have hx : (v.list.map Val.enc).getD i [] = (v.list.getD i default).enc := by
         simp [List.getD_eq_getElem?_getD, hi]
       refine .agg _ _ (by rw [Val.enc_eq]; rfl) ?_
       intro j hj
       have hj6 : j < 6 := by rw [Val.enc_eq] at hj; simpa using hj
       have := h5 i j hi hj6
       rw [hx] at this
       match j, hj6 with
       | 0, _ => exact this
       | 1, _ => exact this
       | 2, _ => exact this
       | 3, _ => exact this
       | 4, _ => exact this
       | 5, _ => exact this
       | j + 6, h => omega
theorem vV_inv {c : Ctx} {va : Value} {v : Val} (h : Rel c va (vV v)) : RelD c.H va (.agg v.enc) := by
 rw [vV] at h
 generalize v.enc = l at h
 cases h with | agg arr _ h1 h2 => ?_
 rw [List.length_map] at h1 h2
 refine .agg _ _ h1 fun i hi => ?_
 have := h2 i hi
 have e : (l.map V.d).getD i .junk = .d (l.getD i .nilp) := by simp [List.getD_eq_getElem?_getD, hi]
 rw [e] at this
 exact Rel.toD this rfl
theorem vV_rel {c : Ctx} {va : Value} {v : Val} (h : RelD c.H va (.agg v.enc)) : Rel c va (vV v) := by
 rw [vV]
 generalize v.enc = l at h
 cases h with | agg arr _ h1 h2 => ?_
 refine .agg _ _ (by simpa using h1) fun i hi => ?_
 rw [List.length_map] at hi
 have := h2 i hi
 have e : (l.map V.d).getD i .junk = .d (l.getD i .nilp) := by simp [List.getD_eq_getElem?_getD, hi]
 rw [e]
 exact .d _ _ this
theorem c_val_Valid : ValidOK G := by
 intro v fv hb st c w cargs hc hG hs hr
 have h0 := hr 0 (by simp)
 simp only [List.getD_cons_zero] at h0
 generalize hq : cargs.getD 0 undef = q at h0
 have ha : cargs = #[q] := by
   apply Array.ext
   · simpa using hs
   · intro i hi hi2
     have : i = 0 := by simp at hi2; omega
     subst this
     simpa [Array.getD_eq_getD_getElem?, hi] using hq
 subst ha
 have hR : RelD c.H q (.agg v.enc) := vV_inv h0
 have hL := sealed_lies hc.sealed
 refine (Valid_in (Rl := fun va v => RelD c.H va (.agg v.enc)) (Fit := fun level v => vFit v ∧ level + vBulk v ≤ 1152921504606846976) (fun l v => vNode v l) w hL ?_ ?_ q v hR ⟨fv, by omega⟩).mono ?_
 · intro level v ⟨h1, h2⟩
   have hf := (vFit_iff v).1 h1
   refine ⟨by omega, hf.2.1, fun x hx => ⟨hf.2.2.2.2 x hx, ?_⟩⟩
   have := vBulkL_mem hx
   rw [vBulk_eq] at h2
   omega
 · rintro W ⟨⟨level, va, v⟩, h1, h2, h3⟩ hB
   have hnode := c_val_node (G := fun _ _ => True) v h2 level (by simp only at h3; omega) ⟨[], []⟩
   have hsl : ∀ k o u, c.H k o = some u → W.cell? ⟨k, o, none⟩ = some u := fun k o u h => by
     have := hc.sealed k o u h
     rw [hB.cell (p := ⟨k, o, none⟩) (World.block_lt_of_cell? w _ this)]; exact this
   refine (hnode ⟨c.H, [], [], W.heap.size, W⟩ W #[va, .int .i64 level] ?_ trivial rfl ?_).mono ?_
   · exact { mulen := rfl, muinj := fun i j k h => by simp at h, mubase := fun i k h => by simp at h, muH := fun i k o h => by simp at h, blk := fun b k B h => by simp at h, toklen := rfl,
             tokown := fun i t h => by simp at h, tokinj := fun i j s t g h => by simp at h, sealed := hsl, below := Below.refl _ _, basele := Nat.le_refl _ }
   · intro i hi
     match i, hi with
     | 0, _ => exact vV_rel h1
     | 1, _ => exact .d _ _ (.int _ _)
     | i + 2, h => simp at h; omega
   · rintro e W' ⟨out, st', c', ⟨rfl, rfl⟩, hext, hc', he⟩
     refine ⟨?_, ?_⟩
     · cases e with
       | returned u =>
         have he' : Rel c' u (vint (vNode v level)) := he
         cases he' with | d _ _ he' => ?_
         cases he'
         rfl
       | _ => exact he.elim
     · have hb := hc'.below
       rw [hext.base, hext.w0] at hb
       exact hb
 · rintro e w' ⟨rfl, hb'⟩
   refine ⟨.ret (vint (vValid v)), st, c, ⟨rfl, rfl⟩, Ext.refl c, hc.later hb', ?_⟩
   rw [firstNZ_check, vValid]
   exact .d _ _ (.int _ _)
end Go.Proofs.YtofbdmdigopaoaaGreatDoor
end
section
set_option maxHeartbeats 8000000
set_option maxRecDepth 20000
namespace Go.Proofs
open Go.Shelf
end Go.Proofs
namespace Go.Proofs.YtofbdmdigopaoaaGreatDoor
open Go.Abs Go.RowKit
variable {G : World → Nat → Prop}
theorem natFold (s : Str) : ∀ acc, acc ≤ s.foldl (fun n c => 10 * n + (c.toNat - 48)) acc := by
 induction s with
 | nil => intro acc; exact Nat.le_refl _
 | cons c r ih =>
   intro acc
   have := ih (10 * acc + (c.toNat - 48))
   simp only [List.foldl_cons]
   omega
theorem parseU (s : Str) (h : ∀ c ∈ s, isDigit c = true) : ∀ acc, Lib.parseUint10 acc s = if s.foldl (fun n c => 10 * n + (c.toNat - 48)) acc < 18446744073709551616 then .ok (s.foldl (fun n c => 10 * n + (c.toNat - 48)) acc) else if s = [] then .ok acc else .range := by
 induction s with
 | nil => intro acc; simp [Lib.parseUint10]
 | cons c r ih =>
   intro acc
   have hc := h c (by simp)
   rw [isDigit, decide_eq_true_eq] at hc
   have hf := natFold r (10 * acc + (c.toNat - 48))
   rw [Lib.parseUint10, if_pos hc, List.foldl_cons]
   have e : acc * 10 + (c.toNat - 48) = 10 * acc + (c.toNat - 48) := by omega
   rw [e]
   by_cases h1 : 1844674407370955162 ≤ acc
   · rw [if_pos h1, if_neg (by omega), if_neg (by simp)]
   · rw [if_neg h1]
     by_cases h2 : 18446744073709551616 ≤ 10 * acc + (c.toNat - 48)
     · rw [if_pos h2, if_neg (by omega), if_neg (by simp)]
     · rw [if_neg h2, ih (fun x hx => h x (by simp [hx]))]
       by_cases h3 : r.foldl (fun n c => 10 * n + (c.toNat - 48)) (10 * acc + (c.toNat - 48)) < 18446744073709551616
       · rw [if_pos h3, if_pos h3]
       · rw [if_neg h3, if_neg h3]
         cases r with
         | nil => simp at h3; omega
         | cons a r => simp
theorem atoiDig (s : Str) (h0 : s ≠ []) (h : ∀ c ∈ s, isDigit c = true) : Lib.atoiAll s = if natOf s < 9223372036854775808 then .ok (natOf s : Int) else .range := by
 have hp := parseU s h 0
 match s, h0 with
 | c :: r, _ =>
   have hc := h c (by simp)
   rw [isDigit, decide_eq_true_eq] at hc
   have hn : natOf (c :: r) = (c :: r).foldl (fun n c => 10 * n + (c.toNat - 48)) 0 := rfl
   rw [← hn] at hp
   simp only [Lib.atoiAll]
   rw [if_neg (by omega), Lib.parseMag, if_neg (by simp), hp]
   by_cases h1 : natOf (c :: r) < 18446744073709551616
   · rw [if_pos h1]
     simp only
     by_cases h2 : natOf (c :: r) < 9223372036854775808
     · rw [if_neg (by omega), if_neg (by omega), if_neg (by omega), if_pos h2]
     · rw [if_pos (by omega), if_neg h2]
   · rw [if_neg h1, if_neg (by simp), if_neg (by omega)]
def GV (G : World → Nat → Prop) : Prop := ∀ w0 b w, G w0 b → Below b w0 w → ∃ tp p, w.var? Tryz.prog "strconv.ErrRange" = some #[.iface tp p]
theorem below_bytes (w : World) (e : TypeId) (s : ByteArray) : Below w.heap.size w (Lib.bytesWorld w e s) := by
 refine ⟨rfl, rfl, rfl, ?_, fun k hk => ?_⟩
 · simp [Lib.bytesWorld, World.freeze]
 · have : (w.drew.alloc (.cells (Lib.bytesCells w e s) e)).heap[k]? = w.heap[k]? := Below.heap_alloc w.drew _ k hk
   rw [← this]
   show ((w.drew.alloc (.cells (Lib.bytesCells w e s) e)).heap.modify w.heap.size _)[k]? = _
   rw [Array.getElem?_modify, if_neg (by omega)]
theorem c_Atoi_ok (s : Str) (hs : s.length ≤ 1048576) (v : Int) (h : Lib.atoiAll s = .ok v) : Ans G 187 [vs s] (.tup [vint v, .d .nili]) := by
 intro st c w cargs hc hG hsz hr
 have ha : cargs = #[.string ⟨s.toArray⟩] := by
   have h0 := hr 0 (by simp)
   simp only [List.getD_cons_zero] at h0
   generalize hq : cargs.getD 0 undef = q at h0
   cases h0 with | d _ _ h0 => ?_
   have := strV h0
   subst this
   apply Array.ext
   · simpa using hsz
   · intro i hi hi2
     have : i = 0 := by simp at hi2; omega
     subst this
     simpa [Array.getD_eq_getD_getElem?, hi] using hq
 subst ha
 refine (Any.strconv_Atoi_ok Tryz.laysC172 ⟨s.toArray⟩ (by simp only [ByteArray.size, List.size_toArray]; omega) v (by simpa using h) w).mono ?_
 rintro e w' ⟨rfl, hw⟩
 have hb : Below w.heap.size w w' := by
   rcases hw with rfl | ⟨t, rfl⟩
   · exact Below.refl _ _
   · exact below_bytes _ _ _
 refine ⟨.ret (.tup [vint v, .d .nili]), st, c, ⟨rfl, rfl⟩, Ext.refl c, hc.later hb, .tup _ _ rfl fun i hi => ?_⟩
 match i, hi with
 | 0, _ => exact .d _ _ (.int _ _)
 | 1, _ => exact .d _ _ .nili
 | i + 2, h => simp at h; omega
theorem c_Atoi_range (hg : GV G) (s : Str) (hs : s.length ≤ 1048576) (h : Lib.atoiAll s = .range) : Ans G 187 [vs s] (.tup [vint (Lib.atoiSat s), .d .nz]) := by
 intro st c w cargs hc hG hsz hr
 have ha : cargs = #[.string ⟨s.toArray⟩] := by
   have h0 := hr 0 (by simp)
   simp only [List.getD_cons_zero] at h0
   generalize hq : cargs.getD 0 undef = q at h0
   cases h0 with | d _ _ h0 => ?_
   have := strV h0
   subst this
   apply Array.ext
   · simpa using hsz
   · intro i hi hi2
     have : i = 0 := by simp at hi2; omega
     subst this
     simpa [Array.getD_eq_getD_getElem?, hi] using hq
 subst ha
 obtain ⟨tp, p, hvar⟩ := hg _ _ w hG hc.below
 refine (Any.strconv_Atoi_range_var Tryz.laysC172 ⟨s.toArray⟩ (by simp only [ByteArray.size, List.size_toArray]; omega) (by simpa using h) tp p w hvar).mono ?_
 rintro e w' ⟨N, rfl, hN, hh, hb⟩
 refine ⟨.ret (.tup [vint (Lib.atoiSat s), .d .nz]), st, c, ⟨rfl, rfl⟩, Ext.refl c, hc.later hb, .tup _ _ rfl fun i hi => ?_⟩
 match i, hi with
 | 0, _ => exact .d _ _ (.int _ _)
 | 1, _ => exact .d _ _ (.nz _ _)
 | i + 2, h => simp at h; omega
theorem c_decimal (hg : GV G) (s : Str) (hs : s.length ≤ 1048576) : Ans G 175 [vs s] (vb (isDec s)) := by
 intro st
 by_cases h0 : s = []
 · subst h0
   refine Acalls.body Tryz.func175 rfl Tryz.ntmps175 (by simp) ?_
   (try refine Wk.aw fun _ hqq => ?_); (repeat' (first | ((first | refine Wk.hd ?_ | refine Wk.i ?_); simp -implicitDefEqProofs (disch := omega) only [go_sem, seval]) | refine Wk.ret fun _ _ => ?_ | (refine Wk.fin (by assumption) ?_; refine ⟨?_, rfl⟩) | first | refine Wk.o ?_ | refine Wk.q (by assumption) ?_)); all_goals (repeat subst hqq)
   all_goals rfl
 have h0l : 0 < s.length := List.length_pos_iff.2 h0
 by_cases hz : 1 < s.length ∧ (s.getD 0 0).toNat = 48
 · have : isDec s = false := by rw [isDec, decide_eq_true hz]; simp
   rw [this]
   obtain ⟨z1, z2⟩ := hz
   refine Acalls.body Tryz.func175 rfl Tryz.ntmps175 (by simp) ?_
   (try refine Wk.aw fun _ hqq => ?_); (repeat' (first | ((first | refine Wk.hd ?_ | refine Wk.i ?_); simp -implicitDefEqProofs (disch := omega) only [go_sem, seval]) | (refine TQ_s (fun hc => ?_) (fun hc => ?_) <;> try omega) | refine Wk.ret fun _ _ => ?_ | (refine Wk.fin (by assumption) ?_; refine ⟨?_, rfl⟩) | first | refine Wk.o ?_ | refine Wk.q (by assumption) ?_)); all_goals (repeat subst hqq)
   all_goals first | rfl | (exfalso; omega) | skip
 by_cases hall : ∀ c ∈ s, isDigit c = true
 · have hd : isDec s = decide (natOf s ≤ 9007199254740992) := by
     rw [isDec, decide_eq_true h0, decide_eq_false hz, List.all_eq_true.2 hall]; simp
   rw [hd]
   have hat := atoiDig s h0 hall
   have hne : decide (s = []) = false := decide_eq_false h0
   refine Acalls.body Tryz.func175 rfl Tryz.ntmps175 (by simp) ?_
   (try refine Wk.aw fun _ hqq => ?_); (repeat' (first | ((first | refine Wk.hd ?_ | refine Wk.i ?_); simp -implicitDefEqProofs (disch := omega) only [go_sem, seval, hne]) | (refine TQ_s (fun hc => ?_) (fun hc => ?_) <;> try omega) | refine Wk.o ?_)); all_goals (repeat subst hqq)
   all_goals first | (exfalso; omega) | skip
   all_goals refine AW.loopS (fun i : Nat => [(0, vs s), (3, vint ↑i)]) (fun _ => []) (fun _ => []) (fun i => i ≤ s.length) (fun i => s.length - i) 0 (by simp -implicitDefEqProofs (disch := omega) only [go_sem, seval] <;> first | rfl | exact ⟨rfl, rfl⟩ | skip) (by simp -implicitDefEqProofs (disch := omega) only [go_sem, seval] <;> first | rfl | exact ⟨rfl, rfl⟩ | skip) (by omega) ?_
   all_goals intro i hi
   all_goals
     by_cases hlt : i < s.length
     · have hdi : isDigit (s.getD i 0) = true := hall _ (getD_mem hlt)
       have hdc := c_parser_digit (G := G) (s.getD i 0)
       rw [hdi] at hdc
       (try refine Wk.aw fun _ hqq => ?_); (repeat' (first | ((first | refine Wk.hd ?_ | refine Wk.i ?_); simp -implicitDefEqProofs (disch := omega) only [go_sem, seval]) | (refine TQ_s (fun hc => ?_) (fun hc => ?_) <;> try omega) | refine CQ_ok (hdc _) ?_ | first | refine Wk.o ?_ | refine Wk.q (by assumption) ?_)); all_goals (repeat subst hqq)
       · (refine ⟨i + 1, Nxt.mk ?_ ?_ ?_ (by simp -implicitDefEqProofs (disch := omega) only [go_sem, seval]) (by simp -implicitDefEqProofs (disch := omega) only [go_sem, seval]) (by first | rfl | (simp -implicitDefEqProofs (disch := omega) only [go_sem, seval]; all_goals omega)) (by first | rfl | (simp -implicitDefEqProofs (disch := omega) only [go_sem, seval]; all_goals omega))⟩; focus (try (simp -implicitDefEqProofs (disch := omega) only [go_sem, seval]); try ((repeat' apply And.intro) <;> first | rfl | trivial | refine vi_congr ?_ | refine vs_congr ?_ | refine vown_congr ?_ | skip)))
         all_goals omega
     · by_cases hn : natOf s < 9223372036854775808
       · rw [if_pos hn] at hat
         have hrc := c_Atoi_ok (G := G) s hs _ hat
         (try refine Wk.aw fun _ hqq => ?_); (repeat' (first | ((first | refine Wk.hd ?_ | refine Wk.i ?_); simp -implicitDefEqProofs (disch := omega) only [go_sem, seval]) | (refine TQ_s (fun hc => ?_) (fun hc => ?_) <;> try omega) | refine CQ_ok (hrc _) ?_ | refine Wk.ret fun _ _ => ?_ | (refine Wk.fin (by assumption) ?_; refine ⟨?_, rfl⟩) | first | refine Wk.o ?_ | refine Wk.q (by assumption) ?_ | refine Wk.sw fun _ hqq => ?_)); all_goals (repeat subst hqq)
         all_goals (refine ret_bool ?_; simp only [decide_eq_true_eq]; omega)
       · rw [if_neg hn] at hat
         have hrc := c_Atoi_range hg s hs hat
         (try refine Wk.aw fun _ hqq => ?_); (repeat' (first | ((first | refine Wk.hd ?_ | refine Wk.i ?_); simp -implicitDefEqProofs (disch := omega) only [go_sem, seval]) | (refine TQ_s (fun hc => ?_) (fun hc => ?_) <;> try omega) | refine CQ_ok (hrc _) ?_ | refine Wk.ret fun _ _ => ?_ | (refine Wk.fin (by assumption) ?_; refine ⟨?_, rfl⟩) | first | refine Wk.o ?_ | refine Wk.q (by assumption) ?_ | refine Wk.sw fun _ hqq => ?_)); all_goals (repeat subst hqq)
         all_goals (rw [decide_eq_false (show ¬ natOf s ≤ 9007199254740992 by omega)])
 · have hd : isDec s = false := by
     rw [isDec, Bool.eq_false_iff]
     intro h
     simp only [Bool.and_eq_true] at h
     exact hall (List.all_eq_true.1 h.1.2)
   rw [hd]
   have hne : decide (s = []) = false := decide_eq_false h0
   refine Acalls.body Tryz.func175 rfl Tryz.ntmps175 (by simp) ?_
   (try refine Wk.aw fun _ hqq => ?_); (repeat' (first | ((first | refine Wk.hd ?_ | refine Wk.i ?_); simp -implicitDefEqProofs (disch := omega) only [go_sem, seval, hne]) | (refine TQ_s (fun hc => ?_) (fun hc => ?_) <;> try omega) | refine Wk.o ?_)); all_goals (repeat subst hqq)
   all_goals first | (exfalso; omega) | skip
   all_goals refine AW.loopS (fun i : Nat => [(0, vs s), (3, vint ↑i)]) (fun _ => []) (fun _ => []) (fun i => i ≤ s.length ∧ ∀ k, k < i → isDigit (s.getD k 0) = true) (fun i => s.length - i) 0 (by simp -implicitDefEqProofs (disch := omega) only [go_sem, seval] <;> first | rfl | exact ⟨rfl, rfl⟩ | skip) (by simp -implicitDefEqProofs (disch := omega) only [go_sem, seval] <;> first | rfl | exact ⟨rfl, rfl⟩ | skip) ⟨by omega, by omega⟩ ?_
   all_goals
     intro i ⟨hi, hk⟩
     have hlt : i < s.length := by
       refine Nat.lt_of_not_le fun hge => hall fun c hc => ?_
       obtain ⟨k, hk1, rfl⟩ := List.mem_iff_getElem.1 hc
       have := hk k (by omega)
       simpa [List.getD_eq_getElem?_getD, hk1] using this
     have hdc := c_parser_digit (G := G) (s.getD i 0)
     by_cases hdi : isDigit (s.getD i 0) = true
     · rw [hdi] at hdc
       (try refine Wk.aw fun _ hqq => ?_); (repeat' (first | ((first | refine Wk.hd ?_ | refine Wk.i ?_); simp -implicitDefEqProofs (disch := omega) only [go_sem, seval]) | (refine TQ_s (fun hc => ?_) (fun hc => ?_) <;> try omega) | refine CQ_ok (hdc _) ?_ | first | refine Wk.o ?_ | refine Wk.q (by assumption) ?_)); all_goals (repeat subst hqq)
       · (refine ⟨i + 1, Nxt.mk ?_ ?_ ?_ (by simp -implicitDefEqProofs (disch := omega) only [go_sem, seval]) (by simp -implicitDefEqProofs (disch := omega) only [go_sem, seval]) (by first | rfl | (simp -implicitDefEqProofs (disch := omega) only [go_sem, seval]; all_goals omega)) (by first | rfl | (simp -implicitDefEqProofs (disch := omega) only [go_sem, seval]; all_goals omega))⟩; focus (try (simp -implicitDefEqProofs (disch := omega) only [go_sem, seval]); try ((repeat' apply And.intro) <;> first | rfl | trivial | refine vi_congr ?_ | refine vs_congr ?_ | refine vown_congr ?_ | skip)))
         · refine ⟨by omega, fun k hk' => ?_⟩
           by_cases hki : k = i
           · subst hki; exact hdi
           · exact hk k (by omega)
         · omega
     · rw [Bool.not_eq_true] at hdi
       rw [hdi] at hdc
       (try refine Wk.aw fun _ hqq => ?_); (repeat' (first | ((first | refine Wk.hd ?_ | refine Wk.i ?_); simp -implicitDefEqProofs (disch := omega) only [go_sem, seval]) | (refine TQ_s (fun hc => ?_) (fun hc => ?_) <;> try omega) | refine CQ_ok (hdc _) ?_ | refine Wk.ret fun _ _ => ?_ | (refine Wk.fin (by assumption) ?_; refine ⟨?_, rfl⟩) | first | refine Wk.o ?_ | refine Wk.q (by assumption) ?_)); all_goals (repeat subst hqq)
       all_goals rfl
theorem c_real (hg : GV G) (k : Int) (s : Str) (n : Int) (hs : s.length ≤ 1048576) : Ans G 153 [.agg [vint k, vs s, vint n]] (vb (if k = 1 then isName s else if k = 2 then isDec s else if k = 3 then decide (s.length ≤ 4096) else decide (k = 4))) := by
 intro st
 have h1 := c_par_name (G := G) s hs
 have h2 := c_decimal hg s hs
 by_cases k1 : k = 1
 · rw [if_pos k1]; subst k1
   refine Acalls.body Tryz.func153 rfl Tryz.ntmps153 (by simp) ?_
   (try refine Wk.aw fun _ hqq => ?_); (repeat' (first | ((first | refine Wk.hd ?_ | refine Wk.i ?_); simp -implicitDefEqProofs only [go_sem, seval]) | refine CQ_ok (h1 _) ?_ | refine Wk.ret fun _ _ => ?_ | (refine Wk.fin (by assumption) ?_; refine ⟨?_, rfl⟩) | first | refine Wk.o ?_ | refine Wk.q (by assumption) ?_)); all_goals (repeat subst hqq)
   all_goals rfl
 rw [if_neg k1]
 by_cases k2 : k = 2
 · rw [if_pos k2]; subst k2
   refine Acalls.body Tryz.func153 rfl Tryz.ntmps153 (by simp) ?_
   (try refine Wk.aw fun _ hqq => ?_); (repeat' (first | ((first | refine Wk.hd ?_ | refine Wk.i ?_); simp -implicitDefEqProofs only [go_sem, seval]) | refine CQ_ok (h2 _) ?_ | refine Wk.ret fun _ _ => ?_ | (refine Wk.fin (by assumption) ?_; refine ⟨?_, rfl⟩) | first | refine Wk.o ?_ | refine Wk.q (by assumption) ?_)); all_goals (repeat subst hqq)
   all_goals rfl
 rw [if_neg k2]
 by_cases k3 : k = 3
 · rw [if_pos k3]; subst k3
   refine Acalls.body Tryz.func153 rfl Tryz.ntmps153 (by simp) ?_
   (try refine Wk.aw fun _ hqq => ?_); (repeat' (first | ((refine Wk.i ?_); simp -implicitDefEqProofs only [go_sem, seval]) | refine Wk.ret fun _ _ => ?_ | (refine Wk.fin (by assumption) ?_; refine ⟨?_, rfl⟩) | first | refine Wk.o ?_ | refine Wk.q (by assumption) ?_)); all_goals (repeat subst hqq)
   all_goals (refine ret_bool ?_; simp only [decide_eq_true_eq]; omega)
 rw [if_neg k3]
 by_cases k4 : k = 4
 · subst k4
   refine Acalls.body Tryz.func153 rfl Tryz.ntmps153 (by simp) ?_
   (try refine Wk.aw fun _ hqq => ?_); (repeat' (first | ((refine Wk.i ?_); simp -implicitDefEqProofs only [go_sem, seval]) | refine Wk.ret fun _ _ => ?_ | (refine Wk.fin (by assumption) ?_; refine ⟨?_, rfl⟩) | first | refine Wk.o ?_ | refine Wk.q (by assumption) ?_)); all_goals (repeat subst hqq)
   all_goals rfl
 · rw [decide_eq_false k4]
   refine Acalls.body Tryz.func153 rfl Tryz.ntmps153 (by simp) ?_
   (try refine Wk.aw fun _ hqq => ?_); (repeat' (first | ((refine Wk.i ?_); simp -implicitDefEqProofs only [go_sem, seval]) | (refine TQ_s (fun hc => ?_) (fun hc => ?_) <;> try omega) | refine Wk.ret fun _ _ => ?_ | (refine Wk.fin (by assumption) ?_; refine ⟨?_, rfl⟩) | first | refine Wk.o ?_ | refine Wk.q (by assumption) ?_)); all_goals (repeat subst hqq)
   all_goals first | rfl | (exfalso; omega)
end Go.Proofs.YtofbdmdigopaoaaGreatDoor
end
