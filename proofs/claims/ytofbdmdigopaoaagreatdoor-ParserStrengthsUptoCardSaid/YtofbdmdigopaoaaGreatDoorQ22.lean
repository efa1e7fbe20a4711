/- A step of the proofs of the seat's theorems. -/
import Derived.Test.YtofbdmdigopaoaaGreatDoorQ16
import Derived.Test.YtofbdmdigopaoaaGreatDoorQ18
import Derived.Test.YtofbdmdigopaoaaGreatDoorQ20
import Derived.Test.YtofbdmdigopaoaaGreatDoorQ21
set_option linter.unusedSimpArgs false
set_option linter.unusedVariables false
section
set_option maxHeartbeats 8000000
set_option maxRecDepth 20000
namespace Go.Proofs.YtofbdmdigopaoaaGreatDoor
open Go.Abs
attribute [local irreducible] AW OX condQ GQ bodyQ RoundsA thenQ blockQ Acalls
variable {G : World → Nat → Prop}
def ShowOK (G : World → Nat → Prop) : Prop := ∀ v, vFit v → vInt v → vBulk v ≤ 1099511627776 → Ans G 57 [vV v] (vs (showV v))
theorem c_arg (e : Ex) (need : Nat) (hl : (src e).length ≤ 1099511627776) (h : Ans G 33 [vE e] (vs (src e))) : Ans G 58 [vE e, vint ↑need] (vs (paren (decide (force e < need)) (src e))) := by
 intro st
 by_cases hf : force e < need
 · rw [decide_eq_true hf]
   refine Acalls.body Tryz.func58 rfl Tryz.ntmps58 (by simp) ?_
   (try with_reducible refine Wk.aw fun _ hqq => ?_); (repeat' (first | ((with_reducible first | refine Wk.hd ?_ | refine Wk.i ?_); simp -implicitDefEqProofs (disch := first | omega | (simp only [go_sem]; try omega)) only [go_sem, seval]) | (refine TQ_s (fun hc => ?_) (fun hc => ?_) <;> try (exfalso; first | omega | contradiction)) | refine CQ_ok (c_par_force e _) ?_ | refine CQ_ok (h _) ?_ | with_reducible refine Wk.ret fun _ _ => ?_ | (refine Wk.fin (by assumption) ?_; refine ⟨?_, rfl⟩) | with_reducible first | refine Wk.o ?_ | refine Wk.q (by assumption) ?_)); all_goals (repeat subst hqq)
   all_goals (refine congrArg (fun b => Out.ret (.d (.str b))) ?_; simp [paren])
 · rw [decide_eq_false hf]
   refine Acalls.body Tryz.func58 rfl Tryz.ntmps58 (by simp) ?_
   (try with_reducible refine Wk.aw fun _ hqq => ?_); (repeat' (first | ((with_reducible first | refine Wk.hd ?_ | refine Wk.i ?_); simp -implicitDefEqProofs (disch := first | omega | (simp only [go_sem]; try omega)) only [go_sem, seval]) | (refine TQ_s (fun hc => ?_) (fun hc => ?_) <;> try (exfalso; first | omega | contradiction)) | refine CQ_ok (c_par_force e _) ?_ | refine CQ_ok (h _) ?_ | with_reducible refine Wk.ret fun _ _ => ?_ | (refine Wk.fin (by assumption) ?_; refine ⟨?_, rfl⟩) | with_reducible first | refine Wk.o ?_ | refine Wk.q (by assumption) ?_)); all_goals (repeat subst hqq)
   all_goals (refine congrArg (fun b => Out.ret (.d (.str b))) ?_; simp [paren])
theorem c_list (e : Ex) (level : Nat) (hck : eCheck level e = 0) (fe : eFit e) (ie : eInt e) (hb : eBulk e ≤ 1099511627776) (ih : ∀ x ∈ e.args, Ans G 33 [vE x] (vs (src x))) :
   Ans G 59 [vE e] (vs (joinF [44, 32] (partsE e))) := by
 intro st
 obtain ⟨a1, a2, a3, a4, a5, a6⟩ := (eFit_iff e).1 fe
 have i3 := ((eInt_iff e).1 ie).2
 obtain ⟨hnode, hcl⟩ := eCheck0 hck
 have hN := eNode0 hnode
 obtain ⟨n1, n2, n3, n4, n5, n6⟩ := hN.lenA
 have hal := hN.len
 have hpl := lens_partsE ie
 have hlen := partsE_len e
 have hj := joinF_len (sep := [44, 32]) (by simp) (partsE e)
 have hjn := c_join (G := G) (partsE e) (by omega) (by omega)
 have hnl : encKs [] = [] := rfl
 have hbl := fun x (hx : x ∈ e.args) => eBulkL_mem hx
 have hb' := hb
 rw [eBulk_eq] at hb'
 refine Acalls.body Tryz.func59 rfl Tryz.ntmps59 (by simp) ?_
 (try with_reducible refine Wk.aw fun _ hqq => ?_); (repeat' (first | ((with_reducible refine Wk.i ?_); simp -implicitDefEqProofs (disch := first | omega | (simp only [go_sem, List.length_take, List.length_drop]; try omega)) only [go_sem, seval]) | with_reducible refine Wk.o ?_)); all_goals (repeat subst hqq)
 refine AW.loopS (fun i : Nat => [(1, .ptr st.blks.length 0), (3, lz st.toks.length (encKs ((partsE e).take i))), (8, .d (.sl (e.args.map Ex.enc))), (9, vint ↑e.args.length), (10, vint ↑i)]) (fun _ => [.cells (e.enc.map .d)]) (fun i => lzT 9 1 (encKs ((partsE e).take i))) (fun i => i ≤ e.args.length) (fun i => e.args.length - i) 0 (by simp -implicitDefEqProofs (disch := first | omega | (simp only [go_sem, List.length_take, List.length_drop]; try omega)) only [go_sem, seval, hnl] <;> first | rfl | exact ⟨rfl, rfl⟩ | skip) (by simp -implicitDefEqProofs (disch := first | omega | (simp only [go_sem, List.length_take, List.length_drop]; try omega)) only [go_sem, seval, hnl] <;> first | rfl | exact ⟨rfl, rfl⟩ | skip) (by omega) ?_
 intro i hi
 have hel : (encKs ((partsE e).take i)).length = i := by rw [encKs_len, List.length_take]; omega
 by_cases hlt : i < e.args.length
 · have hx := getD_mem hlt
   have hgi := lens_get (l := partsE e) (i := i) (by omega)
   have hst := encKs_snoc (l := partsE e) (i := i) (by omega)
   have hlx := src_len _ (i3 _ hx)
   have hcx : Ans G 58 [vE (e.args.getD i default), vint 1] (vs (src (e.args.getD i default))) := by
     have := c_arg (G := G) (e.args.getD i default) 1 (by have := hbl _ hx; omega) (ih _ hx)
     rw [decide_eq_false (by have := force_pos (eNode0 (eCheck0 (hcl _ hx)).1); omega)] at this
     exact this
   by_cases hk5 : e.kind = 10
   · have hki : i < e.keys.length := by have := n5 hk5; omega
     have hqk := c_Quote_lex (G := G) (e.keys.getD i default) (by have := a5 _ (getD_mem hki); omega)
     have hqkl := quoteF_len (e.keys.getD i default)
     have hkk := a5 _ (getD_mem hki)
     have hpg : (partsE e).getD i default = quoteF (e.keys.getD i default) ++ [58, 32] ++ src (e.args.getD i default) := by
       rw [partsE, if_pos hk5, srcM_get _ _ _ hlt]; rfl
     rw [hpg] at hst hgi
     simp only [List.length_append, List.length_cons, List.length_nil] at hgi
     have hst' : encKs ((partsE e).take (i + 1)) = encKs ((partsE e).take i) ++ [[D.str (quoteF (e.keys.getD i default) ++ 58 :: 32 :: src (e.args.getD i default))]] := by rw [hst]; simp [encKs]
     (try with_reducible refine Wk.aw fun _ hqq => ?_); (repeat' (first | ((with_reducible first | refine Wk.hd ?_ | refine Wk.i ?_); simp -implicitDefEqProofs (disch := first | omega | (simp only [go_sem, List.length_take, List.length_drop]; try omega)) only [go_sem, seval, hk5]) | (refine TQ_s (fun hc => ?_) (fun hc => ?_) <;> try (exfalso; first | omega | contradiction | exact nob hc ‹_› | exact nob ‹_› hc)) | refine CQ_ok (hqk _) ?_ | refine CQ_ok (hcx _) ?_ | with_reducible first | refine Wk.o ?_ | refine Wk.q (by assumption) ?_)); all_goals (repeat subst hqq)
     · (refine ⟨i + 1, Nxt.mk ?_ ?_ ?_ (by simp -implicitDefEqProofs (disch := first | omega | (simp only [go_sem, List.length_take, List.length_drop]; try omega)) only [go_sem, seval, hst']) (by simp -implicitDefEqProofs (disch := first | omega | (simp only [go_sem, List.length_take, List.length_drop]; try omega)) only [go_sem, seval, hst']) (by first | rfl | (simp -implicitDefEqProofs (disch := first | omega | (simp only [go_sem, List.length_take, List.length_drop]; try omega)) only [go_sem, seval, hst']; all_goals omega)) (by first | rfl | (simp -implicitDefEqProofs (disch := first | omega | (simp only [go_sem, List.length_take, List.length_drop]; try omega)) only [go_sem, seval, hst']; all_goals omega))⟩; focus (try (simp -implicitDefEqProofs (disch := first | omega | (simp only [go_sem, List.length_take, List.length_drop]; try omega)) only [go_sem, seval, hst']); try ((repeat' apply And.intro) <;> first | rfl | trivial | refine vi_congr ?_ | refine vs_congr ?_ | refine vown_congr ?_ | skip)))
       all_goals first | omega | rw [hst'] | skip
   · have hpg : (partsE e).getD i default = src (e.args.getD i default) := by
       rw [partsE, if_neg hk5]; simp [List.getD_eq_getElem?_getD, hlt]
     rw [hpg] at hst hgi
     have hst' : encKs ((partsE e).take (i + 1)) = encKs ((partsE e).take i) ++ [[D.str (src (e.args.getD i default))]] := hst
     (try with_reducible refine Wk.aw fun _ hqq => ?_); (repeat' (first | ((with_reducible first | refine Wk.hd ?_ | refine Wk.i ?_); simp -implicitDefEqProofs (disch := first | omega | (simp only [go_sem, List.length_take, List.length_drop]; try omega)) only [go_sem, seval]) | (refine TQ_s (fun hc => ?_) (fun hc => ?_) <;> try (exfalso; first | omega | contradiction | exact nob hc ‹_› | exact nob ‹_› hc)) | refine CQ_ok (hcx _) ?_ | with_reducible first | refine Wk.o ?_ | refine Wk.q (by assumption) ?_)); all_goals (repeat subst hqq)
     · (refine ⟨i + 1, Nxt.mk ?_ ?_ ?_ (by simp -implicitDefEqProofs (disch := first | omega | (simp only [go_sem, List.length_take, List.length_drop]; try omega)) only [go_sem, seval, hst']) (by simp -implicitDefEqProofs (disch := first | omega | (simp only [go_sem, List.length_take, List.length_drop]; try omega)) only [go_sem, seval, hst']) (by first | rfl | (simp -implicitDefEqProofs (disch := first | omega | (simp only [go_sem, List.length_take, List.length_drop]; try omega)) only [go_sem, seval, hst']; all_goals omega)) (by first | rfl | (simp -implicitDefEqProofs (disch := first | omega | (simp only [go_sem, List.length_take, List.length_drop]; try omega)) only [go_sem, seval, hst']; all_goals omega))⟩; focus (try (simp -implicitDefEqProofs (disch := first | omega | (simp only [go_sem, List.length_take, List.length_drop]; try omega)) only [go_sem, seval, hst']); try ((repeat' apply And.intro) <;> first | rfl | trivial | refine vi_congr ?_ | refine vs_congr ?_ | refine vown_congr ?_ | skip)))
       all_goals first | omega | rw [hst'] | skip
 · have : (partsE e).take i = partsE e := List.take_of_length_le (by omega)
   rw [this]
   (try with_reducible refine Wk.aw fun _ hqq => ?_); (repeat' (first | ((with_reducible first | refine Wk.hd ?_ | refine Wk.i ?_); simp -implicitDefEqProofs (disch := first | omega | (simp only [go_sem, List.length_take, List.length_drop]; try omega)) only [go_sem, seval]) | (refine TQ_s (fun hc => ?_) (fun hc => ?_) <;> try (exfalso; first | omega | contradiction | exact nob hc ‹_› | exact nob ‹_› hc)) | refine CQ_ok (hjn _) ?_ | with_reducible refine Wk.ret fun _ _ => ?_ | (refine Wk.fin (by assumption) ?_; refine ⟨?_, rfl⟩) | with_reducible first | refine Wk.o ?_ | refine Wk.q (by assumption) ?_ | refine Wk.sw fun _ hqq => ?_)); all_goals (repeat subst hqq)
   all_goals rfl
theorem c_source (hg : GT G) (hS : ShowOK G) : ∀ e : Ex, ∀ level, eCheck level e = 0 → eFit e → eInt e → eBulk e ≤ 1099511627776 → Ans G 33 [vE e] (vs (src e)) := by
 intro e
 induction e using Ex.ind with
 | h e ih =>
   intro level hck fe ie hb st
   obtain ⟨a1, a2, a3, a4, a5, a6⟩ := (eFit_iff e).1 fe
   obtain ⟨i1, i3⟩ := (eInt_iff e).1 ie
   obtain ⟨hnode, hcl⟩ := eCheck0 hck
   have hN := eNode0 hnode
   obtain ⟨n1, n2, n3, n4, n5, n6⟩ := hN.lenA
   have k1 := hN.k1
   have k2 := hN.k2
   have hb' := hb
   rw [eBulk_eq] at hb'
   have hvl := showV_len i1
   have hbl := fun x (hx : x ∈ e.args) => eBulkL_mem hx
   have hlx := fun x (hx : x ∈ e.args) => src_len x (i3 x hx)
   have ih' : ∀ x ∈ e.args, Ans G 33 [vE x] (vs (src x)) := fun x hx => ih x hx (level + 1) (hcl x hx) (a6 x hx) (i3 x hx) (by have := hbl x hx; omega)
   have harg : ∀ i need : Nat, i < e.args.length → Ans G 58 [vE (e.args.getD i default), vint ↑need] (vs (src.srcAt e.args i need)) := fun i need hi => by
     rw [srcAt_get _ _ _ hi]
     exact c_arg _ _ (by have := hbl _ (getD_mem hi); have := hlx _ (getD_mem hi); omega) (ih' _ (getD_mem hi))
   have hat := srcAt_len hlx
   have hsum := atB_sum e.args
   have hargs := c_list e level hck fe ie hb ih'
   have hpl := lens_partsE ie
   have hj := joinF_len (sep := [44, 32]) (by simp) (partsE e)
   have hat0 := hat 0
   have hat1 := hat 1
   have hat2 := hat 2
   rw [src_eq]
   by_cases q1 : e.kind = 1
   · have hshow := hS e.value a2 i1 (by omega)
     rw [if_pos q1]
     refine Acalls.body Tryz.func33 rfl Tryz.ntmps33 (by simp) ?_
     (try with_reducible refine Wk.aw fun _ hqq => ?_); (repeat' (first | ((with_reducible first | refine Wk.hd ?_ | refine Wk.i ?_); simp -implicitDefEqProofs (disch := first | omega | (simp only [go_sem]; try omega)) only [go_sem, seval, q1]) | refine CQ_ok (hshow _) ?_ | with_reducible refine Wk.ret fun _ _ => ?_ | (refine Wk.fin (by assumption) ?_; refine ⟨?_, rfl⟩) | with_reducible first | refine Wk.o ?_ | refine Wk.q (by assumption) ?_)); all_goals (repeat subst hqq)
     all_goals first | rfl | (refine congrArg (fun b => Out.ret (.d (.str b))) ?_; simp)
   rw [if_neg q1]
   by_cases q2 : e.kind = 2
   · rw [if_pos q2]
     refine Acalls.body Tryz.func33 rfl Tryz.ntmps33 (by simp) ?_
     (try with_reducible refine Wk.aw fun _ hqq => ?_); (repeat' (first | ((with_reducible refine Wk.i ?_); simp -implicitDefEqProofs (disch := first | omega | (simp only [go_sem]; try omega)) only [go_sem, seval, q2]) | with_reducible refine Wk.ret fun _ _ => ?_ | (refine Wk.fin (by assumption) ?_; refine ⟨?_, rfl⟩) | with_reducible first | refine Wk.o ?_ | refine Wk.q (by assumption) ?_)); all_goals (repeat subst hqq)
     all_goals first | rfl | (refine congrArg (fun b => Out.ret (.d (.str b))) ?_; simp)
   rw [if_neg q2]
   by_cases q3 : e.kind = 3
   · have c0 := harg 0 8 (by have := n2 (.inl q3); omega)
     have l0 := hat0 8
     have hl := n2 (.inl q3)
     rw [if_pos q3]
     refine Acalls.body Tryz.func33 rfl Tryz.ntmps33 (by simp) ?_
     (try with_reducible refine Wk.aw fun _ hqq => ?_); (repeat' (first | ((with_reducible first | refine Wk.hd ?_ | refine Wk.i ?_); simp -implicitDefEqProofs (disch := first | omega | (simp only [go_sem]; try omega)) only [go_sem, seval, q3]) | refine CQ_ok (c0 _) ?_ | refine Wk.drawn mx (by kernel_rfl) ?_ | with_reducible refine Wk.ret fun _ _ => ?_ | (refine Wk.fin (by assumption) ?_; refine ⟨?_, rfl⟩) | with_reducible first | refine Wk.o ?_ | refine Wk.q (by assumption) ?_)); all_goals (repeat subst hqq)
     all_goals first | rfl | (refine congrArg (fun b => Out.ret (.d (.str b))) ?_; simp)
   rw [if_neg q3]
   by_cases q4 : e.kind = 4
   · have hl := n3 (.inl q4)
     have c0 := harg 0 8 (by omega)
     have c1 := harg 1 1 (by omega)
     have l0 := hat0 8
     have l1 := hat1 1
     rw [if_pos q4]
     refine Acalls.body Tryz.func33 rfl Tryz.ntmps33 (by simp) ?_
     (try with_reducible refine Wk.aw fun _ hqq => ?_); (repeat' (first | ((with_reducible first | refine Wk.hd ?_ | refine Wk.i ?_); simp -implicitDefEqProofs (disch := first | omega | (simp only [go_sem]; try omega)) only [go_sem, seval, q4]) | refine CQ_ok ((by first | exact c0 _ | exact c1 _)) ?_ | refine Wk.drawn mx (by kernel_rfl) ?_ | with_reducible refine Wk.ret fun _ _ => ?_ | (refine Wk.fin (by assumption) ?_; refine ⟨?_, rfl⟩) | with_reducible first | refine Wk.o ?_ | refine Wk.q (by assumption) ?_)); all_goals (repeat subst hqq)
     all_goals first | rfl | (refine congrArg (fun b => Out.ret (.d (.str b))) ?_; simp)
   rw [if_neg q4]
   by_cases q5 : e.kind = 5
   · have hp : partsE e = e.args.map src := if_neg (by omega)
     rw [hp] at hargs hpl hj
     rw [if_pos q5]
     refine Acalls.body Tryz.func33 rfl Tryz.ntmps33 (by simp) ?_
     (try with_reducible refine Wk.aw fun _ hqq => ?_); (repeat' (first | ((with_reducible first | refine Wk.hd ?_ | refine Wk.i ?_); simp -implicitDefEqProofs (disch := first | omega | (simp only [go_sem]; try omega)) only [go_sem, seval, q5]) | refine CQ_ok (hargs _) ?_ | refine Wk.drawn mx (by kernel_rfl) ?_ | with_reducible refine Wk.ret fun _ _ => ?_ | (refine Wk.fin (by assumption) ?_; refine ⟨?_, rfl⟩) | with_reducible first | refine Wk.o ?_ | refine Wk.q (by assumption) ?_)); all_goals (repeat subst hqq)
     all_goals first | rfl | (refine congrArg (fun b => Out.ret (.d (.str b))) ?_; simp)
   rw [if_neg q5]
   by_cases q6 : e.kind = 6
   · have hl := n2 (.inr q6)
     have c0 := harg 0 7 (by omega)
     have l0 := hat0 7
     rw [if_pos q6]
     refine Acalls.body Tryz.func33 rfl Tryz.ntmps33 (by simp) ?_
     (try with_reducible refine Wk.aw fun _ hqq => ?_); (repeat' (first | ((with_reducible first | refine Wk.hd ?_ | refine Wk.i ?_); simp -implicitDefEqProofs (disch := first | omega | (simp only [go_sem]; try omega)) only [go_sem, seval, q6]) | refine CQ_ok (c0 _) ?_ | refine Wk.drawn mx (by kernel_rfl) ?_ | with_reducible refine Wk.ret fun _ _ => ?_ | (refine Wk.fin (by assumption) ?_; refine ⟨?_, rfl⟩) | with_reducible first | refine Wk.o ?_ | refine Wk.q (by assumption) ?_)); all_goals (repeat subst hqq)
     all_goals first | rfl | (refine congrArg (fun b => Out.ret (.d (.str b))) ?_; simp)
   rw [if_neg q6]
   by_cases q7 : e.kind = 7
   · have hl := n3 (.inr q7)
     have hst := c_strength (G := G) e.name
     have hsle := strength_le e.name
     have c1 := harg 1 (strength e.name + 1) (by omega)
     have l1 := hat1 (strength e.name + 1)
     rw [if_pos q7]
     by_cases s4 : strength e.name = 4
     · have c0 := harg 0 5 (by omega)
       have l0 := hat0 5
       have l1' := hat1 5
       rw [if_pos s4]
       rw [s4] at hst c1 l1 ⊢
       refine Acalls.body Tryz.func33 rfl Tryz.ntmps33 (by simp) ?_
       (try with_reducible refine Wk.aw fun _ hqq => ?_); (repeat' (first | ((with_reducible first | refine Wk.hd ?_ | refine Wk.i ?_); simp -implicitDefEqProofs (disch := first | omega | (simp only [go_sem]; try omega)) only [go_sem, seval, q7]) | refine CQ_ok (hst _) ?_ | refine CQ_ok ((by first | exact c0 _ | exact c1 _)) ?_ | refine Wk.drawn mx (by kernel_rfl) ?_ | with_reducible refine Wk.ret fun _ _ => ?_ | (refine Wk.fin (by assumption) ?_; refine ⟨?_, rfl⟩) | with_reducible first | refine Wk.o ?_ | refine Wk.q (by assumption) ?_)); all_goals (repeat subst hqq)
       all_goals first | rfl | (refine congrArg (fun b => Out.ret (.d (.str b))) ?_; simp)
     · have c0 := harg 0 (strength e.name) (by omega)
       have l0 := hat0 (strength e.name)
       rw [if_neg s4]
       refine Acalls.body Tryz.func33 rfl Tryz.ntmps33 (by simp) ?_
       (try with_reducible refine Wk.aw fun _ hqq => ?_); (repeat' (first | ((with_reducible first | refine Wk.hd ?_ | refine Wk.i ?_); simp -implicitDefEqProofs (disch := first | omega | (simp only [go_sem]; try omega)) only [go_sem, seval, q7]) | (refine TQ_s (fun hc => ?_) (fun hc => ?_) <;> try (exfalso; first | omega | contradiction)) | refine CQ_ok (hst _) ?_ | refine CQ_ok ((by first | exact c0 _ | exact c1 _)) ?_ | refine Wk.drawn mx (by kernel_rfl) ?_ | with_reducible refine Wk.ret fun _ _ => ?_ | (refine Wk.fin (by assumption) ?_; refine ⟨?_, rfl⟩) | with_reducible first | refine Wk.o ?_ | refine Wk.q (by assumption) ?_)); all_goals (repeat subst hqq)
       all_goals first | rfl | (refine congrArg (fun b => Out.ret (.d (.str b))) ?_; simp)
   rw [if_neg q7]
   by_cases q8 : e.kind = 8
   · have hl := n4 q8
     have c0 := harg 0 2 (by omega)
     have c1 := harg 1 1 (by omega)
     have c2 := harg 2 1 (by omega)
     have l0 := hat0 2
     have l1 := hat1 1
     have l2 := hat2 1
     rw [if_pos q8]
     refine Acalls.body Tryz.func33 rfl Tryz.ntmps33 (by simp) ?_
     (try with_reducible refine Wk.aw fun _ hqq => ?_); (repeat' (first | ((with_reducible first | refine Wk.hd ?_ | refine Wk.i ?_); simp -implicitDefEqProofs (disch := first | omega | (simp only [go_sem]; try omega)) only [go_sem, seval, q8]) | refine CQ_ok ((by first | exact c0 _ | exact c1 _ | exact c2 _)) ?_ | refine Wk.drawn mx (by kernel_rfl) ?_ | with_reducible refine Wk.ret fun _ _ => ?_ | (refine Wk.fin (by assumption) ?_; refine ⟨?_, rfl⟩) | with_reducible first | refine Wk.o ?_ | refine Wk.q (by assumption) ?_)); all_goals (repeat subst hqq)
     all_goals first | rfl | (refine congrArg (fun b => Out.ret (.d (.str b))) ?_; simp)
   rw [if_neg q8]
   by_cases q9 : e.kind = 9
   · have hp : partsE e = e.args.map src := if_neg (by omega)
     rw [hp] at hargs hpl hj
     rw [if_pos q9]
     refine Acalls.body Tryz.func33 rfl Tryz.ntmps33 (by simp) ?_
     (try with_reducible refine Wk.aw fun _ hqq => ?_); (repeat' (first | ((with_reducible first | refine Wk.hd ?_ | refine Wk.i ?_); simp -implicitDefEqProofs (disch := first | omega | (simp only [go_sem]; try omega)) only [go_sem, seval, q9]) | refine CQ_ok (hargs _) ?_ | with_reducible refine Wk.ret fun _ _ => ?_ | (refine Wk.fin (by assumption) ?_; refine ⟨?_, rfl⟩) | with_reducible first | refine Wk.o ?_ | refine Wk.q (by assumption) ?_)); all_goals (repeat subst hqq)
     all_goals first | rfl | (refine congrArg (fun b => Out.ret (.d (.str b))) ?_; simp)
   rw [if_neg q9]
   have q10 : e.kind = 10 := by omega
   have hp : partsE e = src.srcM e.args e.keys := if_pos q10
   rw [hp] at hargs hpl hj
   refine Acalls.body Tryz.func33 rfl Tryz.ntmps33 (by simp) ?_
   (try with_reducible refine Wk.aw fun _ hqq => ?_); (repeat' (first | ((with_reducible first | refine Wk.hd ?_ | refine Wk.i ?_); simp -implicitDefEqProofs (disch := first | omega | (simp only [go_sem]; try omega)) only [go_sem, seval, q10]) | refine CQ_ok (hargs _) ?_ | with_reducible refine Wk.ret fun _ _ => ?_ | (refine Wk.fin (by assumption) ?_; refine ⟨?_, rfl⟩) | with_reducible first | refine Wk.o ?_ | refine Wk.q (by assumption) ?_)); all_goals (repeat subst hqq)
   all_goals first | rfl | (refine congrArg (fun b => Out.ret (.d (.str b))) ?_; simp)
end Go.Proofs.YtofbdmdigopaoaaGreatDoor
end
section
set_option maxHeartbeats 8000000
set_option maxRecDepth 20000
namespace Go.Proofs.YtofbdmdigopaoaaGreatDoor
open Go.Abs
attribute [local irreducible] AW OX condQ GQ bodyQ RoundsA thenQ blockQ Acalls
variable {G : World → Nat → Prop}
theorem c_keyed1 (k : Str) (hk : k.length ≤ 1048576) : Ans G 127 [vs k] (vb (!okKey k)) := by
 intro st
 refine Acalls.body Tryz.func127 rfl Tryz.ntmps127 (by simp) ?_
 (try refine Wk.aw fun _ hqq => ?_); (repeat' (first | ((first | refine Wk.hd ?_ | refine Wk.i ?_); simp -implicitDefEqProofs only [go_sem, seval]) | (refine TQ_s (fun hc => ?_) (fun hc => ?_) <;> try omega) | refine Wk.ret fun _ _ => ?_ | (refine Wk.fin (by assumption) ?_; refine ⟨?_, rfl⟩) | first | refine Wk.o ?_ | refine Wk.q (by assumption) ?_)); all_goals (repeat subst hqq)
 all_goals (refine ret_bool ?_; simp only [okKey, Bool.not_eq_true', decide_eq_false_iff_not, decide_eq_true_eq, reduceCtorEq, iff_false, false_iff, iff_true, true_iff]; omega)
end Go.Proofs.YtofbdmdigopaoaaGreatDoor
end
section
set_option maxHeartbeats 8000000
set_option maxRecDepth 20000
namespace Go.Proofs.YtofbdmdigopaoaaGreatDoor
open Go.Abs
attribute [local irreducible] AW OX condQ GQ bodyQ RoundsA thenQ blockQ Acalls
variable {G : World → Nat → Prop}
theorem c_indexF (l : List Str) (hl : l.length ≤ 1048576) (hk : ∀ k ∈ l, k.length ≤ 1048576) : ∀ st, Acalls Tryz.prog G 157 [vKs l, .clo 127 []] st (fun o s => ∃ x : Int, o = .ret (vint x) ∧ (0 ≤ x ↔ l.all okKey = false) ∧ s = st) := by
 intro st
 refine Acalls.body Tryz.func157 rfl Tryz.ntmps157 (by simp) ?_
 (try refine Wk.aw fun _ hqq => ?_); (repeat' (first | ((refine Wk.i ?_); simp -implicitDefEqProofs (disch := omega) only [go_sem, seval]) | refine Wk.o ?_)); all_goals (repeat subst hqq)
 refine AW.loopS (fun i : Nat => [(0, vKs l), (1, .clo 127 []), (7, vint ↑l.length), (8, vint ↑i)]) (fun _ => []) (fun _ => []) (fun i => i ≤ l.length ∧ ∀ k, k < i → okKey (l.getD k default) = true) (fun i => l.length - i) 0 (by simp -implicitDefEqProofs (disch := omega) only [go_sem, seval] <;> first | rfl | exact ⟨rfl, rfl⟩ | skip) (by simp -implicitDefEqProofs (disch := omega) only [go_sem, seval] <;> first | rfl | exact ⟨rfl, rfl⟩ | skip) ⟨by omega, by omega⟩ ?_
 intro i ⟨h1, h2⟩
 by_cases hi : i < l.length
 · have hc1 := c_keyed1 (G := G) (l.getD i default) (hk _ (getD_mem hi))
   cases hb : okKey (l.getD i default)
   · rw [hb, show (!false) = true from rfl] at hc1
     (try refine Wk.aw fun _ hqq => ?_); (repeat' (first | ((first | refine Wk.hd ?_ | refine Wk.i ?_); simp -implicitDefEqProofs (disch := omega) only [go_sem, seval]) | (refine TQ_s (fun hc => ?_) (fun hc => ?_) <;> try omega) | refine CQ_ok (hc1 _) ?_ | refine Wk.ret fun _ _ => ?_ | refine Wk.fin (by assumption) ?_ | first | refine Wk.o ?_ | refine Wk.q (by assumption) ?_)); all_goals (repeat subst hqq)
     all_goals exact ⟨i, rfl, ⟨fun _ => (by rw [Bool.eq_false_iff]; intro h; rw [List.all_eq_true.1 h _ (getD_mem hi)] at hb; cases hb), fun _ => (by omega)⟩, rfl⟩
   · rw [hb, show (!true) = false from rfl] at hc1
     (try refine Wk.aw fun _ hqq => ?_); (repeat' (first | ((first | refine Wk.hd ?_ | refine Wk.i ?_); simp -implicitDefEqProofs (disch := omega) only [go_sem, seval]) | (refine TQ_s (fun hc => ?_) (fun hc => ?_) <;> try omega) | refine CQ_ok (hc1 _) ?_ | first | refine Wk.o ?_ | refine Wk.q (by assumption) ?_)); all_goals (repeat subst hqq)
     · (refine ⟨i + 1, Nxt.mk ?_ ?_ ?_ (by simp -implicitDefEqProofs (disch := omega) only [go_sem, seval]) (by simp -implicitDefEqProofs (disch := omega) only [go_sem, seval]) (by first | rfl | (simp -implicitDefEqProofs (disch := omega) only [go_sem, seval]; all_goals omega)) (by first | rfl | (simp -implicitDefEqProofs (disch := omega) only [go_sem, seval]; all_goals omega))⟩; focus (try (simp -implicitDefEqProofs (disch := omega) only [go_sem, seval]); try ((repeat' apply And.intro) <;> first | rfl | trivial | refine vi_congr ?_ | refine vs_congr ?_ | refine vown_congr ?_ | skip)))
       · refine ⟨by omega, fun k hk => ?_⟩
         by_cases hki : k = i
         · subst hki; exact hb
         · exact h2 k (by omega)
       · omega
 · (try refine Wk.aw fun _ hqq => ?_); (repeat' (first | ((refine Wk.i ?_); simp -implicitDefEqProofs (disch := omega) only [go_sem, seval]) | (refine TQ_s (fun hc => ?_) (fun hc => ?_) <;> try omega) | refine Wk.ret fun _ _ => ?_ | refine Wk.fin (by assumption) ?_ | first | refine Wk.o ?_ | refine Wk.q (by assumption) ?_ | refine Wk.sw fun _ hqq => ?_)); all_goals (repeat subst hqq)
   all_goals refine ⟨-1, rfl, ⟨fun h => by omega, fun h => ?_⟩, rfl⟩
   all_goals exfalso
   all_goals refine Bool.eq_false_iff.1 h (List.all_eq_true.2 fun x hx => ?_)
   all_goals obtain ⟨k, hk1, hk2⟩ := List.mem_iff_getElem.1 hx
   all_goals have := h2 k (by omega)
   all_goals simpa [List.getD_eq_getElem?_getD, hk1, hk2] using this
theorem c_par_keyed (e : Ex) (h1 : e.keys.length ≤ 1048576) (h2 : e.args.length ≤ 1048576) (hcf : Ans G 126 [vKs e.keys, .clo 127 []] (vb (!e.keys.all okKey))) : Ans G 87 [vE e] (vb (keyedF e)) := by
 intro st
 rw [vE, Ex.enc_eq, Val.enc_eq]
 refine Acalls.body Tryz.func87 rfl Tryz.ntmps87 (by simp) ?_
 (try refine Wk.aw fun _ hqq => ?_); (repeat' (first | ((first | refine Wk.hd ?_ | refine Wk.i ?_); simp -implicitDefEqProofs only [go_sem, seval]) | (refine TQ_s (fun hc => ?_) (fun hc => ?_) <;> try omega) | refine CQ_ok (hcf _) ?_ | refine Wk.ret fun _ _ => ?_ | (refine Wk.fin (by assumption) ?_; refine ⟨?_, rfl⟩) | first | refine Wk.o ?_ | refine Wk.q (by assumption) ?_)); all_goals (repeat subst hqq)
 all_goals (refine congrArg (fun b => Out.ret (.d (.bool b))) ?_; rw [Bool.eq_iff_iff]; simp only [keyedF]; have hlk : e.keys = [] ↔ (e.keys.length : Int) = 0 := ⟨fun h => by rw [h]; rfl, fun h => List.length_eq_zero_iff.1 (by omega)⟩; grind)
end Go.Proofs.YtofbdmdigopaoaaGreatDoor
end
section
set_option maxHeartbeats 8000000
set_option maxRecDepth 20000
namespace Go.Proofs.YtofbdmdigopaoaaGreatDoor
open Go.Abs
attribute [local irreducible] AW OX condQ GQ bodyQ RoundsA thenQ blockQ Acalls
variable {G : World → Nat → Prop}
theorem c_par_name (s : Str) (hs : s.length ≤ 1048576) : Ans G 155 [vs s] (vb (isName s)) := by
 intro st
 by_cases h1 : 1 ≤ s.length
 · by_cases h64 : s.length ≤ 64
   · cases hl : isLetter (s.getD 0 0)
     · rw [isName_f fun h => by have := h.2.2 0 (by omega); rw [hl] at this; simp at this]
       have hle := c_parser_letter (G := G) (s.getD 0 0)
       rw [hl] at hle
       refine Acalls.body Tryz.func155 rfl Tryz.ntmps155 (by simp) ?_
       (try refine Wk.aw fun _ hqq => ?_); (repeat' (first | ((first | refine Wk.hd ?_ | refine Wk.i ?_); simp -implicitDefEqProofs (disch := omega) only [go_sem, seval]) | (refine TQ_s (fun hc => ?_) (fun hc => ?_) <;> try omega) | refine CQ_ok (hle _) ?_ | refine Wk.ret fun _ _ => ?_ | (refine Wk.fin (by assumption) ?_; refine ⟨?_, rfl⟩) | first | refine Wk.o ?_ | refine Wk.q (by assumption) ?_)); all_goals (repeat subst hqq)
       all_goals rfl
     · have hle := c_parser_letter (G := G) (s.getD 0 0)
       rw [hl] at hle
       refine Acalls.body Tryz.func155 rfl Tryz.ntmps155 (by simp) ?_
       (try refine Wk.aw fun _ hqq => ?_); (repeat' (first | ((first | refine Wk.hd ?_ | refine Wk.i ?_); simp -implicitDefEqProofs (disch := omega) only [go_sem, seval]) | (refine TQ_s (fun hc => ?_) (fun hc => ?_) <;> try omega) | refine CQ_ok (hle _) ?_ | refine Wk.o ?_)); all_goals (repeat subst hqq)
       refine AW.loopS (fun n : Nat => [(0, vs s), (3, vint ↑n)]) (fun _ => []) (fun _ => []) (fun n => n ≤ s.length ∧ ∀ k, k < n → (isLetter (s.getD k 0) || isDigit (s.getD k 0)) = true) (fun n => s.length - n) 0 (by simp -implicitDefEqProofs (disch := omega) only [go_sem, seval] <;> first | rfl | exact ⟨rfl, rfl⟩ | skip) (by simp -implicitDefEqProofs (disch := omega) only [go_sem, seval] <;> first | rfl | exact ⟨rfl, rfl⟩ | skip) ⟨by omega, by omega⟩ ?_
       intro n ⟨hn, hr⟩
       have hstep : (isLetter (s.getD n 0) || isDigit (s.getD n 0)) = true → ∀ k, k < n + 1 → (isLetter (s.getD k 0) || isDigit (s.getD k 0)) = true := fun h k hk => by
         by_cases hkn : k = n
         · subst hkn; exact h
         · exact hr k (by omega)
       by_cases hns : n < s.length
       · (try refine Wk.aw fun _ hqq => ?_); (repeat' (first | ((first | refine Wk.hd ?_ | refine Wk.i ?_); simp -implicitDefEqProofs (disch := omega) only [go_sem, seval]) | (refine TQ_s (fun hc => ?_) (fun hc => ?_) <;> try omega) | refine CQ_ok (c_parser_digit _ _) ?_ | refine CQ_ok (c_parser_letter _ _) ?_ | refine Wk.ret fun _ _ => ?_ | (refine Wk.fin (by assumption) ?_; refine ⟨?_, rfl⟩) | first | refine Wk.o ?_ | refine Wk.q (by assumption) ?_)); all_goals (repeat subst hqq)
         · refine ret_bool ?_
           rw [isName_f fun h => ?_]
           have := h.2.2 n hns
           simp_all
         · (refine ⟨n + 1, Nxt.mk ?_ ?_ ?_ (by simp -implicitDefEqProofs (disch := omega) only [go_sem, seval]) (by simp -implicitDefEqProofs (disch := omega) only [go_sem, seval]) (by first | rfl | (simp -implicitDefEqProofs (disch := omega) only [go_sem, seval]; all_goals omega)) (by first | rfl | (simp -implicitDefEqProofs (disch := omega) only [go_sem, seval]; all_goals omega))⟩; focus (try (simp -implicitDefEqProofs (disch := omega) only [go_sem, seval]); try ((repeat' apply And.intro) <;> first | rfl | trivial | refine vi_congr ?_ | refine vs_congr ?_ | refine vown_congr ?_ | skip)))
           · exact ⟨by omega, hstep (by simp_all)⟩
           · omega
         · (refine ⟨n + 1, Nxt.mk ?_ ?_ ?_ (by simp -implicitDefEqProofs (disch := omega) only [go_sem, seval]) (by simp -implicitDefEqProofs (disch := omega) only [go_sem, seval]) (by first | rfl | (simp -implicitDefEqProofs (disch := omega) only [go_sem, seval]; all_goals omega)) (by first | rfl | (simp -implicitDefEqProofs (disch := omega) only [go_sem, seval]; all_goals omega))⟩; focus (try (simp -implicitDefEqProofs (disch := omega) only [go_sem, seval]); try ((repeat' apply And.intro) <;> first | rfl | trivial | refine vi_congr ?_ | refine vs_congr ?_ | refine vown_congr ?_ | skip)))
           · exact ⟨by omega, hstep (by simp_all)⟩
           · omega
       · (try refine Wk.aw fun _ hqq => ?_); (repeat' (first | ((refine Wk.i ?_); simp -implicitDefEqProofs (disch := omega) only [go_sem, seval]) | (refine TQ_s (fun hc => ?_) (fun hc => ?_) <;> try omega) | refine Wk.ret fun _ _ => ?_ | (refine Wk.fin (by assumption) ?_; refine ⟨?_, rfl⟩) | first | refine Wk.o ?_ | refine Wk.q (by assumption) ?_ | refine Wk.sw fun _ hqq => ?_)); all_goals (repeat subst hqq)
         all_goals (refine ret_bool ?_; simp only [true_iff]; rw [isName_iff]; refine ⟨h64, h1, fun k hk => ?_⟩; have := hr k (by omega); rcases Nat.eq_zero_or_pos k with k0 | k0 <;> first | (subst k0; rw [hl]; rfl) | (rw [decide_eq_true (show k ≠ 0 by omega), Bool.true_and]; exact this))
   · rw [isName_f fun h => by omega]
     refine Acalls.body Tryz.func155 rfl Tryz.ntmps155 (by simp) ?_
     (try refine Wk.aw fun _ hqq => ?_); (repeat' (first | ((first | refine Wk.hd ?_ | refine Wk.i ?_); simp -implicitDefEqProofs (disch := omega) only [go_sem, seval]) | (refine TQ_s (fun hc => ?_) (fun hc => ?_) <;> try omega) | refine Wk.ret fun _ _ => ?_ | (refine Wk.fin (by assumption) ?_; refine ⟨?_, rfl⟩) | first | refine Wk.o ?_ | refine Wk.q (by assumption) ?_)); all_goals (repeat subst hqq)
     all_goals rfl
 · rw [isName_f fun h => by omega]
   refine Acalls.body Tryz.func155 rfl Tryz.ntmps155 (by simp) ?_
   (try refine Wk.aw fun _ hqq => ?_); (repeat' (first | ((first | refine Wk.hd ?_ | refine Wk.i ?_); simp -implicitDefEqProofs (disch := omega) only [go_sem, seval]) | (refine TQ_s (fun hc => ?_) (fun hc => ?_) <;> try omega) | refine Wk.ret fun _ _ => ?_ | (refine Wk.fin (by assumption) ?_; refine ⟨?_, rfl⟩) | first | refine Wk.o ?_ | refine Wk.q (by assumption) ?_)); all_goals (repeat subst hqq)
   all_goals rfl
theorem c_par_plain (s : Str) (hn : Ans G 155 [vs s] (vb (isName s))) : Ans G 125 [vs s] (vb (isPlain s)) := by
 intro st
 have hw := c_word (G := G) s
 refine Acalls.body Tryz.func125 rfl Tryz.ntmps125 (by simp) ?_
 (try refine Wk.aw fun _ hqq => ?_); (repeat' (first | ((first | refine Wk.hd ?_ | refine Wk.i ?_); simp -implicitDefEqProofs only [go_sem, seval]) | (refine TQ_s (fun hc => ?_) (fun hc => ?_) <;> try omega) | refine CQ_ok (hn _) ?_ | refine CQ_ok (hw _) ?_ | refine Wk.ret fun _ _ => ?_ | (refine Wk.fin (by assumption) ?_; refine ⟨?_, rfl⟩) | first | refine Wk.o ?_ | refine Wk.q (by assumption) ?_)); all_goals (repeat subst hqq)
 all_goals (refine congrArg (fun b => Out.ret (.d (.bool b))) ?_; simp only [isPlain]; grind)
end Go.Proofs.YtofbdmdigopaoaaGreatDoor
end
section
set_option maxHeartbeats 8000000
set_option maxRecDepth 20000
namespace Go.Proofs.YtofbdmdigopaoaaGreatDoor
open Go.Abs
attribute [local irreducible] AW OX condQ GQ bodyQ RoundsA thenQ blockQ Acalls
variable {G : World → Nat → Prop}
theorem c_par_arity (e : Ex) (he : e.args.length ≤ 1048576) : Ans G 86 [vE e] (vb (arityF e)) := by
 intro st
 rw [vE, Ex.enc_eq, Val.enc_eq]
 refine Acalls.body Tryz.func86 rfl Tryz.ntmps86 (by simp) ?_
 (try refine Wk.aw fun _ hqq => ?_); (repeat' (first | ((refine Wk.i ?_); simp -implicitDefEqProofs only [go_sem, seval]) | (refine TQ_s (fun hc => ?_) (fun hc => ?_) <;> try omega) | refine Wk.ret fun _ _ => ?_ | (refine Wk.fin (by assumption) ?_; refine ⟨?_, rfl⟩) | first | refine Wk.o ?_ | refine Wk.q (by assumption) ?_)); all_goals (repeat subst hqq)
 all_goals refine congrArg (fun b => Out.ret (.d (.bool b))) ?_
 all_goals simp only [arityF]
 all_goals grind
theorem par_count_step (e : Ex) (st : St) (hb : eCount e ≤ 4611686018427387904) (hl : e.args.length ≤ 4611686018427387904) (ih : ∀ a ∈ e.args, Ans G 21 [vE a] (vint (eCount a))) :
   Acalls Tryz.prog G 21 [vE e] st (fun o s => o = .ret (vint (eCount e)) ∧ s = st) := by
 have hcnt : eCount e = 1 + eCount.eCountL e.args := eCount_eq e
 refine Acalls.body Tryz.func21 rfl Tryz.ntmps21 (by simp) ?_
 (try refine Wk.aw fun _ hqq => ?_); (repeat' (first | ((refine Wk.i ?_); simp -implicitDefEqProofs (disch := omega) only [go_sem, seval]) | refine Wk.o ?_)); all_goals (repeat subst hqq)
 refine AW.loopS (fun i : Nat => [(3, vint ↑(1 + eCount.eCountL (e.args.take i))), (7, .d (.sl (e.args.map Ex.enc))), (8, vint ↑e.args.length), (9, vint i)]) (fun _ => [.cells (e.enc.map .d)]) (fun _ => []) (fun i => i ≤ e.args.length) (fun i => e.args.length - i) 0 (by simp -implicitDefEqProofs (disch := omega) only [go_sem, seval] <;> first | rfl | exact ⟨rfl, rfl⟩ | skip) (by simp -implicitDefEqProofs (disch := omega) only [go_sem, seval] <;> first | rfl | exact ⟨rfl, rfl⟩ | skip) (Nat.zero_le _) ?_
 intro i hi
 have hs := eCountL_snoc e.args i
 have ht := eCountL_take e.args i
 have ht1 := eCountL_take e.args (i + 1)
 (try refine Wk.aw fun _ hqq => ?_); (repeat' (first | ((first | refine Wk.hd ?_ | refine Wk.i ?_); simp -implicitDefEqProofs (disch := omega) only [go_sem, seval]) | (refine TQ_s (fun hc => ?_) (fun hc => ?_) <;> try omega) | refine CQ_ok (ih _ (getD_mem (by omega)) _) ?_ | refine Wk.ret fun _ _ => ?_ | (refine Wk.fin (by assumption) ?_; refine ⟨?_, rfl⟩) | first | refine Wk.o ?_ | refine Wk.q (by assumption) ?_ | refine Wk.sw fun _ hqq => ?_)); all_goals (repeat subst hqq)
 · (refine ⟨i + 1, Nxt.mk ?_ ?_ ?_ (by simp -implicitDefEqProofs (disch := omega) only [go_sem, seval]) (by simp -implicitDefEqProofs (disch := omega) only [go_sem, seval]) (by first | rfl | (simp -implicitDefEqProofs (disch := omega) only [go_sem, seval]; all_goals omega)) (by first | rfl | (simp -implicitDefEqProofs (disch := omega) only [go_sem, seval]; all_goals omega))⟩; focus (try (simp -implicitDefEqProofs (disch := omega) only [go_sem, seval]); try ((repeat' apply And.intro) <;> first | rfl | trivial | refine vi_congr ?_ | refine vs_congr ?_ | refine vown_congr ?_ | skip)))
   all_goals omega
 · rw [hcnt, List.take_of_length_le (by omega)]
theorem c_par_Count (n : Nat) : ∀ e : Ex, eCount e ≤ n → eCount e ≤ 4611686018427387904 → Ans G 21 [vE e] (vint (eCount e)) := by
 induction n with
 | zero => intro e h; have := eCount_pos e; omega
 | succ n ih =>
   intro e h hb st
   have h1 := eCount_eq e
   have h2 := eCountL_len e.args fun a _ => eCount_pos a
   exact par_count_step e st hb (by omega) fun a ha => ih a (by have := eCountL_mem ha; omega) (by have := eCountL_mem ha; omega)
end Go.Proofs.YtofbdmdigopaoaaGreatDoor
end
section
set_option maxHeartbeats 8000000
set_option maxRecDepth 20000
namespace Go.Proofs.YtofbdmdigopaoaaGreatDoor
open Go.Abs
attribute [local irreducible] AW OX condQ GQ bodyQ RoundsA thenQ blockQ Acalls
variable {G : World → Nat → Prop}
theorem c_par_named (e : Ex) (he : e.name.length ≤ 1048576) : Ans G 85 [vE e] (vb (namedF e)) := by
 intro st
 rw [vE, Ex.enc_eq, Val.enc_eq]
 have hpl := c_par_plain (G := G) e.name (c_par_name e.name he)
 have hst := c_strength (G := G) e.name
 by_cases k1 : e.kind = 2 ∨ e.kind = 3 ∨ e.kind = 5
 · have : namedF e = isPlain e.name := if_pos k1
   rw [this]
   rcases k1 with k1 | k1 | k1
   · refine Acalls.body Tryz.func85 rfl Tryz.ntmps85 (by simp) ?_
     (try refine Wk.aw fun _ hqq => ?_); (repeat' (first | ((first | refine Wk.hd ?_ | refine Wk.i ?_); simp -implicitDefEqProofs only [go_sem, seval, k1]) | refine CQ_ok (hpl _) ?_ | refine Wk.ret fun _ _ => ?_ | (refine Wk.fin (by assumption) ?_; refine ⟨?_, rfl⟩) | first | refine Wk.o ?_ | refine Wk.q (by assumption) ?_)); all_goals (repeat subst hqq)
     all_goals rfl
   · refine Acalls.body Tryz.func85 rfl Tryz.ntmps85 (by simp) ?_
     (try refine Wk.aw fun _ hqq => ?_); (repeat' (first | ((first | refine Wk.hd ?_ | refine Wk.i ?_); simp -implicitDefEqProofs only [go_sem, seval, k1]) | refine CQ_ok (hpl _) ?_ | refine Wk.ret fun _ _ => ?_ | (refine Wk.fin (by assumption) ?_; refine ⟨?_, rfl⟩) | first | refine Wk.o ?_ | refine Wk.q (by assumption) ?_)); all_goals (repeat subst hqq)
     all_goals rfl
   · refine Acalls.body Tryz.func85 rfl Tryz.ntmps85 (by simp) ?_
     (try refine Wk.aw fun _ hqq => ?_); (repeat' (first | ((first | refine Wk.hd ?_ | refine Wk.i ?_); simp -implicitDefEqProofs only [go_sem, seval, k1]) | refine CQ_ok (hpl _) ?_ | refine Wk.ret fun _ _ => ?_ | (refine Wk.fin (by assumption) ?_; refine ⟨?_, rfl⟩) | first | refine Wk.o ?_ | refine Wk.q (by assumption) ?_)); all_goals (repeat subst hqq)
     all_goals rfl
 · have n1 : ¬ e.kind = 2 := fun h => k1 (.inl h)
   have n2 : ¬ e.kind = 3 := fun h => k1 (.inr (.inl h))
   have n3 : ¬ e.kind = 5 := fun h => k1 (.inr (.inr h))
   by_cases k6 : e.kind = 6
   · have : namedF e = decide (e.name = [33] ∨ e.name = [45]) := by rw [namedF, if_neg k1, if_pos k6]
     rw [this]
     refine Acalls.body Tryz.func85 rfl Tryz.ntmps85 (by simp) ?_
     (try refine Wk.aw fun _ hqq => ?_); (repeat' (first | ((first | refine Wk.hd ?_ | refine Wk.i ?_); simp -implicitDefEqProofs only [go_sem, seval, k6]) | (refine TQ_s (fun hc => ?_) (fun hc => ?_) <;> try omega) | refine Wk.ret fun _ _ => ?_ | (refine Wk.fin (by assumption) ?_; refine ⟨?_, rfl⟩) | first | refine Wk.o ?_ | refine Wk.q (by assumption) ?_)); all_goals (repeat subst hqq)
     all_goals refine congrArg (fun b => Out.ret (.d (.bool b))) ?_
     all_goals grind
   · by_cases k7 : e.kind = 7
     · have : namedF e = decide (0 < strength e.name) := by rw [namedF, if_neg k1, if_neg k6, if_pos k7]
       rw [this]
       refine Acalls.body Tryz.func85 rfl Tryz.ntmps85 (by simp) ?_
       (try refine Wk.aw fun _ hqq => ?_); (repeat' (first | ((first | refine Wk.hd ?_ | refine Wk.i ?_); simp -implicitDefEqProofs only [go_sem, seval, k7]) | refine CQ_ok (hst _) ?_ | refine Wk.ret fun _ _ => ?_ | (refine Wk.fin (by assumption) ?_; refine ⟨?_, rfl⟩) | first | refine Wk.o ?_ | refine Wk.q (by assumption) ?_)); all_goals (repeat subst hqq)
       all_goals refine congrArg (fun b => Out.ret (.d (.bool b))) ?_
       all_goals grind
     · have : namedF e = decide (e.name = []) := by rw [namedF, if_neg k1, if_neg k6, if_neg k7]
       rw [this]
       refine Acalls.body Tryz.func85 rfl Tryz.ntmps85 (by simp) ?_
       (try refine Wk.aw fun _ hqq => ?_); (repeat' (first | ((refine Wk.i ?_); simp -implicitDefEqProofs only [go_sem, seval]) | (refine TQ_s (fun hc => ?_) (fun hc => ?_) <;> try omega) | refine Wk.ret fun _ _ => ?_ | (refine Wk.fin (by assumption) ?_; refine ⟨?_, rfl⟩) | first | refine Wk.o ?_ | refine Wk.q (by assumption) ?_)); all_goals (repeat subst hqq)
       all_goals refine congrArg (fun b => Out.ret (.d (.bool b))) ?_
       all_goals grind
end Go.Proofs.YtofbdmdigopaoaaGreatDoor
end
