/- A step of the proofs of the seat's theorems. -/
import Derived.Test.YtofbdmdigopaoaaGreatDoorM1
import Derived.Test.YtofbdmdigopaoaaGreatDoorM14
import Derived.Test.YtofbdmdigopaoaaGreatDoorM22
import Derived.Test.YtofbdmdigopaoaaGreatDoorM23
import Derived.Test.YtofbdmdigopaoaaGreatDoorM24
set_option linter.unusedSimpArgs false
set_option linter.unusedVariables false
section
set_option maxHeartbeats 8000000
set_option maxRecDepth 20000
namespace Go.Proofs.YtofbdmdigopaoaaGreatDoor
open Go.Abs
attribute [local irreducible] AW OX condQ GQ bodyQ RoundsA thenQ blockQ Acalls
variable {G : World → Nat → Prop}
theorem eCheck0 {level : Nat} {e : Ex} (h : eCheck level e = 0) : eNode e level = 0 ∧ ∀ x ∈ e.args, eCheck (level + 1) x = 0 := by
 rw [eCheck_eq] at h
 by_cases hn : eNode e level = 0
 · rw [if_neg (by simp [hn])] at h
   refine ⟨hn, ?_⟩
   generalize e.args = l at h
   induction l with
   | nil => intro x hx; simp at hx
   | cons a r ih =>
     rw [eCheck.eCheckL] at h
     by_cases ha : eCheck (level + 1) a = 0
     · rw [if_neg (by simp [ha])] at h
       intro x hx
       rcases List.mem_cons.1 hx with rfl | hx
       · exact ha
       · exact ih h x hx
     · rw [if_pos ha] at h; exact absurd h ha
 · rw [if_pos hn] at h; exact absurd h hn
structure NodeOK (e : Ex) (level : Nat) : Prop where
 lev : level ≤ 16
 k1 : 1 ≤ e.kind
 k2 : e.kind ≤ 10
 named : namedF e = true
 arity : arityF e = true
 keyed : keyedF e = true
 zero : e.kind ≠ 1 → vZero e.value = true
 val : e.kind = 1 → vValid e.value = 0
 len : e.args.length ≤ 1024
 rep : repF e.keys = false
theorem eNode0 {level : Nat} {e : Ex} (h : eNode e level = 0) : NodeOK e level := by
 rw [eNode_eq] at h
 have hd : ¬ 16 < level := fun h' => by rw [if_pos h'] at h; omega
 rw [if_neg hd] at h
 have hff : formedF e = true := by
   cases h' : formedF e
   · rw [if_pos h'] at h; omega
   · rfl
 rw [if_neg (by simp [hff])] at h
 have hk : ¬ (e.kind = 1 ∧ vValid e.value ≠ 0) := fun h' => by rw [if_pos h'] at h; exact h'.2 h
 rw [if_neg hk] at h
 have hl : ¬ 1024 < e.args.length := fun h' => by rw [if_pos h'] at h; omega
 rw [if_neg hl] at h
 have hr : repF e.keys = false := by
   cases h' : repF e.keys
   · rfl
   · rw [if_pos h'] at h; omega
 simp only [formedF, arityR_eq, Bool.and_eq_true, Bool.or_eq_true, decide_eq_true_eq] at hff
 obtain ⟨⟨⟨⟨⟨q1, q2⟩, q3⟩, q4⟩, q5⟩, q6⟩ := hff
 exact ⟨by omega, q1, q2, q4, q3, q6, fun h => q5.resolve_left h, fun h => Decidable.not_not.1 fun h' => hk ⟨h, h'⟩, by omega, hr⟩
theorem NodeOK.lenA {e : Ex} {level : Nat} (h : NodeOK e level) : ((e.kind = 1 ∨ e.kind = 2) → e.args.length = 0) ∧ ((e.kind = 3 ∨ e.kind = 6) → e.args.length = 1) ∧ ((e.kind = 4 ∨ e.kind = 7) → e.args.length = 2) ∧ (e.kind = 8 → e.args.length = 3) ∧ (e.kind = 10 → e.keys.length = e.args.length) ∧ (e.kind = 7 → 0 < strength e.name) := by
 have h1 := h.arity
 have h2 := h.keyed
 have h3 := h.named
 simp only [arityF, keyedF, namedF] at h1 h2 h3
 refine ⟨?_, ?_, ?_, ?_, ?_, ?_⟩ <;> grind
theorem force_pos {e : Ex} {level : Nat} (h : NodeOK e level) : 1 ≤ force e := by
 have := h.lenA.2.2.2.2.2
 unfold force
 repeat' split
 all_goals first | omega | skip
theorem c_arg10 (e : Ex) (need : Nat) (hl : (src e).length ≤ 1099511627776) (h : Ans G 34 [vE e] (vs (src e))) : Ans G 62 [vE e, vint ↑need] (vs (paren (decide (force e < need)) (src e))) := by
 intro st
 by_cases hf : force e < need
 · rw [decide_eq_true hf]
   refine Acalls.body Tryz.func62 rfl Tryz.ntmps62 (by simp) ?_
   (try with_reducible refine Wk.aw fun _ hqq => ?_); (repeat' (first | ((with_reducible first | refine Wk.hd ?_ | refine Wk.i ?_); simp -implicitDefEqProofs (disch := first | omega | (simp only [go_sem]; try omega)) only [go_sem, seval]) | (refine TQ_s (fun hc => ?_) (fun hc => ?_) <;> try (exfalso; first | omega | contradiction)) | refine CQ_ok (c_ref_strength e _) ?_ | refine CQ_ok (h _) ?_ | with_reducible refine Wk.ret fun _ _ => ?_ | (refine Wk.fin (by assumption) ?_; refine ⟨?_, rfl⟩) | with_reducible first | refine Wk.o ?_ | refine Wk.q (by assumption) ?_)); all_goals (repeat subst hqq)
   all_goals (refine congrArg (fun b => Out.ret (.d (.str b))) ?_; simp [paren])
 · rw [decide_eq_false hf]
   refine Acalls.body Tryz.func62 rfl Tryz.ntmps62 (by simp) ?_
   (try with_reducible refine Wk.aw fun _ hqq => ?_); (repeat' (first | ((with_reducible first | refine Wk.hd ?_ | refine Wk.i ?_); simp -implicitDefEqProofs (disch := first | omega | (simp only [go_sem]; try omega)) only [go_sem, seval]) | (refine TQ_s (fun hc => ?_) (fun hc => ?_) <;> try (exfalso; first | omega | contradiction)) | refine CQ_ok (c_ref_strength e _) ?_ | refine CQ_ok (h _) ?_ | with_reducible refine Wk.ret fun _ _ => ?_ | (refine Wk.fin (by assumption) ?_; refine ⟨?_, rfl⟩) | with_reducible first | refine Wk.o ?_ | refine Wk.q (by assumption) ?_)); all_goals (repeat subst hqq)
   all_goals (refine congrArg (fun b => Out.ret (.d (.str b))) ?_; simp [paren])
def partsE (e : Ex) : List Str := if e.kind = 10 then src.srcM e.args e.keys else e.args.map src
theorem partsE_len (e : Ex) : (partsE e).length = e.args.length := by
 unfold partsE; split
 · exact srcM_len _ _
 · simp
theorem lens_partsE {e : Ex} (hv : eInt e) : lens (partsE e) + 32 ≤ eBulk e := by
 have h3 := ((eInt_iff e).1 hv).2
 have hl := lens_src (l := e.args) fun x hx => src_len x (h3 x hx)
 have hm := lens_srcM (l := e.args) (ks := e.keys) fun x hx => src_len x (h3 x hx)
 rw [eBulk_eq]
 unfold partsE
 split <;> omega
theorem c_args10 (e : Ex) (level : Nat) (hck : eCheck level e = 0) (fe : eFit e) (ie : eInt e) (hb : eBulk e ≤ 1099511627776) (ih : ∀ x ∈ e.args, Ans G 34 [vE x] (vs (src x))) :
   Ans G 63 [vE e] (vs (joinF [44, 32] (partsE e))) := by
 intro st
 obtain ⟨a1, a2, a3, a4, a5, a6⟩ := (eFit_iff e).1 fe
 have i3 := ((eInt_iff e).1 ie).2
 have hN := eNode0 (eCheck0 hck).1
 obtain ⟨n1, n2, n3, n4, n5, n6⟩ := hN.lenA
 have hal := hN.len
 have hpl := lens_partsE ie
 have hlen := partsE_len e
 have hj := joinF_len (sep := [44, 32]) (by simp) (partsE e)
 refine Acalls.body Tryz.func63 rfl Tryz.ntmps63 (by simp) ?_
 (try with_reducible refine Wk.aw fun _ hqq => ?_); (repeat' (first | ((with_reducible refine Wk.i ?_); simp -implicitDefEqProofs (disch := first | omega | (simp only [go_sem]; try omega)) only [go_sem, seval]) | with_reducible refine Wk.o ?_)); all_goals (repeat subst hqq)
 refine AW.loopS (fun i : Nat => [(1, .ptr st.blks.length 0), (3, vs (joinF [44, 32] ((partsE e).take i))), (4, vint ↑i)]) (fun _ => [.cells (e.enc.map .d)]) (fun _ => []) (fun i => i ≤ e.args.length) (fun i => e.args.length - i) 0 (by simp -implicitDefEqProofs (disch := first | omega | (simp only [go_sem]; try omega)) only [go_sem, seval] <;> first | rfl | exact ⟨rfl, rfl⟩ | skip) (by simp -implicitDefEqProofs (disch := first | omega | (simp only [go_sem]; try omega)) only [go_sem, seval] <;> first | rfl | exact ⟨rfl, rfl⟩ | skip) (by omega) ?_
 intro i hi
 have hji := joinF_len (sep := [44, 32]) (by simp) ((partsE e).take i)
 have hti := lens_take (partsE e) i
 by_cases hlt : i < e.args.length
 · have hx := getD_mem hlt
   have hgi := lens_get (l := partsE e) (i := i) (by omega)
   have hst := joinF_step (sep := [44, 32]) (l := partsE e) (i := i) (by omega)
   have hlx := src_len _ (i3 _ hx)
   have hcx := ih _ hx
   by_cases hk5 : e.kind = 10
   · have hki : i < e.keys.length := by have := n5 hk5; omega
     have hqk := c_Quote (G := G) (e.keys.getD i default) (by have := a5 _ (getD_mem hki); omega)
     have hqkl := quoteF_len (e.keys.getD i default)
     have hkk := a5 _ (getD_mem hki)
     have hpg : (partsE e).getD i default = quoteF (e.keys.getD i default) ++ [58, 32] ++ src (e.args.getD i default) := by
       rw [partsE, if_pos hk5, srcM_get _ _ _ hlt]; rfl
     rw [hpg] at hst hgi
     simp only [List.length_append, List.length_cons, List.length_nil] at hgi
     by_cases hi0 : i = 0
     · rw [if_pos hi0] at hst
       subst hi0
       (try with_reducible refine Wk.aw fun _ hqq => ?_); (repeat' (first | ((with_reducible first | refine Wk.hd ?_ | refine Wk.i ?_); simp -implicitDefEqProofs (disch := first | omega | (simp only [go_sem]; try omega)) only [go_sem, seval, hk5, joinF]) | (refine TQ_s (fun hc => ?_) (fun hc => ?_) <;> try (exfalso; first | omega | contradiction)) | refine CQ_ok (hqk _) ?_ | refine CQ_ok (hcx _) ?_ | with_reducible first | refine Wk.o ?_ | refine Wk.q (by assumption) ?_)); all_goals (repeat subst hqq)
       · (refine ⟨0 + 1, Nxt.mk ?_ ?_ ?_ (by simp -implicitDefEqProofs (disch := first | omega | (simp only [go_sem]; try omega)) only [go_sem, seval]) (by simp -implicitDefEqProofs (disch := first | omega | (simp only [go_sem]; try omega)) only [go_sem, seval]) (by first | rfl | (simp -implicitDefEqProofs (disch := first | omega | (simp only [go_sem]; try omega)) only [go_sem, seval]; all_goals omega)) (by first | rfl | (simp -implicitDefEqProofs (disch := first | omega | (simp only [go_sem]; try omega)) only [go_sem, seval]; all_goals omega))⟩; focus (try (simp -implicitDefEqProofs (disch := first | omega | (simp only [go_sem]; try omega)) only [go_sem, seval]); try ((repeat' apply And.intro) <;> first | rfl | trivial | refine vi_congr ?_ | refine vs_congr ?_ | refine vown_congr ?_ | skip)))
         · first | (rw [hst]; done) | (rw [hst]; simp [joinF])
         · omega
         · omega
     · rw [if_neg hi0] at hst
       (try with_reducible refine Wk.aw fun _ hqq => ?_); (repeat' (first | ((with_reducible first | refine Wk.hd ?_ | refine Wk.i ?_); simp -implicitDefEqProofs (disch := first | omega | (simp only [go_sem]; try omega)) only [go_sem, seval, hk5]) | (refine TQ_s (fun hc => ?_) (fun hc => ?_) <;> try (exfalso; first | omega | contradiction)) | refine CQ_ok (hqk _) ?_ | refine CQ_ok (hcx _) ?_ | with_reducible first | refine Wk.o ?_ | refine Wk.q (by assumption) ?_)); all_goals (repeat subst hqq)
       · (refine ⟨i + 1, Nxt.mk ?_ ?_ ?_ (by simp -implicitDefEqProofs (disch := first | omega | (simp only [go_sem]; try omega)) only [go_sem, seval]) (by simp -implicitDefEqProofs (disch := first | omega | (simp only [go_sem]; try omega)) only [go_sem, seval]) (by first | rfl | (simp -implicitDefEqProofs (disch := first | omega | (simp only [go_sem]; try omega)) only [go_sem, seval]; all_goals omega)) (by first | rfl | (simp -implicitDefEqProofs (disch := first | omega | (simp only [go_sem]; try omega)) only [go_sem, seval]; all_goals omega))⟩; focus (try (simp -implicitDefEqProofs (disch := first | omega | (simp only [go_sem]; try omega)) only [go_sem, seval]); try ((repeat' apply And.intro) <;> first | rfl | trivial | refine vi_congr ?_ | refine vs_congr ?_ | refine vown_congr ?_ | skip)))
         · rw [hst] <;> simp
         · omega
         · omega
   · have hpg : (partsE e).getD i default = src (e.args.getD i default) := by
       rw [partsE, if_neg hk5]; simp [List.getD_eq_getElem?_getD, hlt]
     rw [hpg] at hst hgi
     by_cases hi0 : i = 0
     · rw [if_pos hi0] at hst
       subst hi0
       (try with_reducible refine Wk.aw fun _ hqq => ?_); (repeat' (first | ((with_reducible first | refine Wk.hd ?_ | refine Wk.i ?_); simp -implicitDefEqProofs (disch := first | omega | (simp only [go_sem]; try omega)) only [go_sem, seval, joinF]) | (refine TQ_s (fun hc => ?_) (fun hc => ?_) <;> try (exfalso; first | omega | contradiction)) | refine CQ_ok (hcx _) ?_ | with_reducible first | refine Wk.o ?_ | refine Wk.q (by assumption) ?_)); all_goals (repeat subst hqq)
       · (refine ⟨0 + 1, Nxt.mk ?_ ?_ ?_ (by simp -implicitDefEqProofs (disch := first | omega | (simp only [go_sem]; try omega)) only [go_sem, seval]) (by simp -implicitDefEqProofs (disch := first | omega | (simp only [go_sem]; try omega)) only [go_sem, seval]) (by first | rfl | (simp -implicitDefEqProofs (disch := first | omega | (simp only [go_sem]; try omega)) only [go_sem, seval]; all_goals omega)) (by first | rfl | (simp -implicitDefEqProofs (disch := first | omega | (simp only [go_sem]; try omega)) only [go_sem, seval]; all_goals omega))⟩; focus (try (simp -implicitDefEqProofs (disch := first | omega | (simp only [go_sem]; try omega)) only [go_sem, seval]); try ((repeat' apply And.intro) <;> first | rfl | trivial | refine vi_congr ?_ | refine vs_congr ?_ | refine vown_congr ?_ | skip)))
         · first | (rw [hst]; done) | (rw [hst]; simp [joinF])
         · omega
         · omega
     · rw [if_neg hi0] at hst
       (try with_reducible refine Wk.aw fun _ hqq => ?_); (repeat' (first | ((with_reducible first | refine Wk.hd ?_ | refine Wk.i ?_); simp -implicitDefEqProofs (disch := first | omega | (simp only [go_sem]; try omega)) only [go_sem, seval]) | (refine TQ_s (fun hc => ?_) (fun hc => ?_) <;> try (exfalso; first | omega | contradiction)) | refine CQ_ok (hcx _) ?_ | with_reducible first | refine Wk.o ?_ | refine Wk.q (by assumption) ?_)); all_goals (repeat subst hqq)
       · (refine ⟨i + 1, Nxt.mk ?_ ?_ ?_ (by simp -implicitDefEqProofs (disch := first | omega | (simp only [go_sem]; try omega)) only [go_sem, seval]) (by simp -implicitDefEqProofs (disch := first | omega | (simp only [go_sem]; try omega)) only [go_sem, seval]) (by first | rfl | (simp -implicitDefEqProofs (disch := first | omega | (simp only [go_sem]; try omega)) only [go_sem, seval]; all_goals omega)) (by first | rfl | (simp -implicitDefEqProofs (disch := first | omega | (simp only [go_sem]; try omega)) only [go_sem, seval]; all_goals omega))⟩; focus (try (simp -implicitDefEqProofs (disch := first | omega | (simp only [go_sem]; try omega)) only [go_sem, seval]); try ((repeat' apply And.intro) <;> first | rfl | trivial | refine vi_congr ?_ | refine vs_congr ?_ | refine vown_congr ?_ | skip)))
         · rw [hst] <;> simp
         · omega
         · omega
 · have : (partsE e).take i = partsE e := List.take_of_length_le (by omega)
   rw [this] at hji ⊢
   (try with_reducible refine Wk.aw fun _ hqq => ?_); (repeat' (first | ((with_reducible refine Wk.i ?_); simp -implicitDefEqProofs (disch := first | omega | (simp only [go_sem]; try omega)) only [go_sem, seval]) | (refine TQ_s (fun hc => ?_) (fun hc => ?_) <;> try (exfalso; first | omega | contradiction)) | with_reducible refine Wk.ret fun _ _ => ?_ | (refine Wk.fin (by assumption) ?_; refine ⟨?_, rfl⟩) | with_reducible first | refine Wk.o ?_ | refine Wk.q (by assumption) ?_ | refine Wk.sw fun _ hqq => ?_)); all_goals (repeat subst hqq)
   all_goals rfl
theorem srcAt_1 {l : List Ex} {i : Nat} {level : Nat} (h : i < l.length) (hN : NodeOK (l.getD i default) level) : src.srcAt l i 1 = src (l.getD i default) := by
 rw [srcAt_get l i 1 h, decide_eq_false (by have := force_pos hN; omega)]; rfl
theorem c_source10 : ∀ e : Ex, ∀ level, eCheck level e = 0 → eFit e → eInt e → eBulk e ≤ 1099511627776 → Ans G 34 [vE e] (vs (src e)) := by
 intro e
 induction e using Ex.ind with
 | h e ih =>
   intro level hck fe ie hb st
   obtain ⟨a1, a2, a3, a4, a5, a6⟩ := (eFit_iff e).1 fe
   obtain ⟨i1, i3⟩ := (eInt_iff e).1 ie
   obtain ⟨hnode, hcl⟩ := eCheck0 hck
   have hN := eNode0 hnode
   obtain ⟨n1, n2, n3, n4, n5, n6⟩ := hN.lenA
   have k1 := hN.k1
   have k2 := hN.k2
   have hb' := hb
   rw [eBulk_eq] at hb'
   have hvl := showV_len i1
   have hbl := fun x (hx : x ∈ e.args) => eBulkL_mem hx
   have hlx := fun x (hx : x ∈ e.args) => src_len x (i3 x hx)
   have ih' : ∀ x ∈ e.args, Ans G 34 [vE x] (vs (src x)) := fun x hx => ih x hx (level + 1) (hcl x hx) (a6 x hx) (i3 x hx) (by have := hbl x hx; omega)
   have harg : ∀ i need : Nat, i < e.args.length → Ans G 62 [vE (e.args.getD i default), vint ↑need] (vs (src.srcAt e.args i need)) := fun i need hi => by
     rw [srcAt_get _ _ _ hi]
     exact c_arg10 _ _ (by have := hbl _ (getD_mem hi); have := hlx _ (getD_mem hi); omega) (ih' _ (getD_mem hi))
   have hsrc : ∀ i : Nat, i < e.args.length → Ans G 34 [vE (e.args.getD i default)] (vs (src.srcAt e.args i 1)) := fun i hi => by
     rw [srcAt_1 hi (eNode0 (eCheck0 (hcl _ (getD_mem hi))).1)]; exact ih' _ (getD_mem hi)
   have hat := srcAt_len hlx
   have hsum := atB_sum e.args
   have hargs := c_args10 e level hck fe ie hb ih'
   have hpl := lens_partsE ie
   have hj := joinF_len (sep := [44, 32]) (by simp) (partsE e)
   have hat0 := hat 0
   have hat1 := hat 1
   have hat2 := hat 2
   rw [src_eq]
   by_cases q1 : e.kind = 1
   · have hshow := c_ref07_Show (G := G) e.value a2 i1 (by omega)
     rw [if_pos q1]
     refine Acalls.body Tryz.func34 rfl Tryz.ntmps34 (by simp) ?_
     (try with_reducible refine Wk.aw fun _ hqq => ?_); (repeat' (first | ((with_reducible first | refine Wk.hd ?_ | refine Wk.i ?_); simp -implicitDefEqProofs (disch := first | omega | (simp only [go_sem]; try omega)) only [go_sem, seval, q1]) | refine CQ_ok (hshow _) ?_ | with_reducible refine Wk.ret fun _ _ => ?_ | (refine Wk.fin (by assumption) ?_; refine ⟨?_, rfl⟩) | with_reducible first | refine Wk.o ?_ | refine Wk.q (by assumption) ?_)); all_goals (repeat subst hqq)
     all_goals first | rfl | (refine congrArg (fun b => Out.ret (.d (.str b))) ?_; simp)
   rw [if_neg q1]
   by_cases q2 : e.kind = 2
   · rw [if_pos q2]
     refine Acalls.body Tryz.func34 rfl Tryz.ntmps34 (by simp) ?_
     (try with_reducible refine Wk.aw fun _ hqq => ?_); (repeat' (first | ((with_reducible refine Wk.i ?_); simp -implicitDefEqProofs (disch := first | omega | (simp only [go_sem]; try omega)) only [go_sem, seval, q2]) | with_reducible refine Wk.ret fun _ _ => ?_ | (refine Wk.fin (by assumption) ?_; refine ⟨?_, rfl⟩) | with_reducible first | refine Wk.o ?_ | refine Wk.q (by assumption) ?_)); all_goals (repeat subst hqq)
     all_goals first | rfl | (refine congrArg (fun b => Out.ret (.d (.str b))) ?_; simp)
   rw [if_neg q2]
   by_cases q3 : e.kind = 3
   · have c0 := harg 0 8 (by have := n2 (.inl q3); omega)
     have l0 := hat0 8
     have hl := n2 (.inl q3)
     rw [if_pos q3]
     refine Acalls.body Tryz.func34 rfl Tryz.ntmps34 (by simp) ?_
     (try with_reducible refine Wk.aw fun _ hqq => ?_); (repeat' (first | ((with_reducible first | refine Wk.hd ?_ | refine Wk.i ?_); simp -implicitDefEqProofs (disch := first | omega | (simp only [go_sem]; try omega)) only [go_sem, seval, q3]) | refine CQ_ok (c0 _) ?_ | refine Wk.drawn mx (by kernel_rfl) ?_ | with_reducible refine Wk.ret fun _ _ => ?_ | (refine Wk.fin (by assumption) ?_; refine ⟨?_, rfl⟩) | with_reducible first | refine Wk.o ?_ | refine Wk.q (by assumption) ?_)); all_goals (repeat subst hqq)
     all_goals first | rfl | (refine congrArg (fun b => Out.ret (.d (.str b))) ?_; simp)
   rw [if_neg q3]
   by_cases q4 : e.kind = 4
   · have hl := n3 (.inl q4)
     have c0 := harg 0 8 (by omega)
     have c1 := hsrc 1 (by omega)
     have l0 := hat0 8
     have l1 := hat1 1
     rw [if_pos q4]
     refine Acalls.body Tryz.func34 rfl Tryz.ntmps34 (by simp) ?_
     (try with_reducible refine Wk.aw fun _ hqq => ?_); (repeat' (first | ((with_reducible first | refine Wk.hd ?_ | refine Wk.i ?_); simp -implicitDefEqProofs (disch := first | omega | (simp only [go_sem]; try omega)) only [go_sem, seval, q4]) | refine CQ_ok (c0 _) ?_ | refine CQ_ok (c1 _) ?_ | refine Wk.drawn mx (by kernel_rfl) ?_ | with_reducible refine Wk.ret fun _ _ => ?_ | (refine Wk.fin (by assumption) ?_; refine ⟨?_, rfl⟩) | with_reducible first | refine Wk.o ?_ | refine Wk.q (by assumption) ?_)); all_goals (repeat subst hqq)
     all_goals first | rfl | (refine congrArg (fun b => Out.ret (.d (.str b))) ?_; simp)
   rw [if_neg q4]
   by_cases q5 : e.kind = 5
   · have hp : partsE e = e.args.map src := if_neg (by omega)
     rw [hp] at hargs hpl hj
     rw [if_pos q5]
     refine Acalls.body Tryz.func34 rfl Tryz.ntmps34 (by simp) ?_
     (try with_reducible refine Wk.aw fun _ hqq => ?_); (repeat' (first | ((with_reducible first | refine Wk.hd ?_ | refine Wk.i ?_); simp -implicitDefEqProofs (disch := first | omega | (simp only [go_sem]; try omega)) only [go_sem, seval, q5]) | refine CQ_ok (hargs _) ?_ | refine Wk.drawn mx (by kernel_rfl) ?_ | with_reducible refine Wk.ret fun _ _ => ?_ | (refine Wk.fin (by assumption) ?_; refine ⟨?_, rfl⟩) | with_reducible first | refine Wk.o ?_ | refine Wk.q (by assumption) ?_)); all_goals (repeat subst hqq)
     all_goals first | rfl | (refine congrArg (fun b => Out.ret (.d (.str b))) ?_; simp)
   rw [if_neg q5]
   by_cases q6 : e.kind = 6
   · have hl := n2 (.inr q6)
     have c0 := harg 0 7 (by omega)
     have l0 := hat0 7
     rw [if_pos q6]
     refine Acalls.body Tryz.func34 rfl Tryz.ntmps34 (by simp) ?_
     (try with_reducible refine Wk.aw fun _ hqq => ?_); (repeat' (first | ((with_reducible first | refine Wk.hd ?_ | refine Wk.i ?_); simp -implicitDefEqProofs (disch := first | omega | (simp only [go_sem]; try omega)) only [go_sem, seval, q6]) | refine CQ_ok (c0 _) ?_ | refine Wk.drawn mx (by kernel_rfl) ?_ | with_reducible refine Wk.ret fun _ _ => ?_ | (refine Wk.fin (by assumption) ?_; refine ⟨?_, rfl⟩) | with_reducible first | refine Wk.o ?_ | refine Wk.q (by assumption) ?_)); all_goals (repeat subst hqq)
     all_goals first | rfl | (refine congrArg (fun b => Out.ret (.d (.str b))) ?_; simp)
   rw [if_neg q6]
   by_cases q7 : e.kind = 7
   · have hl := n3 (.inr q7)
     have hst := c_refStrength (G := G) e.name
     have hsle := strength_le e.name
     have c1 := harg 1 (strength e.name + 1) (by omega)
     have l1 := hat1 (strength e.name + 1)
     rw [if_pos q7]
     by_cases s4 : strength e.name = 4
     · have c0 := harg 0 5 (by omega)
       have l0 := hat0 5
       have l1' := hat1 5
       rw [if_pos s4]
       rw [s4] at hst c1 l1 ⊢
       refine Acalls.body Tryz.func34 rfl Tryz.ntmps34 (by simp) ?_
       (try with_reducible refine Wk.aw fun _ hqq => ?_); (repeat' (first | ((with_reducible first | refine Wk.hd ?_ | refine Wk.i ?_); simp -implicitDefEqProofs (disch := first | omega | (simp only [go_sem]; try omega)) only [go_sem, seval, q7]) | refine CQ_ok (hst _) ?_ | refine CQ_ok ((by first | exact c0 _ | exact c1 _)) ?_ | refine Wk.drawn mx (by kernel_rfl) ?_ | with_reducible refine Wk.ret fun _ _ => ?_ | (refine Wk.fin (by assumption) ?_; refine ⟨?_, rfl⟩) | with_reducible first | refine Wk.o ?_ | refine Wk.q (by assumption) ?_)); all_goals (repeat subst hqq)
       all_goals first | rfl | (refine congrArg (fun b => Out.ret (.d (.str b))) ?_; simp)
     · have c0 := harg 0 (strength e.name) (by omega)
       have l0 := hat0 (strength e.name)
       rw [if_neg s4]
       refine Acalls.body Tryz.func34 rfl Tryz.ntmps34 (by simp) ?_
       (try with_reducible refine Wk.aw fun _ hqq => ?_); (repeat' (first | ((with_reducible first | refine Wk.hd ?_ | refine Wk.i ?_); simp -implicitDefEqProofs (disch := first | omega | (simp only [go_sem]; try omega)) only [go_sem, seval, q7]) | (refine TQ_s (fun hc => ?_) (fun hc => ?_) <;> try (exfalso; first | omega | contradiction)) | refine CQ_ok (hst _) ?_ | refine CQ_ok ((by first | exact c0 _ | exact c1 _)) ?_ | refine Wk.drawn mx (by kernel_rfl) ?_ | with_reducible refine Wk.ret fun _ _ => ?_ | (refine Wk.fin (by assumption) ?_; refine ⟨?_, rfl⟩) | with_reducible first | refine Wk.o ?_ | refine Wk.q (by assumption) ?_)); all_goals (repeat subst hqq)
       all_goals first | rfl | (refine congrArg (fun b => Out.ret (.d (.str b))) ?_; simp)
   rw [if_neg q7]
   by_cases q8 : e.kind = 8
   · have hl := n4 q8
     have c0 := harg 0 2 (by omega)
     have c1 := hsrc 1 (by omega)
     have c2 := hsrc 2 (by omega)
     have l0 := hat0 2
     have l1 := hat1 1
     have l2 := hat2 1
     rw [if_pos q8]
     refine Acalls.body Tryz.func34 rfl Tryz.ntmps34 (by simp) ?_
     (try with_reducible refine Wk.aw fun _ hqq => ?_); (repeat' (first | ((with_reducible first | refine Wk.hd ?_ | refine Wk.i ?_); simp -implicitDefEqProofs (disch := first | omega | (simp only [go_sem]; try omega)) only [go_sem, seval, q8]) | refine CQ_ok (c0 _) ?_ | refine CQ_ok ((by first | exact c1 _ | exact c2 _)) ?_ | refine Wk.drawn mx (by kernel_rfl) ?_ | with_reducible refine Wk.ret fun _ _ => ?_ | (refine Wk.fin (by assumption) ?_; refine ⟨?_, rfl⟩) | with_reducible first | refine Wk.o ?_ | refine Wk.q (by assumption) ?_)); all_goals (repeat subst hqq)
     all_goals first | rfl | (refine congrArg (fun b => Out.ret (.d (.str b))) ?_; simp)
   rw [if_neg q8]
   by_cases q9 : e.kind = 9
   · have hp : partsE e = e.args.map src := if_neg (by omega)
     rw [hp] at hargs hpl hj
     rw [if_pos q9]
     refine Acalls.body Tryz.func34 rfl Tryz.ntmps34 (by simp) ?_
     (try with_reducible refine Wk.aw fun _ hqq => ?_); (repeat' (first | ((with_reducible first | refine Wk.hd ?_ | refine Wk.i ?_); simp -implicitDefEqProofs (disch := first | omega | (simp only [go_sem]; try omega)) only [go_sem, seval, q9]) | refine CQ_ok (hargs _) ?_ | with_reducible refine Wk.ret fun _ _ => ?_ | (refine Wk.fin (by assumption) ?_; refine ⟨?_, rfl⟩) | with_reducible first | refine Wk.o ?_ | refine Wk.q (by assumption) ?_)); all_goals (repeat subst hqq)
     all_goals first | rfl | (refine congrArg (fun b => Out.ret (.d (.str b))) ?_; simp)
   rw [if_neg q9]
   have q10 : e.kind = 10 := by omega
   have hp : partsE e = src.srcM e.args e.keys := if_pos q10
   rw [hp] at hargs hpl hj
   refine Acalls.body Tryz.func34 rfl Tryz.ntmps34 (by simp) ?_
   (try with_reducible refine Wk.aw fun _ hqq => ?_); (repeat' (first | ((with_reducible first | refine Wk.hd ?_ | refine Wk.i ?_); simp -implicitDefEqProofs (disch := first | omega | (simp only [go_sem]; try omega)) only [go_sem, seval, q10]) | refine CQ_ok (hargs _) ?_ | with_reducible refine Wk.ret fun _ _ => ?_ | (refine Wk.fin (by assumption) ?_; refine ⟨?_, rfl⟩) | with_reducible first | refine Wk.o ?_ | refine Wk.q (by assumption) ?_)); all_goals (repeat subst hqq)
   all_goals first | rfl | (refine congrArg (fun b => Out.ret (.d (.str b))) ?_; simp)
theorem c_ref_Show (e : Ex) (fe : eFit e) (ie : eInt e) (hb : eBulk e ≤ 1099511627776) (hc : eCount e ≤ 4611686018427387904) : Ans G 20 [vE e] (vs (showE e)) := by
 intro st
 have h := c_ref_Valid (G := G) e fe hc
 rw [showE]
 by_cases h0 : eValid e = 0
 · rw [if_neg (by simp [h0])]
   have hck : eCheck 1 e = 0 := by
     have h1 := h0
     rw [eValid] at h1; split at h1
     · omega
     · exact h1
   have hl := c_source10 (G := G) e 1 hck fe ie hb
   rw [h0] at h
   refine Acalls.body Tryz.func20 rfl Tryz.ntmps20 (by simp) ?_
   (try refine Wk.aw fun _ hqq => ?_); (repeat' (first | ((first | refine Wk.hd ?_ | refine Wk.i ?_); simp -implicitDefEqProofs only [go_sem, seval]) | refine CQ_ok (h _) ?_ | refine CQ_ok (hl _) ?_ | refine Wk.ret fun _ _ => ?_ | (refine Wk.fin (by assumption) ?_; refine ⟨?_, rfl⟩) | first | refine Wk.o ?_ | refine Wk.q (by assumption) ?_)); all_goals (repeat subst hqq)
   all_goals rfl
 · rw [if_pos h0]
   refine Acalls.body Tryz.func20 rfl Tryz.ntmps20 (by simp) ?_
   (try refine Wk.aw fun _ hqq => ?_); (repeat' (first | ((first | refine Wk.hd ?_ | refine Wk.i ?_); simp -implicitDefEqProofs only [go_sem, seval]) | (refine TQ_s (fun hc => ?_) (fun hc => ?_) <;> try omega) | refine CQ_ok (h _) ?_ | refine Wk.ret fun _ _ => ?_ | (refine Wk.fin (by assumption) ?_; refine ⟨?_, rfl⟩) | first | refine Wk.o ?_ | refine Wk.q (by assumption) ?_)); all_goals (repeat subst hqq)
   all_goals rfl
end Go.Proofs.YtofbdmdigopaoaaGreatDoor
end
section
set_option maxHeartbeats 8000000
set_option maxRecDepth 20000
namespace Go.Proofs.YtofbdmdigopaoaaGreatDoor
open Go.Abs Go.RowKit
variable {G : World → Nat → Prop}
theorem c_FormatBool' (b : Bool) : Ans G 164 [vb b] (vs (if b then sTrue else sFalse)) := by
 intro st
 cases b
 all_goals
   refine Acalls.body Tryz.func164 rfl Tryz.ntmps164 (by simp) ?_
   (try refine Wk.aw fun _ hqq => ?_); (repeat' (first | ((refine Wk.i ?_); simp -implicitDefEqProofs only [go_sem, seval]) | refine Wk.ret fun _ _ => ?_ | (refine Wk.fin (by assumption) ?_; refine ⟨?_, rfl⟩) | first | refine Wk.o ?_ | refine Wk.q (by assumption) ?_)); all_goals (repeat subst hqq)
   all_goals rfl
theorem c_FormatBool (b : Bool) : Ans G 133 [vb b] (vs (if b then sTrue else sFalse)) := by
 intro st
 cases b
 all_goals
   refine Acalls.body Tryz.func133 rfl Tryz.ntmps133 (by simp) ?_
   (try refine Wk.aw fun _ hqq => ?_); (repeat' (first | ((first | refine Wk.hd ?_ | refine Wk.i ?_); simp -implicitDefEqProofs only [go_sem, seval]) | refine CQ_ok (c_FormatBool' _ _) ?_ | refine Wk.ret fun _ _ => ?_ | (refine Wk.fin (by assumption) ?_; refine ⟨?_, rfl⟩) | first | refine Wk.o ?_ | refine Wk.q (by assumption) ?_)); all_goals (repeat subst hqq)
   all_goals rfl
def GT (G : World → Nat → Prop) : Prop := ∀ w0 b w, G w0 b → Below b w0 w → Lib.TabIs Tryz.prog w "internal/strconv.uint64pow10" .u64 Lib.pow10Tab
theorem itoa_decN : ∀ n, Lib.decDigits n = decN n := by
 intro n
 induction n using Nat.strongRecOn with
 | _ n ih =>
   rw [Lib.decDigits]
   by_cases h : n < 10
   · rw [dif_pos h, decN_small h]
   · rw [dif_neg h, decN_step h, ih _ (by omega)]
theorem itoa_decI (n : Int) : Lib.itoa n = decI n := by
 rw [Lib.itoa, decI]
 split
 · rw [itoa_decN]
 · rw [itoa_decN]
   congr 1
   omega
theorem c_Itoa (hg : GT G) (n : Int) (h1 : -9223372036854775808 ≤ n) (h2 : n ≤ 9223372036854775807) : Ans G 134 [vint n] (vs (decI n)) := by
 intro st c w cargs hc hG hs hr
 have ha : cargs = #[.int .i64 n] := by
   have h0 := hr 0 (by simp)
   simp only [List.getD_cons_zero] at h0
   generalize hq : cargs.getD 0 undef = q at h0
   cases h0 with | d _ _ h0 => ?_
   cases h0
   apply Array.ext
   · simpa using hs
   · intro i hi hi2
     have : i = 0 := by simp at hi2; omega
     subst this
     simpa [Array.getD_eq_getD_getElem?, hi] using hq
 subst ha
 refine (Any.strconv_Itoa Tryz.laysM171 n h1 h2 w (hg _ _ _ hG hc.below)).mono ?_
 rintro e w' ⟨rfl, k, os, rfl⟩
 refine ⟨.ret (vs (decI n)), st, c, ⟨rfl, rfl⟩, Ext.refl c, hc.later (Below.grow' w k os), ?_⟩
 rw [itoa_decI]
 exact .d _ _ (.str _ _ (by simp))
end Go.Proofs.YtofbdmdigopaoaaGreatDoor
end
section
set_option maxHeartbeats 8000000
set_option maxRecDepth 20000
namespace Go.Proofs.YtofbdmdigopaoaaGreatDoor
open Go.Abs
attribute [local irreducible] AW OX condQ GQ bodyQ RoundsA thenQ blockQ Acalls
variable {G : World → Nat → Prop}
theorem enc_one (x : Ex) : x.enc.all Abs.D.one = true := by rw [Ex.enc_eq, Val.enc_eq]; rfl
attribute [go_sem] enc_one
theorem ref_args {T : List Tk} {f : Nat} (hT : T.length ≤ 1048576) (hf : ∀ g ≤ f, RefIH G T g) (s : Str) (i : Nat) (hi : i ≤ T.length) (r : Res Ex) (h : pF (f + 1) (.args s) (T.drop i) = some r) :
   Ans G 192 [vTl T, vint i, vs s, vb false] (refL T r) := by
 intro st
 have len : ∀ j, j ≤ T.length → T.length - (T.drop j).length = j := fun j hj => by simp only [List.length_drop]; omega
 have hop := c_op (G := G) T i s hT (by omega)
 cases hb : opAt T i s
 · rw [hb] at hop
   have h' : pF f (.items s []) (T.drop i) = some r := by
     simp only [pF] at h
     by_cases hil : i < T.length
     · rw [dropT hil] at h ⊢
       simp only [opAt_f hil hb, Bool.false_eq_true, if_false] at h
       exact h
     · rw [dropT_nil hil] at h ⊢; exact h
   refine Acalls.body Tryz.func192 rfl Tryz.ntmps192 (by simp) ?_
   (try with_reducible refine Wk.aw fun _ hqq => ?_); (repeat' (first | ((with_reducible first | refine Wk.hd ?_ | refine Wk.i ?_); simp -implicitDefEqProofs (disch := first | omega | (simp only [go_sem]; try omega)) only [go_sem, seval]) | refine CQ_ok (hop _) ?_ | with_reducible refine Wk.o ?_)); all_goals (repeat subst hqq)
   refine AW.loopS (fun x : List Ex × Nat × Nat => [(0, vTl T), (1, vint ↑x.2.1), (2, vs s), (3, vb false), (12, lz st.toks.length (x.1.map Ex.enc)), (13, .nils)]) (fun _ => []) (fun x => lzT 29 10 (x.1.map Ex.enc))
     (fun x => x.2.1 ≤ T.length ∧ x.1.length ≤ x.2.1 ∧ x.2.2 ≤ f ∧ pF x.2.2 (.items s x.1) (T.drop x.2.1) = some r) (fun x => x.2.2) ([], i, f) (by simp -implicitDefEqProofs (disch := first | omega | (simp only [go_sem]; try omega)) only [go_sem, seval] <;> first | rfl | exact ⟨rfl, rfl⟩ | skip) (by simp -implicitDefEqProofs (disch := first | omega | (simp only [go_sem]; try omega)) only [go_sem, seval] <;> first | rfl | exact ⟨rfl, rfl⟩ | skip) ⟨hi, by simp, Nat.le_refl _, h'⟩ ?_
   rintro ⟨acc, k, g⟩ ⟨p1, p2, p3, p4⟩
   simp only at p1 p2 p3 p4
   obtain ⟨g, rfl⟩ : ∃ g', g = g' + 1 := by
     cases g with
     | zero => simp [pF] at p4
     | succ g => exact ⟨g, rfl⟩
   simp only [pF] at p4
   rcases h2 : pF g .cond (T.drop k) with _ | (⟨x, r2⟩ | ⟨r2, e2⟩)
   · rw [h2] at p4; simp [thenF] at p4
   · have c2 := ((hf g (by omega)).cond k p1 _ h2).ok
     obtain ⟨m, hkm, hm, d2, e2⟩ := pF_at h2 p1
     simp only [resRest] at d2 e2
     subst d2
     rw [e2] at c2
     rw [h2] at p4
     simp only [thenF] at p4
     have hop1 := c_op (G := G) T m s hT (by omega)
     have hop2 := c_op (G := G) T m [44] hT (by omega)
     cases hb1 : opAt T m s
     · rw [hb1] at hop1
       cases hb2 : opAt T m [44]
       · rw [hb2] at hop2
         have hm' := c_missing (G := G) T m hT (by omega)
         have hr : r = .err (T.drop m) (missAt T m) := by
           by_cases hml : m < T.length
           · rw [dropT hml] at p4
             simp only [opAt_f hml hb1, opAt_f hml hb2, Bool.false_eq_true, if_false, Option.some.injEq] at p4
             rw [← p4, missAt, if_neg (by omega), dropT hml]
           · rw [dropT_nil hml] at p4
             simp only [Option.some.injEq] at p4
             rw [← p4, missAt, if_pos (by omega), dropT_nil hml]
         subst hr
         (try with_reducible refine Wk.aw fun _ hqq => ?_); (repeat' (first | ((with_reducible first | refine Wk.hd ?_ | refine Wk.i ?_); simp -implicitDefEqProofs (disch := first | omega | (simp only [go_sem]; try omega)) only [go_sem, seval]) | refine CQ_ok (c2 _) ?_ | refine CQ_ok ((by first | exact hop1 _ | exact hop2 _)) ?_ | refine CQ_ok (hm' _) ?_ | with_reducible refine Wk.ret fun _ _ => ?_ | refine Wk.fin (by assumption) ?_ | with_reducible first | refine Wk.o ?_ | refine Wk.q (by assumption) ?_)); all_goals (repeat subst hqq)
         all_goals exact ⟨by simp only [refL]; rw [len m hm], rfl⟩
       · rw [hb2] at hop2
         have hml := opAt_lt hb2
         rw [dropT hml] at p4
         simp only [opAt_f hml hb1, opAt_t hb2, Bool.false_eq_true, if_false, if_true] at p4
         (try with_reducible refine Wk.aw fun _ hqq => ?_); (repeat' (first | ((with_reducible first | refine Wk.hd ?_ | refine Wk.i ?_); simp -implicitDefEqProofs (disch := first | omega | (simp only [go_sem]; try omega)) only [go_sem, seval]) | refine CQ_ok (c2 _) ?_ | refine CQ_ok ((by first | exact hop1 _ | exact hop2 _)) ?_ | with_reducible first | refine Wk.o ?_ | refine Wk.q (by assumption) ?_)); all_goals (repeat subst hqq)
         · (refine ⟨(acc ++ [x], m + 1, g), Nxt.mk ?_ ?_ ?_ (by simp -implicitDefEqProofs (disch := first | omega | (simp only [go_sem]; try omega)) only [go_sem, seval, List.map_append]) (by simp -implicitDefEqProofs (disch := first | omega | (simp only [go_sem]; try omega)) only [go_sem, seval, List.map_append]) (by first | rfl | (simp -implicitDefEqProofs (disch := first | omega | (simp only [go_sem]; try omega)) only [go_sem, seval, List.map_append]; all_goals omega)) (by first | rfl | (simp -implicitDefEqProofs (disch := first | omega | (simp only [go_sem]; try omega)) only [go_sem, seval, List.map_append]; all_goals omega))⟩; focus (try (simp -implicitDefEqProofs (disch := first | omega | (simp only [go_sem]; try omega)) only [go_sem, seval, List.map_append]); try ((repeat' apply And.intro) <;> first | rfl | trivial | refine vi_congr ?_ | refine vs_congr ?_ | refine vown_congr ?_ | skip)))
           · refine ⟨by simp only; omega, by simp only [List.length_append, List.length_singleton]; omega, by simp only; omega, p4⟩
           · simp only; omega
     · rw [hb1] at hop1
       have hml := opAt_lt hb1
       rw [dropT hml] at p4
       simp only [opAt_t hb1, if_true, Option.some.injEq] at p4
       subst p4
       (try with_reducible refine Wk.aw fun _ hqq => ?_); (repeat' (first | ((with_reducible first | refine Wk.hd ?_ | refine Wk.i ?_); simp -implicitDefEqProofs (disch := first | omega | (simp only [go_sem]; try omega)) only [go_sem, seval]) | refine CQ_ok (c2 _) ?_ | refine CQ_ok ((by first | exact hop1 _ | exact hop2 _)) ?_ | with_reducible refine Wk.ret fun _ _ => ?_ | refine Wk.fin (by assumption) ?_ | with_reducible first | refine Wk.o ?_ | refine Wk.q (by assumption) ?_)); all_goals (repeat subst hqq)
       all_goals exact ⟨by simp only [refL, Ex.args, Ex.keys, List.map_append, List.map_cons, List.map_nil, len (m + 1) (by omega)]; rfl, rfl⟩
   · have c2 := ((hf g (by omega)).cond k p1 _ h2).err
     have he := pF_err h2
     rw [h2] at p4
     simp only [thenF, Option.some.injEq] at p4
     subst p4
     (try with_reducible refine Wk.aw fun _ hqq => ?_); (repeat' (first | ((with_reducible first | refine Wk.hd ?_ | refine Wk.i ?_); simp -implicitDefEqProofs (disch := first | omega | (simp only [go_sem]; try omega)) only [go_sem, seval]) | (refine TQ_s (fun hc => ?_) (fun hc => ?_) <;> try (exfalso; first | omega | contradiction)) | refine CQ_ex (c2 _) fun x_ => ?_ | with_reducible refine Wk.ret fun _ _ => ?_ | refine Wk.fin (by assumption) ?_ | with_reducible first | refine Wk.o ?_ | refine Wk.q (by assumption) ?_)); all_goals (repeat subst hqq)
     all_goals exact ⟨rfl, rfl⟩
 · rw [hb] at hop
   have hil := opAt_lt hb
   rw [dropT hil] at h
   simp only [pF, opAt_t hb, if_true, Option.some.injEq] at h
   subst h
   refine Acalls.body Tryz.func192 rfl Tryz.ntmps192 (by simp) ?_
   (try with_reducible refine Wk.aw fun _ hqq => ?_); (repeat' (first | ((with_reducible first | refine Wk.hd ?_ | refine Wk.i ?_); simp -implicitDefEqProofs (disch := first | omega | (simp only [go_sem]; try omega)) only [go_sem, seval]) | refine CQ_ok (hop _) ?_ | with_reducible refine Wk.ret fun _ _ => ?_ | refine Wk.fin (by assumption) ?_ | with_reducible first | refine Wk.o ?_ | refine Wk.q (by assumption) ?_)); all_goals (repeat subst hqq)
   all_goals exact ⟨by simp only [refL]; rw [len (i + 1) (by omega)]; rfl, rfl⟩
end Go.Proofs.YtofbdmdigopaoaaGreatDoor
end
