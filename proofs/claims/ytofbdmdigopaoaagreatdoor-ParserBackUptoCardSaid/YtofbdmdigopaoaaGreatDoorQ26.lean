/- A step of the proofs of the seat's theorems. -/
import Derived.Test.YtofbdmdigopaoaaGreatDoorQ25
set_option linter.unusedSimpArgs false
set_option linter.unusedVariables false
set_option maxHeartbeats 8000000
set_option maxRecDepth 20000
namespace Go.Proofs.YtofbdmdigopaoaaGreatDoor
open Go.Abs
attribute [local irreducible] AW OX condQ GQ bodyQ RoundsA thenQ blockQ Acalls
variable {G : World → Nat → Prop}
theorem needF_ok {T : List Tk} {i : Nat} {u : Tk} (h : needF T i = .ok u) : i < T.length ∧ u = T.getD i default ∧ realT u = true := by
 have hil := needF_lt h
 rw [needF, if_neg (by omega), peekF, if_pos hil] at h
 by_cases hr : realT (T.getD i default) = true
 · rw [if_pos hr] at h
   split at h
   · cases h
   · cases h; exact ⟨hil, rfl, hr⟩
 · rw [if_neg hr, if_pos (show tk0.kind = 0 from rfl)] at h
   cases h
theorem needF_er {T : List Tk} {i : Nat} {e : Int} (h : needF T i = .error e) : (i < T.length → realT (T.getD i default) = false) := by
 intro hil
 rw [← Bool.not_eq_true]
 intro hr
 have hk : ¬ (T.getD i default).kind = 0 := by
   intro hk
   rw [realT, if_neg (by omega), if_neg (by omega), if_neg (by omega), decide_eq_true_eq] at hr
   omega
 rw [needF, if_neg (by omega), peekF, if_pos hil, if_pos hr, if_neg hk] at h
 cases h
theorem atom_err {T : List Tk} {i f : Nat} {e : Int} {r : Res Ex} (h : needF T i = .error e) (hp : pF (f + 1) .atom (T.drop i) = some r) : r = .err (T.drop i) e := by
 rw [needF_err h, missAt]
 by_cases hil : i < T.length
 · have hr := needF_er h hil
   rw [if_neg (by omega)]
   rw [dropT hil] at hp ⊢
   generalize T.getD i default = t at *
   simp only [pF] at hp
   rw [realT] at hr
   by_cases k1 : t.kind = 1
   · rw [if_pos k1] at hr
     have hs1 : ¬ t.text = sNull := by rintro h; rw [h] at hr; exact absurd hr (by decide)
     have hs2 : ¬ (t.text = sTrue ∨ t.text = sFalse) := by rintro (h | h) <;> (rw [h] at hr; exact absurd hr (by decide))
     rw [if_neg (by omega), if_neg (by omega), if_pos k1, if_neg hs1, if_neg hs2, if_neg (by rw [hr]; decide)] at hp
     exact (Option.some.inj hp).symm
   · rw [if_neg k1] at hr
     by_cases k2 : t.kind = 2
     · rw [if_pos k2] at hr
       rw [if_pos k2, if_neg (by rw [hr]; decide)] at hp
       exact (Option.some.inj hp).symm
     · rw [if_neg k2] at hr
       by_cases k3 : t.kind = 3
       · rw [if_pos k3, decide_eq_false_iff_not] at hr
         rw [if_neg k2, if_pos k3, if_neg hr] at hp
         exact (Option.some.inj hp).symm
       · rw [if_neg k3, decide_eq_false_iff_not] at hr
         have o : ∀ s, isOpT s t = false := fun s => decide_eq_false fun h => hr h.1
         rw [if_neg k2, if_neg k3, if_neg k1] at hp
         simp only [o, Bool.false_eq_true, if_false, Option.some.injEq] at hp
         exact hp.symm
 · rw [if_pos (by omega)]
   rw [dropT_nil hil] at hp ⊢
   simp only [pF, Option.some.injEq] at hp
   exact hp.symm
theorem r_atom (hg : GV G) {T : List Tk} {f : Nat} (hT : T.length ≤ 1048576) (hx : ∀ t ∈ T, t.text.length ≤ 1048576) (hf : ∀ g ≤ f, RdIH G T g)
   (hargs : ∀ s, s ≠ [44] → ∀ i, i ≤ T.length → ∀ r, pF f (.args s) (T.drop i) = some r → RdA G T 190 [vs s] i r)
   (hents : ∀ i, i ≤ T.length → ∀ r, pF f .ents (T.drop i) = some r → RdP G T 191 [] i r)
   (i : Nat) (hi : i ≤ T.length) (r : Res Ex) (h : pF (f + 1) .atom (T.drop i) = some r) :
   RdP G T 174 [] i r := by
 intro B K b hb
 have hbl : b < B.length := (List.getElem?_eq_some_iff.1 hb).1
 have hs1 : ∀ m y, (B ++ m).set b y = B.set b y ++ m := fun m y => set_app hb
 have hs2 : ∀ z m y, (B.set b z ++ m).set b y = B.set b y ++ m := fun z m y => set_app2 hb
 have hg1 : ∀ m, (B ++ m)[b]? = some (rdB T i) := fun m => get_app hb
 have hg2 : ∀ z m, (B.set b z ++ m)[b]? = some z := fun z m => get_app (set_get hb)
 have hl : ∀ z, (B.set b z).length = B.length := fun z => List.length_set
 have hG : ∀ (z : Blk) (m : List Blk) (k : Nat), (B.set b z ++ m)[B.length + k]? = m[k]? := fun z m k => by rw [List.getElem?_append_right (by simp)]; simp
 have hG0 : ∀ (z : Blk) (m : List Blk), (B.set b z ++ m)[B.length]? = m[0]? := fun z m => by rw [List.getElem?_append_right (by simp)]; simp
 have hS : ∀ (z y : Blk) (m : List Blk) (k : Nat), (B.set b z ++ m).set (B.length + k) y = B.set b z ++ m.set k y := fun z y m k => by rw [List.set_append_right _ _ (by simp)]; simp
 have hS0 : ∀ (z y : Blk) (m : List Blk), (B.set b z ++ m).set B.length y = B.set b z ++ m.set 0 y := fun z y m => by rw [List.set_append_right _ _ (by simp)]; simp
 have len : ∀ j, j ≤ T.length → T.length - (T.drop j).length = j := fun j hj => by simp only [List.length_drop]; omega
 cases hne : needF T i with
 | error e =>
   have hr := atom_err hne h
   subst hr
   have hn := fun m => c_need_err (G := G) hg ⟨B ++ m, K⟩ b i T hT hx (by omega) (hg1 m) e hne
   simp only [rdO, resRest, len i hi, set_id hb]
   refine Acalls.body Tryz.func174 rfl Tryz.ntmps174 (by simp) ?_
   (try refine Wk.aw fun _ hqq => ?_); (repeat' (first | ((first | refine Wk.hd ?_ | refine Wk.i ?_); simp -implicitDefEqProofs (disch := omega) only [go_sem, seval, hs1, hs2, hl, hG, hG0, hS, hS0]) | refine CQ_pan (hn _) ?_ | first | refine Wk.o ?_ | refine Wk.q (by assumption) ?_)); all_goals (repeat subst hqq)
   exact bodyQ_panS (s1 := ⟨B, K⟩) (by simp [St.cut]) (fun _ _ h => .inl h) rfl ⟨rfl, rfl⟩
 | ok u =>
   have hn := fun m => c_need_ok (G := G) hg ⟨B ++ m, K⟩ b i T hT hx (by omega) (hg1 m) u hne
   obtain ⟨hil, hu, hru⟩ := needF_ok hne
   rw [dropT hil, ← hu] at h
   simp only [pF] at h
   rw [realT] at hru
   have hux : u.text.length ≤ 1048576 := by rw [hu]; exact hx _ (getD_mem hil)
   by_cases k2 : u.kind = 2
   · rw [if_neg (by omega), if_pos k2] at hru
     rw [if_pos k2, if_pos hru, Option.some.injEq] at h
     subst h
     have hd := hru
     simp only [isDec, Bool.and_eq_true, decide_eq_true_eq, List.all_eq_true] at hd
     have hat := c_Atoi_ok (G := G) u.text hux (natOf u.text) (by rw [atoiDig u.text hd.1.1.1 hd.1.2, if_pos (by omega)])
     have hlit := c_par_literal (G := G) (.mk 2 false (natOf u.text) [] [] [])
     simp only [rdO, resRest, len (i + 1) (by omega)]
     refine Acalls.body Tryz.func174 rfl Tryz.ntmps174 (by simp) ?_
     (try refine Wk.aw fun _ hqq => ?_); (repeat' (first | ((first | refine Wk.hd ?_ | refine Wk.i ?_); simp -implicitDefEqProofs (disch := omega) only [go_sem, seval, hs1, hs2, hl, hG, hG0, hS, hS0, hg1, hg2, k2]) | refine CQ_ok (hn _) ?_ | refine CQ_ok (hat _) ?_ | refine CQ_ok (hlit _) ?_ | first | refine Wk.o ?_ | refine Wk.q (by assumption) ?_)); all_goals (repeat subst hqq)
     refine bodyQ_retM (v := vE (lit (.mk 2 false (natOf u.text) [] [] []))) K.length (Nat.le_refl _) (s1 := ⟨B.set b (rdB T (i + 1)), K⟩) (by simp [St.cut]; rfl) (set_old ?_) (by simp -implicitDefEqProofs (disch := omega) only [go_sem, seval, resOf_tmp, resOf_cell, Tryz.results174, hG, hG0]; first | done | exact rfl) (by simp -implicitDefEqProofs (disch := omega) only [go_sem, seval, resV]; first | done | exact rfl) (by simp -implicitDefEqProofs (disch := omega) only [go_sem, seval]; first | done | exact rfl) ⟨rfl, rfl⟩
     simp [Blk.within, V.within, V.within.all]
   · by_cases k3 : u.kind = 3
     · rw [if_neg (by omega), if_neg k2, if_pos k3, decide_eq_true_eq] at hru
       rw [if_neg k2, if_pos k3, if_pos hru, Option.some.injEq] at h
       subst h
       have hlit := c_par_literal (G := G) (.mk 3 false 0 u.text [] [])
       simp only [rdO, resRest, len (i + 1) (by omega)]
       refine Acalls.body Tryz.func174 rfl Tryz.ntmps174 (by simp) ?_
       (try refine Wk.aw fun _ hqq => ?_); (repeat' (first | ((first | refine Wk.hd ?_ | refine Wk.i ?_); simp -implicitDefEqProofs (disch := omega) only [go_sem, seval, hs1, hs2, hl, hG, hG0, hS, hS0, hg1, hg2, k3]) | refine CQ_ok (hn _) ?_ | refine CQ_ok (hlit _) ?_ | first | refine Wk.o ?_ | refine Wk.q (by assumption) ?_)); all_goals (repeat subst hqq)
       refine bodyQ_retM (v := vE (lit (.mk 3 false 0 u.text [] []))) K.length (Nat.le_refl _) (s1 := ⟨B.set b (rdB T (i + 1)), K⟩) (by simp [St.cut]; rfl) (set_old ?_) (by simp -implicitDefEqProofs (disch := omega) only [go_sem, seval, resOf_tmp, resOf_cell, Tryz.results174, hG, hG0]; first | done | exact rfl) (by simp -implicitDefEqProofs (disch := omega) only [go_sem, seval, resV]; first | done | exact rfl) (by simp -implicitDefEqProofs (disch := omega) only [go_sem, seval]; first | done | exact rfl) ⟨rfl, rfl⟩
       simp [Blk.within, V.within, V.within.all]
     · by_cases k1 : u.kind = 1
       · rw [if_pos k1] at hru
         rw [if_neg k2, if_neg k3, if_pos k1, if_pos hru] at h
         have hnr : nameR f T u.text (i + 1) = some r := by
           rw [nameR]
           by_cases q1 : u.text = sNull
           · rw [if_pos q1] at h ⊢; exact h
           · rw [if_neg q1] at h ⊢
             by_cases q2 : u.text = sTrue ∨ u.text = sFalse
             · rw [if_pos q2] at h ⊢; exact h
             · rw [if_neg q2] at h ⊢
               by_cases hl1 : i + 1 < T.length
               · rw [dropT hl1] at h ⊢
                 simp only at h
                 cases hb1 : opAt T (i + 1) [40]
                 · rw [opAt_f hl1 hb1, if_neg Bool.false_ne_true] at h
                   rw [if_neg Bool.false_ne_true]; exact h
                 · rw [opAt_t hb1, if_pos rfl] at h
                   rw [if_pos rfl]; exact h
               · have hb1 : opAt T (i + 1) [40] = false := by rw [Bool.eq_false_iff]; intro hh; exact hl1 (opAt_lt hh)
                 rw [dropT_nil hl1] at h ⊢
                 rw [hb1, if_neg Bool.false_ne_true]; exact h
         have c1 := r_name hg hT hx hargs u.text (i + 1) (by omega) r hnr
         cases r with
         | ok e rest =>
           simp only [RdP, rdO, resRest] at c1
           have c1' : ∀ m, Acalls Tryz.prog G 189 [.ptr b 0, vs u.text] ⟨B.set b (rdB T (i + 1)) ++ m, K⟩ (fun o s => o = .ret (vE e) ∧ s = ⟨B.set b (rdB T (T.length - rest.length)) ++ m, K⟩) := fun m => by have := c1 _ K b (hg2 _ m); simp only [hs2] at this; exact this
           simp only [rdO, resRest]
           refine Acalls.body Tryz.func174 rfl Tryz.ntmps174 (by simp) ?_
           (try refine Wk.aw fun _ hqq => ?_); (repeat' (first | ((first | refine Wk.hd ?_ | refine Wk.i ?_); simp -implicitDefEqProofs (disch := omega) only [go_sem, seval, hs1, hs2, hl, hG, hG0, hS, hS0, hg1, hg2, k1]) | refine CQ_ok (hn _) ?_ | refine CQ_st (c1' _) ?_ | first | refine Wk.o ?_ | refine Wk.q (by assumption) ?_)); all_goals (repeat subst hqq)
           refine bodyQ_retM (v := vE e) K.length (Nat.le_refl _) (s1 := ⟨B.set b (rdB T (T.length - rest.length)), K⟩) (by simp [St.cut]) (set_old ?_) (by simp -implicitDefEqProofs (disch := omega) only [go_sem, seval, resOf_tmp, resOf_cell, Tryz.results174, hG, hG0]; first | done | exact rfl) (by simp -implicitDefEqProofs (disch := omega) only [go_sem, seval, resV]; first | done | exact rfl) (by simp -implicitDefEqProofs (disch := omega) only [go_sem, seval]; first | done | exact rfl) ⟨rfl, rfl⟩
           simp [Blk.within, V.within, V.within.all]
         | err rest c =>
           simp only [RdP, rdO, resRest] at c1
           have c1' : ∀ m, Acalls Tryz.prog G 189 [.ptr b 0, vs u.text] ⟨B.set b (rdB T (i + 1)) ++ m, K⟩ (fun o s => o = .pan (panV (T.length - rest.length) c) ∧ s = ⟨B.set b (rdB T (T.length - rest.length)) ++ m, K⟩) := fun m => by have := c1 _ K b (hg2 _ m); simp only [hs2] at this; exact this
           simp only [rdO, resRest]
           refine Acalls.body Tryz.func174 rfl Tryz.ntmps174 (by simp) ?_
           (try refine Wk.aw fun _ hqq => ?_); (repeat' (first | ((first | refine Wk.hd ?_ | refine Wk.i ?_); simp -implicitDefEqProofs (disch := omega) only [go_sem, seval, hs1, hs2, hl, hG, hG0, hS, hS0, hg1, hg2, k1]) | refine CQ_ok (hn _) ?_ | refine CQ_pan (c1' _) ?_ | first | refine Wk.o ?_ | refine Wk.q (by assumption) ?_)); all_goals (repeat subst hqq)
           refine bodyQ_panS (s1 := ⟨B.set b (rdB T (T.length - rest.length)), K⟩) (by simp [St.cut]) (set_old ?_) rfl ⟨rfl, rfl⟩
           simp [Blk.within, V.within, V.within.all]
       · rw [if_neg k1, if_neg k2, if_neg k3, decide_eq_true_eq] at hru
         rw [if_neg k2, if_neg k3, if_neg k1] at h
         have hop : ∀ s, isOpT s u = opAt T i s := fun s => by rw [opAt, decide_eq_true hil, Bool.true_and, hu]
         simp only [hop] at h
         have at_ : ∀ s, opAt T i s = true → ∀ m, Acalls Tryz.prog G 81 [.ptr b 0, vs s] ⟨B ++ m, K⟩ (fun o s' => o = .ret (vb true) ∧ s' = ⟨B.set b (rdB T (i + 1)) ++ m, K⟩) := fun s hs m => by
           have := c_accept_t (G := G) hg ⟨B ++ m, K⟩ b i T hT hx (by omega) (hg1 _) s (by rw [isF_op]; exact hs)
           simp only [hs1] at this; exact this
         have af_ : ∀ s, opAt T i s = false → ∀ m, Acalls Tryz.prog G 81 [.ptr b 0, vs s] ⟨B ++ m, K⟩ (fun o s' => o = .ret (vb false) ∧ s' = ⟨B ++ m, K⟩) := fun s hs m =>
           c_accept_f (G := G) hg ⟨B ++ m, K⟩ b i T hT hx (by omega) (hg1 _) s (by rw [isF_op]; exact hs)
         cases o1 : opAt T i [40]
         · have a1 := af_ _ o1
           rw [o1, if_neg Bool.false_ne_true] at h
           cases o2 : opAt T i [91]
           · have a2 := af_ _ o2
             rw [o2, if_neg Bool.false_ne_true] at h
             cases o3 : opAt T i [123]
             · have a3 := af_ _ o3
               rw [o3, if_neg Bool.false_ne_true, hu, ← dropT hil, Option.some.injEq] at h
               subst h
               have hfl := fun m => c_fail (G := G) ⟨B ++ m, K⟩ b i T 5 (hg1 m)
               simp only [rdO, resRest, len i hi, set_id hb]
               refine Acalls.body Tryz.func174 rfl Tryz.ntmps174 (by simp) ?_
               (try refine Wk.aw fun _ hqq => ?_); (repeat' (first | ((first | refine Wk.hd ?_ | refine Wk.i ?_); simp -implicitDefEqProofs (disch := omega) only [go_sem, seval, hs1, hs2, hl, hG, hG0, hS, hS0, hg1, hg2]) | (refine TQ_s (fun hc => ?_) (fun hc => ?_) <;> try omega) | refine CQ_ok (hn _) ?_ | refine CQ_ok ((by first | exact a1 _ | exact a2 _ | exact a3 _)) ?_ | refine CQ_pan (hfl _) ?_ | first | refine Wk.o ?_ | refine Wk.q (by assumption) ?_)); all_goals (repeat subst hqq)
               exact bodyQ_panS (s1 := ⟨B, K⟩) (by simp [St.cut]) (fun _ _ h => .inl h) rfl ⟨rfl, rfl⟩
             · have a3 := at_ _ o3
               rw [o3, if_pos rfl] at h
               have c1 := hents (i + 1) (by omega) _ h
               cases r with
               | ok e rest =>
                 simp only [RdP, rdO, resRest] at c1
                 have c1' : ∀ m, Acalls Tryz.prog G 191 [.ptr b 0] ⟨B.set b (rdB T (i + 1)) ++ m, K⟩ (fun o s => o = .ret (vE e) ∧ s = ⟨B.set b (rdB T (T.length - rest.length)) ++ m, K⟩) := fun m => by have := c1 _ K b (hg2 _ m); simp only [hs2] at this; exact this
                 simp only [rdO, resRest]
                 refine Acalls.body Tryz.func174 rfl Tryz.ntmps174 (by simp) ?_
                 (try refine Wk.aw fun _ hqq => ?_); (repeat' (first | ((first | refine Wk.hd ?_ | refine Wk.i ?_); simp -implicitDefEqProofs (disch := omega) only [go_sem, seval, hs1, hs2, hl, hG, hG0, hS, hS0, hg1, hg2]) | (refine TQ_s (fun hc => ?_) (fun hc => ?_) <;> try omega) | refine CQ_ok (hn _) ?_ | refine CQ_ok ((by first | exact a1 _ | exact a2 _)) ?_ | refine CQ_st (a3 _) ?_ | refine CQ_st (c1' _) ?_ | first | refine Wk.o ?_ | refine Wk.q (by assumption) ?_)); all_goals (repeat subst hqq)
                 refine bodyQ_retM (v := vE e) K.length (Nat.le_refl _) (s1 := ⟨B.set b (rdB T (T.length - rest.length)), K⟩) (by simp [St.cut]) (set_old ?_) (by simp -implicitDefEqProofs (disch := omega) only [go_sem, seval, resOf_tmp, resOf_cell, Tryz.results174, hG, hG0]; first | done | exact rfl) (by simp -implicitDefEqProofs (disch := omega) only [go_sem, seval, resV]; first | done | exact rfl) (by simp -implicitDefEqProofs (disch := omega) only [go_sem, seval]; first | done | exact rfl) ⟨rfl, rfl⟩
                 simp [Blk.within, V.within, V.within.all]
               | err rest c =>
                 simp only [RdP, rdO, resRest] at c1
                 have c1' : ∀ m, Acalls Tryz.prog G 191 [.ptr b 0] ⟨B.set b (rdB T (i + 1)) ++ m, K⟩ (fun o s => o = .pan (panV (T.length - rest.length) c) ∧ s = ⟨B.set b (rdB T (T.length - rest.length)) ++ m, K⟩) := fun m => by have := c1 _ K b (hg2 _ m); simp only [hs2] at this; exact this
                 simp only [rdO, resRest]
                 refine Acalls.body Tryz.func174 rfl Tryz.ntmps174 (by simp) ?_
                 (try refine Wk.aw fun _ hqq => ?_); (repeat' (first | ((first | refine Wk.hd ?_ | refine Wk.i ?_); simp -implicitDefEqProofs (disch := omega) only [go_sem, seval, hs1, hs2, hl, hG, hG0, hS, hS0, hg1, hg2]) | (refine TQ_s (fun hc => ?_) (fun hc => ?_) <;> try omega) | refine CQ_ok (hn _) ?_ | refine CQ_ok ((by first | exact a1 _ | exact a2 _)) ?_ | refine CQ_st (a3 _) ?_ | refine CQ_pan (c1' _) ?_ | first | refine Wk.o ?_ | refine Wk.q (by assumption) ?_)); all_goals (repeat subst hqq)
                 refine bodyQ_panS (s1 := ⟨B.set b (rdB T (T.length - rest.length)), K⟩) (by simp [St.cut]) (set_old ?_) rfl ⟨rfl, rfl⟩
                 simp [Blk.within, V.within, V.within.all]
           · have a2 := at_ _ o2
             rw [o2, if_pos rfl] at h
             rcases h3 : pF f (.args [93]) (T.drop (i + 1)) with _ | (⟨l, r1⟩ | ⟨r1, ec⟩)
             · rw [h3] at h; simp [thenF] at h
             · have c1 := hargs [93] (by decide) (i + 1) (by omega) _ h3
               rw [h3] at h
               simp only [thenF, Option.some.injEq] at h
               subst h
               simp only [RdA, rdA, resRest] at c1
               have c1' : ∀ m, Acalls Tryz.prog G 190 [.ptr b 0, vs [93]] ⟨B.set b (rdB T (i + 1)) ++ m, K⟩ (fun o s => o = .ret (.d (.sl (l.args.map Ex.enc))) ∧ s = ⟨B.set b (rdB T (T.length - r1.length)) ++ m, K⟩) := fun m => by have := c1 _ K b (hg2 _ m); simp only [hs2] at this; exact this
               simp only [rdO, resRest]
               have hve : vE (Ex.mk 9 [] val0 l.args []) = V.agg [V.d (D.int .i64 9), V.d (D.str []), V.d (D.int .i64 0), V.d (D.bool false), V.d (D.int .i64 0), V.d (D.str []), V.d (D.sl []), V.d (D.sl []), V.d (D.sl (l.args.map Ex.enc)), V.d (D.sl [])] := by rw [vE, Ex.enc_eq]; rfl
               refine Acalls.body Tryz.func174 rfl Tryz.ntmps174 (by simp) ?_
               (try refine Wk.aw fun _ hqq => ?_); (repeat' (first | ((first | refine Wk.hd ?_ | refine Wk.i ?_); simp -implicitDefEqProofs (disch := omega) only [go_sem, seval, hs1, hs2, hl, hG, hG0, hS, hS0, hg1, hg2]) | (refine TQ_s (fun hc => ?_) (fun hc => ?_) <;> try omega) | refine CQ_ok (hn _) ?_ | refine CQ_ok (a1 _) ?_ | refine CQ_st (a2 _) ?_ | refine CQ_st (c1' _) ?_ | first | refine Wk.o ?_ | refine Wk.q (by assumption) ?_)); all_goals (repeat subst hqq)
               refine bodyQ_retM (v := vE (Ex.mk 9 [] val0 l.args [])) K.length (Nat.le_refl _) (s1 := ⟨B.set b (rdB T (T.length - r1.length)), K⟩) (by simp [St.cut]) (set_old ?_) (by simp -implicitDefEqProofs (disch := omega) only [go_sem, seval, resOf_tmp, resOf_cell, Tryz.results174, hG, hG0]; first | done | exact rfl) (by rw [hve]; simp -implicitDefEqProofs (disch := omega) only [go_sem, seval, resV]; first | done | exact rfl) (by simp -implicitDefEqProofs (disch := omega) only [go_sem, seval]; first | done | exact rfl) ⟨rfl, rfl⟩
               simp [Blk.within, V.within, V.within.all]
             · have c1 := hargs [93] (by decide) (i + 1) (by omega) _ h3
               rw [h3] at h
               simp only [thenF, Option.some.injEq] at h
               subst h
               simp only [RdA, rdA, resRest] at c1
               have c1' : ∀ m, Acalls Tryz.prog G 190 [.ptr b 0, vs [93]] ⟨B.set b (rdB T (i + 1)) ++ m, K⟩ (fun o s => o = .pan (panV (T.length - r1.length) ec) ∧ s = ⟨B.set b (rdB T (T.length - r1.length)) ++ m, K⟩) := fun m => by have := c1 _ K b (hg2 _ m); simp only [hs2] at this; exact this
               simp only [rdO, resRest]
               refine Acalls.body Tryz.func174 rfl Tryz.ntmps174 (by simp) ?_
               (try refine Wk.aw fun _ hqq => ?_); (repeat' (first | ((first | refine Wk.hd ?_ | refine Wk.i ?_); simp -implicitDefEqProofs (disch := omega) only [go_sem, seval, hs1, hs2, hl, hG, hG0, hS, hS0, hg1, hg2]) | (refine TQ_s (fun hc => ?_) (fun hc => ?_) <;> try omega) | refine CQ_ok (hn _) ?_ | refine CQ_ok (a1 _) ?_ | refine CQ_st (a2 _) ?_ | refine CQ_pan (c1' _) ?_ | first | refine Wk.o ?_ | refine Wk.q (by assumption) ?_)); all_goals (repeat subst hqq)
               refine bodyQ_panS (s1 := ⟨B.set b (rdB T (T.length - r1.length)), K⟩) (by simp [St.cut]) (set_old ?_) rfl ⟨rfl, rfl⟩
               simp [Blk.within, V.within, V.within.all]
         · have a1 := at_ _ o1
           rw [o1, if_pos rfl] at h
           rcases h2 : pF f .cond (T.drop (i + 1)) with _ | (⟨x, r2⟩ | ⟨r2, e2⟩)
           · rw [h2] at h; simp [thenF] at h
           · have c2 := (hf f (Nat.le_refl _)).cond (i + 1) (by omega) _ h2
             obtain ⟨m, hkm, hm, d2, e2⟩ := pF_at h2 (by omega)
             simp only [resRest] at d2 e2
             subst d2
             simp only [RdP, rdO, resRest, e2] at c2
             have c2' : ∀ m', Acalls Tryz.prog G 49 [.ptr b 0] ⟨B.set b (rdB T (i + 1)) ++ m', K⟩ (fun o s => o = .ret (vE x) ∧ s = ⟨B.set b (rdB T m) ++ m', K⟩) := fun m' => by have := c2 _ K b (hg2 _ m'); simp only [hs2] at this; exact this
             rw [h2] at h
             simp only [thenF] at h
             rw [expectF_at] at h
             cases hb3 : opAt T m [41]
             · rw [hb3, if_neg Bool.false_ne_true, Option.some.injEq] at h
               subst h
               have hx2 := fun m' => c_expect_f (G := G) hg ⟨B.set b (rdB T m) ++ m', K⟩ b m T hT hx (by omega) (by exact hg2 _ _) [41] (by rw [isF_op]; exact hb3)
               simp only [rdO, resRest, len m hm]
               refine Acalls.body Tryz.func174 rfl Tryz.ntmps174 (by simp) ?_
               (try refine Wk.aw fun _ hqq => ?_); (repeat' (first | ((first | refine Wk.hd ?_ | refine Wk.i ?_); simp -implicitDefEqProofs (disch := omega) only [go_sem, seval, hs1, hs2, hl, hG, hG0, hS, hS0, hg1, hg2]) | (refine TQ_s (fun hc => ?_) (fun hc => ?_) <;> try omega) | refine CQ_ok (hn _) ?_ | refine CQ_st (a1 _) ?_ | refine CQ_st (c2' _) ?_ | refine CQ_pan (hx2 _) ?_ | first | refine Wk.o ?_ | refine Wk.q (by assumption) ?_)); all_goals (repeat subst hqq)
               refine bodyQ_panS (s1 := ⟨B.set b (rdB T m), K⟩) (by simp [St.cut]) (set_old ?_) rfl ⟨rfl, rfl⟩
               simp [Blk.within, V.within, V.within.all]
             · have hml := opAt_lt hb3
               rw [hb3, if_pos rfl, Option.some.injEq] at h
               subst h
               have hx2' : ∀ m', Acalls Tryz.prog G 82 [.ptr b 0, vs [41]] ⟨B.set b (rdB T m) ++ m', K⟩ (fun o s' => o = .ret (.tup []) ∧ s' = ⟨B.set b (rdB T (m + 1)) ++ m', K⟩) := fun m' => by
                 have := c_expect_t (G := G) hg ⟨B.set b (rdB T m) ++ m', K⟩ b m T hT hx (by omega) (by exact hg2 _ _) [41] (by rw [isF_op]; exact hb3)
                 simp only [hs2] at this; exact this
               simp only [rdO, resRest, len (m + 1) (by omega)]
               refine Acalls.body Tryz.func174 rfl Tryz.ntmps174 (by simp) ?_
               (try refine Wk.aw fun _ hqq => ?_); (repeat' (first | ((first | refine Wk.hd ?_ | refine Wk.i ?_); simp -implicitDefEqProofs (disch := omega) only [go_sem, seval, hs1, hs2, hl, hG, hG0, hS, hS0, hg1, hg2]) | (refine TQ_s (fun hc => ?_) (fun hc => ?_) <;> try omega) | refine CQ_ok (hn _) ?_ | refine CQ_st (a1 _) ?_ | refine CQ_st (c2' _) ?_ | refine CQ_st (hx2' _) ?_ | first | refine Wk.o ?_ | refine Wk.q (by assumption) ?_)); all_goals (repeat subst hqq)
               refine bodyQ_retM (v := vE x) K.length (Nat.le_refl _) (s1 := ⟨B.set b (rdB T (m + 1)), K⟩) (by simp [St.cut]) (set_old ?_) (by simp -implicitDefEqProofs (disch := omega) only [go_sem, seval, resOf_tmp, resOf_cell, Tryz.results174, hG, hG0]; first | done | exact rfl) (by simp -implicitDefEqProofs (disch := omega) only [go_sem, seval, resV]; first | done | exact rfl) (by simp -implicitDefEqProofs (disch := omega) only [go_sem, seval]; first | done | exact rfl) ⟨rfl, rfl⟩
               simp [Blk.within, V.within, V.within.all]
           · have c2 := (hf f (Nat.le_refl _)).cond (i + 1) (by omega) _ h2
             rw [h2] at h
             simp only [thenF, Option.some.injEq] at h
             subst h
             simp only [RdP, rdO, resRest] at c2
             have c2' : ∀ m', Acalls Tryz.prog G 49 [.ptr b 0] ⟨B.set b (rdB T (i + 1)) ++ m', K⟩ (fun o s => o = .pan (panV (T.length - r2.length) e2) ∧ s = ⟨B.set b (rdB T (T.length - r2.length)) ++ m', K⟩) := fun m' => by have := c2 _ K b (hg2 _ m'); simp only [hs2] at this; exact this
             simp only [rdO, resRest]
             refine Acalls.body Tryz.func174 rfl Tryz.ntmps174 (by simp) ?_
             (try refine Wk.aw fun _ hqq => ?_); (repeat' (first | ((first | refine Wk.hd ?_ | refine Wk.i ?_); simp -implicitDefEqProofs (disch := omega) only [go_sem, seval, hs1, hs2, hl, hG, hG0, hS, hS0, hg1, hg2]) | (refine TQ_s (fun hc => ?_) (fun hc => ?_) <;> try omega) | refine CQ_ok (hn _) ?_ | refine CQ_st (a1 _) ?_ | refine CQ_pan (c2' _) ?_ | first | refine Wk.o ?_ | refine Wk.q (by assumption) ?_)); all_goals (repeat subst hqq)
             refine bodyQ_panS (s1 := ⟨B.set b (rdB T (T.length - r2.length)), K⟩) (by simp [St.cut]) (set_old ?_) rfl ⟨rfl, rfl⟩
             simp [Blk.within, V.within, V.within.all]
end Go.Proofs.YtofbdmdigopaoaaGreatDoor
