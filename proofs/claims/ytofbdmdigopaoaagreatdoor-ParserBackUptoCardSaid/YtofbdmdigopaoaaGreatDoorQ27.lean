/- A step of the proofs of the seat's theorems. -/
import Derived.Test.YtofbdmdigopaoaaGreatDoorQ1
import Derived.Test.YtofbdmdigopaoaaGreatDoorQ2
import Derived.Test.YtofbdmdigopaoaaGreatDoorQ15
import Derived.Test.YtofbdmdigopaoaaGreatDoorQ20
import Derived.Test.YtofbdmdigopaoaaGreatDoorQ21
import Derived.Test.YtofbdmdigopaoaaGreatDoorQ24
import Derived.Test.YtofbdmdigopaoaaGreatDoorQ26
set_option linter.unusedSimpArgs false
set_option linter.unusedVariables false
section
set_option maxHeartbeats 8000000
set_option maxRecDepth 20000
namespace Go.Proofs.YtofbdmdigopaoaaGreatDoor
open Go.Abs
attribute [local irreducible] AW OX condQ GQ bodyQ RoundsA thenQ blockQ Acalls
variable {G : World → Nat → Prop}
abbrev zEn : List V := [.d (.int .i64 0), .d (.str []), .d (.int .i64 0), .d (.bool false), .d (.int .i64 0), .d (.str []), .nils, .nils, .nils, .nils]
abbrev enC (N : Nat) (ls ks : List (List D)) : List V := [.d (.int .i64 10), .d (.str []), .d (.int .i64 0), .d (.bool false), .d (.int .i64 0), .d (.str []), .nils, .nils, lz (N + 1) ls, lz N ks]
abbrev enS (B : List Blk) (K : List (Nat × Nat × Nat)) (b : Nat) (T : List Tk) (x : List Ex × List Str × Nat × Nat) : St := ⟨B.set b (rdB T x.2.2.1) ++ [.cells zEn, .cells (enC K.length (x.1.map Ex.enc) (encKs x.2.1))], K ++ kzT 9 1 29 10 (encKs x.2.1) (x.1.map Ex.enc)⟩
abbrev enG (B : List Blk) (b : Nat) (_ : List Ex × List Str × Nat × Nat) : List (Nat × V) := [(0, .ptr b 0), (2, .ptr B.length 0), (3, .ptr (B.length + 1) 0)]
theorem en_within (N M : Nat) (K : List (Nat × Nat × Nat)) (ls ks : List (List D)) (h : ls.length ≤ ks.length) : (Blk.cells (enC K.length ls ks)).within N (K.length + (kzT 9 1 29 10 ks ls).length) = true := by
 have h1 := kz_within1 N K.length 9 1 29 10 ks ls
 have h2 := kz_within2 N K.length 9 1 29 10 ks ls h
 simp [Blk.within, V.within.all, h1, h2, within_d, within_nils]
theorem en_next {B : List Blk} {K : List (Nat × Nat × Nat)} {b : Nat} {T : List Tk} {p : List Ex × List Str × Nat × Nat → Prop} {x x' : List Ex × List Str × Nat × Nat} {fr : Fr} {L : List Blk} {ls kk : List (List D)} {i : Nat} (hb : B[b]? = some (rdB T i)) (hls : x'.1.map Ex.enc = ls) (hkk : encKs x'.2.1 = kk)
   (slots : okF fr (enG B b x')) (ok : p x') (less : x'.2.2.2 < x.2.2.2) (hlen : (x'.1.map Ex.enc).length ≤ (encKs x'.2.1).length) :
   NxtT ⟨B, K⟩ (enG B b) (enS B K b T) p (fun x => x.2.2.2) x fr ⟨B.set b (rdB T x'.2.2.1) ++ (.cells zEn :: .cells (enC K.length ls kk) :: L), K ++ kzT 9 1 29 10 kk ls⟩ x' := by
 subst hls hkk
 have hbl := (List.getElem?_eq_some_iff.1 hb).1
 refine ⟨slots, ok, less, ?_, by simp, by simp, by simp [okW, V.within, hbl]; omega, ?_⟩
 · simp only [St.cut, enS, List.length_append, List.length_set, List.length_cons, List.length_nil, Nat.zero_add]
   congr 1
   · rw [List.take_append]
     simp
     exact List.take_of_length_le (by simp)
   · rw [← List.length_append, List.take_length]
 · intro b' B' h
   simp only [enS, List.length_append, List.length_set, List.length_cons, List.length_nil, Nat.zero_add] at h ⊢
   by_cases hlt : b' < B.length
   · rw [List.getElem?_append_left (by simpa using hlt), List.getElem?_set] at h
     by_cases hbb : b = b'
     · subst hbb
       rw [if_pos rfl, if_pos hlt] at h
       cases h
       exact .inr (by simp [Blk.within, V.within, V.within.all])
     · rw [if_neg hbb] at h
       exact .inl h
   · rw [List.getElem?_append_right (by simpa using hlt), List.length_set] at h
     match hd : b' - B.length with
     | 0 => rw [hd] at h; simp at h; subst h; exact .inr (by simp [Blk.within, V.within, V.within.all])
     | 1 => rw [hd] at h; simp only [List.getElem?_cons_succ, List.getElem?_cons_zero, Option.some.injEq] at h; subst h; exact .inr (en_within _ 0 K _ _ hlen)
     | d + 2 => rw [hd] at h; simp at h
theorem encKs_length (ks : List Str) : (encKs ks).length = ks.length := by induction ks <;> simp_all [encKs]
theorem r_ents (hg : GV G) {T : List Tk} {f : Nat} (hT : T.length ≤ 1048576) (hx : ∀ t ∈ T, t.text.length ≤ 1048576) (hf : ∀ g ≤ f, RdIH G T g)
   (i : Nat) (hi : i ≤ T.length) (r : Res Ex) (h : pF (f + 1) .ents (T.drop i) = some r) :
   RdP G T 191 [] i r := by
 intro B K b hb
 have hbl : b < B.length := (List.getElem?_eq_some_iff.1 hb).1
 have hs1 : ∀ m y, (B ++ m).set b y = B.set b y ++ m := fun m y => set_app hb
 have hs2 : ∀ z m y, (B.set b z ++ m).set b y = B.set b y ++ m := fun z m y => set_app2 hb
 have hg1 : ∀ m, (B ++ m)[b]? = some (rdB T i) := fun m => get_app hb
 have hg2 : ∀ z m, (B.set b z ++ m)[b]? = some z := fun z m => get_app (set_get hb)
 have hl : ∀ z, (B.set b z).length = B.length := fun z => List.length_set
 have hG : ∀ (z : Blk) (m : List Blk) (k : Nat), (B.set b z ++ m)[B.length + k]? = m[k]? := fun z m k => by rw [List.getElem?_append_right (by simp)]; simp
 have hG0 : ∀ (z : Blk) (m : List Blk), (B.set b z ++ m)[B.length]? = m[0]? := fun z m => by rw [List.getElem?_append_right (by simp)]; simp
 have hS : ∀ (z y : Blk) (m : List Blk) (k : Nat), (B.set b z ++ m).set (B.length + k) y = B.set b z ++ m.set k y := fun z y m k => by rw [List.set_append_right _ _ (by simp)]; simp
 have hS0 : ∀ (z y : Blk) (m : List Blk), (B.set b z ++ m).set B.length y = B.set b z ++ m.set 0 y := fun z y m => by rw [List.set_append_right _ _ (by simp)]; simp
 have len : ∀ j, j ≤ T.length → T.length - (T.drop j).length = j := fun j hj => by simp only [List.length_drop]; omega
 simp only [pF] at h
 cases hb1 : opAt T i [125]
 · have a1 := fun m => c_accept_f (G := G) hg ⟨B ++ m, K⟩ b i T hT hx (by omega) (hg1 m) [125] (by rw [isF_op]; exact hb1)
   have h' : pF f (.ent [] []) (T.drop i) = some r := by
     by_cases hil : i < T.length
     · rw [dropT hil] at h ⊢
       simp only [opAt_f hil hb1, Bool.false_eq_true, if_false] at h
       exact h
     · rw [dropT_nil hil] at h ⊢; exact h
   refine Acalls.body Tryz.func191 rfl Tryz.ntmps191 (by simp) ?_
   (try with_reducible refine Wk.aw fun _ hqq => ?_); (repeat' (first | ((with_reducible first | refine Wk.hd ?_ | refine Wk.i ?_); simp -implicitDefEqProofs (disch := first | omega | (simp only [go_sem]; try omega)) only [go_sem, seval, hs1, hs2, hl, hG, hG0, hS, hS0]) | refine CQ_ok (a1 _) ?_ | with_reducible refine Wk.o ?_)); all_goals (repeat subst hqq)
   refine AW.loopT (enG B b) (enS B K b T)
     (fun x => x.2.2.1 ≤ T.length ∧ x.1.length ≤ x.2.2.1 ∧ x.1.length = x.2.1.length ∧ x.2.2.2 ≤ f ∧ pF x.2.2.2 (.ent x.1 x.2.1) (T.drop x.2.2.1) = some r) (fun x => x.2.2.2) ([], [], i, f) (by simp only [enS, set_id hb, encKs, List.map_nil, kzT_nil, List.append_nil, lz_nil]; rfl) (by simp -implicitDefEqProofs (disch := first | omega | (simp only [go_sem]; try omega)) only [go_sem, seval] <;> first | rfl | exact ⟨rfl, rfl⟩ | skip) ⟨hi, by simp, by simp, Nat.le_refl _, h'⟩ ?_
   rintro ⟨acc, ks, k, g⟩ ⟨p1, p2, p2', p3, p4⟩
   simp only at p1 p2 p2' p3 p4
   obtain ⟨g, rfl⟩ : ∃ g', g = g' + 1 := by
     cases g with
     | zero => simp [pF] at p4
     | succ g => exact ⟨g, rfl⟩
   simp only [pF] at p4
   cases hne : needF T k with
   | error ee =>
     have hn := fun m K' => c_need_err (G := G) hg ⟨B.set b (rdB T k) ++ m, K'⟩ b k T hT hx (by omega) (hg2 _ m) ee hne
     have hr : r = .err (T.drop k) ee := by
       rw [needF_err hne, missAt]
       by_cases hk : k < T.length
       · have hrf := needF_er hne hk
         rw [if_neg (by omega)]
         rw [dropT hk] at p4 ⊢
         have hkf : isKeyT (T.getD k default) = false := by
           generalize T.getD k default = t at *
           rw [← Bool.not_eq_true]
           intro hh
           simp only [isKeyT, Bool.or_eq_true, Bool.and_eq_true, decide_eq_true_eq] at hh
           rcases hh with ⟨q1, q2⟩ | ⟨q1, q2⟩
           · rw [realT, if_pos q1, q2] at hrf; cases hrf
           · rw [realT, if_neg (by omega), if_neg (by omega), if_pos q1, decide_eq_true q2] at hrf; cases hrf
         simp only [hkf, Bool.false_eq_true, if_false, Option.some.injEq] at p4
         exact p4.symm
       · rw [if_pos (by omega)]
         rw [dropT_nil hk] at p4 ⊢
         simp only [Option.some.injEq] at p4
         exact p4.symm
     subst hr
     simp only [rdO, resRest, len k p1]
     (try with_reducible refine Wk.aw fun _ hqq => ?_); (repeat' (first | ((with_reducible first | refine Wk.hd ?_ | refine Wk.i ?_); simp -implicitDefEqProofs (disch := first | omega | (simp only [go_sem]; try omega)) only [go_sem, seval, hs1, hs2, hl, hG, hG0, hS, hS0]) | refine CQ_pan (hn _ _) ?_ | with_reducible first | refine Wk.o ?_ | refine Wk.q (by assumption) ?_)); all_goals (repeat subst hqq)
     refine bodyQ_panS (s1 := ⟨B.set b (rdB T k), K⟩) (by simp [St.cut]) (set_old ?_) rfl ⟨rfl, rfl⟩
     simp [Blk.within, V.within, V.within.all]
   | ok u =>
     have hn := fun m K' => c_need_ok (G := G) hg ⟨B.set b (rdB T k) ++ m, K'⟩ b k T hT hx (by omega) (hg2 _ m) u hne
     obtain ⟨hk, hu, hru⟩ := needF_ok hne
     rw [dropT hk, ← hu] at p4
     simp only at p4
     have hux : u.text.length ≤ 1048576 := by rw [hu]; exact hx _ (getD_mem hk)
     by_cases hkk : u.kind = 1 ∨ u.kind = 3
     · have hkt : isKeyT u = true := by
         simp only [isKeyT, Bool.or_eq_true, Bool.and_eq_true, decide_eq_true_eq]
         rw [realT] at hru
         rcases hkk with q | q
         · rw [if_pos q] at hru; exact .inl ⟨q, hru⟩
         · rw [if_neg (by omega), if_neg (by omega), if_pos q, decide_eq_true_eq] at hru; exact .inr ⟨q, hru⟩
       rw [if_pos hkt, expectF_at] at p4
       cases hb2 : opAt T (k + 1) [58]
       · rw [hb2, if_neg Bool.false_ne_true, Option.some.injEq] at p4
         subst p4
         have hx2 := fun m K' => c_expect_f (G := G) hg ⟨B.set b (rdB T (k + 1)) ++ m, K'⟩ b (k + 1) T hT hx (by omega) (by exact hg2 _ _) [58] (by rw [isF_op]; exact hb2)
         simp only [rdO, resRest, len (k + 1) (by omega)]
         rcases hkk with hk1 | hk3
         · (try with_reducible refine Wk.aw fun _ hqq => ?_); (repeat' (first | ((with_reducible first | refine Wk.hd ?_ | refine Wk.i ?_); simp -implicitDefEqProofs (disch := first | omega | (simp only [go_sem]; try omega)) only [go_sem, seval, hs1, hs2, hl, hG, hG0, hS, hS0, hg2, hk1]) | refine CQ_ok (hn _ _) ?_ | refine CQ_pan (hx2 _ _) ?_ | with_reducible first | refine Wk.o ?_ | refine Wk.q (by assumption) ?_)); all_goals (repeat subst hqq)
           refine bodyQ_panS (s1 := ⟨B.set b (rdB T (k + 1)), K⟩) (by simp [St.cut]) (set_old ?_) rfl ⟨rfl, rfl⟩
           simp [Blk.within, V.within, V.within.all]
         · (try with_reducible refine Wk.aw fun _ hqq => ?_); (repeat' (first | ((with_reducible first | refine Wk.hd ?_ | refine Wk.i ?_); simp -implicitDefEqProofs (disch := first | omega | (simp only [go_sem]; try omega)) only [go_sem, seval, hs1, hs2, hl, hG, hG0, hS, hS0, hg2, hk3]) | refine CQ_ok (hn _ _) ?_ | refine CQ_pan (hx2 _ _) ?_ | with_reducible first | refine Wk.o ?_ | refine Wk.q (by assumption) ?_)); all_goals (repeat subst hqq)
           refine bodyQ_panS (s1 := ⟨B.set b (rdB T (k + 1)), K⟩) (by simp [St.cut]) (set_old ?_) rfl ⟨rfl, rfl⟩
           simp [Blk.within, V.within, V.within.all]
       · have hk2 := opAt_lt hb2
         rw [hb2, if_pos rfl] at p4
         have hx2 : ∀ m K', Acalls Tryz.prog G 82 [.ptr b 0, vs [58]] ⟨B.set b (rdB T (k + 1)) ++ m, K'⟩ (fun o s' => o = .ret (.tup []) ∧ s' = ⟨B.set b (rdB T (k + 1 + 1)) ++ m, K'⟩) := fun m K' => by
           have := c_expect_t (G := G) hg ⟨B.set b (rdB T (k + 1)) ++ m, K'⟩ b (k + 1) T hT hx (by omega) (by exact hg2 _ _) [58] (by rw [isF_op]; exact hb2)
           simp only [hs2] at this; exact this
         rcases h2 : pF g .cond (T.drop (k + 1 + 1)) with _ | (⟨x, r2⟩ | ⟨r2, e2⟩)
         · rw [h2] at p4; simp [thenF] at p4
         · have c2 := (hf g (by omega)).cond (k + 1 + 1) (by omega) _ h2
           obtain ⟨m, hkm, hm, d2, e2⟩ := pF_at h2 (by omega)
           simp only [resRest] at d2 e2
           subst d2
           rw [h2] at p4
           simp only [thenF] at p4
           simp only [RdP, rdO, resRest, e2] at c2
           have c2' : ∀ m' K', Acalls Tryz.prog G 49 [.ptr b 0] ⟨B.set b (rdB T (k + 1 + 1)) ++ m', K'⟩ (fun o s => o = .ret (vE x) ∧ s = ⟨B.set b (rdB T m) ++ m', K'⟩) := fun m' K' => by have := c2 _ K' b (hg2 _ m'); simp only [hs2] at this; exact this
           cases hb3 : opAt T m [44]
           · have a3 := fun m' K' => c_accept_f (G := G) hg ⟨B.set b (rdB T m) ++ m', K'⟩ b m T hT hx (by omega) (hg2 _ m') [44] (by rw [isF_op]; exact hb3)
             cases hb4 : opAt T m [125]
             · have hx4 := fun m' K' => c_expect_f (G := G) hg ⟨B.set b (rdB T m) ++ m', K'⟩ b m T hT hx (by omega) (hg2 _ m') [125] (by rw [isF_op]; exact hb4)
               have hr : r = .err (T.drop m) (missAt T m) := by
                 by_cases hml : m < T.length
                 · rw [dropT hml] at p4
                   simp only [opAt_f hml hb4, opAt_f hml hb3, Bool.false_eq_true, if_false, Option.some.injEq] at p4
                   rw [← p4, missAt, if_neg (by omega), dropT hml]
                 · rw [dropT_nil hml] at p4
                   simp only [Option.some.injEq] at p4
                   rw [← p4, missAt, if_pos (by omega), dropT_nil hml]
               subst hr
               simp only [rdO, resRest, len m hm]
               rcases hkk with hk1 | hk3
               · (try with_reducible refine Wk.aw fun _ hqq => ?_); (repeat' (first | ((with_reducible refine Wk.atX 10 ?_); refine AW.regM (P := Tryz.prog) mx 3 [(1, 4)] (by kernel_rfl) (by kernel_rfl) (by simp -implicitDefEqProofs (disch := first | omega | (simp only [go_sem]; try omega)) only [go_sem, seval, hs1, hs2, hl, hG, hG0, hS, hS0, hg2, hk1]; first | done | exact rfl) (by kernel_rfl) Tryz.call49 rfl rfl (by simp -implicitDefEqProofs (disch := first | omega | (simp only [go_sem]; try omega)) only [go_sem, seval, hs1, hs2, hl, hG, hG0, hS, hS0, hg2, hk1]; first | done | exact rfl) (c2' _ _) (by simp -implicitDefEqProofs (disch := first | omega | (simp only [go_sem]; try omega)) only [go_sem, seval, hs1, hs2, hl, hG, hG0, hS, hS0, hg2, hk1]; first | done | exact rfl) (exM_cons (by decide) (by decide) rfl rfl (by simp -implicitDefEqProofs (disch := first | omega | (simp only [go_sem]; try omega)) only [go_sem, seval, hs1, hs2, hl, hG, hG0, hS, hS0, hg2, hk1]) (exM_nil)) ?_) | (with_reducible first | refine Wk.ox ?_ | refine Wk.th ?_ | refine Wk.bl ?_) | ((with_reducible first | refine Wk.hd ?_ | refine Wk.i ?_); simp -implicitDefEqProofs (disch := first | omega | (simp only [go_sem]; try omega)) only [go_sem, seval, hs1, hs2, hl, hG, hG0, hS, hS0, hg2, hk1]) | refine CQ_ok (hn _ _) ?_ | refine CQ_st (hx2 _ _) ?_ | refine CQ_ok (a3 _ _) ?_ | refine CQ_pan (hx4 _ _) ?_ | with_reducible first | refine Wk.o ?_ | refine Wk.q (by assumption) ?_)); all_goals (repeat subst hqq)
                 refine bodyQ_panS (s1 := ⟨B.set b (rdB T m), K⟩) (by simp [St.cut]) (set_old ?_) rfl ⟨rfl, rfl⟩
                 simp [Blk.within, V.within, V.within.all]
               · (try with_reducible refine Wk.aw fun _ hqq => ?_); (repeat' (first | ((with_reducible refine Wk.atX 10 ?_); refine AW.regM (P := Tryz.prog) mx 3 [(1, 4)] (by kernel_rfl) (by kernel_rfl) (by simp -implicitDefEqProofs (disch := first | omega | (simp only [go_sem]; try omega)) only [go_sem, seval, hs1, hs2, hl, hG, hG0, hS, hS0, hg2, hk3]; first | done | exact rfl) (by kernel_rfl) Tryz.call49 rfl rfl (by simp -implicitDefEqProofs (disch := first | omega | (simp only [go_sem]; try omega)) only [go_sem, seval, hs1, hs2, hl, hG, hG0, hS, hS0, hg2, hk3]; first | done | exact rfl) (c2' _ _) (by simp -implicitDefEqProofs (disch := first | omega | (simp only [go_sem]; try omega)) only [go_sem, seval, hs1, hs2, hl, hG, hG0, hS, hS0, hg2, hk3]; first | done | exact rfl) (exM_cons (by decide) (by decide) rfl rfl (by simp -implicitDefEqProofs (disch := first | omega | (simp only [go_sem]; try omega)) only [go_sem, seval, hs1, hs2, hl, hG, hG0, hS, hS0, hg2, hk3]) (exM_nil)) ?_) | (with_reducible first | refine Wk.ox ?_ | refine Wk.th ?_ | refine Wk.bl ?_) | ((with_reducible first | refine Wk.hd ?_ | refine Wk.i ?_); simp -implicitDefEqProofs (disch := first | omega | (simp only [go_sem]; try omega)) only [go_sem, seval, hs1, hs2, hl, hG, hG0, hS, hS0, hg2, hk3]) | refine CQ_ok (hn _ _) ?_ | refine CQ_st (hx2 _ _) ?_ | refine CQ_ok (a3 _ _) ?_ | refine CQ_pan (hx4 _ _) ?_ | with_reducible first | refine Wk.o ?_ | refine Wk.q (by assumption) ?_)); all_goals (repeat subst hqq)
                 refine bodyQ_panS (s1 := ⟨B.set b (rdB T m), K⟩) (by simp [St.cut]) (set_old ?_) rfl ⟨rfl, rfl⟩
                 simp [Blk.within, V.within, V.within.all]
             · have hml := opAt_lt hb4
               rw [dropT hml] at p4
               simp only [opAt_t hb4, if_true, Option.some.injEq] at p4
               subst p4
               have hx4 : ∀ m' K', Acalls Tryz.prog G 82 [.ptr b 0, vs [125]] ⟨B.set b (rdB T m) ++ m', K'⟩ (fun o s' => o = .ret (.tup []) ∧ s' = ⟨B.set b (rdB T (m + 1)) ++ m', K'⟩) := fun m' K' => by
                 have := c_expect_t (G := G) hg ⟨B.set b (rdB T m) ++ m', K'⟩ b m T hT hx (by omega) (hg2 _ m') [125] (by rw [isF_op]; exact hb4)
                 simp only [hs2] at this; exact this
               have hve : vE (Ex.mk 10 [] val0 (acc ++ [x]) (ks ++ [u.text])) = V.agg [V.d (D.int .i64 10), V.d (D.str []), V.d (D.int .i64 0), V.d (D.bool false), V.d (D.int .i64 0), V.d (D.str []), V.d (D.sl []), V.d (D.sl []), V.d (D.sl (acc.map Ex.enc ++ [x.enc])), V.d (D.sl (encKs ks ++ [[D.str u.text]]))] := by
                 rw [vE, Ex.enc_eq]; simp [Ex.args, Ex.keys, Ex.kind, Ex.name, Ex.value, val0, Val.enc_eq, Val.kind, Val.bool, Val.int, Val.str, Val.list, Val.keys, encKs]
               simp only [rdO, resRest, len (m + 1) (by omega)]
               rcases hkk with hk1 | hk3
               · (try with_reducible refine Wk.aw fun _ hqq => ?_); (repeat' (first | ((with_reducible refine Wk.atX 10 ?_); refine AW.regM (P := Tryz.prog) mx 3 [(1, 4)] (by kernel_rfl) (by kernel_rfl) (by simp -implicitDefEqProofs (disch := first | omega | (simp only [go_sem]; try omega)) only [go_sem, seval, hs1, hs2, hl, hG, hG0, hS, hS0, hg2, hk1]; first | done | exact rfl) (by kernel_rfl) Tryz.call49 rfl rfl (by simp -implicitDefEqProofs (disch := first | omega | (simp only [go_sem]; try omega)) only [go_sem, seval, hs1, hs2, hl, hG, hG0, hS, hS0, hg2, hk1]; first | done | exact rfl) (c2' _ _) (by simp -implicitDefEqProofs (disch := first | omega | (simp only [go_sem]; try omega)) only [go_sem, seval, hs1, hs2, hl, hG, hG0, hS, hS0, hg2, hk1]; first | done | exact rfl) (exM_cons (by decide) (by decide) rfl rfl (by simp -implicitDefEqProofs (disch := first | omega | (simp only [go_sem]; try omega)) only [go_sem, seval, hs1, hs2, hl, hG, hG0, hS, hS0, hg2, hk1]) (exM_nil)) ?_) | (with_reducible first | refine Wk.ox ?_ | refine Wk.th ?_ | refine Wk.bl ?_) | ((with_reducible first | refine Wk.hd ?_ | refine Wk.i ?_); simp -implicitDefEqProofs (disch := first | omega | (simp only [go_sem]; try omega)) only [go_sem, seval, hs1, hs2, hl, hG, hG0, hS, hS0, hg2, hk1]) | refine CQ_ok (hn _ _) ?_ | refine CQ_st ((by first | exact hx2 _ _ | exact hx4 _ _)) ?_ | refine CQ_ok (a3 _ _) ?_ | with_reducible first | refine Wk.o ?_ | refine Wk.q (by assumption) ?_)); all_goals (repeat subst hqq)
                 refine bodyQ_retM (v := vE (Ex.mk 10 [] val0 (acc ++ [x]) (ks ++ [u.text]))) K.length (Nat.le_refl _) (s1 := ⟨B.set b (rdB T (m + 1)), K⟩) (by simp [St.cut]) (set_old ?_) (by simp -implicitDefEqProofs (disch := first | omega | (simp only [go_sem]; try omega)) only [go_sem, seval, resOf_tmp, resOf_cell, Tryz.results191, hG, hG0]; first | done | exact rfl) (by rw [hve]; simp -implicitDefEqProofs (disch := first | omega | (simp only [go_sem]; try omega)) only [go_sem, seval, resV]; first | done | exact rfl) (by simp -implicitDefEqProofs (disch := first | omega | (simp only [go_sem]; try omega)) only [go_sem, seval]; first | done | exact rfl) ⟨rfl, rfl⟩
                 simp [Blk.within, V.within, V.within.all]
               · (try with_reducible refine Wk.aw fun _ hqq => ?_); (repeat' (first | ((with_reducible refine Wk.atX 10 ?_); refine AW.regM (P := Tryz.prog) mx 3 [(1, 4)] (by kernel_rfl) (by kernel_rfl) (by simp -implicitDefEqProofs (disch := first | omega | (simp only [go_sem]; try omega)) only [go_sem, seval, hs1, hs2, hl, hG, hG0, hS, hS0, hg2, hk3]; first | done | exact rfl) (by kernel_rfl) Tryz.call49 rfl rfl (by simp -implicitDefEqProofs (disch := first | omega | (simp only [go_sem]; try omega)) only [go_sem, seval, hs1, hs2, hl, hG, hG0, hS, hS0, hg2, hk3]; first | done | exact rfl) (c2' _ _) (by simp -implicitDefEqProofs (disch := first | omega | (simp only [go_sem]; try omega)) only [go_sem, seval, hs1, hs2, hl, hG, hG0, hS, hS0, hg2, hk3]; first | done | exact rfl) (exM_cons (by decide) (by decide) rfl rfl (by simp -implicitDefEqProofs (disch := first | omega | (simp only [go_sem]; try omega)) only [go_sem, seval, hs1, hs2, hl, hG, hG0, hS, hS0, hg2, hk3]) (exM_nil)) ?_) | (with_reducible first | refine Wk.ox ?_ | refine Wk.th ?_ | refine Wk.bl ?_) | ((with_reducible first | refine Wk.hd ?_ | refine Wk.i ?_); simp -implicitDefEqProofs (disch := first | omega | (simp only [go_sem]; try omega)) only [go_sem, seval, hs1, hs2, hl, hG, hG0, hS, hS0, hg2, hk3]) | refine CQ_ok (hn _ _) ?_ | refine CQ_st ((by first | exact hx2 _ _ | exact hx4 _ _)) ?_ | refine CQ_ok (a3 _ _) ?_ | with_reducible first | refine Wk.o ?_ | refine Wk.q (by assumption) ?_)); all_goals (repeat subst hqq)
                 refine bodyQ_retM (v := vE (Ex.mk 10 [] val0 (acc ++ [x]) (ks ++ [u.text]))) K.length (Nat.le_refl _) (s1 := ⟨B.set b (rdB T (m + 1)), K⟩) (by simp [St.cut]) (set_old ?_) (by simp -implicitDefEqProofs (disch := first | omega | (simp only [go_sem]; try omega)) only [go_sem, seval, resOf_tmp, resOf_cell, Tryz.results191, hG, hG0]; first | done | exact rfl) (by rw [hve]; simp -implicitDefEqProofs (disch := first | omega | (simp only [go_sem]; try omega)) only [go_sem, seval, resV]; first | done | exact rfl) (by simp -implicitDefEqProofs (disch := first | omega | (simp only [go_sem]; try omega)) only [go_sem, seval]; first | done | exact rfl) ⟨rfl, rfl⟩
                 simp [Blk.within, V.within, V.within.all]
           · have hml := opAt_lt hb3
             have hb4 : isOpT [125] (T.getD m default) = false := by
               rw [Bool.eq_false_iff]; intro hh
               simp only [isOpT, decide_eq_true_eq] at hh
               have := opAt_text hb3
               rw [hh.2] at this
               exact absurd this (by decide)
             have a3 : ∀ m' K', Acalls Tryz.prog G 81 [.ptr b 0, vs [44]] ⟨B.set b (rdB T m) ++ m', K'⟩ (fun o s' => o = .ret (vb true) ∧ s' = ⟨B.set b (rdB T (m + 1)) ++ m', K'⟩) := fun m' K' => by
               have := c_accept_t (G := G) hg ⟨B.set b (rdB T m) ++ m', K'⟩ b m T hT hx (by omega) (hg2 _ m') [44] (by rw [isF_op]; exact hb3)
               simp only [hs2] at this; exact this
             rw [dropT hml] at p4
             simp only [hb4, opAt_t hb3, Bool.false_eq_true, if_false, if_true] at p4
             rcases hkk with hk1 | hk3
             · (try with_reducible refine Wk.aw fun _ hqq => ?_); (repeat' (first | ((with_reducible refine Wk.atX 10 ?_); refine AW.regM (P := Tryz.prog) mx 3 [(1, 4)] (by kernel_rfl) (by kernel_rfl) (by simp -implicitDefEqProofs (disch := first | omega | (simp only [go_sem]; try omega)) only [go_sem, seval, hs1, hs2, hl, hG, hG0, hS, hS0, hg2, hk1]; first | done | exact rfl) (by kernel_rfl) Tryz.call49 rfl rfl (by simp -implicitDefEqProofs (disch := first | omega | (simp only [go_sem]; try omega)) only [go_sem, seval, hs1, hs2, hl, hG, hG0, hS, hS0, hg2, hk1]; first | done | exact rfl) (c2' _ _) (by simp -implicitDefEqProofs (disch := first | omega | (simp only [go_sem]; try omega)) only [go_sem, seval, hs1, hs2, hl, hG, hG0, hS, hS0, hg2, hk1]; first | done | exact rfl) (exM_cons (by decide) (by decide) rfl rfl (by simp -implicitDefEqProofs (disch := first | omega | (simp only [go_sem]; try omega)) only [go_sem, seval, hs1, hs2, hl, hG, hG0, hS, hS0, hg2, hk1]) (exM_nil)) ?_) | (with_reducible first | refine Wk.ox ?_ | refine Wk.th ?_ | refine Wk.bl ?_) | ((with_reducible first | refine Wk.hd ?_ | refine Wk.i ?_); simp -implicitDefEqProofs (disch := first | omega | (simp only [go_sem]; try omega)) only [go_sem, seval, hs1, hs2, hl, hG, hG0, hS, hS0, hg2, hk1]) | refine CQ_ok (hn _ _) ?_ | refine CQ_st (hx2 _ _) ?_ | refine CQ_st (a3 _ _) ?_ | with_reducible first | refine Wk.o ?_ | refine Wk.q (by assumption) ?_)); all_goals (repeat subst hqq)
               refine ⟨(acc ++ [x], ks ++ [u.text], m + 1, g), ?_⟩
               refine en_next (x' := (acc ++ [x], ks ++ [u.text], m + 1, g)) hb (by simp) (by simp [encKs]) ?_ ?_ ?_ ?_
               · simp -implicitDefEqProofs (disch := first | omega | (simp only [go_sem]; try omega)) only [go_sem, seval] <;> first | rfl | exact ⟨rfl, rfl⟩ | skip
               · exact ⟨by simp only; omega, by simp only [List.length_append, List.length_singleton]; omega, by simp only [List.length_append, List.length_singleton]; omega, by simp only; omega, p4⟩
               · simp only; omega
               · simp [encKs_length]; omega
             · (try with_reducible refine Wk.aw fun _ hqq => ?_); (repeat' (first | ((with_reducible refine Wk.atX 10 ?_); refine AW.regM (P := Tryz.prog) mx 3 [(1, 4)] (by kernel_rfl) (by kernel_rfl) (by simp -implicitDefEqProofs (disch := first | omega | (simp only [go_sem]; try omega)) only [go_sem, seval, hs1, hs2, hl, hG, hG0, hS, hS0, hg2, hk3]; first | done | exact rfl) (by kernel_rfl) Tryz.call49 rfl rfl (by simp -implicitDefEqProofs (disch := first | omega | (simp only [go_sem]; try omega)) only [go_sem, seval, hs1, hs2, hl, hG, hG0, hS, hS0, hg2, hk3]; first | done | exact rfl) (c2' _ _) (by simp -implicitDefEqProofs (disch := first | omega | (simp only [go_sem]; try omega)) only [go_sem, seval, hs1, hs2, hl, hG, hG0, hS, hS0, hg2, hk3]; first | done | exact rfl) (exM_cons (by decide) (by decide) rfl rfl (by simp -implicitDefEqProofs (disch := first | omega | (simp only [go_sem]; try omega)) only [go_sem, seval, hs1, hs2, hl, hG, hG0, hS, hS0, hg2, hk3]) (exM_nil)) ?_) | (with_reducible first | refine Wk.ox ?_ | refine Wk.th ?_ | refine Wk.bl ?_) | ((with_reducible first | refine Wk.hd ?_ | refine Wk.i ?_); simp -implicitDefEqProofs (disch := first | omega | (simp only [go_sem]; try omega)) only [go_sem, seval, hs1, hs2, hl, hG, hG0, hS, hS0, hg2, hk3]) | refine CQ_ok (hn _ _) ?_ | refine CQ_st (hx2 _ _) ?_ | refine CQ_st (a3 _ _) ?_ | with_reducible first | refine Wk.o ?_ | refine Wk.q (by assumption) ?_)); all_goals (repeat subst hqq)
               refine ⟨(acc ++ [x], ks ++ [u.text], m + 1, g), ?_⟩
               refine en_next (x' := (acc ++ [x], ks ++ [u.text], m + 1, g)) hb (by simp) (by simp [encKs]) ?_ ?_ ?_ ?_
               · simp -implicitDefEqProofs (disch := first | omega | (simp only [go_sem]; try omega)) only [go_sem, seval] <;> first | rfl | exact ⟨rfl, rfl⟩ | skip
               · exact ⟨by simp only; omega, by simp only [List.length_append, List.length_singleton]; omega, by simp only [List.length_append, List.length_singleton]; omega, by simp only; omega, p4⟩
               · simp only; omega
               · simp [encKs_length]; omega
         · have c2 := (hf g (by omega)).cond (k + 1 + 1) (by omega) _ h2
           rw [h2] at p4
           simp only [thenF, Option.some.injEq] at p4
           subst p4
           simp only [RdP, rdO, resRest] at c2
           have c2' : ∀ m' K', Acalls Tryz.prog G 49 [.ptr b 0] ⟨B.set b (rdB T (k + 1 + 1)) ++ m', K'⟩ (fun o s => o = .pan (panV (T.length - r2.length) e2) ∧ s = ⟨B.set b (rdB T (T.length - r2.length)) ++ m', K'⟩) := fun m' K' => by have := c2 _ K' b (hg2 _ m'); simp only [hs2] at this; exact this
           simp only [rdO, resRest]
           rcases hkk with hk1 | hk3
           · (try with_reducible refine Wk.aw fun _ hqq => ?_); (repeat' (first | ((with_reducible refine Wk.atX 10 ?_); refine AW.regMP (P := Tryz.prog) mx 3 [(1, 4)] (by kernel_rfl) (by kernel_rfl) (by simp -implicitDefEqProofs (disch := first | omega | (simp only [go_sem]; try omega)) only [go_sem, seval, hs1, hs2, hl, hG, hG0, hS, hS0, hg2, hk1]; first | done | exact rfl) (by kernel_rfl) Tryz.call49 rfl (by simp -implicitDefEqProofs (disch := first | omega | (simp only [go_sem]; try omega)) only [go_sem, seval, hs1, hs2, hl, hG, hG0, hS, hS0, hg2, hk1]; first | done | exact rfl) (c2' _ _) (fun fr_ => ?_)) | (with_reducible first | refine Wk.ox ?_ | refine Wk.th ?_ | refine Wk.bl ?_) | ((with_reducible first | refine Wk.hd ?_ | refine Wk.i ?_); simp -implicitDefEqProofs (disch := first | omega | (simp only [go_sem]; try omega)) only [go_sem, seval, hs1, hs2, hl, hG, hG0, hS, hS0, hg2, hk1]) | refine CQ_ok (hn _ _) ?_ | refine CQ_st (hx2 _ _) ?_ | with_reducible first | refine Wk.o ?_ | refine Wk.q (by assumption) ?_)); all_goals (repeat subst hqq)
             refine bodyQ_panS (s1 := ⟨B.set b (rdB T (T.length - r2.length)), K⟩) (by simp [St.cut]) (set_old ?_) rfl ⟨rfl, rfl⟩
             simp [Blk.within, V.within, V.within.all]
           · (try with_reducible refine Wk.aw fun _ hqq => ?_); (repeat' (first | ((with_reducible refine Wk.atX 10 ?_); refine AW.regMP (P := Tryz.prog) mx 3 [(1, 4)] (by kernel_rfl) (by kernel_rfl) (by simp -implicitDefEqProofs (disch := first | omega | (simp only [go_sem]; try omega)) only [go_sem, seval, hs1, hs2, hl, hG, hG0, hS, hS0, hg2, hk3]; first | done | exact rfl) (by kernel_rfl) Tryz.call49 rfl (by simp -implicitDefEqProofs (disch := first | omega | (simp only [go_sem]; try omega)) only [go_sem, seval, hs1, hs2, hl, hG, hG0, hS, hS0, hg2, hk3]; first | done | exact rfl) (c2' _ _) (fun fr_ => ?_)) | (with_reducible first | refine Wk.ox ?_ | refine Wk.th ?_ | refine Wk.bl ?_) | ((with_reducible first | refine Wk.hd ?_ | refine Wk.i ?_); simp -implicitDefEqProofs (disch := first | omega | (simp only [go_sem]; try omega)) only [go_sem, seval, hs1, hs2, hl, hG, hG0, hS, hS0, hg2, hk3]) | refine CQ_ok (hn _ _) ?_ | refine CQ_st (hx2 _ _) ?_ | with_reducible first | refine Wk.o ?_ | refine Wk.q (by assumption) ?_)); all_goals (repeat subst hqq)
             refine bodyQ_panS (s1 := ⟨B.set b (rdB T (T.length - r2.length)), K⟩) (by simp [St.cut]) (set_old ?_) rfl ⟨rfl, rfl⟩
             simp [Blk.within, V.within, V.within.all]
     · have hkf : isKeyT u = false := by
         rw [← Bool.not_eq_true]
         intro hh
         simp only [isKeyT, Bool.or_eq_true, Bool.and_eq_true, decide_eq_true_eq] at hh
         rcases hh with ⟨q1, _⟩ | ⟨q1, _⟩
         · exact hkk (.inl q1)
         · exact hkk (.inr q1)
       rw [if_neg (by rw [hkf]; decide), hu, ← dropT hk, Option.some.injEq] at p4
       subst p4
       have hk1 : ¬ u.kind = 1 := fun h => hkk (.inl h)
       have hk3 : ¬ u.kind = 3 := fun h => hkk (.inr h)
       have hfl := fun m K' => c_fail (G := G) ⟨B.set b (rdB T k) ++ m, K'⟩ b k T 5 (hg2 _ m)
       simp only [rdO, resRest, len k p1]
       (try with_reducible refine Wk.aw fun _ hqq => ?_); (repeat' (first | ((with_reducible first | refine Wk.hd ?_ | refine Wk.i ?_); simp -implicitDefEqProofs (disch := first | omega | (simp only [go_sem]; try omega)) only [go_sem, seval, hs1, hs2, hl, hG, hG0, hS, hS0, hg2]) | (refine TQ_s (fun hc => ?_) (fun hc => ?_) <;> try (exfalso; first | omega | contradiction)) | refine CQ_ok (hn _ _) ?_ | refine CQ_pan (hfl _ _) ?_ | with_reducible first | refine Wk.o ?_ | refine Wk.q (by assumption) ?_)); all_goals (repeat subst hqq)
       refine bodyQ_panS (s1 := ⟨B.set b (rdB T k), K⟩) (by simp [St.cut]) (set_old ?_) rfl ⟨rfl, rfl⟩
       simp [Blk.within, V.within, V.within.all]
 · have hil := opAt_lt hb1
   have a1 : ∀ m, Acalls Tryz.prog G 81 [.ptr b 0, vs [125]] ⟨B ++ m, K⟩ (fun o s' => o = .ret (vb true) ∧ s' = ⟨B.set b (rdB T (i + 1)) ++ m, K⟩) := fun m => by
     have := c_accept_t (G := G) hg ⟨B ++ m, K⟩ b i T hT hx (by omega) (hg1 m) [125] (by rw [isF_op]; exact hb1)
     simp only [hs1] at this; exact this
   rw [dropT hil] at h
   simp only [opAt_t hb1, if_true, Option.some.injEq] at h
   subst h
   simp only [rdO, resRest, len (i + 1) (by omega)]
   refine Acalls.body Tryz.func191 rfl Tryz.ntmps191 (by simp) ?_
   (try with_reducible refine Wk.aw fun _ hqq => ?_); (repeat' (first | ((with_reducible first | refine Wk.hd ?_ | refine Wk.i ?_); simp -implicitDefEqProofs (disch := first | omega | (simp only [go_sem]; try omega)) only [go_sem, seval, hs1, hs2, hl, hG, hG0, hS, hS0]) | refine CQ_st (a1 _) ?_ | with_reducible first | refine Wk.o ?_ | refine Wk.q (by assumption) ?_)); all_goals (repeat subst hqq)
   refine bodyQ_retM (v := vE (Ex.mk 10 [] val0 [] [])) K.length (Nat.le_refl _) (s1 := ⟨B.set b (rdB T (i + 1)), K⟩) (by simp [St.cut]) (set_old ?_) (by simp -implicitDefEqProofs (disch := first | omega | (simp only [go_sem]; try omega)) only [go_sem, seval, resOf_tmp, resOf_cell, Tryz.results191, hG, hG0]; first | done | exact rfl) (by simp -implicitDefEqProofs (disch := first | omega | (simp only [go_sem]; try omega)) only [go_sem, seval, resV]; first | done | exact rfl) (by simp -implicitDefEqProofs (disch := first | omega | (simp only [go_sem]; try omega)) only [go_sem, seval]; first | done | exact rfl) ⟨rfl, rfl⟩
   simp [Blk.within, V.within, V.within.all]
end Go.Proofs.YtofbdmdigopaoaaGreatDoor
end
section
set_option maxHeartbeats 8000000
set_option maxRecDepth 20000
namespace Go.Proofs.YtofbdmdigopaoaaGreatDoor
open Go.Abs
attribute [local irreducible] AW OX condQ GQ bodyQ RoundsA thenQ blockQ Acalls
variable {G : World → Nat → Prop}
theorem rd_args (hg : GV G) {T : List Tk} (hT : T.length ≤ 1048576) (hx : ∀ t ∈ T, t.text.length ≤ 1048576) (f : Nat) (hf : ∀ g < f, RdIH G T g) (s : Str) (hs : s ≠ [44]) (i : Nat) (hi : i ≤ T.length) (r : Res Ex) (h : pF f (.args s) (T.drop i) = some r) :
   RdA G T 190 [vs s] i r := by
 cases f with
 | zero => simp [pF] at h
 | succ f => exact r_args hg hT hx (fun g hg => hf g (by omega)) s hs i hi r h
theorem rd_ents (hg : GV G) {T : List Tk} (hT : T.length ≤ 1048576) (hx : ∀ t ∈ T, t.text.length ≤ 1048576) (f : Nat) (hf : ∀ g < f, RdIH G T g) (i : Nat) (hi : i ≤ T.length) (r : Res Ex) (h : pF f .ents (T.drop i) = some r) :
   RdP G T 191 [] i r := by
 cases f with
 | zero => simp [pF] at h
 | succ f => exact r_ents hg hT hx (fun g hg => hf g (by omega)) i hi r h
theorem rd_ih (hg : GV G) {T : List Tk} (hT : T.length ≤ 1048576) (hx : ∀ t ∈ T, t.text.length ≤ 1048576) : ∀ f, RdIH G T f := by
 intro f
 induction f using Nat.strongRecOn with
 | _ f hf =>
   refine ⟨?_, ?_, ?_, ?_⟩
   · intro i hi r h
     cases f with
     | zero => simp [pF] at h
     | succ f => exact r_cond hg hT hx (hf f (by omega)) i hi r h
   · intro n h1 h7 i hi r h
     cases f with
     | zero => simp [pF] at h
     | succ f => exact r_op hg hT hx (fun g hg => hf g (by omega)) n h1 h7 i hi r h
   · intro i hi r h
     cases f with
     | zero => simp [pF] at h
     | succ f => exact r_un hg hT hx (hf f (by omega)) i hi r h
   · intro i hi r h
     refine r_chain hg hT hx hf (fun i hi r h => ?_) i hi r h
     cases f with
     | zero => simp [pF] at h
     | succ f =>
       exact r_atom hg hT hx (fun g hg => hf g (by omega)) (fun s hs i hi r h => rd_args hg hT hx f (fun g hg => hf g (by omega)) s hs i hi r h)
         (fun i hi r h => rd_ents hg hT hx f (fun g hg => hf g (by omega)) i hi r h) i hi r h
end Go.Proofs.YtofbdmdigopaoaaGreatDoor
end
section
namespace Go.Abs
open Go.RowKit
def exS (l : List Oper) (fr : Fr) (b i : Nat) : Op → Bool
 | .store _ (.tmp u) _ => (match wrt l u with | some j => decide (j < i) | none => true) && (match fr u with | .ptr b' _ => b' != b | _ => false)
 | .load _ _ => true
 | o => stQuiet o
def exP (l : List Oper) (fr : Fr) (b : Nat) : Bool := l.zipIdx.all fun p => exS l fr b p.2 p.1.op
def exB2 (l : List Oper) (fr : Fr) (i : Nat) : Bool :=
 match l[i]? with
 | some ⟨_, .load _ (.tmp t), _, _, _, none⟩ => (match wrt l t with | some j => decide (j < i) | none => true) && (match fr t with | .ep _ _ => true | .ptr b _ => exP l fr b | _ => false)
 | _ => false
section
variable {P : Program} {G : World → Nat → Prop} {n : NDs} {st0 : St} {Q : AX → Fr → St → Prop}
theorem store_keeps {t : TypeId} {b' o' : Nat} {x : V} {st st' : St} (h : evalStore P t (.ptr b' o') x st = some st') {b : Nat} (hb : b' ≠ b) (ty : TypeId) (off : Nat) : evalLoad P ty (.ptr b off) st' = evalLoad P ty (.ptr b off) st := by
 have key : st'.blks[b]? = st.blks[b]? := by
   unfold evalStore at h
   split at h
   · rename_i k off' sz l hk _ _
     cases hk
     split at h
     · split at h
       · unfold putBlk at h
         split at h
         · split at h
           · simp only [Option.some.injEq] at h
             subst h
             simp only [setBlk]
             rw [List.getElem?_set_ne hb]
           · cases h
         · cases h
       · cases h
     · cases h
   · cases h
 unfold evalLoad
 simp only [key]
theorem AW.regY (hm : P.follows .mixedOrders = true) {id : Nat} {l rest : List Oper} (ex : List (Nat × Nat)) (hok : drawOK l [] ex l.length = true) {fr fr' : Fr} {st st' : St} (h : runL P n l.toArray [] l fr st = some (rest, fr', st'))
   (k : OX P G n st0 true [] l.toArray (fun x fr st => (ex.all fun p => decide (p.2 ≤ l.length) && exB2 l fr p.1) = true ∧ Q x fr st) rest fr' st') : AW P G n st0 (.region id l.toArray true) Q fr st := by
 obtain ⟨vs, ss, fr'', st'', htr, hb, hQ⟩ := OT.run h k
 have hM := htr.toM 0
 refine AW.drawnM hm hok hM (fun i hi hmem => ?_) hQ
 have hE := List.all_eq_true.1 hb (i, hi) hmem
 simp only [Bool.and_eq_true, decide_eq_true_eq] at hE
 obtain ⟨hhi, hE⟩ := hE
 obtain ⟨h1, h2, h3⟩ := hM.spec [] fr (fun i => vs.getD i .junk) (fun i => (st :: ss).getD i default) rfl (fun j o d ho hd => (drawOK_facts hok ho).dst d hd) (by simp) (by simp) (by
   funext t; unfold valOf; cases wrt ([] ++ l) t <;> simp)
 simp only [List.nil_append, List.length_nil, Nat.zero_le, true_implies] at h1 h2
 unfold exB2 at hE
 split at hE
 · rename_i a ty t b c d he
   simp only [Bool.and_eq_true] at hE
   obtain ⟨hE1, hE2⟩ := hE
   refine ⟨_, t, ty, he, rfl, rfl, fun j hj => by rw [hj] at hE1; simpa using hE1, fun k hk v s hv hs => ?_⟩
   split at hE2
   · rename_i cs off he2
     rw [he2] at hv ⊢
     unfold evalLoad at hv ⊢
     exact hv
   · rename_i b off he2
     have step : ∀ i, i < l.length → evalLoad P ty (.ptr b off) ((st :: ss).getD (i + 1) default) = evalLoad P ty (.ptr b off) ((st :: ss).getD i default) := by
       intro i hil
       obtain ⟨s1, s2⟩ := h1 i l[i] (by simp [hil])
       have hq := List.all_eq_true.1 hE2 (l[i], i) (by rw [List.mem_zipIdx_iff_getElem?]; simp [hil])
       simp only at hq
       generalize ho : l[i] = o at *
       obtain ⟨dst, op, type, pos, after, guard⟩ := o
       simp only at hq
       have quiet : stQuiet op = true → evalLoad P ty (.ptr b off) ((st :: ss).getD (i + 1) default) = evalLoad P ty (.ptr b off) ((st :: ss).getD i default) := by
         intro hq
         have := (s1.quiet hq).1
         rw [this]
       cases op with
       | store t2 x y =>
         cases x with
         | tmp u =>
           simp only [exS, Bool.and_eq_true] at hq
           obtain ⟨q1, q2⟩ := hq
           have hfu : fr'' u = valOf l fr (fun i => vs.getD i .junk) (fun k => decide (k < i)) u := by
             rw [h2]; unfold valOf
             cases hw : wrt l u with
             | none => rfl
             | some j =>
               rw [hw] at q1
               have q1 : j < i := by simpa using q1
               have : j < l.length := by omega
               simp only [decide_eq_true q1, decide_eq_true this, if_true]
           split at q2
           · rename_i b' o' hpu
             rw [hfu] at hpu
             generalize hS : (st :: ss).getD i default = S1 at s1
             generalize (st :: ss).getD (i + 1) default = S2 at s1
             generalize vs.getD i .junk = vv at s1
             cases s1 with
             | op _ _ g1 g2 g3 =>
               simp only [evalOp, ev] at g2
               rw [hpu] at g2
               rw [Option.map_eq_some_iff] at g2
               obtain ⟨s', g4, g5⟩ := g2
               cases g5
               exact store_keeps g4 (by simpa using q2) ty off
             | skip g1 g2 => rfl
             | call _ _ g cap x args ats _ hop => cases hop
           · cases q2
         | const c => exact quiet hq
         | func f => exact quiet hq
         | global g => exact quiet hq
       | load t2 x => rw [s2 rfl]
       | _ => exact quiet hq
     have all : ∀ k, k ≤ l.length → evalLoad P ty (.ptr b off) ((st :: ss).getD k default) = evalLoad P ty (.ptr b off) st := by
       intro k
       induction k with
       | zero => intro _; rfl
       | succ k ih => intro hk; rw [step k (by omega), ih (by omega)]
     have hil : i < l.length := (List.getElem?_eq_some_iff.1 he).1
     rw [he2] at hv ⊢
     subst hs
     rw [all i (by omega)] at hv
     rw [all k (by omega)]; exact hv
   · cases hE2
 · cases hE
end
end Go.Abs
end
section
set_option maxHeartbeats 8000000
set_option maxRecDepth 20000
namespace Go.Proofs.YtofbdmdigopaoaaGreatDoor
open Go.Abs
attribute [local irreducible] AW OX condQ GQ bodyQ RoundsA thenQ blockQ Acalls
variable {G : World → Nat → Prop}
theorem zo79 : (zeroOf Tryz.prog 79).map ofConst = some (.agg [.d (.int .i64 0), .d (.int .i64 0)]) := by kernel_rfl
theorem cells_dagg (cs : List Abs.D) : (V.d (.agg cs)).cells = some (cs.map V.d) := rfl
attribute [go_sem] zo79 cells_dagg
theorem cut_drop (B : List Blk) (a b c d e : Blk) (K : List (Nat × Nat × Nat)) {N : Nat} (h : N = B.length + 4) : St.cut ⟨B ++ [a, b, c, d, e], K⟩ N K.length = ⟨B ++ [a, b, c, d], K⟩ := by
 subst h
 simp only [St.cut, List.take_length]
 rw [List.take_append, List.take_of_length_le (by omega), Nat.add_sub_cancel_left]
 rfl
theorem c_read1_n (B : List Blk) (K : List (Nat × Nat × Nat)) (es : List V) (v1 v2 : V) (X : Blk) :
   DCalls Tryz.prog G 48 [.ptr B.length 0, .ptr (B.length + 1) 0, .ptr (B.length + 2) 0] none ⟨B ++ [.cells es, .cells [v1], .cells [v2], X], K⟩ (fun o s => o = .ret (.tup []) ∧ s = ⟨B ++ [.cells es, .cells [v1], .cells [v2], X], K⟩) := by
 refine DCalls.body Tryz.func48 rfl Tryz.ntmps48 (by simp) rfl rfl rfl (by decide) ?_
 (try refine Wk.ow fun _ hqq => ?_); (repeat' (first | ((refine Wk.i ?_); simp -implicitDefEqProofs only [go_sem, seval, Option.getD_none]) | first | refine Wk.o ?_ | refine Wk.q (by assumption) ?_)); all_goals (repeat subst hqq)
 (try refine Wk.aw fun _ hqq => ?_); (repeat' (first | ((refine Wk.i ?_); simp -implicitDefEqProofs only [go_sem, seval]) | first | refine Wk.o ?_ | refine Wk.q (by assumption) ?_)); all_goals (repeat subst hqq)
 refine bodyQ_nrm (bodyQ_retM K.length (Nat.le_refl _) (s1 := ⟨B ++ [.cells es, .cells [v1], .cells [v2], X], K⟩) (cut_drop _ _ _ _ _ _ _ (by simp)) (fun _ _ h => .inl h) rfl rfl rfl ⟨rfl, rfl⟩)
theorem c_read1_p (B : List Blk) (K : List (Nat × Nat × Nat)) (es : List V) (hes : es.length = 10) (v1 v2 : V) (X : Blk) (j : Nat) (c : Int) :
   DCalls Tryz.prog G 48 [.ptr B.length 0, .ptr (B.length + 1) 0, .ptr (B.length + 2) 0] (some (panV j c)) ⟨B ++ [.cells es, .cells [v1], .cells [v2], X], K⟩ (fun o s => o = .ret (.tup []) ∧ s = ⟨B ++ [.cells zEn, .cells [vint j], .cells [vint c], X], K⟩) := by
 have hG : ∀ (m : List Blk) (k : Nat), (B ++ m)[B.length + k]? = m[k]? := fun m k => by rw [List.getElem?_append_right (by simp)]; simp
 have hG0 : ∀ (m : List Blk), (B ++ m)[B.length]? = m[0]? := fun m => by rw [List.getElem?_append_right (by simp)]; simp
 have hS : ∀ (y : Blk) (m : List Blk) (k : Nat), (B ++ m).set (B.length + k) y = B ++ m.set k y := fun y m k => by rw [List.set_append_right _ _ (by simp)]; simp
 have hS0 : ∀ (y : Blk) (m : List Blk), (B ++ m).set B.length y = B ++ m.set 0 y := fun y m => by rw [List.set_append_right _ _ (by simp)]; simp
 refine DCalls.body Tryz.func48 rfl Tryz.ntmps48 (by simp) rfl rfl rfl (by decide) ?_
 (try refine Wk.ow fun _ hqq => ?_); (repeat' (first | ((refine Wk.i ?_); simp -implicitDefEqProofs only [go_sem, seval, hG, hG0, hS, hS0, hes]) | first | refine Wk.o ?_ | refine Wk.q (by assumption) ?_)); all_goals (repeat subst hqq)
 (try refine Wk.aw fun _ hqq => ?_); (repeat' (first | ((refine Wk.atX 2 ?_); refine AW.regY (P := Tryz.prog) mx [(2, 7), (4, 8)] (by kernel_rfl) (by simp -implicitDefEqProofs only [go_sem, seval, hG, hG0, hS, hS0, hes]; first | done | exact rfl) ?_; refine OX.nil ?_; refine ⟨by simp [exB2, exP, exS, wrt, stQuiet, upd, List.zipIdx_cons, List.findIdx?_cons, entryFr] <;> omega, ?_⟩) | ((refine Wk.i ?_); simp -implicitDefEqProofs only [go_sem, seval, hG, hG0, hS, hS0, hes]) | refine Wk.q (by assumption) ?_)); all_goals (repeat subst hqq)
 rw [show List.drop 10 es = [] from List.drop_of_length_le (by omega)]
 refine bodyQ_nrm (bodyQ_retM K.length (Nat.le_refl _) (s1 := ⟨B ++ [.cells zEn, .cells [vint j], .cells [vint c], X], K⟩) (cut_drop _ _ _ _ _ _ _ (by simp)) ?_ rfl rfl rfl ⟨rfl, rfl⟩)
 intro i A h
 by_cases hlt : i < B.length
 · rw [List.getElem?_append_left hlt] at h ⊢; exact .inl h
 · rw [List.getElem?_append_right (by omega)] at h ⊢
   match hd : i - B.length with
   | 0 => rw [hd] at h; simp at h; subst h; exact .inr (by simp [Blk.within, V.within, V.within.all])
   | 1 => rw [hd] at h; simp at h; subst h; exact .inr (by simp [Blk.within, V.within, V.within.all])
   | 2 => rw [hd] at h; simp at h; subst h; exact .inr (by simp [Blk.within, V.within, V.within.all])
   | 3 => rw [hd] at h; simp at h; subst h; exact .inl (by simp)
   | d + 4 => rw [hd] at h; simp at h
end Go.Proofs.YtofbdmdigopaoaaGreatDoor
end
section
set_option maxHeartbeats 8000000
set_option maxRecDepth 20000
namespace Go.Proofs.YtofbdmdigopaoaaGreatDoor
open Go.Abs
attribute [local irreducible] AW OX condQ GQ bodyQ RoundsA thenQ blockQ Acalls
variable {G : World → Nat → Prop}
end Go.Proofs.YtofbdmdigopaoaaGreatDoor
end
section
set_option maxHeartbeats 8000000
set_option maxRecDepth 20000
namespace Go.Proofs.YtofbdmdigopaoaaGreatDoor
open Go.Abs
attribute [local irreducible] AW OX condQ GQ bodyQ RoundsA thenQ blockQ Acalls
variable {G : World → Nat → Prop}
end Go.Proofs.YtofbdmdigopaoaaGreatDoor
end
section
set_option maxHeartbeats 8000000
set_option maxRecDepth 20000
namespace Go.Proofs.YtofbdmdigopaoaaGreatDoor
open Go.Abs
attribute [local irreducible] AW OX condQ GQ bodyQ RoundsA thenQ blockQ Acalls
variable {G : World → Nat → Prop}
abbrev takeV (T : List Tk) : Res Ex → V
 | .ok e rest => .tup [vE e, vint ↑(T.length - rest.length), vint 0]
 | .err rest c => .tup [vE ex0, vint ↑(T.length - rest.length), vint c]
end Go.Proofs.YtofbdmdigopaoaaGreatDoor
end
