/- A step of the proofs of the seat's theorems. -/
import Derived.Test.YtofbdmdigopaoaaGreatDoorQ14
import Derived.Test.YtofbdmdigopaoaaGreatDoorQ20
import Derived.Test.YtofbdmdigopaoaaGreatDoorQ21
import Derived.Test.YtofbdmdigopaoaaGreatDoorQ24
set_option linter.unusedSimpArgs false
set_option linter.unusedVariables false
section
set_option maxHeartbeats 8000000
set_option maxRecDepth 20000
namespace Go.Proofs.YtofbdmdigopaoaaGreatDoor
open Go.Abs
attribute [local irreducible] AW OX condQ GQ bodyQ RoundsA thenQ blockQ Acalls
variable {G : World → Nat → Prop}
abbrev chS (B : List Blk) (K : List (Nat × Nat × Nat)) (b : Nat) (T : List Tk) (x : Ex × Nat × Nat) : St := ⟨B.set b (rdB T x.2.1) ++ [.cells zE', .cells (x.1.enc.map .d)], K⟩
abbrev chG (B : List Blk) (b : Nat) (_ : Ex × Nat × Nat) : List (Nat × V) := [(0, .ptr b 0), (2, .ptr B.length 0), (3, .ptr (B.length + 1) 0)]
theorem chain_next {B : List Blk} {K : List (Nat × Nat × Nat)} {b : Nat} {T : List Tk} {p : Ex × Nat × Nat → Prop} {x x' : Ex × Nat × Nat} {fr : Fr} {cs : List V} {L : List Blk} {i : Nat} (hb : B[b]? = some (rdB T i))
   (slots : okF fr (chG B b x')) (ok : p x') (less : x'.2.2 < x.2.2) (hsh : shB (.cells cs) = .cells (x'.1.enc.map .d)) (hw : (Blk.cells cs).within (B.length + 2) K.length = true) :
   NxtTW ⟨B, K⟩ (chG B b) (chS B K b T) p (fun x => x.2.2) x fr ⟨B.set b (rdB T x'.2.1) ++ (.cells zE' :: .cells cs :: L), K⟩ x' := by
 have hbl := (List.getElem?_eq_some_iff.1 hb).1
 refine ⟨slots, ok, less, ⟨B.set b (rdB T x'.2.1) ++ [.cells zE', .cells cs], ?_, shO.app (shO.refl _) ?_, ?_⟩, by simp, by simp, ?_⟩
 · simp [St.cut, List.take_append]
   exact List.take_of_length_le (by simp)
 · simp only [List.map_cons, List.map_nil, hsh]
   rfl
 · intro b' B' h
   simp only [List.length_append, List.length_set, List.length_cons, List.length_nil, Nat.zero_add]
   by_cases hlt : b' < B.length
   · rw [List.getElem?_append_left (by simpa using hlt), List.getElem?_set] at h
     by_cases hbb : b = b'
     · subst hbb
       rw [if_pos rfl, if_pos hlt] at h
       cases h
       exact .inr (by simp [Blk.within, V.within, V.within.all])
     · rw [if_neg hbb] at h
       exact .inl h
   · rw [List.getElem?_append_right (by simpa using hlt), List.length_set] at h
     match hd : b' - B.length with
     | 0 => rw [hd] at h; simp at h; subst h; exact .inr (by simp [Blk.within, V.within, V.within.all])
     | 1 => rw [hd] at h; simp at h; subst h; exact .inr hw
     | d + 2 => rw [hd] at h; simp at h
 · simp [okW, V.within, hbl]
   omega
theorem r_chain (hg : GV G) {T : List Tk} {f : Nat} (hT : T.length ≤ 1048576) (hx : ∀ t ∈ T, t.text.length ≤ 1048576) (hf : ∀ g < f, RdIH G T g)
   (hat : ∀ i, i ≤ T.length → ∀ r, pF f .atom (T.drop i) = some r → RdP G T 174 [] i r) (i : Nat) (hi : i ≤ T.length) (r : Res Ex) (h : thenF (pF f .atom (T.drop i)) (fun e r2 => pF f (.chain e) r2) = some r) :
   RdP G T 152 [] i r := by
 intro B K b hb
 have hbl : b < B.length := (List.getElem?_eq_some_iff.1 hb).1
 have hs1 : ∀ m y, (B ++ m).set b y = B.set b y ++ m := fun m y => set_app hb
 have hs2 : ∀ z m y, (B.set b z ++ m).set b y = B.set b y ++ m := fun z m y => set_app2 hb
 have hg1 : ∀ m, (B ++ m)[b]? = some (rdB T i) := fun m => get_app hb
 have hg2 : ∀ z m, (B.set b z ++ m)[b]? = some z := fun z m => get_app (set_get hb)
 have hl : ∀ z, (B.set b z).length = B.length := fun z => List.length_set
 have hG : ∀ (z : Blk) (m : List Blk) (k : Nat), (B.set b z ++ m)[B.length + k]? = m[k]? := fun z m k => by rw [List.getElem?_append_right (by simp)]; simp
 have hG0 : ∀ (z : Blk) (m : List Blk), (B.set b z ++ m)[B.length]? = m[0]? := fun z m => by rw [List.getElem?_append_right (by simp)]; simp
 have hS : ∀ (z y : Blk) (m : List Blk) (k : Nat), (B.set b z ++ m).set (B.length + k) y = B.set b z ++ m.set k y := fun z y m k => by rw [List.set_append_right _ _ (by simp)]; simp
 have hS0 : ∀ (z y : Blk) (m : List Blk), (B.set b z ++ m).set B.length y = B.set b z ++ m.set 0 y := fun z y m => by rw [List.set_append_right _ _ (by simp)]; simp
 have len : ∀ j, j ≤ T.length → T.length - (T.drop j).length = j := fun j hj => by simp only [List.length_drop]; omega
 rcases h1 : pF f .atom (T.drop i) with _ | (⟨c, r1⟩ | ⟨r1, ec⟩)
 · rw [h1] at h; simp [thenF] at h
 · have c1 := hat i hi _ h1
   obtain ⟨j, hij, hj, d1, e1⟩ := pF_at h1 hi
   simp only [resRest] at d1 e1
   subst d1
   simp only [RdP, rdO, resRest, e1] at c1
   have c1' : ∀ m, Acalls Tryz.prog G 174 [.ptr b 0] ⟨B ++ m, K⟩ (fun o s => o = .ret (vE c) ∧ s = ⟨B.set b (rdB T j) ++ m, K⟩) := fun m => by have := c1 _ K b (hg1 m); simp only [hs1] at this; exact this
   rw [h1] at h
   simp only [thenF] at h
   refine Acalls.body Tryz.func152 rfl Tryz.ntmps152 (by simp) ?_
   (try refine Wk.aw fun _ hqq => ?_); (repeat' (first | ((first | refine Wk.hd ?_ | refine Wk.i ?_); simp -implicitDefEqProofs (disch := omega) only [go_sem, seval, hs1, hs2, hl, hG, hG0, hS, hS0]) | refine CQ_st (c1' _) ?_ | refine Wk.o ?_)); all_goals (repeat subst hqq)
   refine AW.loopTW (chG B b) (chS B K b T)
     (fun x => x.2.1 ≤ T.length ∧ x.2.2 ≤ f ∧ pF x.2.2 (.chain x.1) (T.drop x.2.1) = some r) (fun x => x.2.2) (c, j, f) rfl (shO.app (shO.refl _) (by simp -implicitDefEqProofs (disch := omega) only [go_sem, seval]; first | done | exact rfl)) (by simp -implicitDefEqProofs (disch := omega) only [go_sem, seval] <;> first | rfl | exact ⟨rfl, rfl⟩ | skip) ⟨hj, Nat.le_refl _, h⟩ ?_
   rintro ⟨e, k, g⟩ ⟨p1, p2, p3⟩
   simp only at p1 p2 p3
   obtain ⟨g, rfl⟩ : ∃ g', g = g' + 1 := by
     cases g with
     | zero => simp [pF] at p3
     | succ g => exact ⟨g, rfl⟩
   simp only [pF] at p3
   have at_ : ∀ s, opAt T k s = true → ∀ m, Acalls Tryz.prog G 81 [.ptr b 0, vs s] ⟨B.set b (rdB T k) ++ m, K⟩ (fun o s' => o = .ret (vb true) ∧ s' = ⟨B.set b (rdB T (k + 1)) ++ m, K⟩) := fun s hs m => by
     have := c_accept_t (G := G) hg ⟨B.set b (rdB T k) ++ m, K⟩ b k T hT hx (by omega) (hg2 _ m) s (by rw [isF_op]; exact hs)
     simp only [hs2] at this; exact this
   have af_ : ∀ s, opAt T k s = false → ∀ m, Acalls Tryz.prog G 81 [.ptr b 0, vs s] ⟨B.set b (rdB T k) ++ m, K⟩ (fun o s' => o = .ret (vb false) ∧ s' = ⟨B.set b (rdB T k) ++ m, K⟩) := fun s hs m =>
     c_accept_f (G := G) hg ⟨B.set b (rdB T k) ++ m, K⟩ b k T hT hx (by omega) (hg2 _ m) s (by rw [isF_op]; exact hs)
   cases hb1 : opAt T k [46]
   · have a1 := af_ _ hb1
     cases hb2 : opAt T k [91]
     · have a2 := af_ _ hb2
       have hr : r = .ok e (T.drop k) := by
         by_cases hk : k < T.length
         · rw [dropT hk] at p3
           simp only at p3
           rw [opAt_f hk hb1, if_neg Bool.false_ne_true, opAt_f hk hb2, if_neg Bool.false_ne_true, ← dropT hk] at p3
           simp only [Option.some.injEq] at p3
           exact p3.symm
         · rw [dropT_nil hk] at p3
           simp only [Option.some.injEq] at p3
           rw [← p3, dropT_nil hk]
       subst hr
       simp only [rdO, resRest, len k p1]
       (try refine Wk.aw fun _ hqq => ?_); (repeat' (first | ((first | refine Wk.hd ?_ | refine Wk.i ?_); simp -implicitDefEqProofs (disch := omega) only [go_sem, seval, hs1, hs2, hl, hG, hG0, hS, hS0]) | refine CQ_ok ((by first | exact a1 _ | exact a2 _)) ?_ | first | refine Wk.o ?_ | refine Wk.q (by assumption) ?_)); all_goals (repeat subst hqq)
       refine bodyQ_retM (v := vE e) K.length (Nat.le_refl _) (s1 := ⟨B.set b (rdB T k), K⟩) (by simp [St.cut]) (set_old ?_) (by simp -implicitDefEqProofs (disch := omega) only [go_sem, seval, resOf_tmp, resOf_cell, Tryz.results152, hG, hG0]; first | done | exact rfl) (by simp -implicitDefEqProofs (disch := omega) only [go_sem, seval, resV]; first | done | exact rfl) (by simp -implicitDefEqProofs (disch := omega) only [go_sem, seval]; first | done | exact rfl) ⟨rfl, rfl⟩
       simp [Blk.within, V.within, V.within.all]
     · have a2 := at_ _ hb2
       have hk := opAt_lt hb2
       rw [dropT hk] at p3
       simp only at p3
       rw [opAt_f hk hb1, if_neg Bool.false_ne_true, opAt_t hb2, if_pos rfl] at p3
       rcases h2 : pF g .cond (T.drop (k + 1)) with _ | (⟨x, r2⟩ | ⟨r2, e2⟩)
       · rw [h2] at p3; simp [thenF] at p3
       · have c2 := (hf g (by omega)).cond (k + 1) (by omega) _ h2
         obtain ⟨m, hkm, hm, d2, e2⟩ := pF_at h2 (by omega)
         simp only [resRest] at d2 e2
         subst d2
         simp only [RdP, rdO, resRest, e2] at c2
         have c2' : ∀ m', Acalls Tryz.prog G 49 [.ptr b 0] ⟨B.set b (rdB T (k + 1)) ++ m', K⟩ (fun o s => o = .ret (vE x) ∧ s = ⟨B.set b (rdB T m) ++ m', K⟩) := fun m' => by have := c2 _ K b (hg2 _ m'); simp only [hs2] at this; exact this
         rw [h2] at p3
         simp only [thenF] at p3
         rw [expectF_at] at p3
         cases hb3 : opAt T m [93]
         · rw [hb3] at p3
           rw [if_neg Bool.false_ne_true] at p3
           simp only [Option.some.injEq] at p3
           subst p3
           have hx2 := fun m' => c_expect_f (G := G) hg ⟨B.set b (rdB T m) ++ m', K⟩ b m T hT hx (by omega) (by exact hg2 _ _) [93] (by rw [isF_op]; exact hb3)
           simp only [rdO, resRest, len m hm]
           (try refine Wk.aw fun _ hqq => ?_); (repeat' (first | ((first | refine Wk.hd ?_ | refine Wk.i ?_); simp -implicitDefEqProofs (disch := omega) only [go_sem, seval, hs1, hs2, hl, hG, hG0, hS, hS0]) | refine CQ_ok (a1 _) ?_ | refine CQ_st (a2 _) ?_ | refine CQ_st (c2' _) ?_ | refine CQ_pan (hx2 _) ?_ | first | refine Wk.o ?_ | refine Wk.q (by assumption) ?_)); all_goals (repeat subst hqq)
           refine bodyQ_panS (s1 := ⟨B.set b (rdB T m), K⟩) (by simp [St.cut]) (set_old ?_) rfl ⟨rfl, rfl⟩
           simp [Blk.within, V.within, V.within.all]
         · have hml := opAt_lt hb3
           rw [hb3] at p3
           rw [if_pos rfl] at p3
           have hx2' : ∀ m', Acalls Tryz.prog G 82 [.ptr b 0, vs [93]] ⟨B.set b (rdB T m) ++ m', K⟩ (fun o s' => o = .ret (.tup []) ∧ s' = ⟨B.set b (rdB T (m + 1)) ++ m', K⟩) := fun m' => by
             have := c_expect_t (G := G) hg ⟨B.set b (rdB T m) ++ m', K⟩ b m T hT hx (by omega) (by exact hg2 _ _) [93] (by rw [isF_op]; exact hb3)
             simp only [hs2] at this; exact this
           (try refine Wk.aw fun _ hqq => ?_); (repeat' (first | ((first | refine Wk.hd ?_ | refine Wk.i ?_); simp -implicitDefEqProofs (disch := omega) only [go_sem, seval, hs1, hs2, hl, hG, hG0, hS, hS0]) | refine CQ_ok (a1 _) ?_ | refine CQ_st (a2 _) ?_ | refine CQ_st (c2' _) ?_ | refine CQ_st (hx2' _) ?_ | first | refine Wk.o ?_ | refine Wk.q (by assumption) ?_)); all_goals (repeat subst hqq)
           refine ⟨(Ex.mk 4 [] val0 [e, x] [], m + 1, g), ?_⟩
           refine chain_next (x' := (Ex.mk 4 [] val0 [e, x] [], m + 1, g)) hb ?_ ?_ ?_ ?_ ?_
           · simp -implicitDefEqProofs (disch := omega) only [go_sem, seval] <;> first | rfl | exact ⟨rfl, rfl⟩ | skip
           · exact ⟨by simp only; omega, by simp only; omega, p3⟩
           · simp only; omega
           · rfl
           · simp [Blk.within, V.within, V.within.all]
       · have c2 := (hf g (by omega)).cond (k + 1) (by omega) _ h2
         have he := pF_err h2
         rw [h2] at p3
         simp only [thenF, Option.some.injEq] at p3
         subst p3
         simp only [RdP, rdO, resRest] at c2
         have c2' : ∀ m', Acalls Tryz.prog G 49 [.ptr b 0] ⟨B.set b (rdB T (k + 1)) ++ m', K⟩ (fun o s => o = .pan (panV (T.length - r2.length) e2) ∧ s = ⟨B.set b (rdB T (T.length - r2.length)) ++ m', K⟩) := fun m' => by have := c2 _ K b (hg2 _ m'); simp only [hs2] at this; exact this
         simp only [rdO, resRest]
         (try refine Wk.aw fun _ hqq => ?_); (repeat' (first | ((first | refine Wk.hd ?_ | refine Wk.i ?_); simp -implicitDefEqProofs (disch := omega) only [go_sem, seval, hs1, hs2, hl, hG, hG0, hS, hS0]) | refine CQ_ok (a1 _) ?_ | refine CQ_st (a2 _) ?_ | refine CQ_pan (c2' _) ?_ | first | refine Wk.o ?_ | refine Wk.q (by assumption) ?_)); all_goals (repeat subst hqq)
         refine bodyQ_panS (s1 := ⟨B.set b (rdB T (T.length - r2.length)), K⟩) (by simp [St.cut]) (set_old ?_) rfl ⟨rfl, rfl⟩
         simp [Blk.within, V.within, V.within.all]
   · have a1 := at_ _ hb1
     have hk := opAt_lt hb1
     rw [dropT hk] at p3
     simp only at p3
     rw [opAt_t hb1, if_pos rfl] at p3
     cases hne : needF T (k + 1) with
     | error ee =>
       have hn := fun m => c_need_err (G := G) hg ⟨B.set b (rdB T (k + 1)) ++ m, K⟩ b (k + 1) T hT hx (by omega) (hg2 _ m) ee hne
       have hee := needF_err hne
       have hr : r = .err (T.drop (k + 1)) ee := by
         rw [hee, missAt]
         by_cases hk2 : k + 1 < T.length
         · rw [dropT hk2] at p3
           simp only at p3
           have hnp : ¬ ((T.getD (k + 1) default).kind = 1 ∧ isPlain (T.getD (k + 1) default).text = true) := by
             rintro ⟨q1, q2⟩
             rw [isPlain, Bool.and_eq_true] at q2
             have hrl : realT (T.getD (k + 1) default) = true := by rw [realT, if_pos q1]; exact q2.1
             rw [needF, if_neg (by omega), peekF, if_pos hk2, if_pos hrl, if_neg (by omega)] at hne
             cases hne
           rw [if_neg hnp, ← dropT hk2, Option.some.injEq] at p3
           rw [if_neg (by omega)]; exact p3.symm
         · rw [dropT_nil hk2, Option.some.injEq] at p3
           rw [if_pos (by omega), dropT_nil hk2]; exact p3.symm
       subst hr
       have hkl : k + 1 ≤ T.length := by omega
       simp only [rdO, resRest, len (k + 1) hkl]
       (try refine Wk.aw fun _ hqq => ?_); (repeat' (first | ((first | refine Wk.hd ?_ | refine Wk.i ?_); simp -implicitDefEqProofs (disch := omega) only [go_sem, seval, hs1, hs2, hl, hG, hG0, hS, hS0]) | refine CQ_st (a1 _) ?_ | refine CQ_pan (hn _) ?_ | first | refine Wk.o ?_ | refine Wk.q (by assumption) ?_)); all_goals (repeat subst hqq)
       refine bodyQ_panS (s1 := ⟨B.set b (rdB T (k + 1)), K⟩) (by simp [St.cut]) (set_old ?_) rfl ⟨rfl, rfl⟩
       simp [Blk.within, V.within, V.within.all]
     | ok u =>
       have hk2 := needF_lt hne
       have hn := fun m => c_need_ok (G := G) hg ⟨B.set b (rdB T (k + 1)) ++ m, K⟩ b (k + 1) T hT hx (by omega) (hg2 _ m) u hne
       rw [dropT hk2] at p3
       simp only at p3
       have hu : u = T.getD (k + 1) default ∧ realT u = true := by
         rw [needF, if_neg (by omega), peekF, if_pos hk2] at hne
         by_cases hrl : realT (T.getD (k + 1) default) = true
         · rw [if_pos hrl] at hne
           split at hne
           · cases hne
           · cases hne; exact ⟨rfl, hrl⟩
         · rw [if_neg hrl, if_pos (show tk0.kind = 0 from rfl)] at hne
           cases hne
       obtain ⟨hu1, hu2⟩ := hu
       rw [← hu1] at p3
       have hww := c_par_word (G := G) u.text
       have hfl := fun m => c_fail (G := G) ⟨B.set b (rdB T (k + 1)) ++ m, K⟩ b (k + 1) T 5 (hg2 _ m)
       have hwe : (decide (u.text = sTrue) || decide (u.text = sFalse) || decide (u.text = sNull)) = isWord u.text := by
         rw [Bool.eq_iff_iff]; simp only [isWord, Bool.or_eq_true, decide_eq_true_eq, or_assoc]; exact Iff.rfl
       rw [hwe] at hww
       by_cases hq : u.kind = 1 ∧ isWord u.text = false
       · obtain ⟨q1, q2⟩ := hq
         have hpl : isPlain u.text = true := by
           rw [realT, if_pos q1] at hu2
           rw [isPlain, hu2, q2]; rfl
         rw [if_pos ⟨q1, hpl⟩] at p3
         rw [q2] at hww
         (try refine Wk.aw fun _ hqq => ?_); (repeat' (first | ((first | refine Wk.hd ?_ | refine Wk.i ?_); simp -implicitDefEqProofs (disch := omega) only [go_sem, seval, hs1, hs2, hl, hG, hG0, hS, hS0, hg2, q1]) | refine CQ_st (a1 _) ?_ | refine CQ_ok (hn _) ?_ | refine CQ_ok (hww _) ?_ | first | refine Wk.o ?_ | refine Wk.q (by assumption) ?_)); all_goals (repeat subst hqq)
         all_goals first | (exfalso; omega) | skip
         refine ⟨(Ex.mk 3 u.text val0 [e] [], k + 1 + 1, g), ?_⟩
         refine chain_next (x' := (Ex.mk 3 u.text val0 [e] [], k + 1 + 1, g)) hb ?_ ?_ ?_ ?_ ?_
         · simp -implicitDefEqProofs (disch := omega) only [go_sem, seval] <;> first | rfl | exact ⟨rfl, rfl⟩ | skip
         · exact ⟨by simp only; omega, by simp only; omega, p3⟩
         · simp only; omega
         · rfl
         · simp [Blk.within, V.within, V.within.all]
       · have hnp : ¬ (u.kind = 1 ∧ isPlain u.text = true) := by
           rintro ⟨q1, q2⟩
           rw [isPlain, Bool.and_eq_true] at q2
           exact hq ⟨q1, by simpa using q2.2⟩
         rw [if_neg hnp, hu1, ← dropT hk2, Option.some.injEq] at p3
         subst p3
         simp only [rdO, resRest, len (k + 1) (by omega)]
         by_cases q1 : u.kind = 1
         · have q2 : isWord u.text = true := by
             rw [← Bool.not_eq_false]; exact fun h => hq ⟨q1, h⟩
           rw [q2] at hww
           (try refine Wk.aw fun _ hqq => ?_); (repeat' (first | ((first | refine Wk.hd ?_ | refine Wk.i ?_); simp -implicitDefEqProofs (disch := omega) only [go_sem, seval, hs1, hs2, hl, hG, hG0, hS, hS0, hg2, q1]) | refine CQ_st (a1 _) ?_ | refine CQ_ok (hn _) ?_ | refine CQ_ok (hww _) ?_ | refine CQ_pan (hfl _) ?_ | first | refine Wk.o ?_ | refine Wk.q (by assumption) ?_)); all_goals (repeat subst hqq)
           refine bodyQ_panS (s1 := ⟨B.set b (rdB T (k + 1)), K⟩) (by simp [St.cut]) (set_old ?_) rfl ⟨rfl, rfl⟩
           simp [Blk.within, V.within, V.within.all]
         · (try refine Wk.aw fun _ hqq => ?_); (repeat' (first | ((first | refine Wk.hd ?_ | refine Wk.i ?_); simp -implicitDefEqProofs (disch := omega) only [go_sem, seval, hs1, hs2, hl, hG, hG0, hS, hS0, hg2]) | (refine TQ_s (fun hc => ?_) (fun hc => ?_) <;> try omega) | refine CQ_st (a1 _) ?_ | refine CQ_ok (hn _) ?_ | refine CQ_pan (hfl _) ?_ | first | refine Wk.o ?_ | refine Wk.q (by assumption) ?_)); all_goals (repeat subst hqq)
           refine bodyQ_panS (s1 := ⟨B.set b (rdB T (k + 1)), K⟩) (by simp [St.cut]) (set_old ?_) rfl ⟨rfl, rfl⟩
           simp [Blk.within, V.within, V.within.all]
 · have c1 := hat i hi _ h1
   rw [h1] at h
   simp only [thenF, Option.some.injEq] at h
   subst h
   simp only [RdP, rdO, resRest] at c1
   have c1' : ∀ m, Acalls Tryz.prog G 174 [.ptr b 0] ⟨B ++ m, K⟩ (fun o s => o = .pan (panV (T.length - r1.length) ec) ∧ s = ⟨B.set b (rdB T (T.length - r1.length)) ++ m, K⟩) := fun m => by have := c1 _ K b (hg1 m); simp only [hs1] at this; exact this
   simp only [rdO, resRest]
   refine Acalls.body Tryz.func152 rfl Tryz.ntmps152 (by simp) ?_
   (try refine Wk.aw fun _ hqq => ?_); (repeat' (first | ((first | refine Wk.hd ?_ | refine Wk.i ?_); simp -implicitDefEqProofs (disch := omega) only [go_sem, seval, hs1, hs2, hl, hG, hG0, hS, hS0]) | refine CQ_pan (c1' _) ?_ | first | refine Wk.o ?_ | refine Wk.q (by assumption) ?_)); all_goals (repeat subst hqq)
   refine bodyQ_panS (s1 := ⟨B.set b (rdB T (T.length - r1.length)), K⟩) (by simp [St.cut]) (set_old ?_) rfl ⟨rfl, rfl⟩
   simp [Blk.within, V.within, V.within.all]
end Go.Proofs.YtofbdmdigopaoaaGreatDoor
end
section
set_option maxHeartbeats 8000000
set_option maxRecDepth 20000
namespace Go.Proofs.YtofbdmdigopaoaaGreatDoor
open Go.Abs
attribute [local irreducible] AW OX condQ GQ bodyQ RoundsA thenQ blockQ Acalls
variable {G : World → Nat → Prop}
theorem r_args (hg : GV G) {T : List Tk} {f : Nat} (hT : T.length ≤ 1048576) (hx : ∀ t ∈ T, t.text.length ≤ 1048576) (hf : ∀ g ≤ f, RdIH G T g) (s : Str) (hs : s ≠ [44]) (i : Nat) (hi : i ≤ T.length) (r : Res Ex) (h : pF (f + 1) (.args s) (T.drop i) = some r) :
   RdA G T 190 [vs s] i r := by
 intro B K b hb
 have hbl : b < B.length := (List.getElem?_eq_some_iff.1 hb).1
 have hss : ∀ z y, (B.set b z).set b y = B.set b y := fun z y => List.set_set ..
 have hg2 : ∀ z, (B.set b z)[b]? = some z := fun z => set_get hb
 have len : ∀ j, j ≤ T.length → T.length - (T.drop j).length = j := fun j hj => by simp only [List.length_drop]; omega
 simp only [pF] at h
 cases hb1 : opAt T i s
 · have a1 := c_accept_f (G := G) hg ⟨B, K⟩ b i T hT hx (by omega) hb s (by rw [isF_op]; exact hb1)
   have h' : pF f (.items s []) (T.drop i) = some r := by
     by_cases hil : i < T.length
     · rw [dropT hil] at h ⊢
       simp only [opAt_f hil hb1, Bool.false_eq_true, if_false] at h
       exact h
     · rw [dropT_nil hil] at h ⊢; exact h
   refine Acalls.body Tryz.func190 rfl Tryz.ntmps190 (by simp) ?_
   (try with_reducible refine Wk.aw fun _ hqq => ?_); (repeat' (first | ((with_reducible first | refine Wk.hd ?_ | refine Wk.i ?_); simp -implicitDefEqProofs (disch := first | omega | (simp only [go_sem]; try omega)) only [go_sem, seval]) | refine CQ_ok (a1) ?_ | with_reducible refine Wk.o ?_)); all_goals (repeat subst hqq)
   refine AW.loopTW (fun x : List Ex × Nat × Nat => [(0, .ptr b 0), (1, vs s), (5, lz K.length (x.1.map Ex.enc))]) (fun x => ⟨B.set b (rdB T x.2.1), K ++ lzT 29 10 (x.1.map Ex.enc)⟩)
     (fun x => x.2.1 ≤ T.length ∧ x.1.length ≤ x.2.1 ∧ x.2.2 ≤ f ∧ pF x.2.2 (.items s x.1) (T.drop x.2.1) = some r) (fun x => x.2.2) ([], i, f) (M0 := B) (by simp [lzT]) (by rw [set_id hb]; exact shO.refl _) (by simp -implicitDefEqProofs (disch := first | omega | (simp only [go_sem]; try omega)) only [go_sem, seval] <;> first | rfl | exact ⟨rfl, rfl⟩ | skip) ⟨hi, by simp, Nat.le_refl _, h'⟩ ?_
   rintro ⟨acc, k, g⟩ ⟨p1, p2, p3, p4⟩
   simp only at p1 p2 p3 p4
   obtain ⟨g, rfl⟩ : ∃ g', g = g' + 1 := by
     cases g with
     | zero => simp [pF] at p4
     | succ g => exact ⟨g, rfl⟩
   simp only [pF] at p4
   rcases h2 : pF g .cond (T.drop k) with _ | (⟨x, r2⟩ | ⟨r2, e2⟩)
   · rw [h2] at p4; simp [thenF] at p4
   · have c2 := (hf g (by omega)).cond k p1 _ h2
     obtain ⟨m, hkm, hm, d2, e2⟩ := pF_at h2 p1
     simp only [resRest] at d2 e2
     subst d2
     rw [h2] at p4
     simp only [thenF] at p4
     simp only [RdP, rdO, resRest, e2] at c2
     have c2' : ∀ K', Acalls Tryz.prog G 49 [.ptr b 0] ⟨B.set b (rdB T k), K'⟩ (fun o s => o = .ret (vE x) ∧ s = ⟨B.set b (rdB T m), K'⟩) := fun K' => by have := c2 _ K' b (hg2 _); simp only [hss] at this; exact this
     cases hb2 : opAt T m [44]
     · have a2 := fun K' => c_accept_f (G := G) hg ⟨B.set b (rdB T m), K'⟩ b m T hT hx (by omega) (hg2 _) [44] (by rw [isF_op]; exact hb2)
       cases hb3 : opAt T m s
       · have hx2 := fun K' => c_expect_f (G := G) hg ⟨B.set b (rdB T m), K'⟩ b m T hT hx (by omega) (hg2 _) s (by rw [isF_op]; exact hb3)
         have hr : r = .err (T.drop m) (missAt T m) := by
           by_cases hml : m < T.length
           · rw [dropT hml] at p4
             simp only [opAt_f hml hb3, opAt_f hml hb2, Bool.false_eq_true, if_false, Option.some.injEq] at p4
             rw [← p4, missAt, if_neg (by omega), dropT hml]
           · rw [dropT_nil hml] at p4
             simp only [Option.some.injEq] at p4
             rw [← p4, missAt, if_pos (by omega), dropT_nil hml]
         subst hr
         simp only [rdA, resRest, len m hm]
         (try with_reducible refine Wk.aw fun _ hqq => ?_); (repeat' (first | ((with_reducible first | refine Wk.hd ?_ | refine Wk.i ?_); simp -implicitDefEqProofs (disch := first | omega | (simp only [go_sem]; try omega)) only [go_sem, seval, hss]) | refine CQ_st (c2' _) ?_ | refine CQ_ok (a2 _) ?_ | refine CQ_pan (hx2 _) ?_ | with_reducible first | refine Wk.o ?_ | refine Wk.q (by assumption) ?_)); all_goals (repeat subst hqq)
         refine bodyQ_panS (s1 := ⟨B.set b (rdB T m), K⟩) (by simp [St.cut]; exact List.take_of_length_le (by simp)) (set_old ?_) rfl ⟨rfl, rfl⟩
         simp [Blk.within, V.within, V.within.all]
       · have hml := opAt_lt hb3
         rw [dropT hml] at p4
         simp only [opAt_t hb3, if_true, Option.some.injEq] at p4
         subst p4
         have hx2 : ∀ K', Acalls Tryz.prog G 82 [.ptr b 0, vs s] ⟨B.set b (rdB T m), K'⟩ (fun o s' => o = .ret (.tup []) ∧ s' = ⟨B.set b (rdB T (m + 1)), K'⟩) := fun K' => by
           have := c_expect_t (G := G) hg ⟨B.set b (rdB T m), K'⟩ b m T hT hx (by omega) (hg2 _) s (by rw [isF_op]; exact hb3)
           simp only [hss] at this; exact this
         simp only [rdA, resRest, len (m + 1) (by omega)]
         (try with_reducible refine Wk.aw fun _ hqq => ?_); (repeat' (first | ((with_reducible first | refine Wk.hd ?_ | refine Wk.i ?_); simp -implicitDefEqProofs (disch := first | omega | (simp only [go_sem]; try omega)) only [go_sem, seval, hss]) | refine CQ_st (c2' _) ?_ | refine CQ_ok (a2 _) ?_ | refine CQ_st (hx2 _) ?_ | with_reducible first | refine Wk.o ?_ | refine Wk.q (by assumption) ?_)); all_goals (repeat subst hqq)
         refine bodyQ_retM (v := .d (.sl (acc.map Ex.enc ++ [x.enc]))) K.length (Nat.le_refl _) (s1 := ⟨B.set b (rdB T (m + 1)), K⟩) (by simp [St.cut]; exact List.take_of_length_le (by simp)) (set_old ?_) (by simp -implicitDefEqProofs (disch := first | omega | (simp only [go_sem]; try omega)) only [go_sem, seval, resOf_tmp, resOf_cell, Tryz.results190]; first | done | exact rfl) (by simp -implicitDefEqProofs (disch := first | omega | (simp only [go_sem]; try omega)) only [go_sem, seval, resV]; first | done | exact rfl) (by simp -implicitDefEqProofs (disch := first | omega | (simp only [go_sem]; try omega)) only [go_sem, seval]; first | done | exact rfl) ⟨by simp [Ex.args], rfl⟩
         simp [Blk.within, V.within, V.within.all]
     · have hml := opAt_lt hb2
       have hb3 : isOpT s (T.getD m default) = false := by
         rw [Bool.eq_false_iff]; intro hh
         simp only [isOpT, Bool.and_eq_true, decide_eq_true_eq] at hh
         exact hs (by rw [← hh.2, opAt_text hb2])
       have a2 : ∀ K', Acalls Tryz.prog G 81 [.ptr b 0, vs [44]] ⟨B.set b (rdB T m), K'⟩ (fun o s' => o = .ret (vb true) ∧ s' = ⟨B.set b (rdB T (m + 1)), K'⟩) := fun K' => by
         have := c_accept_t (G := G) hg ⟨B.set b (rdB T m), K'⟩ b m T hT hx (by omega) (hg2 _) [44] (by rw [isF_op]; exact hb2)
         simp only [hss] at this; exact this
       rw [dropT hml] at p4
       simp only [hb3, opAt_t hb2, Bool.false_eq_true, if_false, if_true] at p4
       (try with_reducible refine Wk.aw fun _ hqq => ?_); (repeat' (first | ((with_reducible first | refine Wk.hd ?_ | refine Wk.i ?_); simp -implicitDefEqProofs (disch := first | omega | (simp only [go_sem]; try omega)) only [go_sem, seval, hss]) | refine CQ_st (c2' _) ?_ | refine CQ_st (a2 _) ?_ | with_reducible first | refine Wk.o ?_ | refine Wk.q (by assumption) ?_)); all_goals (repeat subst hqq)
       refine ⟨(acc ++ [x], m + 1, g), ⟨?_, ?_, ?_, ⟨B.set b (rdB T (m + 1)), ?_, shO.refl _, set_old ?_⟩, ?_, ?_, ?_⟩⟩
       · simp -implicitDefEqProofs (disch := first | omega | (simp only [go_sem]; try omega)) only [go_sem, seval, List.map_append] <;> first | rfl | exact ⟨rfl, rfl⟩ | skip
       · exact ⟨by simp only; omega, by simp only [List.length_append, List.length_singleton]; omega, by simp only; omega, p4⟩
       · simp only; omega
       · simp [St.cut]
         exact ⟨List.take_of_length_le (by simp), List.take_of_length_le (by simp)⟩
       · simp [Blk.within, V.within, V.within.all]
       · simp
       · simp
       · simp [okW, lz_within]
         all_goals first | omega | simp [V.within, hbl] | skip
   · have c2 := (hf g (by omega)).cond k p1 _ h2
     rw [h2] at p4
     simp only [thenF, Option.some.injEq] at p4
     subst p4
     simp only [RdP, rdO, resRest] at c2
     have c2' : ∀ K', Acalls Tryz.prog G 49 [.ptr b 0] ⟨B.set b (rdB T k), K'⟩ (fun o s => o = .pan (panV (T.length - r2.length) e2) ∧ s = ⟨B.set b (rdB T (T.length - r2.length)), K'⟩) := fun K' => by have := c2 _ K' b (hg2 _); simp only [hss] at this; exact this
     simp only [rdA, resRest]
     (try with_reducible refine Wk.aw fun _ hqq => ?_); (repeat' (first | ((with_reducible first | refine Wk.hd ?_ | refine Wk.i ?_); simp -implicitDefEqProofs (disch := first | omega | (simp only [go_sem]; try omega)) only [go_sem, seval, hss]) | refine CQ_pan (c2' _) ?_ | with_reducible first | refine Wk.o ?_ | refine Wk.q (by assumption) ?_)); all_goals (repeat subst hqq)
     refine bodyQ_panS (s1 := ⟨B.set b (rdB T (T.length - r2.length)), K⟩) (by simp [St.cut]; exact List.take_of_length_le (by simp)) (set_old ?_) rfl ⟨rfl, rfl⟩
     simp [Blk.within, V.within, V.within.all]
 · have hil := opAt_lt hb1
   have a1 := c_accept_t (G := G) hg ⟨B, K⟩ b i T hT hx (by omega) hb s (by rw [isF_op]; exact hb1)
   rw [dropT hil] at h
   simp only [opAt_t hb1, if_true, Option.some.injEq] at h
   subst h
   simp only [rdA, resRest, len (i + 1) (by omega)]
   refine Acalls.body Tryz.func190 rfl Tryz.ntmps190 (by simp) ?_
   (try with_reducible refine Wk.aw fun _ hqq => ?_); (repeat' (first | ((with_reducible first | refine Wk.hd ?_ | refine Wk.i ?_); simp -implicitDefEqProofs (disch := first | omega | (simp only [go_sem]; try omega)) only [go_sem, seval]) | refine CQ_st (a1) ?_ | with_reducible first | refine Wk.o ?_ | refine Wk.q (by assumption) ?_)); all_goals (repeat subst hqq)
   refine bodyQ_retM (v := .d (.sl [])) K.length (Nat.le_refl _) (s1 := ⟨B.set b (rdB T (i + 1)), K⟩) (by simp [St.cut]; exact List.take_of_length_le (by simp)) (set_old ?_) (by simp -implicitDefEqProofs (disch := first | omega | (simp only [go_sem]; try omega)) only [go_sem, seval, resOf_tmp, resOf_cell, Tryz.results190]; first | done | exact rfl) (by simp -implicitDefEqProofs (disch := first | omega | (simp only [go_sem]; try omega)) only [go_sem, seval, resV]; first | done | exact rfl) (by simp -implicitDefEqProofs (disch := first | omega | (simp only [go_sem]; try omega)) only [go_sem, seval]; first | done | exact rfl) ⟨rfl, rfl⟩
   simp [Blk.within, V.within, V.within.all]
end Go.Proofs.YtofbdmdigopaoaaGreatDoor
end
section
set_option maxHeartbeats 8000000
set_option maxRecDepth 20000
namespace Go.Proofs.YtofbdmdigopaoaaGreatDoor
open Go.Abs
attribute [local irreducible] AW OX condQ GQ bodyQ RoundsA thenQ blockQ Acalls
variable {G : World → Nat → Prop}
abbrev opG (B : List Blk) (b n : Nat) (_ : Ex × Nat × Nat) : List (Nat × V) := [(0, .ptr b 0), (1, vint ↑n), (4, .ptr B.length 0), (5, .ptr (B.length + 1) 0)]
theorem rd_next {σ : Ex × Nat × Nat → List (Nat × V)} {B : List Blk} {K : List (Nat × Nat × Nat)} {b : Nat} {T : List Tk} {p : Ex × Nat × Nat → Prop} {x x' : Ex × Nat × Nat} {fr : Fr} {cs : List V} {L : List Blk} {i : Nat} (hb : B[b]? = some (rdB T i))
   (slots : okF fr (σ x')) (ok : p x') (less : x'.2.2 < x.2.2) (hsh : shB (.cells cs) = .cells (x'.1.enc.map .d)) (hw : (Blk.cells cs).within (B.length + 2) K.length = true) (hσ : okW (B.length + 2) K.length (σ x') = true) :
   NxtTW ⟨B, K⟩ σ (chS B K b T) p (fun x => x.2.2) x fr ⟨B.set b (rdB T x'.2.1) ++ (.cells zE' :: .cells cs :: L), K⟩ x' := by
 have hbl := (List.getElem?_eq_some_iff.1 hb).1
 refine ⟨slots, ok, less, ⟨B.set b (rdB T x'.2.1) ++ [.cells zE', .cells cs], ?_, shO.app (shO.refl _) ?_, ?_⟩, by simp, by simp, ?_⟩
 · simp [St.cut, List.take_append]
   exact List.take_of_length_le (by simp)
 · simp only [List.map_cons, List.map_nil, hsh]
   rfl
 · intro b' B' h
   simp only [List.length_append, List.length_set, List.length_cons, List.length_nil, Nat.zero_add]
   by_cases hlt : b' < B.length
   · rw [List.getElem?_append_left (by simpa using hlt), List.getElem?_set] at h
     by_cases hbb : b = b'
     · subst hbb
       rw [if_pos rfl, if_pos hlt] at h
       cases h
       exact .inr (by simp [Blk.within, V.within, V.within.all])
     · rw [if_neg hbb] at h
       exact .inl h
   · rw [List.getElem?_append_right (by simpa using hlt), List.length_set] at h
     match hd : b' - B.length with
     | 0 => rw [hd] at h; simp at h; subst h; exact .inr (by simp [Blk.within, V.within, V.within.all])
     | 1 => rw [hd] at h; simp at h; subst h; exact .inr hw
     | d + 2 => rw [hd] at h; simp at h
 · simpa using hσ
theorem peek_op {T : List Tk} {k : Nat} (h : (peekF T k).kind = 4) : k < T.length ∧ peekF T k = T.getD k default := by
 rw [peekF] at h ⊢
 by_cases hk : k < T.length
 · rw [if_pos hk] at h ⊢
   by_cases hr : realT (T.getD k default) = true
   · rw [if_pos hr]; exact ⟨hk, rfl⟩
   · rw [if_neg hr] at h; exact absurd h (by decide)
 · rw [if_neg hk] at h; exact absurd h (by decide)
theorem peek_nop {T : List Tk} {k : Nat} (hk : k < T.length) (h : ¬ (peekF T k).kind = 4) : ¬ (T.getD k default).kind = 4 := by
 intro h4
 have hr : realT (T.getD k default) = true := by rw [realT, if_neg (by omega), if_neg (by omega), if_neg (by omega), decide_eq_true h4]
 rw [peekF, if_pos hk, if_pos hr] at h
 exact h h4
theorem r_op (hg : GV G) {T : List Tk} {f : Nat} (hT : T.length ≤ 1048576) (hx : ∀ t ∈ T, t.text.length ≤ 1048576) (hf : ∀ g ≤ f, RdIH G T g) (n : Nat) (hn1 : 1 ≤ n) (hn7 : n ≤ 7) (i : Nat) (hi : i ≤ T.length) (r : Res Ex) (h : pF (f + 1) (.op n) (T.drop i) = some r) :
   RdP G T 80 [vint ↑n] i r := by
 intro B K b hb
 have hbl : b < B.length := (List.getElem?_eq_some_iff.1 hb).1
 have hs1 : ∀ m y, (B ++ m).set b y = B.set b y ++ m := fun m y => set_app hb
 have hs2 : ∀ z m y, (B.set b z ++ m).set b y = B.set b y ++ m := fun z m y => set_app2 hb
 have hg1 : ∀ m, (B ++ m)[b]? = some (rdB T i) := fun m => get_app hb
 have hg2 : ∀ z m, (B.set b z ++ m)[b]? = some z := fun z m => get_app (set_get hb)
 have hl : ∀ z, (B.set b z).length = B.length := fun z => List.length_set
 have hG : ∀ (z : Blk) (m : List Blk) (k : Nat), (B.set b z ++ m)[B.length + k]? = m[k]? := fun z m k => by rw [List.getElem?_append_right (by simp)]; simp
 have hG0 : ∀ (z : Blk) (m : List Blk), (B.set b z ++ m)[B.length]? = m[0]? := fun z m => by rw [List.getElem?_append_right (by simp)]; simp
 have hS : ∀ (z y : Blk) (m : List Blk) (k : Nat), (B.set b z ++ m).set (B.length + k) y = B.set b z ++ m.set k y := fun z y m k => by rw [List.set_append_right _ _ (by simp)]; simp
 have hS0 : ∀ (z y : Blk) (m : List Blk), (B.set b z ++ m).set B.length y = B.set b z ++ m.set 0 y := fun z y m => by rw [List.set_append_right _ _ (by simp)]; simp
 have len : ∀ j, j ≤ T.length → T.length - (T.drop j).length = j := fun j hj => by simp only [List.length_drop]; omega
 simp only [pF] at h
 by_cases hn : n = 7
 · subst hn
   rw [if_pos rfl] at h
   have c1 := (hf f (Nat.le_refl _)).un i hi _ h
   cases r with
   | ok e rest =>
     simp only [RdP, rdO, resRest] at c1
     have c1' : ∀ m, Acalls Tryz.prog G 119 [.ptr b 0] ⟨B ++ m, K⟩ (fun o s => o = .ret (vE e) ∧ s = ⟨B.set b (rdB T (T.length - rest.length)) ++ m, K⟩) := fun m => by have := c1 _ K b (hg1 m); simp only [hs1] at this; exact this
     simp only [rdO, resRest]
     refine Acalls.body Tryz.func80 rfl Tryz.ntmps80 (by simp) ?_
     (try refine Wk.aw fun _ hqq => ?_); (repeat' (first | ((first | refine Wk.hd ?_ | refine Wk.i ?_); simp -implicitDefEqProofs (disch := omega) only [go_sem, seval, hs1, hs2, hl, hG, hG0, hS, hS0]) | refine CQ_st (c1' _) ?_ | first | refine Wk.o ?_ | refine Wk.q (by assumption) ?_)); all_goals (repeat subst hqq)
     refine bodyQ_retM (v := vE e) K.length (Nat.le_refl _) (s1 := ⟨B.set b (rdB T (T.length - rest.length)), K⟩) (by simp [St.cut]) (set_old ?_) (by simp -implicitDefEqProofs (disch := omega) only [go_sem, seval, resOf_tmp, resOf_cell, Tryz.results80, hG, hG0]; first | done | exact rfl) (by simp -implicitDefEqProofs (disch := omega) only [go_sem, seval, resV]; first | done | exact rfl) (by simp -implicitDefEqProofs (disch := omega) only [go_sem, seval]; first | done | exact rfl) ⟨rfl, rfl⟩
     simp [Blk.within, V.within, V.within.all]
   | err rest c =>
     simp only [RdP, rdO, resRest] at c1
     have c1' : ∀ m, Acalls Tryz.prog G 119 [.ptr b 0] ⟨B ++ m, K⟩ (fun o s => o = .pan (panV (T.length - rest.length) c) ∧ s = ⟨B.set b (rdB T (T.length - rest.length)) ++ m, K⟩) := fun m => by have := c1 _ K b (hg1 m); simp only [hs1] at this; exact this
     simp only [rdO, resRest]
     refine Acalls.body Tryz.func80 rfl Tryz.ntmps80 (by simp) ?_
     (try refine Wk.aw fun _ hqq => ?_); (repeat' (first | ((first | refine Wk.hd ?_ | refine Wk.i ?_); simp -implicitDefEqProofs (disch := omega) only [go_sem, seval, hs1, hs2, hl, hG, hG0, hS, hS0]) | refine CQ_pan (c1' _) ?_ | first | refine Wk.o ?_ | refine Wk.q (by assumption) ?_)); all_goals (repeat subst hqq)
     refine bodyQ_panS (s1 := ⟨B.set b (rdB T (T.length - rest.length)), K⟩) (by simp [St.cut]) (set_old ?_) rfl ⟨rfl, rfl⟩
     simp [Blk.within, V.within, V.within.all]
 · rw [if_neg hn] at h
   have hn7' : ¬ (n : Int) = 7 := by omega
   rcases h1 : pF f (.op (n + 1)) (T.drop i) with _ | (⟨c, r1⟩ | ⟨r1, ec⟩)
   · rw [h1] at h; simp [thenF] at h
   · have c1 := (hf f (Nat.le_refl _)).op (n + 1) (by omega) (by omega) i hi _ h1
     obtain ⟨j, hij, hj, d1, e1⟩ := pF_at h1 hi
     simp only [resRest] at d1 e1
     subst d1
     simp only [RdP, rdO, resRest, e1] at c1
     have c1' : ∀ m, Acalls Tryz.prog G 80 [.ptr b 0, vint ↑(n + 1)] ⟨B ++ m, K⟩ (fun o s => o = .ret (vE c) ∧ s = ⟨B.set b (rdB T j) ++ m, K⟩) := fun m => by have := c1 _ K b (hg1 m); simp only [hs1] at this; exact this
     rw [h1] at h
     simp only [thenF] at h
     refine Acalls.body Tryz.func80 rfl Tryz.ntmps80 (by simp) ?_
     (try refine Wk.aw fun _ hqq => ?_); (repeat' (first | ((first | refine Wk.hd ?_ | refine Wk.i ?_); simp -implicitDefEqProofs (disch := omega) only [go_sem, seval, hs1, hs2, hl, hG, hG0, hS, hS0]) | (refine TQ_s (fun hc => ?_) (fun hc => ?_) <;> try omega) | refine CQ_st (c1' _) ?_ | refine Wk.o ?_)); all_goals (repeat subst hqq)
     refine AW.loopTW (opG B b n) (chS B K b T)
       (fun x => x.2.1 ≤ T.length ∧ x.2.2 ≤ f ∧ pF x.2.2 (.ops n x.1) (T.drop x.2.1) = some r) (fun x => x.2.2) (c, j, f) rfl (shO.app (shO.refl _) (by simp -implicitDefEqProofs (disch := omega) only [go_sem, seval]; first | done | exact rfl)) (by simp -implicitDefEqProofs (disch := omega) only [go_sem, seval] <;> first | rfl | exact ⟨rfl, rfl⟩ | skip) ⟨hj, Nat.le_refl _, h⟩ ?_
     rintro ⟨e, k, g⟩ ⟨p1, p2, p3⟩
     simp only at p1 p2 p3
     obtain ⟨g, rfl⟩ : ∃ g', g = g' + 1 := by
       cases g with
       | zero => simp [pF] at p3
       | succ g => exact ⟨g, rfl⟩
     simp only [pF] at p3
     have hpk := fun m => c_peek (G := G) hg ⟨B.set b (rdB T k) ++ m, K⟩ b k T hT hx (by omega) (hg2 _ m)
     have hst := c_strength (G := G) (peekF T k).text
     by_cases hq : (peekF T k).kind = 4 ∧ strength (peekF T k).text = n
     · obtain ⟨hq1, hq2⟩ := hq
       obtain ⟨hk, hpe⟩ := peek_op hq1
       rw [dropT hk, ← hpe] at p3
       simp only at p3
       rw [if_pos ⟨hq1, hq2⟩] at p3
       rw [hq2] at hst
       generalize peekF T k = u at *
       rcases h2 : pF g (.op (n + 1)) (T.drop (k + 1)) with _ | (⟨x, r2⟩ | ⟨r2, e2⟩)
       · rw [h2] at p3; simp [thenF] at p3
       · have c2 := (hf g (by omega)).op (n + 1) (by omega) (by omega) (k + 1) (by omega) _ h2
         obtain ⟨m, hkm, hm, d2, e2⟩ := pF_at h2 (by omega)
         simp only [resRest] at d2 e2
         subst d2
         simp only [RdP, rdO, resRest, e2] at c2
         have c2' : ∀ m', Acalls Tryz.prog G 80 [.ptr b 0, vint ↑(n + 1)] ⟨B.set b (rdB T (k + 1)) ++ m', K⟩ (fun o s => o = .ret (vE x) ∧ s = ⟨B.set b (rdB T m) ++ m', K⟩) := fun m' => by have := c2 _ K b (hg2 _ m'); simp only [hs2] at this; exact this
         rw [h2] at p3
         simp only [thenF] at p3
         by_cases hn4 : n = 4
         · have hn4' : (n : Int) = 4 := by omega
           rw [if_pos hn4] at p3
           simp only [Option.some.injEq] at p3
           subst p3
           simp only [rdO, resRest, len m hm]
           (try refine Wk.aw fun _ hqq => ?_); (repeat' (first | ((refine Wk.atX 8 ?_); refine AW.regM (P := Tryz.prog) mx 6 [(1, 7), (2, 7)] (by kernel_rfl) (by kernel_rfl) (by simp -implicitDefEqProofs (disch := omega) only [go_sem, seval, hs1, hs2, hl, hG, hG0, hS, hS0, hg2, hq1]; first | done | exact rfl) (by kernel_rfl) Tryz.call80 rfl rfl (by simp -implicitDefEqProofs (disch := omega) only [go_sem, seval, hs1, hs2, hl, hG, hG0, hS, hS0, hg2, hq1]; first | done | exact rfl) (c2' _) (by simp -implicitDefEqProofs (disch := omega) only [go_sem, seval, hs1, hs2, hl, hG, hG0, hS, hS0, hg2, hq1]; first | done | exact rfl) (exM_cons (by decide) (by decide) rfl rfl (by simp -implicitDefEqProofs (disch := omega) only [go_sem, seval, hs1, hs2, hl, hG, hG0, hS, hS0, hg2, hq1]) (exM_cons (by decide) (by decide) rfl rfl (by simp -implicitDefEqProofs (disch := omega) only [go_sem, seval, hs1, hs2, hl, hG, hG0, hS, hS0, hg2, hq1]) (exM_nil))) ?_) | (first | refine Wk.ox ?_ | refine Wk.th ?_ | refine Wk.bl ?_) | ((first | refine Wk.hd ?_ | refine Wk.i ?_); simp -implicitDefEqProofs (disch := omega) only [go_sem, seval, hs1, hs2, hl, hG, hG0, hS, hS0, hg2, hq1]) | (refine TQ_s (fun hc => ?_) (fun hc => ?_) <;> try omega) | refine CQ_ok (hpk _) ?_ | refine CQ_ok (hst _) ?_ | first | refine Wk.o ?_ | refine Wk.q (by assumption) ?_)); all_goals (repeat subst hqq)
           refine bodyQ_retM (v := vE (Ex.mk 7 u.text val0 [e, x] [])) K.length (Nat.le_refl _) (s1 := ⟨B.set b (rdB T m), K⟩) (by simp [St.cut]) (set_old ?_) (by simp -implicitDefEqProofs (disch := omega) only [go_sem, seval, resOf_tmp, resOf_cell, Tryz.results80, hG, hG0]; first | done | exact rfl) (by simp -implicitDefEqProofs (disch := omega) only [go_sem, seval, resV]; first | done | exact rfl) (by simp -implicitDefEqProofs (disch := omega) only [go_sem, seval]; first | done | exact rfl) ⟨rfl, rfl⟩
           simp [Blk.within, V.within, V.within.all]
         · have hn4' : ¬ (n : Int) = 4 := by omega
           rw [if_neg hn4] at p3
           (try refine Wk.aw fun _ hqq => ?_); (repeat' (first | ((refine Wk.atX 8 ?_); refine AW.regM (P := Tryz.prog) mx 6 [(1, 7), (2, 7)] (by kernel_rfl) (by kernel_rfl) (by simp -implicitDefEqProofs (disch := omega) only [go_sem, seval, hs1, hs2, hl, hG, hG0, hS, hS0, hg2, hq1]; first | done | exact rfl) (by kernel_rfl) Tryz.call80 rfl rfl (by simp -implicitDefEqProofs (disch := omega) only [go_sem, seval, hs1, hs2, hl, hG, hG0, hS, hS0, hg2, hq1]; first | done | exact rfl) (c2' _) (by simp -implicitDefEqProofs (disch := omega) only [go_sem, seval, hs1, hs2, hl, hG, hG0, hS, hS0, hg2, hq1]; first | done | exact rfl) (exM_cons (by decide) (by decide) rfl rfl (by simp -implicitDefEqProofs (disch := omega) only [go_sem, seval, hs1, hs2, hl, hG, hG0, hS, hS0, hg2, hq1]) (exM_cons (by decide) (by decide) rfl rfl (by simp -implicitDefEqProofs (disch := omega) only [go_sem, seval, hs1, hs2, hl, hG, hG0, hS, hS0, hg2, hq1]) (exM_nil))) ?_) | (first | refine Wk.ox ?_ | refine Wk.th ?_ | refine Wk.bl ?_) | ((first | refine Wk.hd ?_ | refine Wk.i ?_); simp -implicitDefEqProofs (disch := omega) only [go_sem, seval, hs1, hs2, hl, hG, hG0, hS, hS0, hg2, hq1]) | (refine TQ_s (fun hc => ?_) (fun hc => ?_) <;> try omega) | refine CQ_ok (hpk _) ?_ | refine CQ_ok (hst _) ?_ | first | refine Wk.o ?_ | refine Wk.q (by assumption) ?_)); all_goals (repeat subst hqq)
           refine ⟨(Ex.mk 7 u.text val0 [e, x] [], m, g), ?_⟩
           refine rd_next (x' := (Ex.mk 7 u.text val0 [e, x] [], m, g)) hb ?_ ?_ ?_ ?_ ?_ ?_
           · simp -implicitDefEqProofs (disch := omega) only [go_sem, seval] <;> first | rfl | exact ⟨rfl, rfl⟩ | skip
           · exact ⟨by simp only; omega, by simp only; omega, p3⟩
           · simp only; omega
           · rfl
           · simp [Blk.within, V.within, V.within.all]
           · simp [okW, V.within]; omega
       · have c2 := (hf g (by omega)).op (n + 1) (by omega) (by omega) (k + 1) (by omega) _ h2
         rw [h2] at p3
         simp only [thenF, Option.some.injEq] at p3
         subst p3
         simp only [RdP, rdO, resRest] at c2
         have c2' : ∀ m', Acalls Tryz.prog G 80 [.ptr b 0, vint ↑(n + 1)] ⟨B.set b (rdB T (k + 1)) ++ m', K⟩ (fun o s => o = .pan (panV (T.length - r2.length) e2) ∧ s = ⟨B.set b (rdB T (T.length - r2.length)) ++ m', K⟩) := fun m' => by have := c2 _ K b (hg2 _ m'); simp only [hs2] at this; exact this
         simp only [rdO, resRest]
         (try refine Wk.aw fun _ hqq => ?_); (repeat' (first | ((refine Wk.atX 8 ?_); refine AW.regMP (P := Tryz.prog) mx 6 [(1, 7), (2, 7)] (by kernel_rfl) (by kernel_rfl) (by simp -implicitDefEqProofs (disch := omega) only [go_sem, seval, hs1, hs2, hl, hG, hG0, hS, hS0, hg2, hq1]; first | done | exact rfl) (by kernel_rfl) Tryz.call80 rfl (by simp -implicitDefEqProofs (disch := omega) only [go_sem, seval, hs1, hs2, hl, hG, hG0, hS, hS0, hg2, hq1]; first | done | exact rfl) (c2' _) (fun fr_ => ?_)) | (first | refine Wk.ox ?_ | refine Wk.th ?_ | refine Wk.bl ?_) | ((first | refine Wk.hd ?_ | refine Wk.i ?_); simp -implicitDefEqProofs (disch := omega) only [go_sem, seval, hs1, hs2, hl, hG, hG0, hS, hS0, hg2, hq1]) | (refine TQ_s (fun hc => ?_) (fun hc => ?_) <;> try omega) | refine CQ_ok (hpk _) ?_ | refine CQ_ok (hst _) ?_ | first | refine Wk.o ?_ | refine Wk.q (by assumption) ?_)); all_goals (repeat subst hqq)
         refine bodyQ_panS (s1 := ⟨B.set b (rdB T (T.length - r2.length)), K⟩) (by simp [St.cut]) (set_old ?_) rfl ⟨rfl, rfl⟩
         simp [Blk.within, V.within, V.within.all]
     · have hr : r = .ok e (T.drop k) := by
         by_cases hk : k < T.length
         · rw [dropT hk] at p3
           simp only at p3
           have hnq : ¬ ((T.getD k default).kind = 4 ∧ strength (T.getD k default).text = n) := by
             rintro ⟨q1, q2⟩
             by_cases hp4 : (peekF T k).kind = 4
             · exact hq ⟨hp4, by rw [(peek_op hp4).2]; exact q2⟩
             · exact peek_nop hk hp4 q1
           rw [if_neg hnq, ← dropT hk, Option.some.injEq] at p3
           exact p3.symm
         · rw [dropT_nil hk, Option.some.injEq] at p3
           rw [← p3, dropT_nil hk]
       subst hr
       simp only [rdO, resRest, len k p1]
       generalize peekF T k = u at *
       by_cases hq1 : u.kind = 4
       · have hq2 : ¬ (strength u.text : Int) = n := fun h => hq ⟨hq1, by omega⟩
         (try refine Wk.aw fun _ hqq => ?_); (repeat' (first | ((first | refine Wk.hd ?_ | refine Wk.i ?_); simp -implicitDefEqProofs (disch := omega) only [go_sem, seval, hs1, hs2, hl, hG, hG0, hS, hS0, hg2, hq1]) | (refine TQ_s (fun hc => ?_) (fun hc => ?_) <;> try omega) | refine CQ_ok (hpk _) ?_ | refine CQ_ok (hst _) ?_ | first | refine Wk.o ?_ | refine Wk.q (by assumption) ?_)); all_goals (repeat subst hqq)
         refine bodyQ_retM (v := vE e) K.length (Nat.le_refl _) (s1 := ⟨B.set b (rdB T k), K⟩) (by simp [St.cut]) (set_old ?_) (by simp -implicitDefEqProofs (disch := omega) only [go_sem, seval, resOf_tmp, resOf_cell, Tryz.results80, hG, hG0]; first | done | exact rfl) (by simp -implicitDefEqProofs (disch := omega) only [go_sem, seval, resV]; first | done | exact rfl) (by simp -implicitDefEqProofs (disch := omega) only [go_sem, seval]; first | done | exact rfl) ⟨rfl, rfl⟩
         simp [Blk.within, V.within, V.within.all]
       · (try refine Wk.aw fun _ hqq => ?_); (repeat' (first | ((first | refine Wk.hd ?_ | refine Wk.i ?_); simp -implicitDefEqProofs (disch := omega) only [go_sem, seval, hs1, hs2, hl, hG, hG0, hS, hS0, hg2, hq1]) | (refine TQ_s (fun hc => ?_) (fun hc => ?_) <;> try omega) | refine CQ_ok (hpk _) ?_ | first | refine Wk.o ?_ | refine Wk.q (by assumption) ?_)); all_goals (repeat subst hqq)
         refine bodyQ_retM (v := vE e) K.length (Nat.le_refl _) (s1 := ⟨B.set b (rdB T k), K⟩) (by simp [St.cut]) (set_old ?_) (by simp -implicitDefEqProofs (disch := omega) only [go_sem, seval, resOf_tmp, resOf_cell, Tryz.results80, hG, hG0]; first | done | exact rfl) (by simp -implicitDefEqProofs (disch := omega) only [go_sem, seval, resV]; first | done | exact rfl) (by simp -implicitDefEqProofs (disch := omega) only [go_sem, seval]; first | done | exact rfl) ⟨rfl, rfl⟩
         simp [Blk.within, V.within, V.within.all]
   · have c1 := (hf f (Nat.le_refl _)).op (n + 1) (by omega) (by omega) i hi _ h1
     rw [h1] at h
     simp only [thenF, Option.some.injEq] at h
     subst h
     simp only [RdP, rdO, resRest] at c1
     have c1' : ∀ m, Acalls Tryz.prog G 80 [.ptr b 0, vint ↑(n + 1)] ⟨B ++ m, K⟩ (fun o s => o = .pan (panV (T.length - r1.length) ec) ∧ s = ⟨B.set b (rdB T (T.length - r1.length)) ++ m, K⟩) := fun m => by have := c1 _ K b (hg1 m); simp only [hs1] at this; exact this
     simp only [rdO, resRest]
     refine Acalls.body Tryz.func80 rfl Tryz.ntmps80 (by simp) ?_
     (try refine Wk.aw fun _ hqq => ?_); (repeat' (first | ((first | refine Wk.hd ?_ | refine Wk.i ?_); simp -implicitDefEqProofs (disch := omega) only [go_sem, seval, hs1, hs2, hl, hG, hG0, hS, hS0]) | (refine TQ_s (fun hc => ?_) (fun hc => ?_) <;> try omega) | refine CQ_pan (c1' _) ?_ | first | refine Wk.o ?_ | refine Wk.q (by assumption) ?_)); all_goals (repeat subst hqq)
     refine bodyQ_panS (s1 := ⟨B.set b (rdB T (T.length - r1.length)), K⟩) (by simp [St.cut]) (set_old ?_) rfl ⟨rfl, rfl⟩
     simp [Blk.within, V.within, V.within.all]
end Go.Proofs.YtofbdmdigopaoaaGreatDoor
end
