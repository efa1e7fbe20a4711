/- A step of the proofs of the seat's theorems. -/
import Derived.Test.YtofbdmdigopaoaaGreatDoorM14
import Derived.Test.YtofbdmdigopaoaaGreatDoorM23
import Derived.Test.YtofbdmdigopaoaaGreatDoorM29
set_option linter.unusedSimpArgs false
set_option linter.unusedVariables false
section
set_option maxHeartbeats 8000000
set_option maxRecDepth 20000
namespace Go.Proofs.YtofbdmdigopaoaaGreatDoor
open Go.Abs
attribute [local irreducible] AW OX condQ GQ bodyQ RoundsA thenQ blockQ Acalls
variable {G : World → Nat → Prop}
theorem set_id {l : List Blk} {b : Nat} {x : Blk} (h : l[b]? = some x) : l.set b x = l := by
 apply List.ext_getElem?
 intro i
 rw [List.getElem?_set]
 by_cases hi : b = i
 · subst hi; rw [if_pos rfl, if_pos (List.getElem?_eq_some_iff.1 h).1, h]
 · rw [if_neg hi]
theorem c_par_word (s : Str) : Ans G 156 [vs s] (vb (decide (s = sTrue) || decide (s = sFalse) || decide (s = sNull))) := by
 intro st
 refine Acalls.body Tryz.func156 rfl Tryz.ntmps156 (by simp) ?_
 (try refine Wk.aw fun _ hqq => ?_); (repeat' (first | ((first | refine Wk.hd ?_ | refine Wk.i ?_); simp -implicitDefEqProofs only [go_sem, seval]) | (refine TQ_s (fun hc => ?_) (fun hc => ?_) <;> try omega) | refine Wk.ret fun _ _ => ?_ | (refine Wk.fin (by assumption) ?_; refine ⟨?_, rfl⟩) | first | refine Wk.o ?_ | refine Wk.q (by assumption) ?_)); all_goals (repeat subst hqq)
 all_goals (refine ret_bool ?_; simp only [Bool.or_eq_true, decide_eq_true_eq]; simp_all [sTrue, sFalse, sNull])
def rdA (T : List Tk) : Res Ex → Out
 | .ok l _ => .ret (.d (.sl (l.args.map Ex.enc)))
 | .err rest c => .pan (panV (T.length - rest.length) c)
def RdA (G : World → Nat → Prop) (T : List Tk) (f : FuncId) (args : List V) (j : Nat) (r : Res Ex) : Prop :=
 ∀ B K b, B[b]? = some (rdB T j) → Acalls Tryz.prog G f (.ptr b 0 :: args) ⟨B, K⟩ (fun o s => o = rdA T r ∧ s = ⟨B.set b (rdB T (T.length - (resRest r).length)), K⟩)
def nameR (f : Nat) (T : List Tk) (s : Str) (j : Nat) : Option (Res Ex) :=
 if s = sNull then some (.ok (lit val0) (T.drop j))
 else if s = sTrue ∨ s = sFalse then some (.ok (lit (.mk 1 (decide (s = sTrue)) 0 [] [] [])) (T.drop j))
 else if opAt T j [40] = true then thenF (pF f (.args [41]) (T.drop (j + 1))) fun l r3 => some (.ok (.mk 5 s val0 l.args []) r3)
 else some (.ok (.mk 2 s val0 [] []) (T.drop j))
theorem r_name (hg : GV G) {T : List Tk} {f : Nat} (hT : T.length ≤ 1048576) (hx : ∀ t ∈ T, t.text.length ≤ 1048576)
   (hargs : ∀ s, s ≠ [44] → ∀ i, i ≤ T.length → ∀ r, pF f (.args s) (T.drop i) = some r → RdA G T 190 [vs s] i r) (s : Str) (i : Nat) (hi : i ≤ T.length) (r : Res Ex) (h : nameR f T s i = some r) :
   RdP G T 189 [vs s] i r := by
 intro B K b hb
 have hbl : b < B.length := (List.getElem?_eq_some_iff.1 hb).1
 have hs1 : ∀ m y, (B ++ m).set b y = B.set b y ++ m := fun m y => set_app hb
 have hs2 : ∀ z m y, (B.set b z ++ m).set b y = B.set b y ++ m := fun z m y => set_app2 hb
 have hg1 : ∀ m, (B ++ m)[b]? = some (rdB T i) := fun m => get_app hb
 have hg2 : ∀ z m, (B.set b z ++ m)[b]? = some z := fun z m => get_app (set_get hb)
 have hl : ∀ z, (B.set b z).length = B.length := fun z => List.length_set
 have hG : ∀ (z : Blk) (m : List Blk) (k : Nat), (B.set b z ++ m)[B.length + k]? = m[k]? := fun z m k => by rw [List.getElem?_append_right (by simp)]; simp
 have hG0 : ∀ (z : Blk) (m : List Blk), (B.set b z ++ m)[B.length]? = m[0]? := fun z m => by rw [List.getElem?_append_right (by simp)]; simp
 have hS : ∀ (z y : Blk) (m : List Blk) (k : Nat), (B.set b z ++ m).set (B.length + k) y = B.set b z ++ m.set k y := fun z y m k => by rw [List.set_append_right _ _ (by simp)]; simp
 have hS0 : ∀ (z y : Blk) (m : List Blk), (B.set b z ++ m).set B.length y = B.set b z ++ m.set 0 y := fun z y m => by rw [List.set_append_right _ _ (by simp)]; simp
 have len : ∀ j, j ≤ T.length → T.length - (T.drop j).length = j := fun j hj => by simp only [List.length_drop]; omega
 have hw := c_par_word (G := G) s
 rw [nameR] at h
 by_cases h1 : s = sNull
 · rw [if_pos h1, Option.some.injEq] at h
   subst h1 h
   have hlit := c_par_literal (G := G) val0
   simp only [rdO, resRest, len i hi, set_id hb]
   refine Acalls.body Tryz.func189 rfl Tryz.ntmps189 (by simp) ?_
   (try refine Wk.aw fun _ hqq => ?_); (repeat' (first | ((first | refine Wk.hd ?_ | refine Wk.i ?_); simp -implicitDefEqProofs only [go_sem, seval, hs1, hs2, hl, hG, hG0, hS, hS0, sNull]) | refine CQ_ok (hlit _) ?_ | refine Wk.ret fun _ _ => ?_ | (refine Wk.fin (by assumption) ?_; refine ⟨?_, rfl⟩) | first | refine Wk.o ?_ | refine Wk.q (by assumption) ?_)); all_goals (repeat subst hqq)
   all_goals rfl
 rw [if_neg h1] at h
 have nn : s = [110, 117, 108, 108] → False := h1
 by_cases h2 : s = sTrue ∨ s = sFalse
 · rw [if_pos h2, Option.some.injEq] at h
   subst h
   have hw2 : (decide (s = sTrue) || decide (s = sFalse) || decide (s = sNull)) = true := by rcases h2 with h2 | h2 <;> simp [h2]
   rw [hw2] at hw
   have hlit := c_par_literal (G := G) (.mk 1 (decide (s = sTrue)) 0 [] [] [])
   simp only [rdO, resRest, len i hi, set_id hb]
   refine Acalls.body Tryz.func189 rfl Tryz.ntmps189 (by simp) ?_
   (try refine Wk.aw fun _ hqq => ?_); (repeat' (first | ((first | refine Wk.hd ?_ | refine Wk.i ?_); simp -implicitDefEqProofs only [go_sem, seval, hs1, hs2, hl, hG, hG0, hS, hS0]) | (refine TQ_s (fun hc => ?_) (fun hc => ?_) <;> try omega) | refine CQ_ok (hlit _) ?_ | refine CQ_ok (hw _) ?_ | refine Wk.ret fun _ _ => ?_ | (refine Wk.fin (by assumption) ?_; refine ⟨?_, rfl⟩) | first | refine Wk.o ?_ | refine Wk.q (by assumption) ?_)); all_goals (repeat subst hqq)
   all_goals first | rfl | exact (nn (by assumption)).elim
 · rw [if_neg h2] at h
   have hw2 : (decide (s = sTrue) || decide (s = sFalse) || decide (s = sNull)) = false := by
     simp only [Bool.or_eq_false_iff, decide_eq_false_iff_not]
     exact ⟨⟨fun h => h2 (.inl h), fun h => h2 (.inr h)⟩, h1⟩
   rw [hw2] at hw
   have hnn : decide (s = [110, 117, 108, 108]) = false := decide_eq_false nn
   cases hq : opAt T i [40]
   · rw [hq] at h
     simp only [Bool.false_eq_true, if_false, Option.some.injEq] at h
     subst h
     have a1 : ∀ m, Acalls Tryz.prog G 81 [.ptr b 0, vs [40]] ⟨B ++ m, K⟩ (fun o s' => o = .ret (vb false) ∧ s' = ⟨B ++ m, K⟩) := fun m =>
       c_accept_f (G := G) hg ⟨B ++ m, K⟩ b i T hT hx (by omega) (hg1 m) [40] (by rw [isF_op]; exact hq)
     simp only [rdO, resRest, len i hi, set_id hb]
     refine Acalls.body Tryz.func189 rfl Tryz.ntmps189 (by simp) ?_
     (try refine Wk.aw fun _ hqq => ?_); (repeat' (first | ((first | refine Wk.hd ?_ | refine Wk.i ?_); simp -implicitDefEqProofs only [go_sem, seval, hs1, hs2, hl, hG, hG0, hS, hS0, hnn]) | refine CQ_ok (hw _) ?_ | refine CQ_ok (a1 _) ?_ | refine Wk.ret fun _ _ => ?_ | (refine Wk.fin (by assumption) ?_; refine ⟨?_, rfl⟩) | first | refine Wk.o ?_ | refine Wk.q (by assumption) ?_)); all_goals (repeat subst hqq)
     all_goals first | rfl | exact (nn (by assumption)).elim | skip
   · rw [hq] at h
     simp only [if_true] at h
     have hil := opAt_lt hq
     have a1 : ∀ m, Acalls Tryz.prog G 81 [.ptr b 0, vs [40]] ⟨B ++ m, K⟩ (fun o s' => o = .ret (vb true) ∧ s' = ⟨B.set b (rdB T (i + 1)) ++ m, K⟩) := fun m => by
       have := c_accept_t (G := G) hg ⟨B ++ m, K⟩ b i T hT hx (by omega) (hg1 m) [40] (by rw [isF_op]; exact hq)
       simp only [hs1] at this; exact this
     rcases h3 : pF f (.args [41]) (T.drop (i + 1)) with _ | (⟨l, r1⟩ | ⟨r1, ec⟩)
     · rw [h3] at h; simp [thenF] at h
     · have c1 := hargs [41] (by decide) (i + 1) (by omega) _ h3
       rw [h3] at h
       simp only [thenF, Option.some.injEq] at h
       subst h
       simp only [RdA, rdA, resRest] at c1
       have c1' : ∀ m, Acalls Tryz.prog G 190 [.ptr b 0, vs [41]] ⟨B.set b (rdB T (i + 1)) ++ m, K⟩ (fun o s => o = .ret (.d (.sl (l.args.map Ex.enc))) ∧ s = ⟨B.set b (rdB T (T.length - r1.length)) ++ m, K⟩) := fun m => by have := c1 _ K b (hg2 _ m); simp only [hs2] at this; exact this
       simp only [rdO, resRest]
       have hve : vE (Ex.mk 5 s val0 l.args []) = V.agg [V.d (D.int .i64 5), V.d (D.str s), V.d (D.int .i64 0), V.d (D.bool false), V.d (D.int .i64 0), V.d (D.str []), V.d (D.sl []), V.d (D.sl []), V.d (D.sl (l.args.map Ex.enc)), V.d (D.sl [])] := by rw [vE, Ex.enc_eq]; rfl
       refine Acalls.body Tryz.func189 rfl Tryz.ntmps189 (by simp) ?_
       (try refine Wk.aw fun _ hqq => ?_); (repeat' (first | ((first | refine Wk.hd ?_ | refine Wk.i ?_); simp -implicitDefEqProofs only [go_sem, seval, hs1, hs2, hl, hG, hG0, hS, hS0, hnn]) | refine CQ_ok (hw _) ?_ | refine CQ_st (a1 _) ?_ | refine CQ_st (c1' _) ?_ | first | refine Wk.o ?_ | refine Wk.q (by assumption) ?_)); all_goals (repeat subst hqq)
       all_goals first | exact (nn (by assumption)).elim | skip
       all_goals refine bodyQ_retM (v := vE (Ex.mk 5 s val0 l.args [])) K.length (Nat.le_refl _) (s1 := ⟨B.set b (rdB T (T.length - r1.length)), K⟩) (by simp [St.cut]) (set_old ?_) (by simp -implicitDefEqProofs only [go_sem, seval, resOf_tmp, resOf_cell, Tryz.results189, hG, hG0]; first | done | exact rfl) (by rw [hve]; simp -implicitDefEqProofs only [go_sem, seval, resV]; first | done | exact rfl) (by simp -implicitDefEqProofs only [go_sem, seval]; first | done | exact rfl) ⟨rfl, rfl⟩
       all_goals simp [Blk.within, V.within, V.within.all]
     · have c1 := hargs [41] (by decide) (i + 1) (by omega) _ h3
       rw [h3] at h
       simp only [thenF, Option.some.injEq] at h
       subst h
       simp only [RdA, rdA, resRest] at c1
       have c1' : ∀ m, Acalls Tryz.prog G 190 [.ptr b 0, vs [41]] ⟨B.set b (rdB T (i + 1)) ++ m, K⟩ (fun o s => o = .pan (panV (T.length - r1.length) ec) ∧ s = ⟨B.set b (rdB T (T.length - r1.length)) ++ m, K⟩) := fun m => by have := c1 _ K b (hg2 _ m); simp only [hs2] at this; exact this
       simp only [rdO, resRest]
       refine Acalls.body Tryz.func189 rfl Tryz.ntmps189 (by simp) ?_
       (try refine Wk.aw fun _ hqq => ?_); (repeat' (first | ((first | refine Wk.hd ?_ | refine Wk.i ?_); simp -implicitDefEqProofs only [go_sem, seval, hs1, hs2, hl, hG, hG0, hS, hS0, hnn]) | refine CQ_ok (hw _) ?_ | refine CQ_st (a1 _) ?_ | refine CQ_pan (c1' _) ?_ | first | refine Wk.o ?_ | refine Wk.q (by assumption) ?_)); all_goals (repeat subst hqq)
       all_goals first | exact (nn (by assumption)).elim | skip
       all_goals refine bodyQ_panS (s1 := ⟨B.set b (rdB T (T.length - r1.length)), K⟩) (by simp [St.cut]) (set_old ?_) rfl ⟨rfl, rfl⟩
       all_goals simp [Blk.within, V.within, V.within.all]
end Go.Proofs.YtofbdmdigopaoaaGreatDoor
end
section
set_option maxHeartbeats 8000000
set_option maxRecDepth 20000
namespace Go.Proofs.YtofbdmdigopaoaaGreatDoor
open Go.Abs
attribute [local irreducible] AW OX condQ GQ bodyQ RoundsA thenQ blockQ Acalls
variable {G : World → Nat → Prop}
theorem enc_mem (s : Str) (a : Ex) : (Ex.mk 3 s val0 [a] []).enc = [Abs.D.int .i64 3, .str s, Abs.D.int .i64 0, .bool false, Abs.D.int .i64 0, .str [], .sl [], .sl [], .sl [a.enc], .sl []] := rfl
theorem enc_ix (a b : Ex) : (Ex.mk 4 [] val0 [a, b] []).enc = [Abs.D.int .i64 4, .str [], Abs.D.int .i64 0, .bool false, Abs.D.int .i64 0, .str [], .sl [], .sl [], .sl [a.enc, b.enc], .sl []] := rfl
theorem Edrop' (e : Ex) : (e.enc.map V.d).drop 10 = [] := by rw [Ex.enc_eq, Val.enc_eq]; rfl
attribute [go_sem] Edrop'
abbrev zE' : List V := [.d (.int .i64 0), .d (.str []), .d (.int .i64 0), .d (.bool false), .d (.int .i64 0), .d (.str []), .d (.sl []), .d (.sl []), .d (.sl []), .d (.sl [])]
theorem ref_chain {T : List Tk} {f : Nat} (hT : T.length ≤ 1048576) (hX : ∀ t ∈ T, t.text.length ≤ 1048576) (hf : ∀ g < f, RefIH G T g) (hat : ∀ i ≤ T.length, ∀ r, pF f .atom (T.drop i) = some r → RefF G T 154 [vTl T, vint i] r) (i : Nat) (hi : i ≤ T.length) (r : Res Ex) (h : thenF (pF f .atom (T.drop i)) (fun e r2 => pF f (.chain e) r2) = some r) :
   RefF G T 124 [vTl T, vint i] r := by
 intro st
 have len : ∀ j, j ≤ T.length → T.length - (T.drop j).length = j := fun j hj => by simp only [List.length_drop]; omega
 rcases h1 : pF f .atom (T.drop i) with _ | (⟨c, r1⟩ | ⟨r1, ec⟩)
 · rw [h1] at h; simp [thenF] at h
 · have c1 := (hat i hi _ h1).ok
   obtain ⟨j, hij, hj, d1, e1⟩ := pF_at h1 hi
   simp only [resRest] at d1 e1
   subst d1
   rw [e1] at c1
   rw [h1] at h
   simp only [thenF] at h
   refine Acalls.body Tryz.func124 rfl Tryz.ntmps124 (by simp) ?_
   (try refine Wk.aw fun _ hqq => ?_); (repeat' (first | ((first | refine Wk.hd ?_ | refine Wk.i ?_); simp -implicitDefEqProofs (disch := omega) only [go_sem, seval]) | refine CQ_ok (c1 _) ?_ | refine Wk.o ?_)); all_goals (repeat subst hqq)
   refine AW.loopW (fun x : Ex × Nat × Nat => [(0, vTl T), (1, vint ↑x.2.1), (4, .ptr st.blks.length 0), (7, .ptr (st.blks.length + 1) 0), (8, vint 0)]) (fun x => [.cells zE', .cells (x.1.enc.map .d)]) (fun _ => [])
     (fun x => x.2.1 ≤ T.length ∧ x.2.2 ≤ f ∧ pF x.2.2 (.chain x.1) (T.drop x.2.1) = some r) (fun x => x.2.2) (c, j, f) (by simp -implicitDefEqProofs (disch := omega) only [go_sem, seval]; first | done | exact rfl) (by simp -implicitDefEqProofs (disch := omega) only [go_sem, seval] <;> first | rfl | exact ⟨rfl, rfl⟩ | skip) (by simp -implicitDefEqProofs (disch := omega) only [go_sem, seval] <;> first | rfl | exact ⟨rfl, rfl⟩ | skip) ⟨hj, Nat.le_refl _, h⟩ ?_
   rintro ⟨e, k, g⟩ ⟨p1, p2, p3⟩
   simp only at p1 p2 p3
   obtain ⟨g, rfl⟩ : ∃ g', g = g' + 1 := by
     cases g with
     | zero => simp [pF] at p3
     | succ g => exact ⟨g, rfl⟩
   simp only [pF] at p3
   have hop1 := c_op (G := G) T k [46] hT (by omega)
   have hop2 := c_op (G := G) T k [91] hT (by omega)
   by_cases hk : k < T.length
   · rw [dropT hk] at p3
     simp only at p3
     cases hb1 : opAt T k [46]
     · rw [hb1] at hop1
       rw [opAt_f hk hb1, if_neg Bool.false_ne_true] at p3
       cases hb2 : opAt T k [91]
       · rw [hb2] at hop2
         rw [opAt_f hk hb2, if_neg Bool.false_ne_true, ← dropT hk] at p3
         simp only [Option.some.injEq] at p3
         subst p3
         (try refine Wk.aw fun _ hqq => ?_); (repeat' (first | ((first | refine Wk.hd ?_ | refine Wk.i ?_); simp -implicitDefEqProofs (disch := omega) only [go_sem, seval]) | refine CQ_ok ((by first | exact hop1 _ | exact hop2 _)) ?_ | refine Wk.ret fun _ _ => ?_ | refine Wk.fin (by assumption) ?_ | first | refine Wk.o ?_ | refine Wk.q (by assumption) ?_ | refine Wk.sw fun _ hqq => ?_)); all_goals (repeat subst hqq)
         all_goals first | exact ⟨by rw [len k p1], rfl⟩
       · rw [hb2] at hop2
         rw [opAt_t hb2, if_pos rfl] at p3
         rcases h2 : pF g .cond (T.drop (k + 1)) with _ | (⟨x, r2⟩ | ⟨r2, e2⟩)
         · rw [h2] at p3; simp [thenF] at p3
         · have c2 := ((hf g (by omega)).cond (k + 1) (by omega) _ h2).ok
           obtain ⟨m, hkm, hm, d2, e2⟩ := pF_at h2 (by omega)
           simp only [resRest] at d2 e2
           subst d2
           rw [e2] at c2
           rw [h2] at p3
           simp only [thenF] at p3
           rw [expectF_at] at p3
           have hop3 := c_op (G := G) T m [93] hT (by omega)
           cases hb3 : opAt T m [93]
           · rw [hb3] at hop3 p3
             have hm' := c_missing (G := G) T m hT (by omega)
             rw [if_neg Bool.false_ne_true] at p3
             simp only [Option.some.injEq] at p3
             subst p3
             (try refine Wk.aw fun _ hqq => ?_); (repeat' (first | ((first | refine Wk.hd ?_ | refine Wk.i ?_); simp -implicitDefEqProofs (disch := omega) only [go_sem, seval]) | refine CQ_ok ((by first | exact hop1 _ | exact hop2 _ | exact hop3 _)) ?_ | refine CQ_ok (c2 _) ?_ | refine CQ_ok (hm' _) ?_ | refine Wk.ret fun _ _ => ?_ | refine Wk.fin (by assumption) ?_ | first | refine Wk.o ?_ | refine Wk.q (by assumption) ?_)); all_goals (repeat subst hqq)
             all_goals first | exact ⟨ex0, by rw [len m hm]; rfl, rfl⟩
           · have hml := opAt_lt hb3
             rw [hb3] at hop3 p3
             rw [if_pos rfl] at p3
             (try refine Wk.aw fun _ hqq => ?_); (repeat' (first | ((first | refine Wk.hd ?_ | refine Wk.i ?_); simp -implicitDefEqProofs (disch := omega) only [go_sem, seval]) | refine CQ_ok ((by first | exact hop1 _ | exact hop2 _ | exact hop3 _)) ?_ | refine CQ_ok (c2 _) ?_ | first | refine Wk.o ?_ | refine Wk.q (by assumption) ?_)); all_goals (repeat subst hqq)
             · (refine ⟨(Ex.mk 4 [] val0 [e, x] [], m + 1, g), NxtW.mk' _ ?_ ?_ ?_ (by simp -implicitDefEqProofs (disch := omega) only [go_sem, seval, enc_ix]; first | done | exact rfl) (by first | rfl | (simp -implicitDefEqProofs (disch := omega) only [go_sem, seval, enc_ix]; first | done | rfl)) (by first | rfl | (simp -implicitDefEqProofs (disch := omega) only [go_sem, seval, enc_ix]; first | done | rfl)) (by first | rfl | (simp -implicitDefEqProofs (disch := omega) only [go_sem, seval, enc_ix]; all_goals omega)) (by first | rfl | (simp -implicitDefEqProofs (disch := omega) only [go_sem, seval, enc_ix]; all_goals omega))⟩; focus (try (simp -implicitDefEqProofs (disch := omega) only [go_sem, seval, enc_ix]); try ((repeat' apply And.intro) <;> first | rfl | trivial | refine vi_congr ?_ | refine vs_congr ?_ | refine vown_congr ?_ | skip)))
               · exact ⟨by simp only; omega, by simp only; omega, p3⟩
               · simp only; omega
         · have c2 := ((hf g (by omega)).cond (k + 1) (by omega) _ h2).err
           have he := pF_err h2
           rw [h2] at p3
           simp only [thenF, Option.some.injEq] at p3
           subst p3
           (try refine Wk.aw fun _ hqq => ?_); (repeat' (first | ((first | refine Wk.hd ?_ | refine Wk.i ?_); simp -implicitDefEqProofs (disch := omega) only [go_sem, seval]) | (refine TQ_s (fun hc => ?_) (fun hc => ?_) <;> try omega) | refine CQ_ok ((by first | exact hop1 _ | exact hop2 _)) ?_ | refine CQ_ex (c2 _) fun x_ => ?_ | refine Wk.ret fun _ _ => ?_ | refine Wk.fin (by assumption) ?_ | first | refine Wk.o ?_ | refine Wk.q (by assumption) ?_)); all_goals (repeat subst hqq)
           all_goals first | exact ⟨ex0, rfl, rfl⟩
     · rw [hb1] at hop1
       rw [opAt_t hb1, if_pos rfl] at p3
       by_cases hk2 : k + 1 < T.length
       · rw [dropT hk2] at p3
         simp only at p3
         have hxk := hX _ (getT_mem hk2)
         have hpl := c_ref_Plain (G := G) (T.getD (k + 1) default).text hxk
         have hm' := c_missing (G := G) T (k + 1) hT (by omega)
         rw [missAt, if_neg (by omega)] at hm'
         by_cases hq : (T.getD (k + 1) default).kind = 1
         · cases hpb : isPlain (T.getD (k + 1) default).text
           · rw [if_neg (by rw [hpb]; simp), ← dropT hk2] at p3
             rw [hpb] at hpl
             simp only [Option.some.injEq] at p3
             subst p3
             (try refine Wk.aw fun _ hqq => ?_); (repeat' (first | ((first | refine Wk.hd ?_ | refine Wk.i ?_); simp -implicitDefEqProofs (disch := omega) only [go_sem, seval, hq]) | (refine TQ_s (fun hc => ?_) (fun hc => ?_) <;> try omega) | refine CQ_ok ((by first | exact hop1 _ | exact hop2 _)) ?_ | refine CQ_ok (hpl _) ?_ | refine CQ_ok (hm' _) ?_ | refine Wk.ret fun _ _ => ?_ | refine Wk.fin (by assumption) ?_ | first | refine Wk.o ?_ | refine Wk.q (by assumption) ?_)); all_goals (repeat subst hqq)
             all_goals first | exact ⟨ex0, by rw [len _ (by omega)]; rfl, rfl⟩
           · rw [if_pos ⟨hq, hpb⟩] at p3
             rw [hpb] at hpl
             (try refine Wk.aw fun _ hqq => ?_); (repeat' (first | ((first | refine Wk.hd ?_ | refine Wk.i ?_); simp -implicitDefEqProofs (disch := omega) only [go_sem, seval, hq]) | (refine TQ_s (fun hc => ?_) (fun hc => ?_) <;> try omega) | refine CQ_ok ((by first | exact hop1 _ | exact hop2 _)) ?_ | refine CQ_ok (hpl _) ?_ | refine Wk.drawn mx (by kernel_rfl) ?_ | first | refine Wk.o ?_ | refine Wk.q (by assumption) ?_)); all_goals (repeat subst hqq)
             · (refine ⟨(Ex.mk 3 (T.getD (k + 1) default).text val0 [e] [], k + 1 + 1, g), NxtW.mk' _ ?_ ?_ ?_ (by simp -implicitDefEqProofs (disch := omega) only [go_sem, seval, enc_mem]; first | done | exact rfl) (by first | rfl | (simp -implicitDefEqProofs (disch := omega) only [go_sem, seval, enc_mem]; first | done | rfl)) (by first | rfl | (simp -implicitDefEqProofs (disch := omega) only [go_sem, seval, enc_mem]; first | done | rfl)) (by first | rfl | (simp -implicitDefEqProofs (disch := omega) only [go_sem, seval, enc_mem]; all_goals omega)) (by first | rfl | (simp -implicitDefEqProofs (disch := omega) only [go_sem, seval, enc_mem]; all_goals omega))⟩; focus (try (simp -implicitDefEqProofs (disch := omega) only [go_sem, seval, enc_mem]); try ((repeat' apply And.intro) <;> first | rfl | trivial | refine vi_congr ?_ | refine vs_congr ?_ | refine vown_congr ?_ | skip)))
               · exact ⟨by simp only; omega, by simp only; omega, p3⟩
               · simp only; omega
         · rw [if_neg (fun h => hq h.1), ← dropT hk2] at p3
           simp only [Option.some.injEq] at p3
           subst p3
           (try refine Wk.aw fun _ hqq => ?_); (repeat' (first | ((first | refine Wk.hd ?_ | refine Wk.i ?_); simp -implicitDefEqProofs (disch := omega) only [go_sem, seval]) | (refine TQ_s (fun hc => ?_) (fun hc => ?_) <;> try omega) | refine CQ_ok ((by first | exact hop1 _ | exact hop2 _)) ?_ | refine CQ_ok (hm' _) ?_ | refine Wk.ret fun _ _ => ?_ | refine Wk.fin (by assumption) ?_ | first | refine Wk.o ?_ | refine Wk.q (by assumption) ?_)); all_goals (repeat subst hqq)
           all_goals first | exact ⟨ex0, by rw [len _ (by omega)]; rfl, rfl⟩
       · rw [dropT_nil hk2] at p3
         simp only [Option.some.injEq] at p3
         subst p3
         have hm' := c_missing (G := G) T (k + 1) hT (by omega)
         rw [missAt, if_pos (by omega)] at hm'
         (try refine Wk.aw fun _ hqq => ?_); (repeat' (first | ((first | refine Wk.hd ?_ | refine Wk.i ?_); simp -implicitDefEqProofs (disch := omega) only [go_sem, seval]) | (refine TQ_s (fun hc => ?_) (fun hc => ?_) <;> try omega) | refine CQ_ok ((by first | exact hop1 _ | exact hop2 _)) ?_ | refine CQ_ok (hm' _) ?_ | refine Wk.ret fun _ _ => ?_ | refine Wk.fin (by assumption) ?_ | first | refine Wk.o ?_ | refine Wk.q (by assumption) ?_)); all_goals (repeat subst hqq)
         all_goals first | exact ⟨ex0, by simp only [List.length_nil]; rw [show T.length - 0 = k + 1 by omega]; rfl, rfl⟩
   · rw [dropT_nil hk] at p3
     simp only [Option.some.injEq] at p3
     rw [← dropT_nil hk] at p3
     subst p3
     have n1 : opAt T k [46] = false := by simp [opAt, hk]
     have n2 : opAt T k [91] = false := by simp [opAt, hk]
     rw [n1] at hop1
     rw [n2] at hop2
     (try refine Wk.aw fun _ hqq => ?_); (repeat' (first | ((first | refine Wk.hd ?_ | refine Wk.i ?_); simp -implicitDefEqProofs (disch := omega) only [go_sem, seval]) | refine CQ_ok ((by first | exact hop1 _ | exact hop2 _)) ?_ | refine Wk.ret fun _ _ => ?_ | refine Wk.fin (by assumption) ?_ | first | refine Wk.o ?_ | refine Wk.q (by assumption) ?_ | refine Wk.sw fun _ hqq => ?_)); all_goals (repeat subst hqq)
     all_goals first | exact ⟨by rw [len k p1], rfl⟩
 · have c1 := (hat i hi _ h1).err
   have he := pF_err h1
   rw [h1] at h
   simp only [thenF, Option.some.injEq] at h
   subst h
   refine Acalls.body Tryz.func124 rfl Tryz.ntmps124 (by simp) ?_
   (try refine Wk.aw fun _ hqq => ?_); (repeat' (first | (refine AW.atL ?_; refine AW.rounds 1 ?_) | ((first | refine Wk.hd ?_ | refine Wk.i ?_); simp -implicitDefEqProofs (disch := omega) only [go_sem, seval]) | (refine TQ_s (fun hc => ?_) (fun hc => ?_) <;> try omega) | refine CQ_ex (c1 _) fun x_ => ?_ | refine Wk.ret fun _ _ => ?_ | refine Wk.fin (by assumption) ?_ | first | refine Wk.o ?_ | refine Wk.q (by assumption) ?_ | refine Wk.sw fun _ hqq => ?_ | refine Wk.rnd fun _ hqq => ?_)); all_goals (repeat subst hqq)
   all_goals first | exact ⟨_, rfl, rfl⟩
end Go.Proofs.YtofbdmdigopaoaaGreatDoor
end
section
set_option maxHeartbeats 8000000
set_option maxRecDepth 20000
namespace Go.Proofs.YtofbdmdigopaoaaGreatDoor
open Go.Abs
attribute [local irreducible] AW OX condQ GQ bodyQ RoundsA thenQ blockQ Acalls
variable {G : World → Nat → Prop}
abbrev chS (B : List Blk) (K : List (Nat × Nat × Nat)) (b : Nat) (T : List Tk) (x : Ex × Nat × Nat) : St := ⟨B.set b (rdB T x.2.1) ++ [.cells zE', .cells (x.1.enc.map .d)], K⟩
abbrev chG (B : List Blk) (b : Nat) (_ : Ex × Nat × Nat) : List (Nat × V) := [(0, .ptr b 0), (2, .ptr B.length 0), (3, .ptr (B.length + 1) 0)]
theorem chain_next {B : List Blk} {K : List (Nat × Nat × Nat)} {b : Nat} {T : List Tk} {p : Ex × Nat × Nat → Prop} {x x' : Ex × Nat × Nat} {fr : Fr} {cs : List V} {L : List Blk} {i : Nat} (hb : B[b]? = some (rdB T i))
   (slots : okF fr (chG B b x')) (ok : p x') (less : x'.2.2 < x.2.2) (hsh : shB (.cells cs) = .cells (x'.1.enc.map .d)) (hw : (Blk.cells cs).within (B.length + 2) K.length = true) :
   NxtTW ⟨B, K⟩ (chG B b) (chS B K b T) p (fun x => x.2.2) x fr ⟨B.set b (rdB T x'.2.1) ++ (.cells zE' :: .cells cs :: L), K⟩ x' := by
 have hbl := (List.getElem?_eq_some_iff.1 hb).1
 refine ⟨slots, ok, less, ⟨B.set b (rdB T x'.2.1) ++ [.cells zE', .cells cs], ?_, shO.app (shO.refl _) ?_, ?_⟩, by simp, by simp, ?_⟩
 · simp [St.cut, List.take_append]
   exact List.take_of_length_le (by simp)
 · simp only [List.map_cons, List.map_nil, hsh]
   rfl
 · intro b' B' h
   simp only [List.length_append, List.length_set, List.length_cons, List.length_nil, Nat.zero_add]
   by_cases hlt : b' < B.length
   · rw [List.getElem?_append_left (by simpa using hlt), List.getElem?_set] at h
     by_cases hbb : b = b'
     · subst hbb
       rw [if_pos rfl, if_pos hlt] at h
       cases h
       exact .inr (by simp [Blk.within, V.within, V.within.all])
     · rw [if_neg hbb] at h
       exact .inl h
   · rw [List.getElem?_append_right (by simpa using hlt), List.length_set] at h
     match hd : b' - B.length with
     | 0 => rw [hd] at h; simp at h; subst h; exact .inr (by simp [Blk.within, V.within, V.within.all])
     | 1 => rw [hd] at h; simp at h; subst h; exact .inr hw
     | d + 2 => rw [hd] at h; simp at h
 · simp [okW, V.within, hbl]
   omega
theorem r_chain (hg : GV G) {T : List Tk} {f : Nat} (hT : T.length ≤ 1048576) (hx : ∀ t ∈ T, t.text.length ≤ 1048576) (hf : ∀ g < f, RdIH G T g)
   (hat : ∀ i, i ≤ T.length → ∀ r, pF f .atom (T.drop i) = some r → RdP G T 174 [] i r) (i : Nat) (hi : i ≤ T.length) (r : Res Ex) (h : thenF (pF f .atom (T.drop i)) (fun e r2 => pF f (.chain e) r2) = some r) :
   RdP G T 152 [] i r := by
 intro B K b hb
 have hbl : b < B.length := (List.getElem?_eq_some_iff.1 hb).1
 have hs1 : ∀ m y, (B ++ m).set b y = B.set b y ++ m := fun m y => set_app hb
 have hs2 : ∀ z m y, (B.set b z ++ m).set b y = B.set b y ++ m := fun z m y => set_app2 hb
 have hg1 : ∀ m, (B ++ m)[b]? = some (rdB T i) := fun m => get_app hb
 have hg2 : ∀ z m, (B.set b z ++ m)[b]? = some z := fun z m => get_app (set_get hb)
 have hl : ∀ z, (B.set b z).length = B.length := fun z => List.length_set
 have hG : ∀ (z : Blk) (m : List Blk) (k : Nat), (B.set b z ++ m)[B.length + k]? = m[k]? := fun z m k => by rw [List.getElem?_append_right (by simp)]; simp
 have hG0 : ∀ (z : Blk) (m : List Blk), (B.set b z ++ m)[B.length]? = m[0]? := fun z m => by rw [List.getElem?_append_right (by simp)]; simp
 have hS : ∀ (z y : Blk) (m : List Blk) (k : Nat), (B.set b z ++ m).set (B.length + k) y = B.set b z ++ m.set k y := fun z y m k => by rw [List.set_append_right _ _ (by simp)]; simp
 have hS0 : ∀ (z y : Blk) (m : List Blk), (B.set b z ++ m).set B.length y = B.set b z ++ m.set 0 y := fun z y m => by rw [List.set_append_right _ _ (by simp)]; simp
 have len : ∀ j, j ≤ T.length → T.length - (T.drop j).length = j := fun j hj => by simp only [List.length_drop]; omega
 rcases h1 : pF f .atom (T.drop i) with _ | (⟨c, r1⟩ | ⟨r1, ec⟩)
 · rw [h1] at h; simp [thenF] at h
 · have c1 := hat i hi _ h1
   obtain ⟨j, hij, hj, d1, e1⟩ := pF_at h1 hi
   simp only [resRest] at d1 e1
   subst d1
   simp only [RdP, rdO, resRest, e1] at c1
   have c1' : ∀ m, Acalls Tryz.prog G 174 [.ptr b 0] ⟨B ++ m, K⟩ (fun o s => o = .ret (vE c) ∧ s = ⟨B.set b (rdB T j) ++ m, K⟩) := fun m => by have := c1 _ K b (hg1 m); simp only [hs1] at this; exact this
   rw [h1] at h
   simp only [thenF] at h
   refine Acalls.body Tryz.func152 rfl Tryz.ntmps152 (by simp) ?_
   (try refine Wk.aw fun _ hqq => ?_); (repeat' (first | ((first | refine Wk.hd ?_ | refine Wk.i ?_); simp -implicitDefEqProofs (disch := omega) only [go_sem, seval, hs1, hs2, hl, hG, hG0, hS, hS0]) | refine CQ_st (c1' _) ?_ | refine Wk.o ?_)); all_goals (repeat subst hqq)
   refine AW.loopTW (chG B b) (chS B K b T)
     (fun x => x.2.1 ≤ T.length ∧ x.2.2 ≤ f ∧ pF x.2.2 (.chain x.1) (T.drop x.2.1) = some r) (fun x => x.2.2) (c, j, f) rfl (shO.app (shO.refl _) (by simp -implicitDefEqProofs (disch := omega) only [go_sem, seval]; first | done | exact rfl)) (by simp -implicitDefEqProofs (disch := omega) only [go_sem, seval] <;> first | rfl | exact ⟨rfl, rfl⟩ | skip) ⟨hj, Nat.le_refl _, h⟩ ?_
   rintro ⟨e, k, g⟩ ⟨p1, p2, p3⟩
   simp only at p1 p2 p3
   obtain ⟨g, rfl⟩ : ∃ g', g = g' + 1 := by
     cases g with
     | zero => simp [pF] at p3
     | succ g => exact ⟨g, rfl⟩
   simp only [pF] at p3
   have at_ : ∀ s, opAt T k s = true → ∀ m, Acalls Tryz.prog G 81 [.ptr b 0, vs s] ⟨B.set b (rdB T k) ++ m, K⟩ (fun o s' => o = .ret (vb true) ∧ s' = ⟨B.set b (rdB T (k + 1)) ++ m, K⟩) := fun s hs m => by
     have := c_accept_t (G := G) hg ⟨B.set b (rdB T k) ++ m, K⟩ b k T hT hx (by omega) (hg2 _ m) s (by rw [isF_op]; exact hs)
     simp only [hs2] at this; exact this
   have af_ : ∀ s, opAt T k s = false → ∀ m, Acalls Tryz.prog G 81 [.ptr b 0, vs s] ⟨B.set b (rdB T k) ++ m, K⟩ (fun o s' => o = .ret (vb false) ∧ s' = ⟨B.set b (rdB T k) ++ m, K⟩) := fun s hs m =>
     c_accept_f (G := G) hg ⟨B.set b (rdB T k) ++ m, K⟩ b k T hT hx (by omega) (hg2 _ m) s (by rw [isF_op]; exact hs)
   cases hb1 : opAt T k [46]
   · have a1 := af_ _ hb1
     cases hb2 : opAt T k [91]
     · have a2 := af_ _ hb2
       have hr : r = .ok e (T.drop k) := by
         by_cases hk : k < T.length
         · rw [dropT hk] at p3
           simp only at p3
           rw [opAt_f hk hb1, if_neg Bool.false_ne_true, opAt_f hk hb2, if_neg Bool.false_ne_true, ← dropT hk] at p3
           simp only [Option.some.injEq] at p3
           exact p3.symm
         · rw [dropT_nil hk] at p3
           simp only [Option.some.injEq] at p3
           rw [← p3, dropT_nil hk]
       subst hr
       simp only [rdO, resRest, len k p1]
       (try refine Wk.aw fun _ hqq => ?_); (repeat' (first | ((first | refine Wk.hd ?_ | refine Wk.i ?_); simp -implicitDefEqProofs (disch := omega) only [go_sem, seval, hs1, hs2, hl, hG, hG0, hS, hS0]) | refine CQ_ok ((by first | exact a1 _ | exact a2 _)) ?_ | first | refine Wk.o ?_ | refine Wk.q (by assumption) ?_)); all_goals (repeat subst hqq)
       refine bodyQ_retM (v := vE e) K.length (Nat.le_refl _) (s1 := ⟨B.set b (rdB T k), K⟩) (by simp [St.cut]) (set_old ?_) (by simp -implicitDefEqProofs (disch := omega) only [go_sem, seval, resOf_tmp, resOf_cell, Tryz.results152, hG, hG0]; first | done | exact rfl) (by simp -implicitDefEqProofs (disch := omega) only [go_sem, seval, resV]; first | done | exact rfl) (by simp -implicitDefEqProofs (disch := omega) only [go_sem, seval]; first | done | exact rfl) ⟨rfl, rfl⟩
       simp [Blk.within, V.within, V.within.all]
     · have a2 := at_ _ hb2
       have hk := opAt_lt hb2
       rw [dropT hk] at p3
       simp only at p3
       rw [opAt_f hk hb1, if_neg Bool.false_ne_true, opAt_t hb2, if_pos rfl] at p3
       rcases h2 : pF g .cond (T.drop (k + 1)) with _ | (⟨x, r2⟩ | ⟨r2, e2⟩)
       · rw [h2] at p3; simp [thenF] at p3
       · have c2 := (hf g (by omega)).cond (k + 1) (by omega) _ h2
         obtain ⟨m, hkm, hm, d2, e2⟩ := pF_at h2 (by omega)
         simp only [resRest] at d2 e2
         subst d2
         simp only [RdP, rdO, resRest, e2] at c2
         have c2' : ∀ m', Acalls Tryz.prog G 49 [.ptr b 0] ⟨B.set b (rdB T (k + 1)) ++ m', K⟩ (fun o s => o = .ret (vE x) ∧ s = ⟨B.set b (rdB T m) ++ m', K⟩) := fun m' => by have := c2 _ K b (hg2 _ m'); simp only [hs2] at this; exact this
         rw [h2] at p3
         simp only [thenF] at p3
         rw [expectF_at] at p3
         cases hb3 : opAt T m [93]
         · rw [hb3] at p3
           rw [if_neg Bool.false_ne_true] at p3
           simp only [Option.some.injEq] at p3
           subst p3
           have hx2 := fun m' => c_expect_f (G := G) hg ⟨B.set b (rdB T m) ++ m', K⟩ b m T hT hx (by omega) (by exact hg2 _ _) [93] (by rw [isF_op]; exact hb3)
           simp only [rdO, resRest, len m hm]
           (try refine Wk.aw fun _ hqq => ?_); (repeat' (first | ((first | refine Wk.hd ?_ | refine Wk.i ?_); simp -implicitDefEqProofs (disch := omega) only [go_sem, seval, hs1, hs2, hl, hG, hG0, hS, hS0]) | refine CQ_ok (a1 _) ?_ | refine CQ_st (a2 _) ?_ | refine CQ_st (c2' _) ?_ | refine CQ_pan (hx2 _) ?_ | first | refine Wk.o ?_ | refine Wk.q (by assumption) ?_)); all_goals (repeat subst hqq)
           refine bodyQ_panS (s1 := ⟨B.set b (rdB T m), K⟩) (by simp [St.cut]) (set_old ?_) rfl ⟨rfl, rfl⟩
           simp [Blk.within, V.within, V.within.all]
         · have hml := opAt_lt hb3
           rw [hb3] at p3
           rw [if_pos rfl] at p3
           have hx2' : ∀ m', Acalls Tryz.prog G 82 [.ptr b 0, vs [93]] ⟨B.set b (rdB T m) ++ m', K⟩ (fun o s' => o = .ret (.tup []) ∧ s' = ⟨B.set b (rdB T (m + 1)) ++ m', K⟩) := fun m' => by
             have := c_expect_t (G := G) hg ⟨B.set b (rdB T m) ++ m', K⟩ b m T hT hx (by omega) (by exact hg2 _ _) [93] (by rw [isF_op]; exact hb3)
             simp only [hs2] at this; exact this
           (try refine Wk.aw fun _ hqq => ?_); (repeat' (first | ((first | refine Wk.hd ?_ | refine Wk.i ?_); simp -implicitDefEqProofs (disch := omega) only [go_sem, seval, hs1, hs2, hl, hG, hG0, hS, hS0]) | refine CQ_ok (a1 _) ?_ | refine CQ_st (a2 _) ?_ | refine CQ_st (c2' _) ?_ | refine CQ_st (hx2' _) ?_ | first | refine Wk.o ?_ | refine Wk.q (by assumption) ?_)); all_goals (repeat subst hqq)
           refine ⟨(Ex.mk 4 [] val0 [e, x] [], m + 1, g), ?_⟩
           refine chain_next (x' := (Ex.mk 4 [] val0 [e, x] [], m + 1, g)) hb ?_ ?_ ?_ ?_ ?_
           · simp -implicitDefEqProofs (disch := omega) only [go_sem, seval] <;> first | rfl | exact ⟨rfl, rfl⟩ | skip
           · exact ⟨by simp only; omega, by simp only; omega, p3⟩
           · simp only; omega
           · rfl
           · simp [Blk.within, V.within, V.within.all]
       · have c2 := (hf g (by omega)).cond (k + 1) (by omega) _ h2
         have he := pF_err h2
         rw [h2] at p3
         simp only [thenF, Option.some.injEq] at p3
         subst p3
         simp only [RdP, rdO, resRest] at c2
         have c2' : ∀ m', Acalls Tryz.prog G 49 [.ptr b 0] ⟨B.set b (rdB T (k + 1)) ++ m', K⟩ (fun o s => o = .pan (panV (T.length - r2.length) e2) ∧ s = ⟨B.set b (rdB T (T.length - r2.length)) ++ m', K⟩) := fun m' => by have := c2 _ K b (hg2 _ m'); simp only [hs2] at this; exact this
         simp only [rdO, resRest]
         (try refine Wk.aw fun _ hqq => ?_); (repeat' (first | ((first | refine Wk.hd ?_ | refine Wk.i ?_); simp -implicitDefEqProofs (disch := omega) only [go_sem, seval, hs1, hs2, hl, hG, hG0, hS, hS0]) | refine CQ_ok (a1 _) ?_ | refine CQ_st (a2 _) ?_ | refine CQ_pan (c2' _) ?_ | first | refine Wk.o ?_ | refine Wk.q (by assumption) ?_)); all_goals (repeat subst hqq)
         refine bodyQ_panS (s1 := ⟨B.set b (rdB T (T.length - r2.length)), K⟩) (by simp [St.cut]) (set_old ?_) rfl ⟨rfl, rfl⟩
         simp [Blk.within, V.within, V.within.all]
   · have a1 := at_ _ hb1
     have hk := opAt_lt hb1
     rw [dropT hk] at p3
     simp only at p3
     rw [opAt_t hb1, if_pos rfl] at p3
     cases hne : needF T (k + 1) with
     | error ee =>
       have hn := fun m => c_need_err (G := G) hg ⟨B.set b (rdB T (k + 1)) ++ m, K⟩ b (k + 1) T hT hx (by omega) (hg2 _ m) ee hne
       have hee := needF_err hne
       have hr : r = .err (T.drop (k + 1)) ee := by
         rw [hee, missAt]
         by_cases hk2 : k + 1 < T.length
         · rw [dropT hk2] at p3
           simp only at p3
           have hnp : ¬ ((T.getD (k + 1) default).kind = 1 ∧ isPlain (T.getD (k + 1) default).text = true) := by
             rintro ⟨q1, q2⟩
             rw [isPlain, Bool.and_eq_true] at q2
             have hrl : realT (T.getD (k + 1) default) = true := by rw [realT, if_pos q1]; exact q2.1
             rw [needF, if_neg (by omega), peekF, if_pos hk2, if_pos hrl, if_neg (by omega)] at hne
             cases hne
           rw [if_neg hnp, ← dropT hk2, Option.some.injEq] at p3
           rw [if_neg (by omega)]; exact p3.symm
         · rw [dropT_nil hk2, Option.some.injEq] at p3
           rw [if_pos (by omega), dropT_nil hk2]; exact p3.symm
       subst hr
       have hkl : k + 1 ≤ T.length := by omega
       simp only [rdO, resRest, len (k + 1) hkl]
       (try refine Wk.aw fun _ hqq => ?_); (repeat' (first | ((first | refine Wk.hd ?_ | refine Wk.i ?_); simp -implicitDefEqProofs (disch := omega) only [go_sem, seval, hs1, hs2, hl, hG, hG0, hS, hS0]) | refine CQ_st (a1 _) ?_ | refine CQ_pan (hn _) ?_ | first | refine Wk.o ?_ | refine Wk.q (by assumption) ?_)); all_goals (repeat subst hqq)
       refine bodyQ_panS (s1 := ⟨B.set b (rdB T (k + 1)), K⟩) (by simp [St.cut]) (set_old ?_) rfl ⟨rfl, rfl⟩
       simp [Blk.within, V.within, V.within.all]
     | ok u =>
       have hk2 := needF_lt hne
       have hn := fun m => c_need_ok (G := G) hg ⟨B.set b (rdB T (k + 1)) ++ m, K⟩ b (k + 1) T hT hx (by omega) (hg2 _ m) u hne
       rw [dropT hk2] at p3
       simp only at p3
       have hu : u = T.getD (k + 1) default ∧ realT u = true := by
         rw [needF, if_neg (by omega), peekF, if_pos hk2] at hne
         by_cases hrl : realT (T.getD (k + 1) default) = true
         · rw [if_pos hrl] at hne
           split at hne
           · cases hne
           · cases hne; exact ⟨rfl, hrl⟩
         · rw [if_neg hrl, if_pos (show tk0.kind = 0 from rfl)] at hne
           cases hne
       obtain ⟨hu1, hu2⟩ := hu
       rw [← hu1] at p3
       have hww := c_par_word (G := G) u.text
       have hfl := fun m => c_fail (G := G) ⟨B.set b (rdB T (k + 1)) ++ m, K⟩ b (k + 1) T 5 (hg2 _ m)
       have hwe : (decide (u.text = sTrue) || decide (u.text = sFalse) || decide (u.text = sNull)) = isWord u.text := by
         rw [Bool.eq_iff_iff]; simp only [isWord, Bool.or_eq_true, decide_eq_true_eq, or_assoc]; exact Iff.rfl
       rw [hwe] at hww
       by_cases hq : u.kind = 1 ∧ isWord u.text = false
       · obtain ⟨q1, q2⟩ := hq
         have hpl : isPlain u.text = true := by
           rw [realT, if_pos q1] at hu2
           rw [isPlain, hu2, q2]; rfl
         rw [if_pos ⟨q1, hpl⟩] at p3
         rw [q2] at hww
         (try refine Wk.aw fun _ hqq => ?_); (repeat' (first | ((first | refine Wk.hd ?_ | refine Wk.i ?_); simp -implicitDefEqProofs (disch := omega) only [go_sem, seval, hs1, hs2, hl, hG, hG0, hS, hS0, hg2, q1]) | refine CQ_st (a1 _) ?_ | refine CQ_ok (hn _) ?_ | refine CQ_ok (hww _) ?_ | first | refine Wk.o ?_ | refine Wk.q (by assumption) ?_)); all_goals (repeat subst hqq)
         all_goals first | (exfalso; omega) | skip
         refine ⟨(Ex.mk 3 u.text val0 [e] [], k + 1 + 1, g), ?_⟩
         refine chain_next (x' := (Ex.mk 3 u.text val0 [e] [], k + 1 + 1, g)) hb ?_ ?_ ?_ ?_ ?_
         · simp -implicitDefEqProofs (disch := omega) only [go_sem, seval] <;> first | rfl | exact ⟨rfl, rfl⟩ | skip
         · exact ⟨by simp only; omega, by simp only; omega, p3⟩
         · simp only; omega
         · rfl
         · simp [Blk.within, V.within, V.within.all]
       · have hnp : ¬ (u.kind = 1 ∧ isPlain u.text = true) := by
           rintro ⟨q1, q2⟩
           rw [isPlain, Bool.and_eq_true] at q2
           exact hq ⟨q1, by simpa using q2.2⟩
         rw [if_neg hnp, hu1, ← dropT hk2, Option.some.injEq] at p3
         subst p3
         simp only [rdO, resRest, len (k + 1) (by omega)]
         by_cases q1 : u.kind = 1
         · have q2 : isWord u.text = true := by
             rw [← Bool.not_eq_false]; exact fun h => hq ⟨q1, h⟩
           rw [q2] at hww
           (try refine Wk.aw fun _ hqq => ?_); (repeat' (first | ((first | refine Wk.hd ?_ | refine Wk.i ?_); simp -implicitDefEqProofs (disch := omega) only [go_sem, seval, hs1, hs2, hl, hG, hG0, hS, hS0, hg2, q1]) | refine CQ_st (a1 _) ?_ | refine CQ_ok (hn _) ?_ | refine CQ_ok (hww _) ?_ | refine CQ_pan (hfl _) ?_ | first | refine Wk.o ?_ | refine Wk.q (by assumption) ?_)); all_goals (repeat subst hqq)
           refine bodyQ_panS (s1 := ⟨B.set b (rdB T (k + 1)), K⟩) (by simp [St.cut]) (set_old ?_) rfl ⟨rfl, rfl⟩
           simp [Blk.within, V.within, V.within.all]
         · (try refine Wk.aw fun _ hqq => ?_); (repeat' (first | ((first | refine Wk.hd ?_ | refine Wk.i ?_); simp -implicitDefEqProofs (disch := omega) only [go_sem, seval, hs1, hs2, hl, hG, hG0, hS, hS0, hg2]) | (refine TQ_s (fun hc => ?_) (fun hc => ?_) <;> try omega) | refine CQ_st (a1 _) ?_ | refine CQ_ok (hn _) ?_ | refine CQ_pan (hfl _) ?_ | first | refine Wk.o ?_ | refine Wk.q (by assumption) ?_)); all_goals (repeat subst hqq)
           refine bodyQ_panS (s1 := ⟨B.set b (rdB T (k + 1)), K⟩) (by simp [St.cut]) (set_old ?_) rfl ⟨rfl, rfl⟩
           simp [Blk.within, V.within, V.within.all]
 · have c1 := hat i hi _ h1
   rw [h1] at h
   simp only [thenF, Option.some.injEq] at h
   subst h
   simp only [RdP, rdO, resRest] at c1
   have c1' : ∀ m, Acalls Tryz.prog G 174 [.ptr b 0] ⟨B ++ m, K⟩ (fun o s => o = .pan (panV (T.length - r1.length) ec) ∧ s = ⟨B.set b (rdB T (T.length - r1.length)) ++ m, K⟩) := fun m => by have := c1 _ K b (hg1 m); simp only [hs1] at this; exact this
   simp only [rdO, resRest]
   refine Acalls.body Tryz.func152 rfl Tryz.ntmps152 (by simp) ?_
   (try refine Wk.aw fun _ hqq => ?_); (repeat' (first | ((first | refine Wk.hd ?_ | refine Wk.i ?_); simp -implicitDefEqProofs (disch := omega) only [go_sem, seval, hs1, hs2, hl, hG, hG0, hS, hS0]) | refine CQ_pan (c1' _) ?_ | first | refine Wk.o ?_ | refine Wk.q (by assumption) ?_)); all_goals (repeat subst hqq)
   refine bodyQ_panS (s1 := ⟨B.set b (rdB T (T.length - r1.length)), K⟩) (by simp [St.cut]) (set_old ?_) rfl ⟨rfl, rfl⟩
   simp [Blk.within, V.within, V.within.all]
end Go.Proofs.YtofbdmdigopaoaaGreatDoor
end
