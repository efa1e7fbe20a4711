/- A step of the proofs of the seat's theorems. -/
import Derived.Test.YtofbdmdigopaoaaGreatDoorM25
set_option linter.unusedSimpArgs false
set_option linter.unusedVariables false
section
set_option maxHeartbeats 8000000
set_option maxRecDepth 20000
namespace Go.Abs
open Go.RowKit
def kzT (e1 s1 e2 s2 : Nat) (ks ls : List (List D)) : List (Nat × Nat × Nat) := lzT e1 s1 ks ++ lzT e2 s2 ls
theorem kzT_nil (e1 s1 e2 s2 : Nat) : kzT e1 s1 e2 s2 [] [] = [] := rfl
section
variable {P : Program} {t : TypeId} {st : St}
theorem kz_within1 (N M : Nat) (e1 s1 e2 s2 : Nat) (ks ls : List (List D)) : (lz M ks).within N (M + (kzT e1 s1 e2 s2 ks ls).length) = true := by cases ks <;> cases ls <;> simp [lz, lzT, kzT, V.within]
theorem kz_within2 (N M : Nat) (e1 s1 e2 s2 : Nat) (ks ls : List (List D)) (h : ls.length ≤ ks.length) : (lz (M + 1) ls).within N (M + (kzT e1 s1 e2 s2 ks ls).length) = true := by
 cases ks <;> cases ls <;> simp [lz, lzT, kzT, V.within] at h ⊢
theorem appB_kz1 (e1 s1 e2 s2 by_ : Nat) (xs ks ls : List (List D)) (B : List Blk) (T : List (Nat × Nat × Nat)) (h0 : 0 < s1) (hx : 0 < xs.length) (hl : ls.length ≤ ks.length) (h1 : (ks.length + xs.length) * by_ ≤ 140737488355328) (h2 : ks.length + xs.length ≤ 9223372036854775807) :
   appB (some s1) true true e1 s1 by_ xs (lz T.length ks) ⟨B, T ++ kzT e1 s1 e2 s2 ks ls⟩ = some (lz T.length (ks ++ xs), ⟨B, T ++ kzT e1 s1 e2 s2 (ks ++ xs) ls⟩) := by
 have hm : maxLen = 9223372036854775807 := by decide
 have hxe : xs.isEmpty = false := by cases xs <;> simp_all
 cases ks with
 | nil =>
   have : ls = [] := by cases ls <;> simp_all
   subst this
   simp only [List.length_nil, Nat.zero_add] at h1 h2
   cases xs with
   | nil => simp at hx
   | cons x xs => simp [appB, lz, lzT, kzT, roomB, hm, h0]; simp at h1 h2; exact ⟨h1, h2⟩
 | cons y es =>
   simp only [appB, lz, lzT, kzT, roomB, hm, h0]
   rw [if_pos ⟨trivial, trivial, trivial⟩, if_pos ⟨by simp, trivial, by simpa using h1, by simpa using h2⟩, hxe]
   simp; omega
theorem appB_kz2 (e1 s1 e2 s2 by_ : Nat) (xs ks ls : List (List D)) (B : List Blk) (T : List (Nat × Nat × Nat)) (h0 : 0 < s2) (hx : 0 < xs.length) (hk : 0 < ks.length) (h1 : (ls.length + xs.length) * by_ ≤ 140737488355328) (h2 : ls.length + xs.length ≤ 9223372036854775807) :
   appB (some s2) true true e2 s2 by_ xs (lz (T.length + 1) ls) ⟨B, T ++ kzT e1 s1 e2 s2 ks ls⟩ = some (lz (T.length + 1) (ls ++ xs), ⟨B, T ++ kzT e1 s1 e2 s2 ks (ls ++ xs)⟩) := by
 have hm : maxLen = 9223372036854775807 := by decide
 have hxe : xs.isEmpty = false := by cases xs <;> simp_all
 cases ks with
 | nil => simp at hk
 | cons k ks =>
 cases ls with
 | nil =>
   simp only [List.length_nil, Nat.zero_add] at h1 h2
   cases xs with
   | nil => simp at hx
   | cons x xs => simp [appB, lz, lzT, kzT, roomB, hm, h0]; simp at h1 h2; exact ⟨h1, h2⟩
 | cons y es =>
   simp only [appB, lz, lzT, kzT, roomB, hm, h0]
   rw [if_pos ⟨trivial, trivial, trivial⟩, if_pos ⟨by simp, trivial, by simpa using h1, by simpa using h2⟩, hxe]
   simp; omega
attribute [go_sem] kzT_nil kz_within1 kz_within2 appB_kz1 appB_kz2
end
end Go.Abs
namespace Go.Proofs.YtofbdmdigopaoaaGreatDoor
open Go.Abs
attribute [local irreducible] AW OX condQ GQ bodyQ RoundsA thenQ blockQ Acalls
variable {G : World → Nat → Prop}
theorem encKs_append (a b : List Str) : encKs (a ++ b) = encKs a ++ encKs b := by induction a <;> simp_all [encKs]
theorem ref_ents {T : List Tk} {f : Nat} (hT : T.length ≤ 1048576) (hX : ∀ t ∈ T, t.text.length ≤ 1048576) (hf : ∀ g ≤ f, RefIH G T g) (i : Nat) (hi : i ≤ T.length) (r : Res Ex) (h : pF (f + 1) .ents (T.drop i) = some r) :
   Ans G 192 [vTl T, vint i, vs [125], vb true] (refL T r) := by
 intro st
 have len : ∀ j, j ≤ T.length → T.length - (T.drop j).length = j := fun j hj => by simp only [List.length_drop]; omega
 have hop := c_op (G := G) T i [125] hT (by omega)
 cases hb : opAt T i [125]
 · rw [hb] at hop
   have h' : pF f (.ent [] []) (T.drop i) = some r := by
     simp only [pF] at h
     by_cases hil : i < T.length
     · rw [dropT hil] at h ⊢
       simp only [opAt_f hil hb, Bool.false_eq_true, if_false] at h
       exact h
     · rw [dropT_nil hil] at h ⊢; exact h
   refine Acalls.body Tryz.func192 rfl Tryz.ntmps192 (by simp) ?_
   (try with_reducible refine Wk.aw fun _ hqq => ?_); (repeat' (first | ((with_reducible first | refine Wk.hd ?_ | refine Wk.i ?_); simp -implicitDefEqProofs (disch := first | omega | (simp only [go_sem]; try omega)) only [go_sem, seval]) | refine CQ_ok (hop _) ?_ | with_reducible refine Wk.o ?_)); all_goals (repeat subst hqq)
   refine AW.loopS (fun x : List Ex × List Str × Nat × Nat => [(0, vTl T), (1, vint ↑x.2.2.1), (2, vs [125]), (3, vb true), (12, lz (st.toks.length + 1) (x.1.map Ex.enc)), (13, lz st.toks.length (encKs x.2.1))]) (fun _ => []) (fun x => kzT 9 1 29 10 (encKs x.2.1) (x.1.map Ex.enc))
     (fun x => x.2.2.1 ≤ T.length ∧ x.1.length ≤ x.2.2.1 ∧ x.1.length = x.2.1.length ∧ x.2.2.2 ≤ f ∧ pF x.2.2.2 (.ent x.1 x.2.1) (T.drop x.2.2.1) = some r) (fun x => x.2.2.2) ([], [], i, f) (by simp -implicitDefEqProofs (disch := first | omega | (simp only [go_sem]; try omega)) only [go_sem, seval, encKs] <;> first | rfl | exact ⟨rfl, rfl⟩ | skip) (by simp -implicitDefEqProofs (disch := first | omega | (simp only [go_sem]; try omega)) only [go_sem, seval, encKs] <;> first | rfl | exact ⟨rfl, rfl⟩ | skip) ⟨hi, by simp, by simp, Nat.le_refl _, h'⟩ ?_
   rintro ⟨acc, ks, k, g⟩ ⟨p1, p2, p2', p3, p4⟩
   simp only at p1 p2 p2' p3 p4
   obtain ⟨g, rfl⟩ : ∃ g', g = g' + 1 := by
     cases g with
     | zero => simp [pF] at p4
     | succ g => exact ⟨g, rfl⟩
   simp only [pF] at p4
   by_cases hk : k < T.length
   · have hxk := hX _ (getT_mem hk)
     have hkey := c_ref_key (G := G) (T.getD k default) hxk
     rw [dropT hk] at p4
     simp only at p4
     cases hkb : isKeyT (T.getD k default)
     · rw [hkb] at p4 hkey
       rw [if_neg Bool.false_ne_true] at p4
       simp only [Option.some.injEq] at p4
       rw [← dropT hk] at p4
       subst p4
       have hm' := c_missing (G := G) T k hT (by omega)
       rw [missAt, if_neg (by omega)] at hm'
       (try with_reducible refine Wk.aw fun _ hqq => ?_); (repeat' (first | ((with_reducible first | refine Wk.hd ?_ | refine Wk.i ?_); simp -implicitDefEqProofs (disch := first | omega | (simp only [go_sem]; try omega)) only [go_sem, seval]) | (refine TQ_s (fun hc => ?_) (fun hc => ?_) <;> try (exfalso; first | omega | contradiction)) | refine CQ_ok (hkey _) ?_ | refine CQ_ok (hm' _) ?_ | with_reducible refine Wk.ret fun _ _ => ?_ | refine Wk.fin (by assumption) ?_ | with_reducible first | refine Wk.o ?_ | refine Wk.q (by assumption) ?_)); all_goals (repeat subst hqq)
       all_goals exact ⟨by simp only [refL]; rw [len k p1], rfl⟩
     · rw [hkb] at p4 hkey
       rw [if_pos rfl, expectF_at] at p4
       have hop1 := c_op (G := G) T (k + 1) [58] hT (by omega)
       cases hb1 : opAt T (k + 1) [58]
       · rw [hb1] at hop1 p4
         rw [if_neg Bool.false_ne_true] at p4
         simp only [Option.some.injEq] at p4
         subst p4
         have hm' := c_missing (G := G) T (k + 1) hT (by omega)
         (try with_reducible refine Wk.aw fun _ hqq => ?_); (repeat' (first | ((with_reducible first | refine Wk.hd ?_ | refine Wk.i ?_); simp -implicitDefEqProofs (disch := first | omega | (simp only [go_sem]; try omega)) only [go_sem, seval]) | (refine TQ_s (fun hc => ?_) (fun hc => ?_) <;> try (exfalso; first | omega | contradiction)) | refine CQ_ok (hkey _) ?_ | refine CQ_ok (hop1 _) ?_ | refine CQ_ok (hm' _) ?_ | with_reducible refine Wk.ret fun _ _ => ?_ | refine Wk.fin (by assumption) ?_ | with_reducible first | refine Wk.o ?_ | refine Wk.q (by assumption) ?_)); all_goals (repeat subst hqq)
         all_goals exact ⟨by simp only [refL]; rw [len (k + 1) (by omega)], rfl⟩
       · rw [hb1] at hop1 p4
         rw [if_pos rfl] at p4
         have hkl1 := opAt_lt hb1
         rcases h2 : pF g .cond (T.drop (k + 1 + 1)) with _ | (⟨x, r2⟩ | ⟨r2, e2⟩)
         · rw [h2] at p4; simp [thenF] at p4
         · have c2 := ((hf g (by omega)).cond (k + 1 + 1) (by omega) _ h2).ok
           obtain ⟨m, hkm, hm, d2, e2⟩ := pF_at h2 (by omega)
           simp only [resRest] at d2 e2
           subst d2
           rw [e2] at c2
           rw [h2] at p4
           simp only [thenF] at p4
           have hop2 := c_op (G := G) T m [125] hT (by omega)
           have hop3 := c_op (G := G) T m [44] hT (by omega)
           cases hb2 : opAt T m [125]
           · rw [hb2] at hop2
             cases hb3 : opAt T m [44]
             · rw [hb3] at hop3
               have hm' := c_missing (G := G) T m hT (by omega)
               have hr : r = .err (T.drop m) (missAt T m) := by
                 by_cases hml : m < T.length
                 · rw [dropT hml] at p4
                   simp only [opAt_f hml hb2, opAt_f hml hb3, Bool.false_eq_true, if_false, Option.some.injEq] at p4
                   rw [← p4, missAt, if_neg (by omega), dropT hml]
                 · rw [dropT_nil hml] at p4
                   simp only [Option.some.injEq] at p4
                   rw [← p4, missAt, if_pos (by omega), dropT_nil hml]
               subst hr
               (try with_reducible refine Wk.aw fun _ hqq => ?_); (repeat' (first | ((with_reducible first | refine Wk.hd ?_ | refine Wk.i ?_); simp -implicitDefEqProofs (disch := first | omega | (simp only [go_sem]; try omega)) only [go_sem, seval]) | (refine TQ_s (fun hc => ?_) (fun hc => ?_) <;> try (exfalso; first | omega | contradiction)) | refine CQ_ok (hkey _) ?_ | refine CQ_ok (c2 _) ?_ | refine CQ_ok ((by first | exact hop1 _ | exact hop2 _ | exact hop3 _)) ?_ | refine CQ_ok (hm' _) ?_ | with_reducible refine Wk.ret fun _ _ => ?_ | refine Wk.fin (by assumption) ?_ | with_reducible first | refine Wk.o ?_ | refine Wk.q (by assumption) ?_)); all_goals (repeat subst hqq)
               all_goals exact ⟨by simp only [refL]; rw [len m hm], rfl⟩
             · rw [hb3] at hop3
               have hml := opAt_lt hb3
               rw [dropT hml] at p4
               simp only [opAt_f hml hb2, opAt_t hb3, Bool.false_eq_true, if_false, if_true] at p4
               (try with_reducible refine Wk.aw fun _ hqq => ?_); (repeat' (first | ((with_reducible first | refine Wk.hd ?_ | refine Wk.i ?_); simp -implicitDefEqProofs (disch := first | omega | (simp only [go_sem]; try omega)) only [go_sem, seval]) | (refine TQ_s (fun hc => ?_) (fun hc => ?_) <;> try (exfalso; first | omega | contradiction)) | refine CQ_ok (hkey _) ?_ | refine CQ_ok (c2 _) ?_ | refine CQ_ok ((by first | exact hop1 _ | exact hop2 _ | exact hop3 _)) ?_ | with_reducible first | refine Wk.o ?_ | refine Wk.q (by assumption) ?_)); all_goals (repeat subst hqq)
               · (refine ⟨(acc ++ [x], ks ++ [(T.getD k default).text], m + 1, g), Nxt.mk ?_ ?_ ?_ (by simp -implicitDefEqProofs (disch := first | omega | (simp only [go_sem]; try omega)) only [go_sem, seval, List.map_append, encKs_append, encKs]) (by simp -implicitDefEqProofs (disch := first | omega | (simp only [go_sem]; try omega)) only [go_sem, seval, List.map_append, encKs_append, encKs]) (by first | rfl | (simp -implicitDefEqProofs (disch := first | omega | (simp only [go_sem]; try omega)) only [go_sem, seval, List.map_append, encKs_append, encKs]; all_goals omega)) (by first | rfl | (simp -implicitDefEqProofs (disch := first | omega | (simp only [go_sem]; try omega)) only [go_sem, seval, List.map_append, encKs_append, encKs]; all_goals omega))⟩; focus (try (simp -implicitDefEqProofs (disch := first | omega | (simp only [go_sem]; try omega)) only [go_sem, seval, List.map_append, encKs_append, encKs]); try ((repeat' apply And.intro) <;> first | rfl | trivial | refine vi_congr ?_ | refine vs_congr ?_ | refine vown_congr ?_ | skip)))
                 · refine ⟨by simp only; omega, by simp only [List.length_append, List.length_singleton]; omega, by simp only [List.length_append, List.length_singleton]; omega, by simp only; omega, p4⟩
                 · simp only; omega
           · rw [hb2] at hop2
             have hml := opAt_lt hb2
             rw [dropT hml] at p4
             simp only [opAt_t hb2, if_true, Option.some.injEq] at p4
             subst p4
             (try with_reducible refine Wk.aw fun _ hqq => ?_); (repeat' (first | ((with_reducible first | refine Wk.hd ?_ | refine Wk.i ?_); simp -implicitDefEqProofs (disch := first | omega | (simp only [go_sem]; try omega)) only [go_sem, seval]) | (refine TQ_s (fun hc => ?_) (fun hc => ?_) <;> try (exfalso; first | omega | contradiction)) | refine CQ_ok (hkey _) ?_ | refine CQ_ok (c2 _) ?_ | refine CQ_ok ((by first | exact hop1 _ | exact hop2 _)) ?_ | with_reducible refine Wk.ret fun _ _ => ?_ | refine Wk.fin (by assumption) ?_ | with_reducible first | refine Wk.o ?_ | refine Wk.q (by assumption) ?_)); all_goals (repeat subst hqq)
             all_goals exact ⟨by simp only [refL, Ex.args, Ex.keys, List.map_append, List.map_cons, List.map_nil, encKs_append, encKs, len (m + 1) (by omega)], rfl⟩
         · have c2 := ((hf g (by omega)).cond (k + 1 + 1) (by omega) _ h2).err
           have he := pF_err h2
           rw [h2] at p4
           simp only [thenF, Option.some.injEq] at p4
           subst p4
           (try with_reducible refine Wk.aw fun _ hqq => ?_); (repeat' (first | ((with_reducible first | refine Wk.hd ?_ | refine Wk.i ?_); simp -implicitDefEqProofs (disch := first | omega | (simp only [go_sem]; try omega)) only [go_sem, seval]) | (refine TQ_s (fun hc => ?_) (fun hc => ?_) <;> try (exfalso; first | omega | contradiction)) | refine CQ_ok (hkey _) ?_ | refine CQ_ok (hop1 _) ?_ | refine CQ_ex (c2 _) fun x_ => ?_ | with_reducible refine Wk.ret fun _ _ => ?_ | refine Wk.fin (by assumption) ?_ | with_reducible first | refine Wk.o ?_ | refine Wk.q (by assumption) ?_)); all_goals (repeat subst hqq)
           all_goals exact ⟨rfl, rfl⟩
   · rw [dropT_nil hk] at p4
     simp only [Option.some.injEq] at p4
     subst p4
     have hm' := c_missing (G := G) T k hT (by omega)
     rw [missAt, if_pos (by omega)] at hm'
     (try with_reducible refine Wk.aw fun _ hqq => ?_); (repeat' (first | ((with_reducible first | refine Wk.hd ?_ | refine Wk.i ?_); simp -implicitDefEqProofs (disch := first | omega | (simp only [go_sem]; try omega)) only [go_sem, seval]) | (refine TQ_s (fun hc => ?_) (fun hc => ?_) <;> try (exfalso; first | omega | contradiction)) | refine CQ_ok (hm' _) ?_ | with_reducible refine Wk.ret fun _ _ => ?_ | refine Wk.fin (by assumption) ?_ | with_reducible first | refine Wk.o ?_ | refine Wk.q (by assumption) ?_)); all_goals (repeat subst hqq)
     all_goals exact ⟨by simp only [refL, List.length_nil]; rw [show T.length - 0 = k by omega], rfl⟩
 · rw [hb] at hop
   have hil := opAt_lt hb
   rw [dropT hil] at h
   simp only [pF, opAt_t hb, if_true, Option.some.injEq] at h
   subst h
   refine Acalls.body Tryz.func192 rfl Tryz.ntmps192 (by simp) ?_
   (try with_reducible refine Wk.aw fun _ hqq => ?_); (repeat' (first | ((with_reducible first | refine Wk.hd ?_ | refine Wk.i ?_); simp -implicitDefEqProofs (disch := first | omega | (simp only [go_sem]; try omega)) only [go_sem, seval]) | refine CQ_ok (hop _) ?_ | with_reducible refine Wk.ret fun _ _ => ?_ | refine Wk.fin (by assumption) ?_ | with_reducible first | refine Wk.o ?_ | refine Wk.q (by assumption) ?_)); all_goals (repeat subst hqq)
   all_goals exact ⟨by simp only [refL]; rw [len (i + 1) (by omega)]; rfl, rfl⟩
end Go.Proofs.YtofbdmdigopaoaaGreatDoor
end
section
set_option maxHeartbeats 8000000
set_option maxRecDepth 20000
namespace Go.Proofs.YtofbdmdigopaoaaGreatDoor
open Go.Abs
attribute [local irreducible] AW OX condQ GQ bodyQ RoundsA thenQ blockQ Acalls
variable {G : World → Nat → Prop}
theorem encKs_app (a b : List Str) : encKs (a ++ b) = encKs a ++ encKs b := by simp [encKs]
theorem encKs_snoc {l : List Str} {i : Nat} (h : i < l.length) : encKs (l.take (i + 1)) = encKs (l.take i) ++ encKs [l.getD i default] := by rw [take_snoc h, encKs_app]
theorem c_literal (hg : GT G) : ∀ v : Val, ∀ level, vCheck level v = 0 → vFit v → vInt v → vBulk v ≤ 1099511627776 → Ans G 94 [vV v] (vs (litV v)) := by
 intro v
 induction v using Val.ind with
 | h v ih =>
   intro level hck fv iv hb st
   obtain ⟨a1, a2, a3, a4, a5⟩ := (vFit_iff v).1 fv
   obtain ⟨⟨i1, i2⟩, i3⟩ := (vInt_iff v).1 iv
   obtain ⟨hnode, hcl⟩ := vCheck0 hck
   obtain ⟨k1, k2, n1, n2, n3, n4, n5⟩ := vNode0 hnode
   have hq := c_quote (G := G) v.str (by omega)
   have hd := c_Itoa hg v.int (by omega) (by omega)
   have hfb := c_FormatBool (G := G) v.bool
   rw [litV_eq]
   by_cases hk : v.kind = 4 ∨ v.kind = 5
   · have hparts : (if v.kind = 4 then [91] ++ joinF [44, 32] (v.list.map litV) ++ [93] else if v.kind = 5 then [123] ++ joinF [44, 32] (litV.litM v.list v.keys) ++ [125] else sNull) = if v.kind = 4 then 91 :: (joinF [44, 32] (partsV v) ++ [93]) else 123 :: (joinF [44, 32] (partsV v) ++ [125]) := by
       rcases hk with hk | hk
       · simp [hk, partsV]
       · simp [hk, partsV]
     rw [if_neg (by omega), if_neg (by omega), if_neg (by omega), hparts]
     have hpl := lens_parts iv
     have hlen := partsV_len v
     have hj := joinF_len (sep := [44, 32]) (by simp) (partsV v)
     have hjn := c_join (G := G) (partsV v) (by omega) (by omega)
     have hbl := fun x (hx : x ∈ v.list) => vBulkL_mem hx
     have hb' := hb
     rw [vBulk_eq] at hb'
     have hnl : encKs [] = [] := rfl
     rcases hk with hk5 | hk5
     · refine Acalls.body Tryz.func94 rfl Tryz.ntmps94 (by simp) ?_
       (try with_reducible refine Wk.aw fun _ hqq => ?_); (repeat' (first | ((with_reducible refine Wk.i ?_); simp -implicitDefEqProofs (disch := first | omega | (simp only [go_sem, List.length_take, List.length_drop]; try omega)) only [go_sem, seval, hk5]) | with_reducible refine Wk.o ?_)); all_goals (repeat subst hqq)
       refine AW.loopS (fun i : Nat => [(1, .ptr st.blks.length 0), (3, lz st.toks.length (encKs ((partsV v).take i))), (28, .d (.sl (v.list.map Val.enc))), (29, vint ↑v.list.length), (30, vint ↑i)]) (fun _ => [.cells (v.enc.map .d)]) (fun i => lzT 9 1 (encKs ((partsV v).take i))) (fun i => i ≤ v.list.length) (fun i => v.list.length - i) 0 (by simp -implicitDefEqProofs (disch := first | omega | (simp only [go_sem, List.length_take, List.length_drop]; try omega)) only [go_sem, seval, hnl] <;> first | rfl | exact ⟨rfl, rfl⟩ | skip) (by simp -implicitDefEqProofs (disch := first | omega | (simp only [go_sem, List.length_take, List.length_drop]; try omega)) only [go_sem, seval, hnl] <;> first | rfl | exact ⟨rfl, rfl⟩ | skip) (by omega) ?_
       intro i hi
       have hel : (encKs ((partsV v).take i)).length = i := by rw [encKs_len, List.length_take]; omega
       by_cases hlt : i < v.list.length
       · have hx := getD_mem hlt
         have hgi := lens_get (l := partsV v) (i := i) (by omega)
         have hst := encKs_snoc (l := partsV v) (i := i) (by omega)
         have hlx := litV_len _ (i3 _ hx)
         have hcx := ih _ hx (level + 1) (hcl _ hx) (a5 _ hx) (i3 _ hx) (by have := hbl _ hx; omega)
         have hpg : (partsV v).getD i default = litV (v.list.getD i default) := by
           rw [partsV, if_neg (by omega)]; simp [List.getD_eq_getElem?_getD, hlt]
         rw [hpg] at hst hgi
         have hst' : encKs ((partsV v).take (i + 1)) = encKs ((partsV v).take i) ++ [[D.str (litV (v.list.getD i default))]] := hst
         (try with_reducible refine Wk.aw fun _ hqq => ?_); (repeat' (first | ((with_reducible first | refine Wk.hd ?_ | refine Wk.i ?_); simp -implicitDefEqProofs (disch := first | omega | (simp only [go_sem, List.length_take, List.length_drop]; try omega)) only [go_sem, seval, hk5]) | (refine TQ_s (fun hc => ?_) (fun hc => ?_) <;> try (exfalso; first | omega | contradiction | exact nob hc ‹_› | exact nob ‹_› hc)) | refine CQ_ok (hcx _) ?_ | with_reducible first | refine Wk.o ?_ | refine Wk.q (by assumption) ?_)); all_goals (repeat subst hqq)
         · (refine ⟨i + 1, Nxt.mk ?_ ?_ ?_ (by simp -implicitDefEqProofs (disch := first | omega | (simp only [go_sem, List.length_take, List.length_drop]; try omega)) only [go_sem, seval, hst']) (by simp -implicitDefEqProofs (disch := first | omega | (simp only [go_sem, List.length_take, List.length_drop]; try omega)) only [go_sem, seval, hst']) (by first | rfl | (simp -implicitDefEqProofs (disch := first | omega | (simp only [go_sem, List.length_take, List.length_drop]; try omega)) only [go_sem, seval, hst']; all_goals omega)) (by first | rfl | (simp -implicitDefEqProofs (disch := first | omega | (simp only [go_sem, List.length_take, List.length_drop]; try omega)) only [go_sem, seval, hst']; all_goals omega))⟩; focus (try (simp -implicitDefEqProofs (disch := first | omega | (simp only [go_sem, List.length_take, List.length_drop]; try omega)) only [go_sem, seval, hst']); try ((repeat' apply And.intro) <;> first | rfl | trivial | refine vi_congr ?_ | refine vs_congr ?_ | refine vown_congr ?_ | skip)))
           all_goals first | omega | rw [hst'] | skip
       · have : (partsV v).take i = partsV v := List.take_of_length_le (by omega)
         rw [this]
         (try with_reducible refine Wk.aw fun _ hqq => ?_); (repeat' (first | ((with_reducible first | refine Wk.hd ?_ | refine Wk.i ?_); simp -implicitDefEqProofs (disch := first | omega | (simp only [go_sem, List.length_take, List.length_drop]; try omega)) only [go_sem, seval, hk5]) | (refine TQ_s (fun hc => ?_) (fun hc => ?_) <;> try (exfalso; first | omega | contradiction | exact nob hc ‹_› | exact nob ‹_› hc)) | refine CQ_ok (hjn _) ?_ | with_reducible refine Wk.ret fun _ _ => ?_ | (refine Wk.fin (by assumption) ?_; refine ⟨?_, rfl⟩) | with_reducible first | refine Wk.o ?_ | refine Wk.q (by assumption) ?_ | refine Wk.sw fun _ hqq => ?_)); all_goals (repeat subst hqq)
         all_goals (simp [hk5])
     · refine Acalls.body Tryz.func94 rfl Tryz.ntmps94 (by simp) ?_
       (try with_reducible refine Wk.aw fun _ hqq => ?_); (repeat' (first | ((with_reducible refine Wk.i ?_); simp -implicitDefEqProofs (disch := first | omega | (simp only [go_sem, List.length_take, List.length_drop]; try omega)) only [go_sem, seval, hk5]) | with_reducible refine Wk.o ?_)); all_goals (repeat subst hqq)
       refine AW.loopS (fun i : Nat => [(1, .ptr st.blks.length 0), (3, lz st.toks.length (encKs ((partsV v).take i))), (28, .d (.sl (v.list.map Val.enc))), (29, vint ↑v.list.length), (30, vint ↑i)]) (fun _ => [.cells (v.enc.map .d)]) (fun i => lzT 9 1 (encKs ((partsV v).take i))) (fun i => i ≤ v.list.length) (fun i => v.list.length - i) 0 (by simp -implicitDefEqProofs (disch := first | omega | (simp only [go_sem, List.length_take, List.length_drop]; try omega)) only [go_sem, seval, hnl] <;> first | rfl | exact ⟨rfl, rfl⟩ | skip) (by simp -implicitDefEqProofs (disch := first | omega | (simp only [go_sem, List.length_take, List.length_drop]; try omega)) only [go_sem, seval, hnl] <;> first | rfl | exact ⟨rfl, rfl⟩ | skip) (by omega) ?_
       intro i hi
       have hel : (encKs ((partsV v).take i)).length = i := by rw [encKs_len, List.length_take]; omega
       by_cases hlt : i < v.list.length
       · have hx := getD_mem hlt
         have hgi := lens_get (l := partsV v) (i := i) (by omega)
         have hst := encKs_snoc (l := partsV v) (i := i) (by omega)
         have hlx := litV_len _ (i3 _ hx)
         have hcx := ih _ hx (level + 1) (hcl _ hx) (a5 _ hx) (i3 _ hx) (by have := hbl _ hx; omega)
         have hki : i < v.keys.length := by have := n5 hk5; omega
         have hqk := c_quote (G := G) (v.keys.getD i default) (by have := a4 _ (getD_mem hki); omega)
         have hqkl := quoteF_len (v.keys.getD i default)
         have hkk := a4 _ (getD_mem hki)
         have hpg : (partsV v).getD i default = quoteF (v.keys.getD i default) ++ [58, 32] ++ litV (v.list.getD i default) := by
           rw [partsV, if_pos hk5, litM_get _ _ _ hlt]; rfl
         rw [hpg] at hst hgi
         simp only [List.length_append, List.length_cons, List.length_nil] at hgi
         have hst' : encKs ((partsV v).take (i + 1)) = encKs ((partsV v).take i) ++ [[D.str (quoteF (v.keys.getD i default) ++ 58 :: 32 :: litV (v.list.getD i default))]] := by rw [hst]; simp [encKs]
         (try with_reducible refine Wk.aw fun _ hqq => ?_); (repeat' (first | ((with_reducible first | refine Wk.hd ?_ | refine Wk.i ?_); simp -implicitDefEqProofs (disch := first | omega | (simp only [go_sem, List.length_take, List.length_drop]; try omega)) only [go_sem, seval, hk5]) | (refine TQ_s (fun hc => ?_) (fun hc => ?_) <;> try (exfalso; first | omega | contradiction | exact nob hc ‹_› | exact nob ‹_› hc)) | refine CQ_ok (hqk _) ?_ | refine CQ_ok (hcx _) ?_ | refine Wk.drawn mx (by kernel_rfl) ?_ | with_reducible first | refine Wk.o ?_ | refine Wk.q (by assumption) ?_)); all_goals (repeat subst hqq)
         · (refine ⟨i + 1, Nxt.mk ?_ ?_ ?_ (by simp -implicitDefEqProofs (disch := first | omega | (simp only [go_sem, List.length_take, List.length_drop]; try omega)) only [go_sem, seval, hst']) (by simp -implicitDefEqProofs (disch := first | omega | (simp only [go_sem, List.length_take, List.length_drop]; try omega)) only [go_sem, seval, hst']) (by first | rfl | (simp -implicitDefEqProofs (disch := first | omega | (simp only [go_sem, List.length_take, List.length_drop]; try omega)) only [go_sem, seval, hst']; all_goals omega)) (by first | rfl | (simp -implicitDefEqProofs (disch := first | omega | (simp only [go_sem, List.length_take, List.length_drop]; try omega)) only [go_sem, seval, hst']; all_goals omega))⟩; focus (try (simp -implicitDefEqProofs (disch := first | omega | (simp only [go_sem, List.length_take, List.length_drop]; try omega)) only [go_sem, seval, hst']); try ((repeat' apply And.intro) <;> first | rfl | trivial | refine vi_congr ?_ | refine vs_congr ?_ | refine vown_congr ?_ | skip)))
           all_goals first | omega | rw [hst'] | skip
       · have : (partsV v).take i = partsV v := List.take_of_length_le (by omega)
         rw [this]
         (try with_reducible refine Wk.aw fun _ hqq => ?_); (repeat' (first | ((with_reducible first | refine Wk.hd ?_ | refine Wk.i ?_); simp -implicitDefEqProofs (disch := first | omega | (simp only [go_sem, List.length_take, List.length_drop]; try omega)) only [go_sem, seval, hk5]) | (refine TQ_s (fun hc => ?_) (fun hc => ?_) <;> try (exfalso; first | omega | contradiction | exact nob hc ‹_› | exact nob ‹_› hc)) | refine CQ_ok (hjn _) ?_ | with_reducible refine Wk.ret fun _ _ => ?_ | (refine Wk.fin (by assumption) ?_; refine ⟨?_, rfl⟩) | with_reducible first | refine Wk.o ?_ | refine Wk.q (by assumption) ?_ | refine Wk.sw fun _ hqq => ?_)); all_goals (repeat subst hqq)
         all_goals (simp [hk5])
   · by_cases q1 : v.kind = 1
     · rw [if_pos q1]
       refine Acalls.body Tryz.func94 rfl Tryz.ntmps94 (by simp) ?_
       (try with_reducible refine Wk.aw fun _ hqq => ?_); (repeat' (first | ((with_reducible first | refine Wk.hd ?_ | refine Wk.i ?_); simp -implicitDefEqProofs (disch := first | omega | (simp only [go_sem, List.length_take, List.length_drop]; try omega)) only [go_sem, seval, q1]) | refine CQ_ok (hfb _) ?_ | with_reducible refine Wk.ret fun _ _ => ?_ | (refine Wk.fin (by assumption) ?_; refine ⟨?_, rfl⟩) | with_reducible first | refine Wk.o ?_ | refine Wk.q (by assumption) ?_)); all_goals (repeat subst hqq)
       all_goals rfl
     rw [if_neg q1]
     by_cases q2 : v.kind = 2
     · rw [if_pos q2]
       refine Acalls.body Tryz.func94 rfl Tryz.ntmps94 (by simp) ?_
       (try with_reducible refine Wk.aw fun _ hqq => ?_); (repeat' (first | ((with_reducible first | refine Wk.hd ?_ | refine Wk.i ?_); simp -implicitDefEqProofs (disch := first | omega | (simp only [go_sem, List.length_take, List.length_drop]; try omega)) only [go_sem, seval, q2]) | refine CQ_ok (hd _) ?_ | with_reducible refine Wk.ret fun _ _ => ?_ | (refine Wk.fin (by assumption) ?_; refine ⟨?_, rfl⟩) | with_reducible first | refine Wk.o ?_ | refine Wk.q (by assumption) ?_)); all_goals (repeat subst hqq)
       all_goals rfl
     rw [if_neg q2]
     by_cases q3 : v.kind = 3
     · rw [if_pos q3]
       refine Acalls.body Tryz.func94 rfl Tryz.ntmps94 (by simp) ?_
       (try with_reducible refine Wk.aw fun _ hqq => ?_); (repeat' (first | ((with_reducible first | refine Wk.hd ?_ | refine Wk.i ?_); simp -implicitDefEqProofs (disch := first | omega | (simp only [go_sem, List.length_take, List.length_drop]; try omega)) only [go_sem, seval, q3]) | refine CQ_ok (hq _) ?_ | with_reducible refine Wk.ret fun _ _ => ?_ | (refine Wk.fin (by assumption) ?_; refine ⟨?_, rfl⟩) | with_reducible first | refine Wk.o ?_ | refine Wk.q (by assumption) ?_)); all_goals (repeat subst hqq)
       all_goals rfl
     rw [if_neg q3, if_neg (by omega), if_neg (by omega)]
     refine Acalls.body Tryz.func94 rfl Tryz.ntmps94 (by simp) ?_
     (try with_reducible refine Wk.aw fun _ hqq => ?_); (repeat' (first | ((with_reducible refine Wk.i ?_); simp -implicitDefEqProofs (disch := first | omega | (simp only [go_sem, List.length_take, List.length_drop]; try omega)) only [go_sem, seval]) | (refine TQ_s (fun hc => ?_) (fun hc => ?_) <;> try (exfalso; first | omega | contradiction | exact nob hc ‹_› | exact nob ‹_› hc)) | with_reducible refine Wk.ret fun _ _ => ?_ | (refine Wk.fin (by assumption) ?_; refine ⟨?_, rfl⟩) | with_reducible first | refine Wk.o ?_ | refine Wk.q (by assumption) ?_)); all_goals (repeat subst hqq)
     all_goals first | rfl | (exfalso; omega)
end Go.Proofs.YtofbdmdigopaoaaGreatDoor
end
