/- A step of the proofs of the seat's theorems. -/
import Derived.Test.YtofbdmdigopaoaaGreatDoorQXP9
set_option linter.unusedSimpArgs false
set_option linter.unusedVariables false
namespace Go.Proofs.YtofbdmdigopaoaaGreatDoor
section
variable (n : Str) (v : Val) (ar : List Ex) (ks : List Str)
theorem tk1 : tks (.mk 1 n v ar ks) = [litT v] := by rw [tks]; rfl
theorem tk2 : tks (.mk 2 n v ar ks) = [tN n] := by rw [tks]; rfl
theorem tk3 : tks (.mk 3 n v ar ks) = tks.tksAt ar 0 8 ++ [tO [46], tN n] := by rw [tks]; rfl
theorem tk4 : tks (.mk 4 n v ar ks) = tks.tksAt ar 0 8 ++ tO [91] :: tks.tksAt ar 1 1 ++ [tO [93]] := by rw [tks]; rfl
theorem tk5 : tks (.mk 5 n v ar ks) = tN n :: tO [40] :: joinT (ar.map tks) ++ [tO [41]] := by rw [tks, tksL_map]; rfl
theorem tk6 : tks (.mk 6 n v ar ks) = tO n :: tks.tksAt ar 0 7 := by rw [tks]; rfl
theorem tk7 : tks (.mk 7 n v ar ks) = tks.tksAt ar 0 (if strength n = 4 then 5 else strength n) ++ tO n :: tks.tksAt ar 1 (strength n + 1) := by rw [tks]; rfl
theorem tk8 : tks (.mk 8 n v ar ks) = tks.tksAt ar 0 2 ++ tO [63] :: tks.tksAt ar 1 1 ++ tO [58] :: tks.tksAt ar 2 1 := by rw [tks]; rfl
theorem tk9 : tks (.mk 9 n v ar ks) = tO [91] :: joinT (ar.map tks) ++ [tO [93]] := by rw [tks, tksL_map]; rfl
theorem tk10 : tks (.mk 10 n v ar ks) = tO [123] :: joinT (tks.tksM ar ks) ++ [tO [125]] := by rw [tks]; rfl
end
theorem force_posZ (e : Ex) : 1 ≤ force e ∨ (e.kind = 7 ∧ strength e.name = 0) := by
 unfold force
 split
 · omega
 · split
   · rename_i h; by_cases hs : strength e.name = 0
     · exact .inr ⟨h, hs⟩
     · omega
   · split <;> omega
theorem strength_leZ (s : Str) : strength s ≤ 6 := by
 unfold strength
 repeat' split
 all_goals omega
theorem strength_2 {s : Str} (h : 0 < strength s) : 2 ≤ strength s := by
 unfold strength at h ⊢
 repeat' split at h
 all_goals first | omega | (simp_all)
theorem plain_name {s : Str} (h : isPlain s = true) : isName s = true ∧ s ≠ sNull ∧ ¬ (s = sTrue ∨ s = sFalse) := by
 simp only [isPlain, Bool.and_eq_true, Bool.not_eq_true', isWord, decide_eq_false_iff_not] at h
 refine ⟨h.1, fun e => h.2 (.inr (.inr e)), fun e => h.2 ?_⟩
 rcases e with e | e
 · exact .inl e
 · exact .inr (.inl e)
section
variable {r r2 r3 : List Tk} {e x l : Ex} {y : Res Ex} {s : Str}
theorem atom_name (h : isPlain s = true) (hr : no [40] r) : Pr .atom (tN s :: r) (.ok (.mk 2 s val0 [] []) r) := by
 obtain ⟨h1, h2, h3⟩ := plain_name h
 refine ⟨1, ?_⟩
 simp only [pF]
 rw [if_neg (show ¬ (tN s).kind = 2 from by simp [tN]), if_neg (show ¬ (tN s).kind = 3 from by simp [tN]), if_pos (show (tN s).kind = 1 from rfl), if_neg (show ¬ (tN s).text = sNull from h2), if_neg (show ¬ ((tN s).text = sTrue ∨ (tN s).text = sFalse) from h3), if_pos (show isName (tN s).text = true from h1)]
 cases r with
 | nil => rfl
 | cons u r => simp only [hr u r rfl]; rfl
theorem atom_call (h : isPlain s = true) (k : Pr (.args [41]) r (.ok l r2)) : Pr .atom (tN s :: tO [40] :: r) (.ok (.mk 5 s val0 l.args []) r2) := by
 obtain ⟨h1, h2, h3⟩ := plain_name h
 obtain ⟨f, k⟩ := k
 refine ⟨f + 1, ?_⟩
 simp only [pF]
 rw [if_neg (show ¬ (tN s).kind = 2 from by simp [tN]), if_neg (show ¬ (tN s).kind = 3 from by simp [tN]), if_pos (show (tN s).kind = 1 from rfl), if_neg (show ¬ (tN s).text = sNull from h2), if_neg (show ¬ ((tN s).text = sTrue ∨ (tN s).text = sFalse) from h3), if_pos (show isName (tN s).text = true from h1), if_pos (show isOpT [40] (tO [40]) = true from by decide)]
 simp only [k, thenF]
 rfl
theorem atom_list (k : Pr (.args [93]) r (.ok l r2)) : Pr .atom (tO [91] :: r) (.ok (.mk 9 [] val0 l.args []) r2) := by
 obtain ⟨f, k⟩ := k
 refine ⟨f + 1, ?_⟩
 simp only [pF]
 rw [if_neg (show ¬ (tO [91]).kind = 2 from by decide), if_neg (show ¬ (tO [91]).kind = 3 from by decide), if_neg (show ¬ (tO [91]).kind = 1 from by decide), if_neg (show ¬ isOpT [40] (tO [91]) = true from by decide), if_pos (show isOpT [91] (tO [91]) = true from by decide), k]
 rfl
theorem atom_map (k : Pr .ents r (.ok e r2)) : Pr .atom (tO [123] :: r) (.ok e r2) := by
 obtain ⟨f, k⟩ := k
 refine ⟨f + 1, ?_⟩
 simp only [pF]
 rw [if_neg (show ¬ (tO [123]).kind = 2 from by decide), if_neg (show ¬ (tO [123]).kind = 3 from by decide), if_neg (show ¬ (tO [123]).kind = 1 from by decide), if_neg (show ¬ isOpT [40] (tO [123]) = true from by decide), if_neg (show ¬ isOpT [91] (tO [123]) = true from by decide), if_pos (show isOpT [123] (tO [123]) = true from by decide), k]
theorem atom_lit {v : Val} (h : litOK v) : Pr .atom (litT v :: r) (.ok (.mk 1 [] v [] []) r) := by
 refine ⟨1, ?_⟩
 rcases h with rfl | ⟨b, rfl⟩ | ⟨n, rfl, hn⟩ | ⟨s, rfl, hs⟩
 · rfl
 · cases b <;> rfl
 · obtain ⟨h1, h2⟩ := decN_dec n hn
   have e : litT (.mk 2 false n [] [] []) = tD (decN n) := rfl
   rw [e]
   simp only [pF]
   rw [if_pos (show (tD (decN n)).kind = 2 from rfl), if_pos (show isDec (tD (decN n)).text = true from h1), show natOf (tD (decN n)).text = n from h2]
   rfl
 · have e : litT (.mk 3 false 0 s [] []) = tS s := rfl
   rw [e]
   simp only [pF]
   rw [if_neg (show ¬ (tS s).kind = 2 from by simp [tS]), if_pos (show (tS s).kind = 3 from rfl), if_pos (show (tS s).text.length ≤ 4096 from hs)]
   rfl
end
theorem head_no {e : Ex} (h : Reads e) {s : Str} (hs : s = [41] ∨ s = [93] ∨ s = [125]) (r : List Tk) : ∃ t l, tks e ++ r = t :: l ∧ isOpT s t = false := by
 obtain ⟨t, l, e1, e2⟩ := h.head
 refine ⟨t, l ++ r, by rw [e1]; rfl, ?_⟩
 simp only [isOpT, decide_eq_false_iff_not]
 rintro ⟨h1, h2⟩
 have := e2 h1
 rw [h2] at this
 rcases hs with rfl | rfl | rfl <;> simp at this
theorem items_read {close : Str} (hc : close = [41] ∨ close = [93]) (r : List Tk) : ∀ (l : List Ex) (acc : List Ex), l ≠ [] → (∀ x ∈ l, Reads x) → Pr (.items close acc) (joinT (l.map tks) ++ tO close :: r) (.ok (.mk 0 [] val0 (acc ++ l) []) r)
 | [], _, h, _ => absurd rfl h
 | [x], acc, _, h => by
   have := (h x (by simp)).cond (tO close :: r) (cstop_op (by rcases hc with rfl | rfl <;> simp))
   exact Pr.itemE this (by simp [isOpT, tO])
 | x :: y :: l, acc, _, h => by
   have hx := (h x (by simp)).cond (tO [44] :: (joinT ((y :: l).map tks) ++ tO close :: r)) (cstop_op (.inr (.inr (.inl rfl))))
   have ih := items_read hc r (y :: l) (acc ++ [x]) (by simp) fun z hz => h z (by simp [hz])
   have e1 : joinT ((x :: y :: l).map tks) ++ tO close :: r = tks x ++ tO [44] :: (joinT ((y :: l).map tks) ++ tO close :: r) := by
     simp only [List.map_cons]
     rw [joinT, if_neg (by simp)]
     simp
   rw [e1]
   have := Pr.itemC hx (by decide) (by rcases hc with rfl | rfl <;> decide) ih
   simpa using this
theorem args_read {close : Str} (hc : close = [41] ∨ close = [93]) (r : List Tk) (l : List Ex) (h : ∀ x ∈ l, Reads x) : Pr (.args close) (joinT (l.map tks) ++ tO close :: r) (.ok (.mk 0 [] val0 l []) r) := by
 cases l with
 | nil => exact Pr.args0 (by simp [isOpT, tO])
 | cons x l =>
   have hi := items_read hc r (x :: l) [] (by simp) h
   have hh : ∃ t m, joinT ((x :: l).map tks) ++ tO close :: r = t :: m ∧ isOpT close t = false := by
     simp only [List.map_cons]
     rw [joinT]
     split
     · exact head_no (h x (by simp)) (by rcases hc with rfl | rfl <;> simp) _
     · rw [List.append_assoc]
       exact head_no (h x (by simp)) (by rcases hc with rfl | rfl <;> simp) _
   obtain ⟨t, m, e1, e2⟩ := hh
   rw [e1] at hi ⊢
   exact Pr.args1 e2 hi
theorem key_tok {k : Str} (h : okKey k = true) : isKeyT (tS k) = true := by
 simp only [okKey, decide_eq_true_eq] at h
 have h2 : k.length ≤ 4096 := by omega
 simp [isKeyT, tS, h2]
theorem ent_read (r : List Tk) : ∀ (l : List Ex) (ks : List Str) (acc : List Ex) (kc : List Str), l ≠ [] → ks.length = l.length → (∀ k ∈ ks, okKey k = true) → (∀ x ∈ l, Reads x) →
   Pr (.ent acc kc) (joinT (tks.tksM l ks) ++ tO [125] :: r) (.ok (.mk 10 [] val0 (acc ++ l) (kc ++ ks)) r)
 | [], _, _, _, h, _, _, _ => absurd rfl h
 | x :: l, [], _, _, _, h, _, _ => by simp at h
 | [x], [k], acc, kc, _, _, hk, h => by
   have := (h x (by simp)).cond (tO [125] :: r) (cstop_op (by simp))
   exact Pr.entE (u := tO [58]) (key_tok (hk k (by simp))) (by decide) this (by decide)
 | [x], k :: k2 :: ks, _, _, _, h, _, _ => by simp at h
 | x :: y :: l, [k], _, _, _, h, _, _ => by simp at h
 | x :: y :: l, k :: k2 :: ks, acc, kc, _, hl, hk, h => by
   have hx := (h x (by simp)).cond (tO [44] :: (joinT (tks.tksM (y :: l) (k2 :: ks)) ++ tO [125] :: r)) (cstop_op (.inr (.inr (.inl rfl))))
   have ih := ent_read r (y :: l) (k2 :: ks) (acc ++ [x]) (kc ++ [k]) (by simp) (by simpa using hl) (fun z hz => hk z (by simp [hz])) fun z hz => h z (by simp [hz])
   have e1 : joinT (tks.tksM (x :: y :: l) (k :: k2 :: ks)) ++ tO [125] :: r = tS k :: tO [58] :: (tks x ++ tO [44] :: (joinT (tks.tksM (y :: l) (k2 :: ks)) ++ tO [125] :: r)) := by
     rw [tks.tksM, joinT, if_neg (by simp [tks.tksM])]
     simp
   rw [e1]
   have := Pr.entC (key_tok (hk k (by simp))) (by decide : isOpT [58] (tO [58]) = true) hx (by decide) ih
   simpa [tS] using this
theorem ents_read (r : List Tk) (l : List Ex) (ks : List Str) (hl : ks.length = l.length) (hk : ∀ k ∈ ks, okKey k = true) (h : ∀ x ∈ l, Reads x) : Pr .ents (joinT (tks.tksM l ks) ++ tO [125] :: r) (.ok (.mk 10 [] val0 l ks) r) := by
 cases l with
 | nil =>
   obtain rfl : ks = [] := List.length_eq_zero_iff.1 (by simpa using hl)
   exact Pr.ents0 (by decide)
 | cons x l =>
   cases ks with
   | nil => simp at hl
   | cons k ks =>
     have hi := ent_read r (x :: l) (k :: ks) [] [] (by simp) hl hk h
     have e1 : ∃ m, joinT (tks.tksM (x :: l) (k :: ks)) ++ tO [125] :: r = tS k :: m := by
       rw [tks.tksM, joinT]
       split
       · exact ⟨_, rfl⟩
       · exact ⟨_, rfl⟩
     obtain ⟨m, e1⟩ := e1
     rw [e1] at hi ⊢
     exact Pr.ents1 (by simp [isOpT, tS]) hi
theorem pfree_op {s : Str} {r : List Tk} (h : s ≠ [46] ∧ s ≠ [91] ∧ s ≠ [40]) : pfree (tO s :: r) := by
 refine ⟨?_, ?_, ?_⟩ <;> (rintro t l ⟨⟩; simp [isOpT, tO, h])
theorem strength_pf {s : Str} (h : 0 < strength s) : s ≠ [46] ∧ s ≠ [91] ∧ s ≠ [40] ∧ s ≠ [63] := by
 refine ⟨?_, ?_, ?_, ?_⟩ <;> (rintro rfl; simp [strength] at h)
theorem par_head {b : Bool} {l : List Tk} (h : ∃ t m, l = t :: m ∧ (t.kind = 4 → t.text = [33] ∨ t.text = [45] ∨ t.text = [40] ∨ t.text = [91] ∨ t.text = [123])) (r : List Tk) :
   ∃ t m, parT b l ++ r = t :: m ∧ (t.kind = 4 → t.text = [33] ∨ t.text = [45] ∨ t.text = [40] ∨ t.text = [91] ∨ t.text = [123]) := by
 cases b with
 | true => exact ⟨_, _, rfl, fun _ => by simp [tO]⟩
 | false =>
   obtain ⟨t, m, rfl, h⟩ := h
   exact ⟨t, m ++ r, rfl, h⟩
theorem force_lit {v : Val} (hv : litOK v) : force (.mk 1 [] v [] []) = 8 := by
 rcases hv with rfl | ⟨b, rfl⟩ | ⟨n, rfl, hn⟩ | ⟨s, rfl, hs⟩ <;> simp [force, Ex.kind, Ex.value, val0, Val.kind, Val.int]
theorem cano_pos {e : Ex} (h : Cano e) : ¬ force e < 1 := by
 cases h with | mk _ hn _ => ?_
 rcases force_posZ e with h | ⟨h1, h2⟩
 · omega
 · simp only [nodeOK, h1] at hn
   simp at hn
   omega
theorem reads_of : ∀ e, Cano e → Reads e := by
 intro e h
 induction h with
 | mk e hn ha ih =>
   rcases e with ⟨k, n, v, ar, ks⟩
   simp only [nodeOK, Ex.kind, Ex.value, Ex.name, Ex.args, Ex.keys] at hn ha ih
   rcases hn with ⟨rfl, hv, rfl, rfl, rfl⟩ | ⟨rfl, rfl, rfl, hp, rfl⟩ | ⟨rfl, rfl, rfl, hp, a, rfl⟩ | ⟨rfl, rfl, rfl, rfl, a, b, rfl⟩ | ⟨rfl, rfl, rfl, hp⟩ | ⟨rfl, rfl, rfl, hp, a, rfl⟩ | ⟨rfl, rfl, rfl, hp, a, b, rfl⟩ | ⟨rfl, rfl, rfl, rfl, a, b, c, rfl⟩ | ⟨rfl, rfl, rfl, rfl⟩ | ⟨rfl, rfl, rfl, hl, hk⟩
   · have hte := tk1 [] v [] []
     refine Reads.of_pc (force_lit hv) (fun r y hr k => ?_) ?_
     · rw [hte]; exact ⟨_, r, atom_lit hv, k⟩
     · rw [hte]
       refine ⟨_, _, rfl, fun h4 => ?_⟩
       rcases hv with rfl | ⟨b, rfl⟩ | ⟨n, rfl, hn⟩ | ⟨s, rfl, hs⟩ <;> simp [litT, val0, Val.kind, tN, tS, tD] at h4
   · have hte := tk2 n val0 [] []
     refine Reads.of_pc rfl (fun r y hr k => ?_) ⟨_, _, hte, fun h4 => by simp [tN] at h4⟩
     rw [hte]; exact ⟨_, r, atom_name hp hr, k⟩
   · have hte := tk3 n val0 [a] []
     have ia := ih a (by simp)
     simp only [tks.tksAt] at hte
     refine Reads.of_pc rfl (fun r y hr k => ?_) (by rw [hte]; exact par_head ia.head _)
     rw [hte]
     simp only [List.append_assoc, List.cons_append, List.nil_append]
     exact at_pc ia (by rintro t l ⟨⟩; decide) (Pr.chDot (by decide) ⟨rfl, hp⟩ k)
   · have hte := tk4 [] val0 [a, b] []
     have ia := ih a (by simp)
     have ib := ih b (by simp)
     have fb := cano_pos (ha b (by simp))
     simp only [tks.tksAt, decide_eq_false fb, parT, Bool.false_eq_true, if_false] at hte
     refine Reads.of_pc rfl (fun r y hr k => ?_) (by rw [hte, List.append_assoc]; exact par_head ia.head _)
     rw [hte]
     simp only [List.append_assoc, List.cons_append, List.nil_append]
     exact at_pc ia (by rintro t l ⟨⟩; decide) (Pr.chIx (by decide) (ib.cond _ (cstop_op (by simp))) (by decide) k)
   · have hte := tk5 n val0 ar []
     refine Reads.of_pc rfl (fun r y hr k => ?_) ⟨_, _, hte, fun h4 => by simp [tN] at h4⟩
     rw [hte]
     simp only [List.append_assoc, List.cons_append, List.nil_append]
     exact ⟨_, r, atom_call hp (args_read (.inl rfl) r ar ih), k⟩
   · have hte := tk6 n val0 [a] []
     have ia := ih a (by simp)
     simp only [tks.tksAt] at hte
     refine Reads.of_un rfl (fun r hr => ?_) ⟨_, _, hte, fun _ => by rcases hp with rfl | rfl <;> simp [tO]⟩
     rw [hte]
     simp only [List.cons_append]
     exact Pr.unO (by rcases hp with rfl | rfl <;> simp [isOpT, tO]) (at_un ia hr)
   · have hte := tk7 n val0 [a, b] []
     have ia := ih a (by simp)
     have ib := ih b (by simp)
     have s6 := strength_leZ n
     have s2 := strength_2 hp
     obtain ⟨p1, p2, p3, p4⟩ := strength_pf hp
     simp only [tks.tksAt] at hte
     refine Reads.of_op (s := strength n) rfl s2 s6 (fun r y h1 h2 hr k => ?_) (by rw [hte]; exact par_head ia.head _)
     rw [hte]
     simp only [List.append_assoc, List.cons_append]
     have hb := at_ok ib (n := strength n + 1) (by omega) (by omega) (r := r) (by omega) hr
     have hop : hs (tO n :: (parT (decide (force b < strength n + 1)) (tks b) ++ r)) = strength n := by simp [hs, tO]
     by_cases h4 : strength n = 4
     · rw [h4] at hb hop k h1 h2 ⊢
       have e1 := k.uniq (Pr.ops0 (n := 4) (.inl (by omega)))
       subst e1
       simp only [if_true]
       have hl := at_op ia (n := 5) (r := tO n :: (parT (decide (force b < 4 + 1)) (tks b) ++ r)) (by omega) (by omega) (by omega) (by omega) (pfree_op ⟨p1, p2, p3⟩) (Pr.ops0 (.inl (by omega)))
       exact Pr.op (by omega) hl (Pr.ops4 ⟨rfl, h4⟩ hb)
     · rw [if_neg h4]
       exact at_op ia s2 s6 (by omega) (fun h => h4) (pfree_op ⟨p1, p2, p3⟩) (Pr.opsS h4 ⟨rfl, rfl⟩ hb k)
   · have hte := tk8 [] val0 [a, b, c] []
     have ia := ih a (by simp)
     have ib := ih b (by simp)
     have ic := ih c (by simp)
     have fb := cano_pos (ha b (by simp))
     have fc := cano_pos (ha c (by simp))
     simp only [tks.tksAt, decide_eq_false fb, decide_eq_false fc, parT, Bool.false_eq_true, if_false] at hte
     refine ⟨fun h => by simp [force, Ex.kind] at h, fun h => by simp [force, Ex.kind] at h, fun n r y h1 h2 h3 => by simp [force, Ex.kind] at h3; omega, fun r hr => ?_, by rw [hte, List.append_assoc]; exact par_head ia.head _⟩
     rw [hte]
     simp only [List.append_assoc, List.cons_append]
     have h1 := ic.cond r hr
     have h2 := ib.cond (tO [58] :: (tks c ++ r)) (cstop_op (by simp))
     have h3 := at_ok ia (n := 2) (r := tO [63] :: (tks b ++ tO [58] :: (tks c ++ r))) (by omega) (by omega) (by simp [hs, tO, strength]) (pfree_op (by decide))
     exact Pr.condQ h3 (by decide) h2 (by decide) h1
   · have hte := tk9 [] val0 ar []
     refine Reads.of_pc rfl (fun r y hr k => ?_) ⟨_, _, hte, fun _ => by simp [tO]⟩
     rw [hte]
     simp only [List.append_assoc, List.cons_append, List.nil_append]
     exact ⟨_, r, atom_list (args_read (.inr rfl) r ar ih), k⟩
   · have hte := tk10 [] val0 ar ks
     refine Reads.of_pc rfl (fun r y hr k => ?_) ⟨_, _, hte, fun _ => by simp [tO]⟩
     rw [hte]
     simp only [List.append_assoc, List.cons_append, List.nil_append]
     exact ⟨_, r, atom_map (ents_read r ar ks hl hk ih), k⟩
end Go.Proofs.YtofbdmdigopaoaaGreatDoor
