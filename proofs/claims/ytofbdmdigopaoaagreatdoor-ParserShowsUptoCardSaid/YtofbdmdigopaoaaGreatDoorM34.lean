/- A step of the proofs of the seat's theorems. -/
import Derived.Test.YtofbdmdigopaoaaGreatDoorM2
import Derived.Test.YtofbdmdigopaoaaGreatDoorM13
import Derived.Test.YtofbdmdigopaoaaGreatDoorM16
import Derived.Test.YtofbdmdigopaoaaGreatDoorM18
import Derived.Test.YtofbdmdigopaoaaGreatDoorM22
import Derived.Test.YtofbdmdigopaoaaGreatDoorM23
import Derived.Test.YtofbdmdigopaoaaGreatDoorM26
import Derived.Test.YtofbdmdigopaoaaGreatDoorM29
import Derived.Test.YtofbdmdigopaoaaGreatDoorM30
import Derived.Test.YtofbdmdigopaoaaGreatDoorM33
set_option linter.unusedSimpArgs false
set_option linter.unusedVariables false
section
set_option maxHeartbeats 8000000
set_option maxRecDepth 20000
namespace Go.Proofs.YtofbdmdigopaoaaGreatDoor
open Go.Abs
attribute [local irreducible] AW OX condQ GQ bodyQ RoundsA thenQ blockQ Acalls
variable {G : World → Nat → Prop}
theorem thenF_ok {x : Option (Res Ex)} {k : Ex → List Tk → Option (Res Ex)} {e : Ex} {rest : List Tk} (h : thenF x k = some (.ok e rest)) : ∃ e1 r1, x = some (.ok e1 r1) ∧ k e1 r1 = some (.ok e rest) := by
 rcases x with _ | (⟨c, r1⟩ | ⟨r1, ec⟩)
 · simp [thenF] at h
 · exact ⟨c, r1, rfl, h⟩
 · simp [thenF] at h
theorem expectF_ok {s : Str} {k : List Tk → Option (Res Ex)} {l : List Tk} {e : Ex} {rest : List Tk} (h : expectF s k l = some (.ok e rest)) : ∃ l2, k l2 = some (.ok e rest) := by
 cases l with
 | nil => simp [expectF] at h
 | cons t l =>
   simp only [expectF] at h
   split at h
   · exact ⟨_, h⟩
   · simp at h
theorem pF_ent_form : ∀ (f : Nat) (acc : List Ex) (ks : List Str) (l : List Tk) (e : Ex) (rest : List Tk), pF f (.ent acc ks) l = some (.ok e rest) → ∃ a k, e = .mk 10 [] val0 a k := by
 intro f
 induction f with
 | zero => intro acc ks l e rest h; simp [pF] at h
 | succ f ih =>
   intro acc ks l e rest h
   cases l with
   | nil => simp [pF] at h
   | cons t r =>
     simp only [pF] at h
     split at h
     · obtain ⟨l2, h⟩ := expectF_ok h
       obtain ⟨x, r3, h1, h⟩ := thenF_ok h
       cases r3 with
       | nil => simp at h
       | cons u r4 =>
         simp only at h
         split at h
         · simp only [Option.some.injEq, Res.ok.injEq] at h; exact ⟨_, _, h.1.symm⟩
         · split at h
           · exact ih _ _ _ _ _ h
           · simp at h
     · simp at h
theorem pF_ents_form {f : Nat} {l : List Tk} {e : Ex} {rest : List Tk} (h : pF f .ents l = some (.ok e rest)) : ∃ a k, e = .mk 10 [] val0 a k := by
 cases f with
 | zero => simp [pF] at h
 | succ f =>
   cases l with
   | nil => simp only [pF] at h; exact pF_ent_form _ _ _ _ _ _ h
   | cons t r =>
     simp only [pF] at h
     split at h
     · simp only [Option.some.injEq, Res.ok.injEq] at h; exact ⟨_, _, h.1.symm⟩
     · exact pF_ent_form _ _ _ _ _ _ h
theorem ref_enclosed {T : List Tk} {f : Nat} (hT : T.length ≤ 1048576) (hX : ∀ t ∈ T, t.text.length ≤ 1048576) (hf : RefIH G T f) (i : Nat) (hi : i < T.length) (r : Res Ex) (h : pF (f + 1) .atom (T.drop i) = some r) (hk : (T.getD i default).kind = 4) :
   RefF G T 178 [vTl T, vint i] r := by
 intro st
 have len : ∀ j, j ≤ T.length → T.length - (T.drop j).length = j := fun j hj => by simp only [List.length_drop]; omega
 have lenc : ∀ t : Tk, T.length - (t :: T.drop (i + 1)).length = i := fun t => by simp only [List.length_cons, List.length_drop]; omega
 have hx := hX _ (getT_mem hi)
 rw [dropT hi] at h
 simp only [pF, hk, show ¬ (4 : Int) = 2 from by decide, show ¬ (4 : Int) = 3 from by decide, show ¬ (4 : Int) = 1 from by decide, if_false] at h
 have o : ∀ s, isOpT s (T.getD i default) = decide ((T.getD i default).text = s) := fun s => by simp only [isOpT, hk, true_and]
 simp only [o, decide_eq_true_eq] at h
 generalize ht : T.getD i default = t at *
 by_cases h1 : t.text = [40]
 · rw [if_pos h1] at h
   rcases h2 : pF f .cond (T.drop (i + 1)) with _ | (⟨c, r1⟩ | ⟨r1, ec⟩)
   · rw [h2] at h; simp [thenF] at h
   · have c1 := (hf.cond (i + 1) (by omega) _ h2).ok
     obtain ⟨j, hij, hj, d1, e1⟩ := pF_at h2 (by omega)
     simp only [resRest] at d1 e1
     subst d1
     rw [e1] at c1
     rw [h2] at h
     simp only [thenF] at h
     rw [expectF_at] at h
     have hop := c_op (G := G) T j [41] hT (by omega)
     cases hb : opAt T j [41]
     · rw [hb] at hop h
       have hm := c_missing (G := G) T j hT (by omega)
       rw [if_neg Bool.false_ne_true] at h
       simp only [Option.some.injEq] at h
       subst h
       have hm0 : missAt T j ≠ 0 := by simp only [missAt]; split <;> decide
       refine Acalls.body Tryz.func178 rfl Tryz.ntmps178 (by simp) ?_
       (try refine Wk.aw fun _ hqq => ?_); (repeat' (first | ((first | refine Wk.hd ?_ | refine Wk.i ?_); simp -implicitDefEqProofs (disch := omega) only [go_sem, seval, ht, h1]) | (refine TQ_s (fun hc => ?_) (fun hc => ?_) <;> try omega) | refine CQ_ok (c1 _) ?_ | refine CQ_ok (hop _) ?_ | refine CQ_ok (hm _) ?_ | refine Wk.ret fun _ _ => ?_ | refine Wk.fin (by assumption) ?_ | first | refine Wk.o ?_ | refine Wk.q (by assumption) ?_)); all_goals (repeat subst hqq)
       all_goals first | exact ⟨ex0, by rw [len _ hj]; rfl, rfl⟩
     · have hjl := opAt_lt hb
       rw [hb] at hop h
       rw [if_pos rfl] at h
       simp only [Option.some.injEq] at h
       subst h
       refine Acalls.body Tryz.func178 rfl Tryz.ntmps178 (by simp) ?_
       (try refine Wk.aw fun _ hqq => ?_); (repeat' (first | ((first | refine Wk.hd ?_ | refine Wk.i ?_); simp -implicitDefEqProofs (disch := omega) only [go_sem, seval, ht, h1]) | refine CQ_ok (c1 _) ?_ | refine CQ_ok (hop _) ?_ | refine Wk.ret fun _ _ => ?_ | refine Wk.fin (by assumption) ?_ | first | refine Wk.o ?_ | refine Wk.q (by assumption) ?_)); all_goals (repeat subst hqq)
       all_goals first | exact ⟨by rw [len _ (by omega)], rfl⟩ | exact ⟨by rw [len _ (by omega)]; rfl, rfl⟩
   · have c1 := (hf.cond (i + 1) (by omega) _ h2).err
     have ec0 := pF_err h2
     obtain ⟨j, hij, hj, d1, e1⟩ := pF_at h2 (by omega)
     simp only [resRest] at d1 e1
     rw [h2] at h
     simp only [thenF, Option.some.injEq] at h
     subst h
     refine Acalls.body Tryz.func178 rfl Tryz.ntmps178 (by simp) ?_
     (try refine Wk.aw fun _ hqq => ?_); (repeat' (first | ((first | refine Wk.hd ?_ | refine Wk.i ?_); simp -implicitDefEqProofs (disch := omega) only [go_sem, seval, ht, h1]) | (refine TQ_s (fun hc => ?_) (fun hc => ?_) <;> try omega) | refine CQ_ex (c1 _) fun x_ => ?_ | refine Wk.ret fun _ _ => ?_ | refine Wk.fin (by assumption) ?_ | first | refine Wk.o ?_ | refine Wk.q (by assumption) ?_)); all_goals (repeat subst hqq)
     all_goals first | exact ⟨ex0, rfl, rfl⟩
 · rw [if_neg h1] at h
   by_cases h2 : t.text = [91]
   · rw [if_pos h2] at h
     rcases h3 : pF f (.args [93]) (T.drop (i + 1)) with _ | (⟨l, r3⟩ | ⟨r3, e3⟩)
     · rw [h3] at h; simp [thenF] at h
     · have c2 := hf.args [93] (i + 1) (by omega) _ h3
       rw [h3] at h
       simp only [thenF, Option.some.injEq] at h
       subst h
       refine Acalls.body Tryz.func178 rfl Tryz.ntmps178 (by simp) ?_
       (try refine Wk.aw fun _ hqq => ?_); (repeat' (first | ((first | refine Wk.hd ?_ | refine Wk.i ?_); simp -implicitDefEqProofs (disch := omega) only [go_sem, seval, ht, h2]) | (refine TQ_s (fun hc => ?_) (fun hc => ?_) <;> try omega) | refine CQ_ok (c2 _) ?_ | refine Wk.ret fun _ _ => ?_ | refine Wk.fin (by assumption) ?_ | first | refine Wk.o ?_ | refine Wk.q (by assumption) ?_)); all_goals (repeat subst hqq)
       all_goals first | exact ⟨by rw [vE, Ex.enc_eq]; rfl, rfl⟩ | exact absurd hc (by decide)
     · have c2 := hf.args [93] (i + 1) (by omega) _ h3
       rw [h3] at h
       simp only [thenF, Option.some.injEq] at h
       subst h
       refine Acalls.body Tryz.func178 rfl Tryz.ntmps178 (by simp) ?_
       (try refine Wk.aw fun _ hqq => ?_); (repeat' (first | ((first | refine Wk.hd ?_ | refine Wk.i ?_); simp -implicitDefEqProofs (disch := omega) only [go_sem, seval, ht, h2]) | (refine TQ_s (fun hc => ?_) (fun hc => ?_) <;> try omega) | refine CQ_ok (c2 _) ?_ | refine Wk.ret fun _ _ => ?_ | refine Wk.fin (by assumption) ?_ | first | refine Wk.o ?_ | refine Wk.q (by assumption) ?_)); all_goals (repeat subst hqq)
       all_goals first | exact ⟨.mk 9 [] val0 [] [], rfl, rfl⟩ | exact absurd hc (by decide)
   · rw [if_neg h2] at h
     by_cases h3 : t.text = [123]
     · rw [if_pos h3] at h
       have c2 := hf.ents (i + 1) (by omega) _ h
       cases r with
       | ok e rest =>
         obtain ⟨a, ks, rfl⟩ := pF_ents_form h
         have c2 : Ans G 192 [vTl T, vint ↑(i + 1), vs [125], vb true] (.tup [.d (.sl (a.map Ex.enc)), .d (.sl (encKs ks)), vint ↑(T.length - rest.length), vint 0]) := c2
         refine Acalls.body Tryz.func178 rfl Tryz.ntmps178 (by simp) ?_
         (try refine Wk.aw fun _ hqq => ?_); (repeat' (first | ((first | refine Wk.hd ?_ | refine Wk.i ?_); simp -implicitDefEqProofs (disch := omega) only [go_sem, seval, ht, h3]) | (refine TQ_s (fun hc => ?_) (fun hc => ?_) <;> try omega) | refine CQ_ok (c2 _) ?_ | refine Wk.ret fun _ _ => ?_ | refine Wk.fin (by assumption) ?_ | first | refine Wk.o ?_ | refine Wk.q (by assumption) ?_)); all_goals (repeat subst hqq)
         all_goals first | exact ⟨by rw [vE, Ex.enc_eq]; rfl, rfl⟩ | exact absurd hc (by decide)
       | err rest c =>
         refine Acalls.body Tryz.func178 rfl Tryz.ntmps178 (by simp) ?_
         (try refine Wk.aw fun _ hqq => ?_); (repeat' (first | ((first | refine Wk.hd ?_ | refine Wk.i ?_); simp -implicitDefEqProofs (disch := omega) only [go_sem, seval, ht, h3]) | (refine TQ_s (fun hc => ?_) (fun hc => ?_) <;> try omega) | refine CQ_ok (c2 _) ?_ | refine Wk.ret fun _ _ => ?_ | refine Wk.fin (by assumption) ?_ | first | refine Wk.o ?_ | refine Wk.q (by assumption) ?_)); all_goals (repeat subst hqq)
         all_goals first | exact ⟨.mk 10 [] val0 [] [], rfl, rfl⟩ | exact absurd hc (by decide)
     · rw [if_neg h3] at h
       simp only [Option.some.injEq] at h
       subst h
       refine Acalls.body Tryz.func178 rfl Tryz.ntmps178 (by simp) ?_
       (try refine Wk.aw fun _ hqq => ?_); (repeat' (first | ((refine Wk.i ?_); simp -implicitDefEqProofs (disch := omega) only [go_sem, seval, ht]) | (refine TQ_s (fun hc => ?_) (fun hc => ?_) <;> try omega) | refine Wk.ret fun _ _ => ?_ | refine Wk.fin (by assumption) ?_ | first | refine Wk.o ?_ | refine Wk.q (by assumption) ?_)); all_goals (repeat subst hqq)
       all_goals first | exact ⟨ex0, by rw [lenc]; rfl, rfl⟩ | exact absurd hc ‹_›
end Go.Proofs.YtofbdmdigopaoaaGreatDoor
end
section
set_option maxHeartbeats 8000000
set_option maxRecDepth 20000
namespace Go.Proofs.YtofbdmdigopaoaaGreatDoor
open Go.Abs
attribute [local irreducible] AW OX condQ GQ bodyQ RoundsA thenQ blockQ Acalls
variable {G : World → Nat → Prop}
theorem ref_ih {T : List Tk} (hT : T.length ≤ 1048576) (hX : ∀ t ∈ T, t.text.length ≤ 1048576) (f : Nat) : RefIH G T f := by
 induction f using Nat.strongRecOn with
 | ind f ih =>
 cases f with
 | zero => exact ⟨fun i _ r h => by simp [pF] at h, fun n _ _ i _ r h => by simp [pF] at h, fun i _ r h => by simp [pF] at h, fun i _ r h => by simp [pF, thenF] at h, fun i _ r h => by simp [pF] at h, fun s i _ r h => by simp [pF] at h, fun i _ r h => by simp [pF] at h⟩
 | succ f =>
   have hf := ih f (by omega)
   have hl : ∀ g ≤ f, RefIH G T g := fun g hg => ih g (by omega)
   have hat : ∀ i ≤ T.length, ∀ r, pF (f + 1) .atom (T.drop i) = some r → RefF G T 154 [vTl T, vint i] r := fun i hi r h => ref_atom hT hX hf i hi r h fun hl hk => ref_enclosed hT hX hf i hl r h hk
   exact ⟨fun i hi r h => ref_cond hT hf i hi r h, fun n h2 h7 i hi r h => ref_op hT hl n h2 h7 i hi r h, fun i hi r h => ref_un hT hf i hi r h,
     fun i hi r h => ref_chain hT hX (fun g hg => ih g hg) hat i hi r h, hat, fun s i hi r h => ref_args hT hl s i hi r h, fun i hi r h => ref_ents hT hX hl i hi r h⟩
end Go.Proofs.YtofbdmdigopaoaaGreatDoor
end
section
set_option maxHeartbeats 8000000
set_option maxRecDepth 20000
namespace Go.Proofs.YtofbdmdigopaoaaGreatDoor
open Go.Abs
attribute [local irreducible] AW OX condQ GQ bodyQ RoundsA thenQ blockQ Acalls
variable {G : World → Nat → Prop}
abbrev takeV (T : List Tk) : Res Ex → V
 | .ok e rest => .tup [vE e, vint ↑(T.length - rest.length), vint 0]
 | .err rest c => .tup [vE ex0, vint ↑(T.length - rest.length), vint c]
theorem c_ref_Take (T : List Tk) (hT : T.length ≤ 1048576) (hX : ∀ t ∈ T, t.text.length ≤ 1048576) (hv : ∀ e rest, pF (pFuel T) .cond T = some (.ok e rest) → Ans G 18 [vE e] (vint (eValid e))) :
   Ans G 15 [vTl T] (takeV T (takeF T)) := by
 intro st
 obtain ⟨r, hr⟩ := takeF_some T
 have c1 := (ref_ih (G := G) hT hX (pFuel T)).cond 0 (by omega) r (by rw [List.drop_zero]; exact hr)
 rw [takeF, hr]
 cases r with
 | ok e rest =>
   have c1 := c1.ok
   have hv := hv e rest hr
   simp only
   by_cases h0 : eValid e = 0
   · rw [if_neg (by simp [h0])]
     rw [h0] at hv
     refine Acalls.body Tryz.func15 rfl Tryz.ntmps15 (by simp) ?_
     (try refine Wk.aw fun _ hqq => ?_); (repeat' (first | ((first | refine Wk.hd ?_ | refine Wk.i ?_); simp -implicitDefEqProofs only [go_sem, seval]) | refine CQ_ok (c1 _) ?_ | refine CQ_ok (hv _) ?_ | refine Wk.ret fun _ _ => ?_ | refine Wk.fin (by assumption) ?_ | first | refine Wk.o ?_ | refine Wk.q (by assumption) ?_)); all_goals (repeat subst hqq)
     all_goals exact ⟨rfl, rfl⟩
   · rw [if_pos h0]
     refine Acalls.body Tryz.func15 rfl Tryz.ntmps15 (by simp) ?_
     (try refine Wk.aw fun _ hqq => ?_); (repeat' (first | ((first | refine Wk.hd ?_ | refine Wk.i ?_); simp -implicitDefEqProofs only [go_sem, seval]) | (refine TQ_s (fun hc => ?_) (fun hc => ?_) <;> try omega) | refine CQ_ok (c1 _) ?_ | refine CQ_ok (hv _) ?_ | refine Wk.ret fun _ _ => ?_ | refine Wk.fin (by assumption) ?_ | first | refine Wk.o ?_ | refine Wk.q (by assumption) ?_)); all_goals (repeat subst hqq)
     all_goals exact ⟨by simp only [takeV, Nat.sub_self]; rfl, rfl⟩
 | err rest c =>
   have c1 := c1.err
   have he := pF_err hr
   simp only
   refine Acalls.body Tryz.func15 rfl Tryz.ntmps15 (by simp) ?_
   (try refine Wk.aw fun _ hqq => ?_); (repeat' (first | ((first | refine Wk.hd ?_ | refine Wk.i ?_); simp -implicitDefEqProofs only [go_sem, seval]) | (refine TQ_s (fun hc => ?_) (fun hc => ?_) <;> try omega) | refine CQ_ex (c1 _) fun x_ => ?_ | refine Wk.ret fun _ _ => ?_ | refine Wk.fin (by assumption) ?_ | first | refine Wk.o ?_ | refine Wk.q (by assumption) ?_)); all_goals (repeat subst hqq)
   all_goals exact ⟨rfl, rfl⟩
end Go.Proofs.YtofbdmdigopaoaaGreatDoor
end
section
set_option maxHeartbeats 8000000
set_option maxRecDepth 20000
namespace Go.Proofs.YtofbdmdigopaoaaGreatDoor
open Go.Abs
attribute [local irreducible] AW OX condQ GQ bodyQ RoundsA thenQ blockQ Acalls
variable {G : World → Nat → Prop}
theorem c_read (hg : GV G) {T : List Tk} (hT : T.length ≤ 1048576) (hx : ∀ t ∈ T, t.text.length ≤ 1048576) (r : Res Ex) (h : pF (pFuel T) .cond T = some r) :
   Ans G 29 [vTl T] (takeV T r) := by
 rintro ⟨B, K⟩
 have c0 := (rd_ih (G := G) hg hT hx (pFuel T)).cond 0 (by omega) r (by rw [List.drop_zero]; exact h)
 refine Acalls.bodyD Tryz.func29 rfl Tryz.ntmps29 (by simp) rfl rfl rfl (by decide) rfl rfl rfl Tryz.call48 ?_
 (try refine Wk.aw fun _ hqq => ?_); (repeat' (first | ((refine Wk.i ?_); simp -implicitDefEqProofs only [go_sem, seval]) | first | refine Wk.o ?_ | refine Wk.q (by assumption) ?_)); all_goals (repeat subst hqq)
 refine ⟨rfl, ?_⟩
 (try refine Wk.aw fun _ hqq => ?_); (repeat' (first | ((refine Wk.i ?_); simp -implicitDefEqProofs only [go_sem, seval]) | first | refine Wk.o ?_ | refine Wk.q (by assumption) ?_)); all_goals (repeat subst hqq)
 refine ⟨rfl, [.ptr B.length 0, .ptr (B.length + 1) 0, .ptr (B.length + 2) 0], rfl, fun ds => ?_⟩
 have hG : ∀ (m : List Blk) (k : Nat), (B ++ m)[B.length + k]? = m[k]? := fun m k => by rw [List.getElem?_append_right (by simp)]; simp
 have hG0 : ∀ (m : List Blk), (B ++ m)[B.length]? = m[0]? := fun m => by rw [List.getElem?_append_right (by simp)]; simp
 have hS : ∀ (y : Blk) (m : List Blk) (k : Nat), (B ++ m).set (B.length + k) y = B ++ m.set k y := fun y m k => by rw [List.set_append_right _ _ (by simp)]; simp
 have hS0 : ∀ (y : Blk) (m : List Blk), (B ++ m).set B.length y = B ++ m.set 0 y := fun y m => by rw [List.set_append_right _ _ (by simp)]; simp
 have c1 := c0 (B ++ [.cells zEn, .cells [vint 0], .cells [vint 0], rdB T 0]) K (B.length + 3) (by rw [hG]; rfl)
 rw [hS] at c1
 cases r with
 | ok e rest =>
   simp only [rdO, resRest] at c1
   (try refine Wk.aw fun _ hqq => ?_); (repeat' (first | ((refine Wk.atX 4 ?_); refine AW.regY (P := Tryz.prog) mx [(4, 7)] (by kernel_rfl) (by simp -implicitDefEqProofs only [go_sem, seval, hG, hG0, hS, hS0]; first | done | exact rfl) ?_; refine OX.nil ?_; refine ⟨by simp [exB2, exP, exS, wrt, stQuiet, upd, List.zipIdx_cons, List.findIdx?_cons, entryFr] <;> omega, ?_⟩) | (first | refine Wk.th ?_ | refine Wk.bl ?_) | ((first | refine Wk.hd ?_ | refine Wk.i ?_); simp -implicitDefEqProofs only [go_sem, seval, hG, hG0, hS, hS0]) | refine CQ_st (c1) ?_ | first | refine Wk.o ?_ | refine Wk.q (by assumption) ?_)); all_goals (repeat subst hqq)
   refine DQ_ret ((c_read1_n B K (e.enc.map V.d) (vint ↑(T.length - rest.length)) (vint 0) (rdB T (T.length - rest.length))).mono ?_)
   rintro o s ⟨rfl, rfl⟩
   refine ⟨⟨_, rfl⟩, ?_⟩
   skip; (repeat' (first | ((refine Wk.i ?_); simp -implicitDefEqProofs only [go_sem, seval, hG, hG0, hS, hS0]) | refine Wk.ret fun _ _ => ?_ | (refine Wk.fin (by assumption) ?_; refine ⟨?_, rfl⟩))); all_goals (repeat subst hqq)
   all_goals rfl
 | err rest c =>
   simp only [rdO, resRest] at c1
   (try refine Wk.aw fun _ hqq => ?_); (repeat' (first | ((first | refine Wk.hd ?_ | refine Wk.i ?_); simp -implicitDefEqProofs only [go_sem, seval, hG, hG0, hS, hS0]) | refine CQ_pan (c1) ?_ | first | refine Wk.o ?_ | refine Wk.q (by assumption) ?_)); all_goals (repeat subst hqq)
   refine DQ_pan ((c_read1_p B K zEn rfl (vint 0) (vint 0) (rdB T (T.length - rest.length)) (T.length - rest.length) c).mono ?_)
   rintro o s ⟨rfl, rfl⟩
   refine ⟨⟨_, rfl⟩, ?_⟩
   skip; (repeat' (first | ((refine Wk.i ?_); simp -implicitDefEqProofs only [go_sem, seval, hG, hG0, hS, hS0]) | refine Wk.ret fun _ _ => ?_ | (refine Wk.fin (by assumption) ?_; refine ⟨?_, rfl⟩))); all_goals (repeat subst hqq)
   all_goals rfl
end Go.Proofs.YtofbdmdigopaoaaGreatDoor
end
section
set_option maxHeartbeats 8000000
set_option maxRecDepth 20000
namespace Go.Proofs.YtofbdmdigopaoaaGreatDoor
open Go.Abs
attribute [local irreducible] AW OX condQ GQ bodyQ RoundsA thenQ blockQ Acalls
variable {G : World → Nat → Prop}
abbrev parV : ParR → V
 | .ok e => .tup [vE e, vint 0, vint 0]
 | .err a c => .tup [vE ex0, vint a, vint c]
theorem c_ref_Parse (s : Str) (hs : s.length ≤ 1048576) (hv : ∀ T e rest, tokens s = .ok T → pF (pFuel T) .cond T = some (.ok e rest) → Ans G 18 [vE e] (vint (eValid e)))
   (ht : ∀ T, tokens s = .ok T → T.length ≤ 1048576 ∧ ∀ t ∈ T, t.text.length ≤ 1048576) (he : ∀ a c, tokens s = .err a c → c ≠ 0) :
   Ans G 12 [vs s] (parV (parseF s)) := by
 intro st
 have c0 := c_ref_Tokens (G := G) s hs
 rw [parseF]
 cases h : tokens s with
 | err a c =>
   rw [h] at c0
   have hc0 := he a c h
   simp only [toksV] at c0
   simp only
   refine Acalls.body Tryz.func12 rfl Tryz.ntmps12 (by simp) ?_
   (try refine Wk.aw fun _ hqq => ?_); (repeat' (first | ((first | refine Wk.hd ?_ | refine Wk.i ?_); simp -implicitDefEqProofs (disch := omega) only [go_sem, seval]) | (refine TQ_s (fun hc => ?_) (fun hc => ?_) <;> try omega) | refine CQ_ok (c0 _) ?_ | refine Wk.ret fun _ _ => ?_ | refine Wk.fin (by assumption) ?_ | first | refine Wk.o ?_ | refine Wk.q (by assumption) ?_)); all_goals (repeat subst hqq)
   all_goals first | exact ⟨rfl, rfl⟩
 | ok T =>
   rw [h] at c0
   obtain ⟨hT, hX⟩ := ht T h
   have c0 : Ans G 27 [vs s] (.tup [vTl T, vint 0, vint 0]) := c0
   have c1 := c_ref_Take (G := G) T hT hX (fun e rest hp => hv T e rest h hp)
   simp only
   obtain ⟨r0, hr0⟩ := takeF_some T
   have hsuf : (∀ e rest, takeF T = .ok e rest → rest <:+ T) ∧ (∀ rest c, takeF T = .err rest c → rest <:+ T ∧ c ≠ 0) := by
     have hs0 := pF_suf _ _ _ _ hr0
     rw [takeF, hr0]
     cases r0 with
     | ok e rest =>
       simp only [resRest] at hs0
       by_cases hz : eValid e = 0
       · simp only [hz, ne_eq, not_true_eq_false, if_false]; exact ⟨fun _ _ hh => by injection hh with _ h2; exact h2 ▸ hs0, fun _ _ hh => by cases hh⟩
       · simp only [hz, ne_eq, not_false_eq_true, if_true]; exact ⟨fun _ _ hh => by (cases hh), fun _ _ hh => by injection hh with h1 h2; exact ⟨h1 ▸ List.suffix_refl T, h2 ▸ hz⟩⟩
     | err rest c =>
       simp only [resRest] at hs0
       have := pF_err hr0
       exact ⟨fun _ _ hh => by (cases hh), fun _ _ hh => by injection hh with h1 h2; exact ⟨h1 ▸ hs0, by omega⟩⟩
   cases hk : takeF T with
   | ok e rest =>
     rw [hk] at c1
     have h1 := hsuf.1 e rest hk
     have h2 := suf_drop h1
     have h3 := suf_len h1
     simp only [takeV] at c1
     cases rest with
     | nil =>
       simp only [List.length_nil, Nat.sub_zero] at c1
       simp only
       refine Acalls.body Tryz.func12 rfl Tryz.ntmps12 (by simp) ?_
       (try refine Wk.aw fun _ hqq => ?_); (repeat' (first | ((first | refine Wk.hd ?_ | refine Wk.i ?_); simp -implicitDefEqProofs (disch := omega) only [go_sem, seval]) | refine CQ_ok (c0 _) ?_ | refine CQ_ok (c1 _) ?_ | refine Wk.ret fun _ _ => ?_ | refine Wk.fin (by assumption) ?_ | first | refine Wk.o ?_ | refine Wk.q (by assumption) ?_)); all_goals (repeat subst hqq)
       all_goals first | exact ⟨rfl, rfl⟩
     | cons t l =>
       simp only [List.length_cons] at c1 h3 h2
       have hlt : T.length - (l.length + 1) < T.length := by omega
       have hat : (T.getD (T.length - (l.length + 1)) default) = t := by
         rw [dropT hlt] at h2; injection h2 with h2 _; exact h2.symm
       clear h2
       generalize T.length - (l.length + 1) = n at *
       have hlt' : ¬ (n : Int) = T.length := by omega
       simp only
       refine Acalls.body Tryz.func12 rfl Tryz.ntmps12 (by simp) ?_
       (try refine Wk.aw fun _ hqq => ?_); (repeat' (first | ((refine Wk.atX 10 ?_); refine AW.regX (P := Tryz.prog) mx [(5, 8)] (by kernel_rfl) (by simp -implicitDefEqProofs (disch := omega) only [go_sem, seval, hat]; first | done | exact rfl) ?_) | (refine OX.nil ?_); refine exEnd rfl ?_ | (first | refine Wk.ox ?_ | refine Wk.th ?_ | refine Wk.bl ?_) | ((first | refine Wk.hd ?_ | refine Wk.i ?_); simp -implicitDefEqProofs (disch := omega) only [go_sem, seval, hat]) | (refine TQ_s (fun hc => ?_) (fun hc => ?_) <;> try omega) | refine CQ_ok (c0 _) ?_ | refine CQ_ok (c1 _) ?_ | refine Wk.ret fun _ _ => ?_ | refine Wk.fin (by assumption) ?_ | first | refine Wk.o ?_ | refine Wk.q (by assumption) ?_)); all_goals (repeat subst hqq)
       all_goals first | exact ⟨rfl, rfl⟩
   | err rest c =>
     rw [hk] at c1
     obtain ⟨h1, hcc⟩ := hsuf.2 rest c hk
     have h2 := suf_drop h1
     have h3 := suf_len h1
     simp only [takeV] at c1
     cases rest with
     | nil =>
       simp only [List.length_nil, Nat.sub_zero] at c1
       simp only [placeF]
       refine Acalls.body Tryz.func12 rfl Tryz.ntmps12 (by simp) ?_
       (try refine Wk.aw fun _ hqq => ?_); (repeat' (first | ((first | refine Wk.hd ?_ | refine Wk.i ?_); simp -implicitDefEqProofs (disch := omega) only [go_sem, seval]) | (refine TQ_s (fun hc => ?_) (fun hc => ?_) <;> try omega) | refine CQ_ok (c0 _) ?_ | refine CQ_ok (c1 _) ?_ | refine Wk.ret fun _ _ => ?_ | refine Wk.fin (by assumption) ?_ | first | refine Wk.o ?_ | refine Wk.q (by assumption) ?_)); all_goals (repeat subst hqq)
       all_goals first | exact ⟨rfl, rfl⟩
     | cons t l =>
       simp only [List.length_cons] at c1 h3 h2
       have hlt : T.length - (l.length + 1) < T.length := by omega
       have hat : (T.getD (T.length - (l.length + 1)) default) = t := by
         rw [dropT hlt] at h2; injection h2 with h2 _; exact h2.symm
       clear h2
       generalize T.length - (l.length + 1) = n at *
       have hlt' : ¬ (n : Int) = T.length := by omega
       simp only [placeF]
       refine Acalls.body Tryz.func12 rfl Tryz.ntmps12 (by simp) ?_
       (try refine Wk.aw fun _ hqq => ?_); (repeat' (first | ((refine Wk.atX 10 ?_); refine AW.regX (P := Tryz.prog) mx [(5, 8)] (by kernel_rfl) (by simp -implicitDefEqProofs (disch := omega) only [go_sem, seval, hat]; first | done | exact rfl) ?_) | (refine OX.nil ?_); refine exEnd rfl ?_ | (first | refine Wk.ox ?_ | refine Wk.th ?_ | refine Wk.bl ?_) | ((first | refine Wk.hd ?_ | refine Wk.i ?_); simp -implicitDefEqProofs (disch := omega) only [go_sem, seval, hat]) | (refine TQ_s (fun hc => ?_) (fun hc => ?_) <;> try omega) | refine CQ_ok (c0 _) ?_ | refine CQ_ok (c1 _) ?_ | refine Wk.ret fun _ _ => ?_ | refine Wk.fin (by assumption) ?_ | first | refine Wk.o ?_ | refine Wk.q (by assumption) ?_)); all_goals (repeat subst hqq)
       all_goals first | exact ⟨rfl, rfl⟩
end Go.Proofs.YtofbdmdigopaoaaGreatDoor
end
section
set_option maxHeartbeats 8000000
set_option maxRecDepth 20000
namespace Go.Proofs.YtofbdmdigopaoaaGreatDoor
open Go.Abs
attribute [local irreducible] AW OX condQ GQ bodyQ RoundsA thenQ blockQ Acalls
variable {G : World → Nat → Prop}
theorem c_escaped (s : Str) (i : Nat) (hs : s.length ≤ 1048576) (hi : i < s.length) : Ans G 111 [vs s, vint i] (escV (escF (s.drop (i + 1)))) := by
 intro st
 have h3 := sdrop_get s (i + 1)
 have hd := sdrop_len s (i + 1)
 have hx2 := hexV_lo (s.getD (i + 2) 0)
 have hx3 := hexV_lo (s.getD (i + 3) 0)
 refine Acalls.body Tryz.func111 rfl Tryz.ntmps111 (by simp) ?_
 (try refine Wk.aw fun _ hqq => ?_); (repeat' (first | ((first | refine Wk.hd ?_ | refine Wk.i ?_); simp -implicitDefEqProofs (disch := omega) only [go_sem, seval]) | (refine TQ_s (fun hc => ?_) (fun hc => ?_) <;> try omega) | refine CQ_ok (c_lexer_hex _ _) ?_ | refine Wk.drawn mx (by kernel_rfl) ?_ | refine Wk.ret fun _ _ => ?_ | (refine Wk.fin (by assumption) ?_; refine ⟨?_, rfl⟩) | first | refine Wk.o ?_ | refine Wk.q (by assumption) ?_)); all_goals (repeat subst hqq)
 all_goals (try simp -implicitDefEqProofs (disch := first | assumption | omega) only [escF, hd, h3, show i + 1 + 0 = i + 1 from rfl, show i + 1 + 1 = i + 2 from rfl, show i + 1 + 2 = i + 3 from rfl, if_pos, if_neg]); all_goals first | rfl | ((repeat' split) <;> first | rfl | (exfalso; omega) | grind | skip)
 all_goals (simp only [escV]; rw [vc, ofNat_u8 (by omega) (by omega)]; rfl)
end Go.Proofs.YtofbdmdigopaoaaGreatDoor
end
section
set_option maxHeartbeats 8000000
set_option maxRecDepth 20000
namespace Go.Proofs.YtofbdmdigopaoaaGreatDoor
open Go.Abs
attribute [local irreducible] AW OX condQ GQ bodyQ RoundsA thenQ blockQ Acalls
variable {G : World → Nat → Prop}
def isOpS (s : Str) : Bool := decide (s = [124, 124] ∨ s = [38, 38] ∨ s = [61, 61] ∨ s = [33, 61] ∨ s = [60, 61] ∨ s = [62, 61] ∨ s = [60] ∨ s = [62] ∨ s = [43] ∨ s = [45] ∨ s = [42] ∨ s = [47] ∨ s = [37] ∨ s = [33] ∨ s = [63] ∨ s = [58] ∨ s = [46] ∨ s = [44] ∨ s = [61] ∨ s = [40] ∨ s = [41] ∨ s = [91] ∨ s = [93] ∨ s = [123] ∨ s = [125])
theorem opF_two {s L : Str} {i : Nat} (hc : (s.take (i + 2)).drop i = L) (h : isOp2 L = true) : opF (s.drop i) = .ok 4 L 2 := by
 have hl : (s.drop i).take 2 = L := by rw [← hc, List.drop_take, show i + 2 - i = 2 by omega]
 rw [opF.eq_def, hl, if_pos h]
theorem take_one {s : Str} {i : Nat} (hi : i < s.length) : (s.take (i + 1)).drop i = [s.getD i 0] := by
 rw [List.drop_take, show i + 1 - i = 1 by omega, drop_cons hi]; rfl
theorem opF_one {s : Str} {i : Nat} {x : UInt8} (hi : i < s.length) (hno : isOp2 ((s.drop i).take 2) = false) (hc : (s.take (i + 1)).drop i = [x]) (h : ops1.contains x = true) : opF (s.drop i) = .ok 4 [x] 1 := by
 rw [take_one hi] at hc
 have hx : s.getD i 0 = x := by simpa using hc
 rw [drop_cons hi] at hno ⊢
 rw [opF, hno, hx]
 simp only [Bool.false_eq_true, if_false, h, if_true]
theorem opF_none {s : Str} {i : Nat} (hi : i < s.length) (hno : isOp2 ((s.drop i).take 2) = false) (h : ops1.contains (s.getD i 0) = false) : opF (s.drop i) = .err 5 := by
 rw [drop_cons hi] at hno ⊢
 rw [opF, hno]
 simp only [Bool.false_eq_true, if_false, h]
theorem no2 {s : Str} {i : Nat} (h : ¬ i + 2 ≤ s.length ∨ (¬ (s.take (i + 2)).drop i = [124, 124] ∧ ¬ (s.take (i + 2)).drop i = [38, 38] ∧ ¬ (s.take (i + 2)).drop i = [61, 61] ∧ ¬ (s.take (i + 2)).drop i = [33, 61] ∧ ¬ (s.take (i + 2)).drop i = [60, 61] ∧ ¬ (s.take (i + 2)).drop i = [62, 61])) : isOp2 ((s.drop i).take 2) = false := by
 have hl : (s.drop i).take 2 = (s.take (i + 2)).drop i := by rw [List.drop_take, show i + 2 - i = 2 by omega]
 rw [hl, isOp2, decide_eq_false_iff_not]
 rcases h with h | ⟨h1, h2, h3, h4, h5, h6⟩
 · intro h'
   have : ((s.take (i + 2)).drop i).length < 2 := by simp only [List.length_drop, List.length_take]; omega
   rcases h' with h | h | h | h | h | h <;> rw [h] at this <;> exact absurd this (by decide)
 · simp only [not_or]; exact ⟨h1, h2, h3, h4, h5, h6⟩
theorem c_operator (s : Str) (i : Nat) (hs : s.length ≤ 1048576) (hi : i < s.length) : Ans G 71 [vs s, vint i] (lexV i (opF (s.drop i))) := by
 intro st
 refine Acalls.body Tryz.func71 rfl Tryz.ntmps71 (by simp) ?_
 repeat' (first
   | (with_reducible refine AW.atL ?_; refine AW.rounds 3 ?_)
   | (with_reducible refine AW.atB 2 ?_; refine AW.cutB 2 [(0, vs s), (1, vint i), (4, .ptr st.blks.length 0), (8, vint 2), (9, vs ((s.take (i + 2)).drop i)), (10, .d (.sl [[int 2], [int 1]])), (11, vint 2), (12, vint 0), (29, vb (isOpS ((s.take (i + 2)).drop i)))] ⟨st.blks ++ [.cells [.d (.int .i64 0), .d (.str []), .d (.int .i64 0)]], st.toks⟩ ?_ ?_)
   | with_reducible refine AW.seq ?_
   | with_reducible refine RoundsA_succ ?_
   | with_reducible refine AW.block ?_
   | with_reducible refine AW.scope ?_
   | with_reducible refine AW.skip ?_
   | with_reducible refine AW.label ?_
   | with_reducible refine AW.exit ?_
   | with_reducible refine AW.ret ?_
   | with_reducible refine OX.nil ?_
   | with_reducible refine thenQ_n ?_
   | with_reducible refine thenQ_r ?_
   | with_reducible refine thenQ_e ?_
   | with_reducible refine thenQ_p ?_
   | with_reducible refine blockQ_n ?_
   | with_reducible refine blockQ_r ?_
   | with_reducible refine blockQ_p ?_
   | with_reducible refine blockQ_e ?_
   | with_reducible refine condQ_t ?_
   | with_reducible refine condQ_f ?_
   | refine blockQ_x (by decide) ?_
   | ((first | refine GQ_und ?_ | refine GQ_t ?_ | refine GQ_f ?_); refine OX.run (by simp -implicitDefEqProofs (disch := omega) only [go_sem, seval]; first | done | exact rfl) ?_)
   | (with_reducible refine condQ_dT ?_ ?_; (focus (first | assumption | omega)))
   | (with_reducible refine condQ_dF ?_ ?_; (focus (first | assumption | omega)))
   | (with_reducible refine condQ_bT ?_ ?_; (focus assumption))
   | (with_reducible refine condQ_bF ?_ ?_; (focus assumption))
   | with_reducible refine condQ_d (fun hc => ?_) (fun hc => ?_)
   | with_reducible refine condQ_nb (fun hc => ?_) (fun hc => ?_)
   | with_reducible refine condQ_b (fun hc => ?_) (fun hc => ?_)
   | (refine GQ_dT ?_ ?_; (focus (first | assumption | omega)); refine OX.run (by simp -implicitDefEqProofs (disch := omega) only [go_sem, seval]; first | done | exact rfl) ?_)
   | (refine GQ_dF ?_ ?_; (focus (first | assumption | omega)); refine OX.run (by simp -implicitDefEqProofs (disch := omega) only [go_sem, seval]; first | done | exact rfl) ?_)
   | (refine GQ_d (fun hc => ?_) (fun hc => ?_) <;> refine OX.run (by simp -implicitDefEqProofs (disch := omega) only [go_sem, seval]; first | done | exact rfl) ?_)
   | (refine GQ_b (fun hc => ?_) (fun hc => ?_) <;> refine OX.run (by simp -implicitDefEqProofs (disch := omega) only [go_sem, seval]; first | done | exact rfl) ?_)
   | refine AW.condB (by simp -implicitDefEqProofs (disch := omega) only [go_sem, seval]; first | done | exact rfl) ?_
   | refine AW.regN (by simp -implicitDefEqProofs (disch := omega) only [go_sem, seval]; first | done | exact rfl) ?_
   | refine AW.regD (P := Tryz.prog) mx (by kernel_rfl) (by simp -implicitDefEqProofs (disch := omega) only [go_sem, seval]; first | done | exact rfl) ?_
   | refine OX.gd rfl rfl (by simp -implicitDefEqProofs (disch := omega) only [go_sem, seval]; first | done | exact rfl) ?_
   | refine bodyQ_ret (by simp -implicitDefEqProofs (disch := omega) only [go_sem, seval]) (by simp -implicitDefEqProofs (disch := omega) only [go_sem, seval]) (by simp -implicitDefEqProofs (disch := omega) only [go_sem, seval]; first | done | exact rfl) (by simp -implicitDefEqProofs (disch := omega) only [go_sem, seval]; first | done | exact rfl) (by simp -implicitDefEqProofs (disch := omega) only [go_sem, seval]) ⟨?_, rfl⟩)
 all_goals first
   | (exfalso; have h := congrArg List.length hc; simp only [List.length_drop, List.length_take, List.length_cons, List.length_nil] at h; omega)
   | (rw [opF_two hc (by decide), hc]; rfl)
   | (have hno := no2 (s := s) (i := i) (by first | exact .inl (by omega) | exact .inr ⟨by assumption, by assumption, by assumption, by assumption, by assumption, by assumption⟩)
      first
        | (rw [opF_one hi hno hc (by decide), hc]; rfl)
        | (rw [opF_none hi hno (by
             rw [Bool.eq_false_iff, Ne, List.contains_iff_mem]
             intro h
             have h1 := take_one hi
             simp only [ops1, List.mem_cons, List.not_mem_nil, or_false] at h
             rcases h with h | h | h | h | h | h | h | h | h | h | h | h | h | h | h | h | h | h | h <;> (rw [h] at h1; contradiction))]; rfl))
end Go.Proofs.YtofbdmdigopaoaaGreatDoor
end
section
set_option maxHeartbeats 8000000
set_option maxRecDepth 20000
namespace Go.Proofs.YtofbdmdigopaoaaGreatDoor
open Go.Abs
attribute [local irreducible] AW OX condQ GQ bodyQ RoundsA thenQ blockQ Acalls
variable {G : World → Nat → Prop}
abbrev zT : List V := [.d (.int .i64 0), .d (.str []), .d (.int .i64 0)]
def blkOf (b id : Nat) : Str → Blk
 | [] => .tc bT [.d .nilp, .nils]
 | c :: r => .tc bT [.ptr b 0, .own id (byteRows (c :: r))]
def tokOf : Str → List (Nat × Nat × Nat)
 | [] => []
 | c :: r => [(bE, 1, r.length + 1)]
theorem chF_plain {s : Str} {j : Nat} (hj : j < s.length) (h1 : ¬ (s.getD j 0).toNat < 32) (h2 : (s.getD j 0).toNat ≠ 92) : chF (s.drop j) = .ok (s.getD j 0) 1 := by
 have : (s.drop j).getD 0 0 = s.getD j 0 := by simp [List.getD_eq_getElem?_getD]
 rw [chF, this, if_neg h1, if_pos h2]
theorem chF_esc {s : Str} {j : Nat} (hj : j < s.length) (h2 : (s.getD j 0).toNat = 92) : chF (s.drop j) = escF (s.drop (j + 1)) := by
 have : (s.drop j).getD 0 0 = s.getD j 0 := by simp [List.getD_eq_getElem?_getD]
 rw [chF, this, if_neg (by omega), if_neg (by omega), List.drop_drop]
theorem chF_low {s : Str} {j : Nat} (hj : j < s.length) (h1 : (s.getD j 0).toNat < 32) : chF (s.drop j) = .err 5 := by
 have : (s.drop j).getD 0 0 = s.getD j 0 := by simp [List.getD_eq_getElem?_getD]
 rw [chF, this, if_pos h1]
theorem lexV_ok {i j : Nat} {a : Str} (h : i ≤ j) : lexV i (.ok 3 a (j - i + 1)) = .tup [vT ⟨3, a, i⟩, vint ↑(j + 1), vint 0] := by
 simp only [lexV, lexT, lexN, lexE, show i + (j - i + 1) = j + 1 by omega]
theorem c_text (s : Str) (i : Nat) (hs : s.length ≤ 1048576) (hi : i < s.length) : Ans G 70 [vs s, vint i] (lexV i (strR (s.drop (i + 1)) [] 1)) := by
 intro st
 refine Acalls.body Tryz.func70 rfl Tryz.ntmps70 (by simp) ?_
 (try refine Wk.aw fun _ hqq => ?_); (repeat' (first | ((refine Wk.i ?_); simp -implicitDefEqProofs (disch := omega) only [go_sem, seval]) | refine Wk.o ?_)); all_goals (repeat subst hqq)
 refine AW.loopS (fun x : Str × Nat => [(0, vs s), (1, vint ↑i), (4, .ptr st.blks.length 0), (7, .ptr (st.blks.length + 1) 0), (8, vint ↑x.2)]) (fun x => [.cells zT, blkOf (st.blks.length + 1) st.toks.length x.1]) (fun x => tokOf x.1)
   (fun x => i < x.2 ∧ x.2 ≤ s.length ∧ x.1.length ≤ x.2 ∧ strR (s.drop x.2) x.1 (x.2 - i) = strR (s.drop (i + 1)) [] 1) (fun x => s.length - x.2) ([], i + 1) (by simp -implicitDefEqProofs (disch := omega) only [go_sem, seval, blkOf, tokOf]; first | done | exact rfl) (by simp -implicitDefEqProofs (disch := omega) only [go_sem, seval] <;> first | rfl | exact ⟨rfl, rfl⟩ | skip) ⟨by simp, by simp; omega, by simp, by simp⟩ ?_
 rintro ⟨acc, j⟩ ⟨h1, h2, h3, h4⟩
 simp only at h1 h2 h3 h4
 by_cases hj : j < s.length
 · have hcons := drop_cons hj
   have hr := strR_cons (s.getD j 0) (s.drop (j + 1)) acc (j - i)
   rw [← hcons, h4] at hr
   have key : ∀ (b : UInt8) (k : Nat) (fr' : Fr), 1 ≤ k → j + k ≤ s.length → strR (s.drop (j + k)) (acc ++ [b]) (j + k - i) = strR (s.drop (i + 1)) [] 1 →
       okF fr' [(0, vs s), (1, vint ↑i), (4, .ptr st.blks.length 0), (7, .ptr (st.blks.length + 1) 0), (8, vint ↑(j + k))] → ∀ (B : Blk) (T : List (Nat × Nat × Nat)), B = blkOf (st.blks.length + 1) st.toks.length (acc ++ [b]) → T = tokOf (acc ++ [b]) →
       ∃ x', Nxt st (fun x : Str × Nat => [(0, vs s), (1, vint ↑i), (4, .ptr st.blks.length 0), (7, .ptr (st.blks.length + 1) 0), (8, vint ↑x.2)]) (fun x => [.cells zT, blkOf (st.blks.length + 1) st.toks.length x.1]) (fun x => tokOf x.1)
         (fun x => i < x.2 ∧ x.2 ≤ s.length ∧ x.1.length ≤ x.2 ∧ strR (s.drop x.2) x.1 (x.2 - i) = strR (s.drop (i + 1)) [] 1) (fun x => s.length - x.2) (acc, j) fr' ⟨st.blks ++ [.cells zT, B], st.toks ++ T⟩ x' := by
     rintro b k fr' q1 q2 q3 q4 B T rfl rfl
     refine ⟨(acc ++ [b], j + k), ⟨q4, ⟨by simp only; omega, q2, by simp only [List.length_append, List.length_singleton]; omega, q3⟩, by simp only; omega, List.take_of_length_le (by simp), List.take_of_length_le (by simp), ?_, ?_⟩⟩
     · simp [okW, V.within]
     · cases acc <;> simp [blkOf, tokOf, Blk.within, V.within, V.within.all]
   by_cases hq : (s.getD j 0).toNat = 34
   · rw [if_pos hq] at hr
     rw [hr]
     have hq' : ((s.getD j 0).toNat : Int) = 34 := by omega
     cases acc with
     | nil =>
       (try refine Wk.aw fun _ hqq => ?_); (repeat' (first | ((first | refine Wk.hd ?_ | refine Wk.i ?_); simp -implicitDefEqProofs (disch := omega) only [go_sem, seval, blkOf, tokOf, hq']) | (refine TQ_s (fun hc => ?_) (fun hc => ?_) <;> try omega) | refine CQ_ok (c_bLen0 _ (st.blks.length + 1) (.d .nilp) (by simp)) ?_ | refine CQ_ok (c_bString_nil _ (st.blks.length + 1) (.d .nilp) (by simp)) ?_ | refine Wk.ret fun _ _ => ?_ | (refine Wk.fin (by assumption) ?_; refine ⟨?_, rfl⟩) | first | refine Wk.o ?_ | refine Wk.q (by assumption) ?_)); all_goals (repeat subst hqq)
       all_goals first | (exfalso; omega) | (rw [if_neg (by simp), lexV_ok (by omega)]; rfl)
     | cons a r =>
       (try refine Wk.aw fun _ hqq => ?_); (repeat' (first | ((first | refine Wk.hd ?_ | refine Wk.i ?_); simp -implicitDefEqProofs (disch := omega) only [go_sem, seval, blkOf, tokOf, hq']) | (refine TQ_s (fun hc => ?_) (fun hc => ?_) <;> try omega) | refine CQ_ok (c_bLen1 _ (st.blks.length + 1) st.toks.length (a :: r) (by simp)) ?_ | refine CQ_st (c_bString_row _ (st.blks.length + 1) st.toks.length (.ptr (st.blks.length + 1) 0) (a :: r) (by simp) (by simp) (by simp)) ?_ | refine Wk.ret fun _ _ => ?_ | (refine Wk.fin (by assumption) ?_; refine ⟨?_, rfl⟩) | first | refine Wk.o ?_ | refine Wk.q (by assumption) ?_)); all_goals (repeat subst hqq)
       all_goals first | (rw [if_pos (by simp only [List.length_cons]; omega)]; rfl) | (rw [if_neg (by simp only [List.length_cons]; omega), lexV_ok (by omega)]; rfl)
   · rw [if_neg hq] at hr
     have hq' : ¬ ((s.getD j 0).toNat : Int) = 34 := by omega
     by_cases hlow : (s.getD j 0).toNat < 32
     · rw [chF_low hj hlow] at hr
       simp only at hr
       rw [hr]
       (try refine Wk.aw fun _ hqq => ?_); (repeat' (first | ((refine Wk.i ?_); simp -implicitDefEqProofs (disch := omega) only [go_sem, seval]) | (refine TQ_s (fun hc => ?_) (fun hc => ?_) <;> try omega) | refine Wk.ret fun _ _ => ?_ | (refine Wk.fin (by assumption) ?_; refine ⟨?_, rfl⟩) | first | refine Wk.o ?_ | refine Wk.q (by assumption) ?_)); all_goals (repeat subst hqq)
       all_goals first | rfl | (exfalso; omega)
     · by_cases hb : (s.getD j 0).toNat = 92
       · rw [chF_esc hj hb] at hr
         have hes := c_escaped (G := G) s j hs hj
         have hsh := c_short (G := G) s j hs hj
         rcases he : escF (s.drop (j + 1)) with ⟨b, k⟩ | e
         · rw [he] at hr hes
           have hk := chF_ok ((chF_esc hj hb).trans he) (by simp; omega)
           simp only [List.length_drop] at hk
           simp only [List.drop_drop] at hr
           cases acc with
           | nil =>
             (try refine Wk.aw fun _ hqq => ?_); (repeat' (first | ((first | refine Wk.hd ?_ | refine Wk.i ?_); simp -implicitDefEqProofs (disch := omega) only [go_sem, seval, blkOf, tokOf, escV]) | (refine TQ_s (fun hc => ?_) (fun hc => ?_) <;> try omega) | refine CQ_ok (hes _) ?_ | refine CQ_st (c_WB0 _ (st.blks.length + 1) _ (by simp)) ?_ | first | refine Wk.o ?_ | refine Wk.q (by assumption) ?_)); all_goals (repeat subst hqq)
             all_goals first | (exfalso; omega) | skip
             all_goals refine key b k _ (by omega) (by omega) (by rw [hr, show j + k - i = j - i + k by omega]) (by simp -implicitDefEqProofs (disch := omega) only [go_sem, seval]) _ _ rfl rfl
           | cons a r =>
             (try refine Wk.aw fun _ hqq => ?_); (repeat' (first | ((first | refine Wk.hd ?_ | refine Wk.i ?_); simp -implicitDefEqProofs (disch := omega) only [go_sem, seval, blkOf, tokOf, escV]) | (refine TQ_s (fun hc => ?_) (fun hc => ?_) <;> try omega) | refine CQ_ok (hes _) ?_ | refine CQ_st (c_WB1 _ (st.blks.length + 1) st.toks.length (a :: r) _ (by simp) (by simp) (by simp only [List.length_cons] at *; omega)) ?_ | first | refine Wk.o ?_ | refine Wk.q (by assumption) ?_)); all_goals (repeat subst hqq)
             all_goals first | (exfalso; omega) | skip
             all_goals refine key b k _ (by omega) (by omega) (by rw [hr, show j + k - i = j - i + k by omega]) (by simp -implicitDefEqProofs (disch := omega) only [go_sem, seval]) _ _ rfl (by simp [tokOf])
         · rw [he] at hr hes
           simp only at hr
           rw [hr]
           rcases shortF_err he with ⟨rfl, hsf⟩ | ⟨rfl, hsf⟩
           · rw [hsf] at hsh
             (try refine Wk.aw fun _ hqq => ?_); (repeat' (first | ((first | refine Wk.hd ?_ | refine Wk.i ?_); simp -implicitDefEqProofs (disch := omega) only [go_sem, seval, escV]) | (refine TQ_s (fun hc => ?_) (fun hc => ?_) <;> try omega) | refine CQ_ok (hes _) ?_ | refine CQ_ok (hsh _) ?_ | refine Wk.ret fun _ _ => ?_ | (refine Wk.fin (by assumption) ?_; refine ⟨?_, rfl⟩) | first | refine Wk.o ?_ | refine Wk.q (by assumption) ?_)); all_goals (repeat subst hqq)
             all_goals first | rfl | (exfalso; omega)
           · rw [hsf] at hsh
             (try refine Wk.aw fun _ hqq => ?_); (repeat' (first | ((first | refine Wk.hd ?_ | refine Wk.i ?_); simp -implicitDefEqProofs (disch := omega) only [go_sem, seval, escV]) | (refine TQ_s (fun hc => ?_) (fun hc => ?_) <;> try omega) | refine CQ_ok (hes _) ?_ | refine CQ_ok (hsh _) ?_ | refine Wk.ret fun _ _ => ?_ | (refine Wk.fin (by assumption) ?_; refine ⟨?_, rfl⟩) | first | refine Wk.o ?_ | refine Wk.q (by assumption) ?_)); all_goals (repeat subst hqq)
             all_goals first | rfl | (exfalso; omega)
       · rw [chF_plain hj hlow hb] at hr
         simp only [List.drop_drop] at hr
         cases acc with
         | nil =>
           (try refine Wk.aw fun _ hqq => ?_); (repeat' (first | ((first | refine Wk.hd ?_ | refine Wk.i ?_); simp -implicitDefEqProofs (disch := omega) only [go_sem, seval, blkOf, tokOf]) | (refine TQ_s (fun hc => ?_) (fun hc => ?_) <;> try omega) | refine CQ_st (c_WB0 _ (st.blks.length + 1) _ (by simp)) ?_ | first | refine Wk.o ?_ | refine Wk.q (by assumption) ?_)); all_goals (repeat subst hqq)
           all_goals first | (exfalso; omega) | skip
           all_goals refine key (s.getD j 0) 1 _ (by omega) (by omega) (by rw [hr, show j + 1 - i = j - i + 1 by omega]) (by simp -implicitDefEqProofs (disch := omega) only [go_sem, seval]) _ _ rfl rfl
         | cons a r =>
           (try refine Wk.aw fun _ hqq => ?_); (repeat' (first | ((first | refine Wk.hd ?_ | refine Wk.i ?_); simp -implicitDefEqProofs (disch := omega) only [go_sem, seval, blkOf, tokOf]) | (refine TQ_s (fun hc => ?_) (fun hc => ?_) <;> try omega) | refine CQ_st (c_WB1 _ (st.blks.length + 1) st.toks.length (a :: r) _ (by simp) (by simp) (by simp only [List.length_cons] at *; omega)) ?_ | first | refine Wk.o ?_ | refine Wk.q (by assumption) ?_)); all_goals (repeat subst hqq)
           all_goals first | (exfalso; omega) | skip
           all_goals refine key (s.getD j 0) 1 _ (by omega) (by omega) (by rw [hr, show j + 1 - i = j - i + 1 by omega]) (by simp -implicitDefEqProofs (disch := omega) only [go_sem, seval]) _ _ rfl (by simp [tokOf])
 · have : s.drop j = [] := List.drop_of_length_le (by omega)
   rw [this, strR_nil] at h4
   rw [← h4]
   (try refine Wk.aw fun _ hqq => ?_); (repeat' (first | ((refine Wk.i ?_); simp -implicitDefEqProofs (disch := omega) only [go_sem, seval]) | (refine TQ_s (fun hc => ?_) (fun hc => ?_) <;> try omega) | refine Wk.ret fun _ _ => ?_ | (refine Wk.fin (by assumption) ?_; refine ⟨?_, rfl⟩) | first | refine Wk.o ?_ | refine Wk.q (by assumption) ?_ | refine Wk.sw fun _ hqq => ?_)); all_goals (repeat subst hqq)
   all_goals rfl
end Go.Proofs.YtofbdmdigopaoaaGreatDoor
end
