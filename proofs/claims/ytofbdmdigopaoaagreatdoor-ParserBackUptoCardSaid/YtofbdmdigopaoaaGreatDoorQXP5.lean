/- A step of the proofs of the seat's theorems. -/
import Derived.Test.YtofbdmdigopaoaaGreatDoorQ1
set_option linter.unusedSimpArgs false
set_option linter.unusedVariables false
namespace Go.Proofs.YtofbdmdigopaoaaGreatDoor
theorem thenF_okEZ {x : Option (Res Ex)} {k : Ex → List Tk → Option (Res Ex)} {e : Ex} {rest : List Tk} (h : thenF x k = some (.ok e rest)) : ∃ e1 r1, x = some (.ok e1 r1) ∧ k e1 r1 = some (.ok e rest) := by
 cases x with
 | none => simp [thenF] at h
 | some r1 =>
   cases r1 with
   | ok e1 r1 => exact ⟨e1, r1, rfl, h⟩
   | err r c => simp [thenF] at h
theorem expectF_okEZ {s : Str} {k : List Tk → Option (Res Ex)} {l : List Tk} {e : Ex} {rest : List Tk} (h : expectF s k l = some (.ok e rest)) : ∃ t l2, l = t :: l2 ∧ isOpT s t = true ∧ k l2 = some (.ok e rest) := by
 cases l with
 | nil => simp [expectF] at h
 | cons t l2 =>
   simp only [expectF] at h
   split at h
   · exact ⟨t, l2, rfl, by assumption, h⟩
   · simp at h
def sim (t u : Tk) : Prop := u.kind = t.kind ∧ u.text = t.text
def sims : List Tk → List Tk → Prop
 | [], [] => True
 | t :: l, u :: m => sim t u ∧ sims l m
 | _, _ => False
def stop : List Tk → Prop
 | [] => True
 | t :: _ => t.kind = 4 → strength t.text = 0 ∧ t.text ≠ [63] ∧ t.text ≠ [46] ∧ t.text ≠ [91] ∧ t.text ≠ [40]
def Kp (r Z : List Tk) : Prop := stop Z ∨ ∃ t l u l', r = t :: l ∧ Z = u :: l' ∧ sim t u
def opn (n : Nat) (t : Tk) : Nat := if t.kind = 4 then openF t.text n else n
def dep (n : Nat) (a : List Tk) : Nat := a.foldl opn n
def Loc (b : Bool) (n m : Nat) (g : List Tk → Option (Res Ex)) (ts : List Tk) (e : Ex) (r : List Tk) : Prop :=
 ∃ a, (b = true → a ≠ []) ∧ (dep n a = m ∧ ∀ t ∈ a, t.kind ≠ 5) ∧ ts = a ++ r ∧ ∀ a' Z, sims a a' → Kp r Z → g (a' ++ Z) = some (.ok e Z)
theorem sims_refl : ∀ a, sims a a
 | [] => trivial
 | _ :: l => ⟨⟨rfl, rfl⟩, sims_refl l⟩
theorem sims_app : ∀ {a b x : List Tk}, sims (a ++ b) x → ∃ x1 x2, x = x1 ++ x2 ∧ sims a x1 ∧ sims b x2
 | [], b, x, h => ⟨[], x, rfl, trivial, h⟩
 | t :: a, b, [], h => h.elim
 | t :: a, b, u :: x, h => by
   obtain ⟨x1, x2, e, h1, h2⟩ := sims_app (a := a) h.2
   exact ⟨u :: x1, x2, by rw [e]; rfl, ⟨h.1, h1⟩, h2⟩
theorem Kp_app {a x r Z : List Tk} (h : sims a x) (hK : Kp r Z) : Kp (a ++ r) (x ++ Z) := by
 cases a with
 | nil => cases x with
   | nil => exact hK
   | cons u x => exact h.elim
 | cons t a => cases x with
   | nil => exact h.elim
   | cons u x => exact .inr ⟨t, a ++ r, u, x ++ Z, rfl, rfl, h.1⟩
theorem isOp_sim {s : Str} {t u : Tk} (h : sim t u) : isOpT s u = isOpT s t := by simp only [isOpT, h.1, h.2]
theorem Kp_no {s : Str} {r Z : List Tk} (hs : s = [63] ∨ s = [46] ∨ s = [91] ∨ s = [40]) (hr : ∀ t l, r = t :: l → isOpT s t = false) (hK : Kp r Z) : ∀ u l, Z = u :: l → isOpT s u = false := by
 rintro u l rfl
 rcases hK with h | ⟨t, l1, u', l', rfl, e, h⟩
 · simp only [isOpT, decide_eq_false_iff_not]
   rintro ⟨h1, h2⟩
   obtain ⟨_, k1, k2, k3, k4⟩ := h h1
   rcases hs with rfl | rfl | rfl | rfl <;> contradiction
 · cases e
   rw [isOp_sim h]
   exact hr _ _ rfl
theorem Kp_str {n : Nat} {r Z : List Tk} (hn : 1 ≤ n) (hr : ∀ t l, r = t :: l → ¬ (t.kind = 4 ∧ strength t.text = n)) (hK : Kp r Z) : ∀ u l, Z = u :: l → ¬ (u.kind = 4 ∧ strength u.text = n) := by
 rintro u l rfl
 rcases hK with h | ⟨t, l1, u', l', rfl, e, h⟩
 · rintro ⟨h1, h2⟩
   have := (h h1).1
   omega
 · cases e
   rw [h.1, h.2]
   exact hr _ _ rfl
section
variable {b b' : Bool} {n m q : Nat} {g G : List Tk → Option (Res Ex)} {ts r : List Tk} {e : Ex} {t : Tk} {l : List Tk}
theorem Loc.weak (h : Loc true n m g ts e r) : Loc b n m g ts e r := by
 obtain ⟨a, k, d⟩ := h
 exact ⟨a, fun _ => k rfl, d⟩
theorem Loc.bind {k : Ex → List Tk → Option (Res Ex)} {e1 : Ex} {r1 : List Tk} (h1 : Loc b n m g ts e1 r1) (h2 : Loc b' m q (k e1) r1 e r) : Loc b n q (fun l => thenF (g l) k) ts e r := by
 obtain ⟨a1, n1, d1, rfl, p1⟩ := h1
 obtain ⟨a2, n2, d2, rfl, p2⟩ := h2
 refine ⟨a1 ++ a2, fun h => by simp [n1 h], ?_, by simp, ?_⟩
 · refine ⟨by rw [← d2.1, ← d1.1]; simp [dep, List.foldl_append], fun t ht => ?_⟩
   rcases List.mem_append.1 ht with ht | ht
   · exact d1.2 t ht
   · exact d2.2 t ht
 · intro a' Z hs hK
   obtain ⟨x1, x2, rfl, s1, s2⟩ := sims_app hs
   simp only [List.append_assoc]
   rw [p1 x1 (x2 ++ Z) s1 (Kp_app s2 hK)]
   exact p2 x2 Z s2 hK
theorem Loc.cons {h : List Tk → Option (Res Ex)} (hl : Loc b m q h l e r) (hn : opn n t = m ∧ t.kind ≠ 5) (hg : ∀ u l', sim t u → g (u :: l') = h l') : Loc true n q g (t :: l) e r := by
 obtain ⟨a, _, d, rfl, p⟩ := hl
 refine ⟨t :: a, fun _ => by simp, ?_, rfl, ?_⟩
 · refine ⟨by rw [← d.1, ← hn.1]; rfl, fun u hu => ?_⟩
   rcases List.mem_cons.1 hu with rfl | hu
   · exact hn.2
   · exact d.2 u hu
 · intro a' Z hs hK
   cases a' with
   | nil => exact hs.elim
   | cons u x => exact (hg u (x ++ Z) hs.1).trans (p x Z hs.2 hK)
theorem Loc.done (hg : ∀ Z, Kp r Z → g Z = some (.ok e Z)) : Loc false n n g r e r := by
 refine ⟨[], (fun h => by cases h), ⟨rfl, fun t ht => by cases ht⟩, rfl, fun a' Z hs hK => ?_⟩
 cases a' with
 | nil => exact hg Z hK
 | cons u x => exact hs.elim
theorem Loc.peek (h : Loc true n m g (t :: l) e r) (hg : ∀ u l', sim t u → G (u :: l') = g (u :: l')) : Loc true n m G (t :: l) e r := by
 obtain ⟨a, k, d, h1, p⟩ := h
 cases a with
 | nil => exact absurd rfl (k rfl)
 | cons t' a =>
   simp only [List.cons_append, List.cons.injEq] at h1
   obtain ⟨rfl, rfl⟩ := h1
   refine ⟨t :: a, fun _ => by simp, d, rfl, ?_⟩
   intro a' Z hs hK
   cases a' with
   | nil => exact hs.elim
   | cons u x => exact (hg u (x ++ Z) hs.1).trans (p (u :: x) Z hs hK)
theorem Loc.nil (h : Loc true n m g [] e r) : False := by
 obtain ⟨a, k, _, h1, _⟩ := h
 simp at h1
 exact k rfl h1.1
theorem opn_op {s : Str} {t : Tk} (h : isOpT s t = true) (n : Nat) : opn n t = openF s n ∧ t.kind ≠ 5 := by
 simp only [isOpT, decide_eq_true_eq] at h
 exact ⟨by simp only [opn, if_pos h.1, h.2], by omega⟩
theorem Loc.expect {s : Str} {k : List Tk → Option (Res Ex)} (hs : isOpT s t = true) (hl : Loc b (openF s n) q k l e r) : Loc true n q (expectF s k) (t :: l) e r :=
 hl.cons (opn_op hs n) fun u l' hu => by simp only [expectF, isOp_sim hu, hs, if_pos]
end
def needs : Tag → Bool
 | .ops _ _ | .chain _ => false
 | _ => true
def effs : Tag → Nat → Nat
 | .args c, n | .items c _, n => openF c n
 | _, n => n
def okN : Tag → Prop
 | .op n | .ops n _ => 1 ≤ n
 | _ => True
theorem opn_ne {t : Tk} (h : t.kind ≠ 4 ∧ t.kind ≠ 5) (n : Nat) : opn n t = n ∧ t.kind ≠ 5 := ⟨by simp only [opn, if_neg h.1], h.2⟩
theorem str_open {s : Str} (h : 0 < strength s) (n : Nat) : openF s n = n := by
 unfold openF
 split
 · rename_i h1; rcases h1 with rfl | rfl <;> simp [strength] at h
 · split
   · rename_i h1; rcases h1 with rfl | rfl <;> simp [strength] at h
   · rfl
theorem pF_loc : ∀ (f : Nat) (tag : Tag) (ts : List Tk) (e : Ex) (r : List Tk), okN tag → pF f tag ts = some (.ok e r) → ∀ F n, f ≤ F → Loc (needs tag) n (effs tag n) (fun l => pF F tag l) ts e r := by
 intro f
 induction f with
 | zero => intro tag ts e r _ h; simp [pF] at h
 | succ f ih =>
   intro tag ts e r ho h F' n hF
   obtain ⟨F, rfl⟩ : ∃ F, F' = F + 1 := ⟨F' - 1, by omega⟩
   have IH : ∀ {tag : Tag} {ts : List Tk} {e : Ex} {r : List Tk} (n : Nat), pF f tag ts = some (.ok e r) → okN tag → Loc (needs tag) n (effs tag n) (fun l => pF F tag l) ts e r := fun n h ho => ih _ _ _ _ ho h F n (by omega)
   have fin : ∀ {x : Ex} {l : List Tk} {n : Nat}, Loc false n n (fun l => some (.ok x l)) l x l := fun {x l n} => Loc.done fun Z _ => rfl
   cases tag with
   | cond =>
     simp only [pF] at h ⊢
     obtain ⟨c, r1, h1, h⟩ := thenF_okEZ h
     refine (IH n h1 (by decide : 1 ≤ 2)).bind (b' := false) ?_
     cases r1 with
     | nil =>
       simp only [Option.some.injEq, Res.ok.injEq] at h
       obtain ⟨rfl, rfl⟩ := h
       refine Loc.done fun Z hK => ?_
       have := Kp_no (s := [63]) (.inl rfl) (fun t l h => by cases h) hK
       cases Z with
       | nil => rfl
       | cons u l => simp only [this u l rfl]; rfl
     | cons t r2 =>
       simp only at h
       split at h
       · rename_i ht
         obtain ⟨a, r3, h3, h⟩ := thenF_okEZ h
         obtain ⟨u, r4, rfl, hu, h⟩ := expectF_okEZ h
         obtain ⟨b, r5, h5, h⟩ := thenF_okEZ h
         simp only [Option.some.injEq, Res.ok.injEq] at h
         obtain ⟨rfl, rfl⟩ := h
         refine Loc.weak (Loc.cons (b := true) (h := fun r2 => thenF (pF F .cond r2) fun a r3 => expectF [58] (fun r4 => thenF (pF F .cond r4) fun b r5 => some (.ok (.mk 8 [] val0 [c, a, b] []) r5)) r3) ?_ (opn_op ht n) (fun u l' hu => ?_))
         · refine (IH _ h3 trivial).bind (b' := true) ?_
           refine Loc.expect (b := true) hu ?_
           exact (IH _ h5 trivial).bind fin
         · simp only [isOp_sim hu, ht, if_pos]
       · rename_i ht
         simp only [Option.some.injEq, Res.ok.injEq] at h
         obtain ⟨rfl, rfl⟩ := h
         refine Loc.done fun Z hK => ?_
         have := Kp_no (s := [63]) (.inl rfl) (fun t l h => by cases h; simpa using ht) hK
         cases Z with
         | nil => rfl
         | cons u l => simp only [this u l rfl]; rfl
   | op k =>
     simp only [okN] at ho
     simp only [pF] at h ⊢
     by_cases hn : k = 7
     · simp only [if_pos hn] at h ⊢
       exact IH n h trivial
     · simp only [if_neg hn] at h ⊢
       obtain ⟨c, r1, h1, h⟩ := thenF_okEZ h
       exact (IH n h1 (show 1 ≤ k + 1 by omega)).bind (IH n h ho)
   | ops k e0 =>
     simp only [okN] at ho
     simp only [pF] at h ⊢
     cases ts with
     | nil =>
       simp only [Option.some.injEq, Res.ok.injEq] at h; obtain ⟨rfl, rfl⟩ := h
       refine Loc.done fun Z hK => ?_
       have := Kp_str ho (fun t l h => by cases h) hK
       cases Z with
       | nil => rfl
       | cons u l => simp only [if_neg (this u l rfl)]
     | cons t l =>
       simp only at h
       split at h
       · rename_i ht
         obtain ⟨x, r2, h2, h⟩ := thenF_okEZ h
         refine Loc.weak (Loc.cons (b := true) (m := n) (h := fun r => thenF (pF F (.op (k + 1)) r) fun x r2 => if k = 4 then some (.ok (.mk 7 t.text val0 [e0, x] []) r2) else pF F (.ops k (.mk 7 t.text val0 [e0, x] [])) r2) ?_ ?_ (fun u l' hu => ?_))
         · refine (IH _ h2 (show 1 ≤ k + 1 by omega)).bind (b' := false) ?_
           by_cases hn : k = 4
           · simp only [if_pos hn, Option.some.injEq, Res.ok.injEq] at h ⊢
             obtain ⟨rfl, rfl⟩ := h
             exact fin
           · simp only [if_neg hn] at h ⊢
             exact IH _ h ho
         · exact ⟨by simp only [opn, if_pos ht.1]; exact str_open (by omega) n, by omega⟩
         · simp only [hu.1, hu.2, if_pos ht]
       · rename_i ht
         simp only [Option.some.injEq, Res.ok.injEq] at h
         obtain ⟨rfl, rfl⟩ := h
         refine Loc.done fun Z hK => ?_
         have := Kp_str ho (fun t l h => by cases h; exact ht) hK
         cases Z with
         | nil => rfl
         | cons u l => simp only [if_neg (this u l rfl)]
   | un =>
     simp only [pF] at h ⊢
     cases ts with
     | nil => exact (IH n h trivial).nil.elim
     | cons t l =>
       simp only at h
       split at h
       · rename_i ht
         obtain ⟨x, r2, h2, h⟩ := thenF_okEZ h
         simp only [Option.some.injEq, Res.ok.injEq] at h
         obtain ⟨rfl, rfl⟩ := h
         refine Loc.cons (b := true) (m := n) (h := fun r => thenF (pF F .un r) fun x r2 => some (.ok (.mk 6 t.text val0 [x] []) r2)) ((IH _ h2 trivial).bind fin) ?_ (fun u l' hu => ?_)
         · rcases Bool.or_eq_true_iff.1 ht with ht | ht <;> exact ⟨(opn_op ht n).1, (opn_op ht n).2⟩
         · simp only [isOp_sim hu, hu.2, ht, if_pos]
       · rename_i ht
         obtain ⟨x, r2, h2, h⟩ := thenF_okEZ h
         refine Loc.peek (g := fun ts => thenF (pF F .atom ts) fun e r2 => pF F (.chain e) r2) ((IH n h2 trivial).bind (IH n h trivial)) (fun u l' hu => ?_)
         simp only [isOp_sim hu, if_neg ht]
   | chain e0 =>
     simp only [pF] at h ⊢
     have no : ∀ r : List Tk, (∀ t l, r = t :: l → isOpT [46] t = false ∧ isOpT [91] t = false) → ∀ Z, Kp r Z → (∀ u l, Z = u :: l → isOpT [46] u = false ∧ isOpT [91] u = false) :=
       fun r h Z hK u l hz => ⟨Kp_no (.inr (.inl rfl)) (fun t l e => (h t l e).1) hK u l hz, Kp_no (.inr (.inr (.inl rfl))) (fun t l e => (h t l e).2) hK u l hz⟩
     cases ts with
     | nil =>
       simp only [Option.some.injEq, Res.ok.injEq] at h; obtain ⟨rfl, rfl⟩ := h
       refine Loc.done fun Z hK => ?_
       have := no [] (fun t l h => by cases h) Z hK
       cases Z with
       | nil => rfl
       | cons u l => simp only [this u l rfl]; rfl
     | cons t l =>
       simp only at h
       split at h
       · rename_i ht
         cases l with
         | nil => simp at h
         | cons u r2 =>
           simp only at h
           split at h
           · rename_i hu
             refine Loc.weak (Loc.cons (b := true) (h := fun l => match l with | [] => some (.err [] 4) | u :: r2 => if u.kind = 1 ∧ isPlain u.text = true then pF F (.chain (.mk 3 u.text val0 [e0] [])) r2 else some (.err (u :: r2) 5)) ?_ (opn_op ht n) (fun v l' hv => ?_))
             · have i := IH n h trivial
               refine Loc.cons i (opn_ne (show u.kind ≠ 4 ∧ u.kind ≠ 5 by omega) _) (fun v l' hv => ?_)
               simp only [hv.1, hv.2, if_pos hu]
             · simp only [isOp_sim hv, ht, if_pos]
               rfl
           · simp at h
       · rename_i ht
         split at h
         · rename_i ht2
           obtain ⟨x, r2, h2, h⟩ := thenF_okEZ h
           obtain ⟨u, r4, rfl, hu, h⟩ := expectF_okEZ h
           refine Loc.weak (Loc.cons (b := true) (h := fun r => thenF (pF F .cond r) fun i r2 => expectF [93] (fun r3 => pF F (.chain (.mk 4 [] val0 [e0, i] [])) r3) r2) ?_ (opn_op ht2 n) (fun v l' hv => ?_))
           · refine (IH _ h2 trivial).bind (b' := true) ?_
             refine Loc.expect (b := false) hu ?_
             exact IH n h trivial
           · simp only [isOp_sim hv, if_neg ht, ht2, if_pos]
         · rename_i ht2
           simp only [Option.some.injEq, Res.ok.injEq] at h; obtain ⟨rfl, rfl⟩ := h
           refine Loc.done fun Z hK => ?_
           have := no (t :: l) (fun t l h => by cases h; exact ⟨by simpa using ht, by simpa using ht2⟩) Z hK
           cases Z with
           | nil => rfl
           | cons u l => simp only [this u l rfl]; rfl
   | atom =>
     simp only [pF] at h ⊢
     cases ts with
     | nil => simp at h
     | cons t l =>
       have one : ∀ {x : Ex} {G : List Tk → Option (Res Ex)}, t.kind ≠ 4 ∧ t.kind ≠ 5 → (∀ u l', sim t u → G (u :: l') = some (.ok x l')) → Loc true n n G (t :: l) x l :=
         fun {x G} hk hG => Loc.cons (h := fun l => some (.ok x l)) fin (opn_ne hk n) hG
       simp only at h
       split at h
       · rename_i hk
         split at h
         · rename_i hd
           simp only [Option.some.injEq, Res.ok.injEq] at h; obtain ⟨rfl, rfl⟩ := h
           exact one (by omega) fun u l' hu => by simp only [hu.1, hu.2, if_pos hk, if_pos hd]
         · simp at h
       · rename_i hk
         split at h
         · rename_i hk3
           split at h
           · rename_i hd
             simp only [Option.some.injEq, Res.ok.injEq] at h; obtain ⟨rfl, rfl⟩ := h
             exact one (by omega) fun u l' hu => by simp only [hu.1, hu.2, if_neg hk, if_pos hk3, if_pos hd]
           · simp at h
         · rename_i hk3
           split at h
           · rename_i hk1
             split at h
             · rename_i hd
               simp only [Option.some.injEq, Res.ok.injEq] at h; obtain ⟨rfl, rfl⟩ := h
               exact one (by omega) fun u l' hu => by simp only [hu.1, hu.2, if_neg hk, if_neg hk3, if_pos hk1, if_pos hd]
             · rename_i hd
               split at h
               · rename_i hd2
                 simp only [Option.some.injEq, Res.ok.injEq] at h; obtain ⟨rfl, rfl⟩ := h
                 exact one (by omega) fun u l' hu => by simp only [hu.1, hu.2, if_neg hk, if_neg hk3, if_pos hk1, if_neg hd, if_pos hd2]
               · rename_i hd2
                 split at h
                 · rename_i hd3
                   refine Loc.cons (b := false) (h := fun r => match r with | [] => some (.ok (.mk 2 t.text val0 [] []) r) | u :: r2 => if isOpT [40] u then thenF (pF F (.args [41]) r2) fun l r3 => some (.ok (.mk 5 t.text val0 l.args []) r3) else some (.ok (.mk 2 t.text val0 [] []) r)) ?_ (opn_ne (show t.kind ≠ 4 ∧ t.kind ≠ 5 by omega) n) (fun v l' hv => ?_)
                   · cases l with
                     | nil =>
                       simp only [Option.some.injEq, Res.ok.injEq] at h; obtain ⟨rfl, rfl⟩ := h
                       refine Loc.done fun Z hK => ?_
                       have := Kp_no (s := [40]) (.inr (.inr (.inr rfl))) (fun t l h => by cases h) hK
                       cases Z with
                       | nil => rfl
                       | cons u l => simp only [this u l rfl]; rfl
                     | cons u r2 =>
                       simp only at h
                       split at h
                       · rename_i hu
                         obtain ⟨x, r3, h3, h⟩ := thenF_okEZ h
                         simp only [Option.some.injEq, Res.ok.injEq] at h; obtain ⟨rfl, rfl⟩ := h
                         refine Loc.weak (Loc.cons (b := true) (h := fun r2 => thenF (pF F (.args [41]) r2) fun l r3 => some (.ok (.mk 5 t.text val0 l.args []) r3)) ((IH _ h3 trivial).bind fin) (opn_op hu n) (fun v l' hv => ?_))
                         simp only [isOp_sim hv, hu, if_pos]
                       · rename_i hu
                         simp only [Option.some.injEq, Res.ok.injEq] at h; obtain ⟨rfl, rfl⟩ := h
                         refine Loc.done fun Z hK => ?_
                         have := Kp_no (s := [40]) (.inr (.inr (.inr rfl))) (fun t l h => by cases h; simpa using hu) hK
                         cases Z with
                         | nil => rfl
                         | cons u l => simp only [this u l rfl]; rfl
                   · simp only [hv.1, hv.2, if_neg hk, if_neg hk3, if_pos hk1, if_neg hd, if_neg hd2, if_pos hd3]
                     rfl
                 · simp at h
           · rename_i hk1
             split at h
             · rename_i hp
               obtain ⟨x, r2, h2, h⟩ := thenF_okEZ h
               obtain ⟨u, r4, rfl, hu, h⟩ := expectF_okEZ h
               simp only [Option.some.injEq, Res.ok.injEq] at h; obtain ⟨rfl, rfl⟩ := h
               refine Loc.cons (b := true) (h := fun r => thenF (pF F .cond r) fun e r2 => expectF [41] (fun r3 => some (.ok e r3)) r2) ?_ (opn_op hp n) (fun v l' hv => ?_)
               · refine (IH _ h2 trivial).bind (b' := true) ?_
                 exact Loc.expect hu fin
               · simp only [hv.1, if_neg hk, if_neg hk3, if_neg hk1, isOp_sim hv, hp, if_pos]
             · rename_i hp
               split at h
               · rename_i hb
                 obtain ⟨x, r3, h3, h⟩ := thenF_okEZ h
                 simp only [Option.some.injEq, Res.ok.injEq] at h; obtain ⟨rfl, rfl⟩ := h
                 refine Loc.cons (b := true) (h := fun r => thenF (pF F (.args [93]) r) fun l r3 => some (.ok (.mk 9 [] val0 l.args []) r3)) ((IH _ h3 trivial).bind fin) (opn_op hb n) (fun v l' hv => ?_)
                 simp only [hv.1, if_neg hk, if_neg hk3, if_neg hk1, isOp_sim hv, if_neg hp, hb, if_pos]
               · rename_i hb
                 split at h
                 · rename_i hc
                   have i := IH n h trivial
                   refine Loc.cons i (opn_op hc n) (fun v l' hv => ?_)
                   simp only [hv.1, if_neg hk, if_neg hk3, if_neg hk1, isOp_sim hv, if_neg hp, if_neg hb, hc, if_pos]
                 · simp at h
   | args close =>
     simp only [pF] at h ⊢
     cases ts with
     | nil => exact (IH n h trivial).nil.elim
     | cons t l =>
       simp only at h
       split at h
       · rename_i ht
         simp only [Option.some.injEq, Res.ok.injEq] at h; obtain ⟨rfl, rfl⟩ := h
         refine Loc.cons (h := fun l => some (.ok (.mk 0 [] val0 [] []) l)) fin (opn_op ht n) (fun u l' hu => ?_)
         simp only [isOp_sim hu, ht, if_pos]
       · rename_i ht
         refine (IH n h trivial).peek (fun u l' hu => ?_)
         simp only [isOp_sim hu, if_neg ht]
   | items close acc =>
     simp only [pF] at h ⊢
     obtain ⟨x, r1, h1, h⟩ := thenF_okEZ h
     refine (IH n h1 trivial).bind (b' := true) ?_
     cases r1 with
     | nil => simp at h
     | cons t r2 =>
       simp only at h
       split at h
       · rename_i ht
         simp only [Option.some.injEq, Res.ok.injEq] at h; obtain ⟨rfl, rfl⟩ := h
         refine Loc.cons (h := fun l => some (.ok (.mk 0 [] val0 (acc ++ [x]) []) l)) fin (opn_op ht _) (fun u l' hu => ?_)
         simp only [isOp_sim hu, ht, if_pos]
       · rename_i ht
         split at h
         · rename_i hc
           have i := IH n h trivial
           refine Loc.cons i (opn_op hc _) (fun u l' hu => ?_)
           simp only [isOp_sim hu, if_neg ht, hc, if_pos]
         · simp at h
   | ents =>
     simp only [pF] at h ⊢
     cases ts with
     | nil => exact (IH n h trivial).nil.elim
     | cons t l =>
       simp only at h
       split at h
       · rename_i ht
         simp only [Option.some.injEq, Res.ok.injEq] at h; obtain ⟨rfl, rfl⟩ := h
         refine Loc.cons (h := fun l => some (.ok (.mk 10 [] val0 [] []) l)) fin (opn_op ht n) (fun u l' hu => ?_)
         simp only [isOp_sim hu, ht, if_pos]
       · rename_i ht
         refine (IH n h trivial).peek (fun u l' hu => ?_)
         simp only [isOp_sim hu, if_neg ht]
   | ent acc ks =>
     simp only [pF] at h ⊢
     cases ts with
     | nil => simp at h
     | cons t l =>
       simp only at h
       split at h
       · rename_i ht
         obtain ⟨v, r2, rfl, hv, h⟩ := expectF_okEZ h
         obtain ⟨x, r3, h3, h⟩ := thenF_okEZ h
         have hk4 : t.kind ≠ 4 ∧ t.kind ≠ 5 := by
           constructor <;> (intro h4; simp [isKeyT, h4] at ht)
         refine Loc.cons (b := true) (h := fun r => expectF [58] (fun r2 => thenF (pF F .cond r2) fun x r3 => match r3 with
             | [] => some (.err [] 4)
             | u :: r4 => if isOpT [125] u then some (.ok (.mk 10 [] val0 (acc ++ [x]) (ks ++ [t.text])) r4) else if isOpT [44] u then pF F (.ent (acc ++ [x]) (ks ++ [t.text])) r4 else some (.err r3 5)) r) ?_ (opn_ne hk4 n) (fun u l' hu => ?_)
         · refine Loc.expect (b := true) hv ?_
           refine (IH _ h3 trivial).bind (b' := true) ?_
           cases r3 with
           | nil => simp at h
           | cons w r4 =>
             simp only at h
             split at h
             · rename_i hw
               simp only [Option.some.injEq, Res.ok.injEq] at h; obtain ⟨rfl, rfl⟩ := h
               refine Loc.cons (h := fun l => some (.ok (.mk 10 [] val0 (acc ++ [x]) (ks ++ [t.text])) l)) fin (opn_op hw _) (fun u l' hu => ?_)
               simp only [isOp_sim hu, hw, if_pos]
             · rename_i hw
               split at h
               · rename_i hc
                 have i := IH n h trivial
                 refine Loc.cons i (opn_op hc _) (fun u l' hu => ?_)
                 simp only [isOp_sim hu, if_neg hw, hc, if_pos]
               · simp at h
         · have : isKeyT u = true := by simpa only [isKeyT, hu.1, hu.2] using ht
           simp only [this, if_pos, hu.2]
           rfl
       · simp at h
end Go.Proofs.YtofbdmdigopaoaaGreatDoor
