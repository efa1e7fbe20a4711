/- A step of the proofs of the seat's theorems. -/
import Derived.Test.YtofbdmdigopaoaaGreatDoorQ1
set_option linter.unusedSimpArgs false
set_option linter.unusedVariables false
namespace Go.Proofs.YtofbdmdigopaoaaGreatDoor
def wT : Tag → Nat
 | .cond => 12 | .op n => 13 - n | .ops _ _ => 1 | .un => 5 | .chain _ => 1 | .atom => 2 | .args _ => 15 | .items _ _ => 14 | .ents => 3 | .ent _ _ => 2
def okT : Tag → Prop
 | .op n => n ≤ 7
 | .ops n _ => n ≤ 6
 | _ => True
theorem thenF_total {x : Option (Res Ex)} {k : Ex → List Tk → Option (Res Ex)} (hx : x ≠ none) (hk : ∀ e r1, x = some (.ok e r1) → k e r1 ≠ none) : thenF x k ≠ none := by
 rcases x with _ | (⟨c, r1⟩ | ⟨r1, ec⟩)
 · exact absurd rfl hx
 · exact hk c r1 rfl
 · simp [thenF]
theorem expectF_total {s : Str} {k : List Tk → Option (Res Ex)} {l : List Tk} (hk : ∀ t r, l = t :: r → k r ≠ none) : expectF s k l ≠ none := by
 cases l with
 | nil => simp [expectF]
 | cons t r =>
   simp only [expectF]
   split
   · exact hk t r rfl
   · simp
theorem pF_total : ∀ (f : Nat) (tag : Tag) (ts : List Tk), okT tag → 16 * ts.length + wT tag < f → pF f tag ts ≠ none := by
 intro f
 induction f with
 | zero => intro tag ts _ h; omega
 | succ f ih =>
   intro tag ts ho hf
   have sl : ∀ {tag : Tag} {l : List Tk} {e : Ex} {r : List Tk}, pF f tag l = some (.ok e r) → r.length ≤ l.length := fun h => (pF_suf _ _ _ _ h).length_le
   cases tag with
   | cond =>
     simp only [wT] at hf
     simp only [pF]
     refine thenF_total (ih _ _ (by simp [okT]) (by simp only [wT]; omega)) fun e r1 h1 => ?_
     have l1 := sl h1
     cases r1 with
     | nil => simp
     | cons t r2 =>
       simp only [List.length_cons] at l1
       simp only
       split
       · refine thenF_total (ih _ _ trivial (by simp only [wT]; omega)) fun a r3 h3 => ?_
         have l3 := sl h3
         refine expectF_total fun t r he => ?_
         subst he
         simp only [List.length_cons] at l3
         refine thenF_total (ih _ _ trivial (by simp only [wT]; omega)) fun b r5 h5 => ?_
         simp
       · simp
   | op n =>
     simp only [okT] at ho
     simp only [wT] at hf
     simp only [pF]
     split
     · exact ih _ _ trivial (by simp only [wT]; omega)
     · refine thenF_total (ih _ _ (by simp only [okT]; omega) (by simp only [wT]; omega)) fun e r1 h1 => ?_
       have l1 := sl h1
       exact ih _ _ (by simp only [okT]; omega) (by simp only [wT]; omega)
   | ops n e =>
     simp only [okT] at ho
     simp only [wT] at hf
     cases ts with
     | nil => simp [pF]
     | cons t r =>
       simp only [List.length_cons] at hf
       simp only [pF]
       split
       · refine thenF_total (ih _ _ (by simp only [okT]; omega) (by simp only [wT]; omega)) fun x r2 h2 => ?_
         have l2 := sl h2
         split
         · simp
         · exact ih _ _ (by simp only [okT]; omega) (by simp only [wT]; omega)
       · simp
   | un =>
     simp only [wT] at hf
     cases ts with
     | nil => simp only [pF]; exact ih _ _ trivial (by simp only [wT]; omega)
     | cons t r =>
       simp only [pF]
       simp only [List.length_cons] at hf
       split
       · refine thenF_total (ih _ _ trivial (by simp only [wT]; omega)) fun x r2 h2 => by simp
       · refine thenF_total (ih _ _ trivial (by simp only [wT, List.length_cons]; omega)) fun x r2 h2 => ?_
         have l2 := sl h2
         simp only [List.length_cons] at l2
         exact ih _ _ trivial (by simp only [wT]; omega)
   | chain e =>
     simp only [wT] at hf
     cases ts with
     | nil => simp [pF]
     | cons t r =>
       simp only [List.length_cons] at hf
       simp only [pF]
       split
       · cases r with
         | nil => simp
         | cons u r2 =>
           simp only [List.length_cons] at hf
           simp only
           split
           · exact ih _ _ trivial (by simp only [wT]; omega)
           · simp
       · split
         · refine thenF_total (ih _ _ trivial (by simp only [wT]; omega)) fun x r2 h2 => ?_
           have l2 := sl h2
           refine expectF_total fun t r3 he => ?_
           subst he
           simp only [List.length_cons] at l2
           exact ih _ _ trivial (by simp only [wT]; omega)
         · simp
   | atom =>
     simp only [wT] at hf
     cases ts with
     | nil => simp [pF]
     | cons t r =>
       simp only [List.length_cons] at hf
       have a1 : pF f .cond r ≠ none := ih _ _ trivial (by simp only [wT]; omega)
       have a2 : ∀ s, pF f (.args s) r ≠ none := fun s => ih _ _ trivial (by simp only [wT]; omega)
       have a3 : pF f .ents r ≠ none := ih _ _ trivial (by simp only [wT]; omega)
       simp only [pF]
       split
       · split <;> simp
       · split
         · split <;> simp
         · split
           · split
             · simp
             · split
               · simp
               · split
                 · cases r with
                   | nil => simp
                   | cons u r2 =>
                     simp only [List.length_cons] at hf
                     simp only
                     split
                     · exact thenF_total (ih _ _ trivial (by simp only [wT]; omega)) fun x r2 h2 => by simp
                     · simp
                 · simp
           · split
             · refine thenF_total a1 fun x r2 h2 => expectF_total fun t r3 he => by simp
             · split
               · exact thenF_total (a2 _) fun x r2 h2 => by simp
               · split
                 · exact a3
                 · simp
   | args s =>
     simp only [wT] at hf
     cases ts with
     | nil => simp only [pF]; exact ih _ _ trivial (by simp only [wT]; omega)
     | cons t r =>
       simp only [pF]
       split
       · simp
       · exact ih _ _ trivial (by simp only [wT]; omega)
   | items s acc =>
     simp only [wT] at hf
     simp only [pF]
     refine thenF_total (ih _ _ trivial (by simp only [wT]; omega)) fun x r h1 => ?_
     have l1 := sl h1
     cases r with
     | nil => simp
     | cons t r2 =>
       simp only [List.length_cons] at l1
       simp only
       split
       · simp
       · split
         · exact ih _ _ trivial (by simp only [wT]; omega)
         · simp
   | ents =>
     simp only [wT] at hf
     cases ts with
     | nil => simp only [pF]; exact ih _ _ trivial (by simp only [wT]; omega)
     | cons t r =>
       simp only [pF]
       split
       · simp
       · exact ih _ _ trivial (by simp only [wT]; omega)
   | ent acc ks =>
     simp only [wT] at hf
     cases ts with
     | nil => simp [pF]
     | cons t r =>
       simp only [List.length_cons] at hf
       simp only [pF]
       split
       · refine expectF_total fun u r2 he => ?_
         subst he
         simp only [List.length_cons] at hf
         refine thenF_total (ih _ _ trivial (by simp only [wT]; omega)) fun x r3 h3 => ?_
         have l3 := sl h3
         cases r3 with
         | nil => simp
         | cons v r4 =>
           simp only [List.length_cons] at l3
           simp only
           split
           · simp
           · split
             · exact ih _ _ trivial (by simp only [wT]; omega)
             · simp
       · simp
theorem takeF_some (ts : List Tk) : ∃ r, pF (pFuel ts) .cond ts = some r := by
 have h := pF_total (pFuel ts) .cond ts trivial (by simp only [wT, pFuel]; omega)
 cases h' : pF (pFuel ts) .cond ts with
 | none => exact absurd h' h
 | some r => exact ⟨r, rfl⟩
end Go.Proofs.YtofbdmdigopaoaaGreatDoor
