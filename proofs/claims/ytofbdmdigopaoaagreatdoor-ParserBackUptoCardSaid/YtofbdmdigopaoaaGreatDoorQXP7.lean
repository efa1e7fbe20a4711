/- A step of the proofs of the seat's theorems. -/
import Derived.Test.YtofbdmdigopaoaaGreatDoorQ1
import Derived.Test.YtofbdmdigopaoaaGreatDoorQXP5
set_option linter.unusedSimpArgs false
set_option linter.unusedVariables false
namespace Go.Proofs.YtofbdmdigopaoaaGreatDoor
def smpT : Tag → Prop
 | .ops _ e | .chain e => simpleF e = true
 | .items _ acc | .ent acc _ => ∀ x ∈ acc, simpleF x = true
 | _ => True
def smpR : Tag → Ex → Prop
 | .args _, e | .items _ _, e => ∀ x ∈ e.args, simpleF x = true
 | _, e => simpleF e = true
theorem smp_mk {k : Int} {n : Str} {v : Val} {ar : List Ex} {ks : List Str} (h1 : k = 1 → v.kind ≤ 3 ∧ 0 ≤ v.int) (h2 : ∀ x ∈ ar, simpleF x = true) : simpleF (.mk k n v ar ks) = true := by
 rw [simpleF_eq]
 simp only [Ex.kind, Ex.value, Ex.args, simpleL_all, Bool.and_eq_true, Bool.not_eq_true', List.all_eq_true]
 refine ⟨?_, h2⟩
 by_cases hk : k = 1
 · obtain ⟨a, b⟩ := h1 hk
   have c1 : ¬ 3 < v.kind := by omega
   have c2 : ¬ v.int < 0 := by omega
   simp [c1, c2]
 · simp [hk]
theorem pF_smp : ∀ (f : Nat) (tag : Tag) (ts : List Tk) (e : Ex) (r : List Tk), smpT tag → pF f tag ts = some (.ok e r) → smpR tag e := by
 intro f
 induction f with
 | zero => intro tag ts e r _ h; simp [pF] at h
 | succ f ih =>
   intro tag ts e r hs h
   have IH : ∀ {tag : Tag} {ts : List Tk} {e : Ex} {r : List Tk}, pF f tag ts = some (.ok e r) → smpT tag → smpR tag e := fun h hs => ih _ _ _ _ hs h
   have fin : ∀ {x : Ex} {l r : List Tk}, some (Res.ok x l) = some (Res.ok e r) → x = e := fun h => by cases h; rfl
   have two : ∀ {a b : Ex}, simpleF a = true → simpleF b = true → ∀ x ∈ [a, b], simpleF x = true := by
     intro a b h1 h2 x hx
     simp only [List.mem_cons, List.not_mem_nil, or_false] at hx
     rcases hx with rfl | rfl <;> assumption
   have one : ∀ {a : Ex}, simpleF a = true → ∀ x ∈ [a], simpleF x = true := by
     intro a h1 x hx
     simp only [List.mem_cons, List.not_mem_nil, or_false] at hx
     rw [hx]; exact h1
   have add : ∀ {acc : List Ex} {a : Ex}, (∀ x ∈ acc, simpleF x = true) → simpleF a = true → ∀ x ∈ acc ++ [a], simpleF x = true := by
     intro acc a h1 h2 x hx
     rcases List.mem_append.1 hx with hx | hx
     · exact h1 x hx
     · exact one h2 x hx
   have nil : ∀ x ∈ ([] : List Ex), simpleF x = true := fun x hx => by cases hx
   cases tag with
   | cond =>
     simp only [pF] at h
     obtain ⟨c, r1, h1, h⟩ := thenF_okEZ h
     have i1 : simpleF c = true := IH h1 trivial
     cases r1 with
     | nil => cases fin h; exact i1
     | cons t r2 =>
       simp only at h
       split at h
       · obtain ⟨a, r3, h3, h⟩ := thenF_okEZ h
         obtain ⟨u, r4, rfl, hu, h⟩ := expectF_okEZ h
         obtain ⟨b, r5, h5, h⟩ := thenF_okEZ h
         cases fin h
         refine smp_mk (by decide) fun x hx => ?_
         simp only [List.mem_cons, List.not_mem_nil, or_false] at hx
         rcases hx with rfl | rfl | rfl
         · exact i1
         · exact IH h3 trivial
         · exact IH h5 trivial
       · cases fin h; exact i1
   | op n =>
     simp only [pF] at h
     split at h
     · exact IH (tag := .un) h trivial
     · obtain ⟨c, r1, h1, h⟩ := thenF_okEZ h
       exact IH (tag := .ops n c) h (IH (tag := .op (n + 1)) h1 trivial)
   | ops n e0 =>
     simp only [pF] at h
     cases ts with
     | nil => cases fin h; exact hs
     | cons t l =>
       simp only at h
       split at h
       · obtain ⟨x, r2, h2, h⟩ := thenF_okEZ h
         have i := smp_mk (k := 7) (n := t.text) (v := val0) (ks := []) (by decide) (two hs (IH (tag := .op (n + 1)) h2 trivial))
         split at h
         · cases fin h; exact i
         · have q := IH h (show smpT _ from i); exact q
       · cases fin h; exact hs
   | un =>
     simp only [pF] at h
     cases ts with
     | nil => exact IH (tag := .atom) h trivial
     | cons t l =>
       simp only at h
       split at h
       · obtain ⟨x, r2, h2, h⟩ := thenF_okEZ h
         cases fin h
         exact smp_mk (by decide) (one (IH (tag := .un) h2 trivial))
       · obtain ⟨x, r2, h2, h⟩ := thenF_okEZ h
         exact IH (tag := .chain x) h (IH (tag := .atom) h2 trivial)
   | chain e0 =>
     simp only [pF] at h
     cases ts with
     | nil => cases fin h; exact hs
     | cons t l =>
       simp only at h
       split at h
       · cases l with
         | nil => simp at h
         | cons u r2 =>
           simp only at h
           split at h
           · have q := IH h (smp_mk (by decide) (one hs) : simpleF _ = true); exact q
           · simp at h
       · split at h
         · obtain ⟨x, r2, h2, h⟩ := thenF_okEZ h
           obtain ⟨u, r4, rfl, hu, h⟩ := expectF_okEZ h
           have q := IH h (smp_mk (by decide) (two hs (IH (tag := .cond) h2 trivial)) : simpleF _ = true); exact q
         · cases fin h; exact hs
   | atom =>
     simp only [pF] at h
     cases ts with
     | nil => simp at h
     | cons t l =>
       simp only at h
       split at h
       · split at h
         · cases fin h; exact smp_mk (fun _ => ⟨by simp [Val.kind], by simp only [Val.int]; omega⟩) nil
         · simp at h
       · split at h
         · split at h
           · cases fin h; exact smp_mk (fun _ => ⟨by simp [Val.kind], by simp [Val.int]⟩) nil
           · simp at h
         · split at h
           · split at h
             · cases fin h; exact smp_mk (fun _ => ⟨by decide, by decide⟩) nil
             · split at h
               · cases fin h; exact smp_mk (fun _ => ⟨by simp [Val.kind], by simp [Val.int]⟩) nil
               · split at h
                 · cases l with
                   | nil => cases fin h; exact smp_mk (by decide) nil
                   | cons u r2 =>
                     simp only at h
                     split at h
                     · obtain ⟨x, r3, h3, h⟩ := thenF_okEZ h
                       cases fin h
                       exact smp_mk (by decide) (IH (tag := .args [41]) h3 trivial)
                     · cases fin h; exact smp_mk (by decide) nil
                 · simp at h
           · split at h
             · obtain ⟨x, r2, h2, h⟩ := thenF_okEZ h
               obtain ⟨u, r4, rfl, hu, h⟩ := expectF_okEZ h
               cases fin h
               exact IH (tag := .cond) h2 trivial
             · split at h
               · obtain ⟨x, r3, h3, h⟩ := thenF_okEZ h
                 cases fin h
                 exact smp_mk (by decide) (IH (tag := .args [93]) h3 trivial)
               · split at h
                 · exact IH (tag := .ents) h trivial
                 · simp at h
   | args close =>
     simp only [pF] at h
     cases ts with
     | nil => exact IH (tag := .items close []) h nil
     | cons t l =>
       simp only at h
       split at h
       · cases fin h; exact nil
       · exact IH (tag := .items close []) h nil
   | items close acc =>
     simp only [pF] at h
     obtain ⟨x, r1, h1, h⟩ := thenF_okEZ h
     have i1 : simpleF x = true := IH (tag := .cond) h1 trivial
     cases r1 with
     | nil => simp at h
     | cons t r2 =>
       simp only at h
       split at h
       · cases fin h; exact add hs i1
       · split at h
         · have q := IH h (show smpT _ from (add hs i1)); exact q
         · simp at h
   | ents =>
     simp only [pF] at h
     cases ts with
     | nil => exact IH (tag := .ent [] []) h nil
     | cons t l =>
       simp only at h
       split at h
       · cases fin h; exact smp_mk (by decide) nil
       · exact IH (tag := .ent [] []) h nil
   | ent acc ks =>
     simp only [pF] at h
     cases ts with
     | nil => simp at h
     | cons t l =>
       simp only at h
       split at h
       · obtain ⟨v, r2, rfl, hv, h⟩ := expectF_okEZ h
         obtain ⟨x, r3, h3, h⟩ := thenF_okEZ h
         have i3 : simpleF x = true := IH (tag := .cond) h3 trivial
         cases r3 with
         | nil => simp at h
         | cons w r4 =>
           simp only at h
           split at h
           · cases fin h; exact smp_mk (by decide) (add hs i3)
           · split at h
             · have q := IH h (show smpT _ from (add hs i3)); exact q
             · simp at h
       · simp at h
end Go.Proofs.YtofbdmdigopaoaaGreatDoor
