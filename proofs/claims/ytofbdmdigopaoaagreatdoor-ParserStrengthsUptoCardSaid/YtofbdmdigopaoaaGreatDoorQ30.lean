/- A step of the proofs of the seat's theorems. -/
import Derived.Test.YtofbdmdigopaoaaGreatDoorQ1
import Derived.Test.YtofbdmdigopaoaaGreatDoorQ17
import Derived.Test.YtofbdmdigopaoaaGreatDoorQ21
import Derived.Test.YtofbdmdigopaoaaGreatDoorQ23
import Derived.Test.YtofbdmdigopaoaaGreatDoorQ29
set_option linter.unusedSimpArgs false
set_option linter.unusedVariables false
section
set_option maxRecDepth 20000
namespace Go.Proofs.YtofbdmdigopaoaaGreatDoor
theorem thenF_okE {x : Option (Res Ex)} {k : Ex → List Tk → Option (Res Ex)} {e : Ex} {rest : List Tk} (h : thenF x k = some (.ok e rest)) : ∃ e1 r1, x = some (.ok e1 r1) ∧ k e1 r1 = some (.ok e rest) := by
 cases x with
 | none => simp [thenF] at h
 | some r1 =>
   cases r1 with
   | ok e1 r1 => exact ⟨e1, r1, rfl, h⟩
   | err r c => simp [thenF] at h
theorem expectF_okE {s : Str} {k : List Tk → Option (Res Ex)} {l : List Tk} {e : Ex} {rest : List Tk} (h : expectF s k l = some (.ok e rest)) : ∃ t l2, l = t :: l2 ∧ isOpT s t = true ∧ k l2 = some (.ok e rest) := by
 cases l with
 | nil => simp [expectF] at h
 | cons t l2 =>
   simp only [expectF] at h
   split at h
   · exact ⟨t, l2, rfl, by assumption, h⟩
   · simp at h
def Wt : List Tk → Nat
 | [] => 0
 | t :: r => 200 + 8 * t.text.length + Wt r
def gE (e : Ex) : Prop := eFit e ∧ eInt e
theorem gE_mk {k : Int} {n : Str} {v : Val} {ar : List Ex} {ks : List Str} (h1 : n.length ≤ 1048576) (h2 : vFit v) (h3 : vInt v) (h4 : ar.length ≤ 1048576) (h5 : ks.length ≤ 1048576) (h6 : ∀ k ∈ ks, k.length ≤ 1048576) (h7 : ∀ x ∈ ar, gE x) : gE (.mk k n v ar ks) :=
 ⟨(eFit_iff _).2 ⟨h1, h2, h4, h5, h6, fun x hx => (h7 x hx).1⟩, (eInt_iff _).2 ⟨h3, fun x hx => (h7 x hx).2⟩⟩
theorem fit0 : vFit val0 := (vFit_iff _).2 ⟨by simp [val0, Val.str], by simp [val0, Val.list], by simp [val0, Val.keys], by simp [val0, Val.keys], by simp [val0, Val.list]⟩
theorem int0 : vInt val0 := (vInt_iff _).2 ⟨by simp [val0, Val.int], by simp [val0, Val.list]⟩
theorem vFitA (k : Int) (b : Bool) (i : Int) (s : Str) (h : s.length ≤ 1048576) : vFit (.mk k b i s [] []) := (vFit_iff _).2 ⟨h, by simp [Val.list], by simp [Val.keys], by simp [Val.keys], by simp [Val.list]⟩
theorem vIntA (k : Int) (b : Bool) (i : Int) (s : Str) (h1 : -9223372036854775808 ≤ i) (h2 : i ≤ 9223372036854775807) : vInt (.mk k b i s [] []) := (vInt_iff _).2 ⟨⟨h1, h2⟩, by simp [Val.list]⟩
theorem bulkL_app (a b : List Ex) : eBulk.eBulkL (a ++ b) = eBulk.eBulkL a + eBulk.eBulkL b := by induction a <;> simp_all [eBulk.eBulkL]; omega
theorem kBulk_app (a b : List Str) : vBulk.kBulk (a ++ b) = vBulk.kBulk a + vBulk.kBulk b := by induction a <;> simp_all [vBulk.kBulk]; omega
def okTs (ts : List Tk) : Prop := ts.length ≤ 1048576 ∧ ∀ t ∈ ts, t.text.length ≤ 1048576
theorem okTs.tl {t : Tk} {r : List Tk} (h : okTs (t :: r)) : okTs r := ⟨by have := h.1; simp at this; omega, fun u hu => h.2 u (by simp [hu])⟩
theorem okTs.hd {t : Tk} {r : List Tk} (h : okTs (t :: r)) : t.text.length ≤ 1048576 := h.2 t (by simp)
theorem okTs.suf {r ts : List Tk} (h : okTs ts) (hs : r <:+ ts) : okTs r := ⟨Nat.le_trans hs.length_le h.1, fun t ht => h.2 t (hs.subset ht)⟩
def tagP : Tag → List Tk → Prop
 | .ops _ e, ts | .chain e, ts => gE e ∧ okTs ts
 | .items _ acc, ts => (∀ x ∈ acc, gE x) ∧ acc.length + ts.length ≤ 1048576 ∧ okTs ts
 | .ent acc ks, ts => (∀ x ∈ acc, gE x) ∧ (∀ k ∈ ks, k.length ≤ 1048576) ∧ acc.length + ts.length ≤ 1048576 ∧ ks.length = acc.length ∧ okTs ts
 | _, ts => okTs ts
def tagM : Tag → Nat
 | .ops _ e | .chain e => eBulk e
 | .items _ acc => eBulk.eBulkL acc
 | .ent acc ks => eBulk.eBulkL acc + vBulk.kBulk ks
 | _ => 0
def resP : Tag → Ex → List Tk → List Tk → Prop
 | .args _, e, ts, rest => (∀ x ∈ e.args, gE x) ∧ e.args.length ≤ 1048576
 | .items _ _, e, ts, rest => (∀ x ∈ e.args, gE x) ∧ e.args.length ≤ 1048576
 | _, e, _, _ => gE e
def resM : Tag → Ex → Nat
 | .args _, e | .items _ _, e => eBulk.eBulkL e.args
 | .ent _ _, e => eBulk e + 104
 | _, e => eBulk e
theorem eBulk_mk (k : Int) (n : Str) (v : Val) (ar : List Ex) (ks : List Str) : eBulk (.mk k n v ar ks) = 64 + n.length + vBulk v + vBulk.kBulk ks + eBulk.eBulkL ar := eBulk_eq _
theorem vBulk0 : vBulk val0 = 32 := rfl
theorem vBulkA (k : Int) (b : Bool) (i : Int) (s : Str) : vBulk (.mk k b i s [] []) = 32 + 4 * s.length := by rw [vBulk_eq]; simp [Val.str, Val.keys, Val.list, vBulk.kBulk, vBulk.vBulkL]
theorem pF_good : ∀ (f : Nat) (tag : Tag) (ts : List Tk) (e : Ex) (rest : List Tk), pF f tag ts = some (.ok e rest) → tagP tag ts → resP tag e ts rest ∧ resM tag e + Wt rest ≤ tagM tag + Wt ts := by
 intro f
 induction f with
 | zero => intro tag ts e rest h; simp [pF] at h
 | succ f ih =>
   intro tag ts e rest h hp
   have sufs : ∀ {tag : Tag} {l : List Tk} {e : Ex} {r : List Tk}, pF f tag l = some (.ok e r) → r <:+ l := fun h => pF_suf _ _ _ _ h
   cases tag with
   | cond =>
     simp only [pF] at h
     obtain ⟨c, r1, h1, h⟩ := thenF_okE h
     have i1 := ih _ _ _ _ h1 hp
     have o1 : okTs r1 := okTs.suf hp (sufs h1)
     simp only [resP, resM, tagM] at i1 ⊢
     cases r1 with
     | nil => simp only [Option.some.injEq, Res.ok.injEq] at h; obtain ⟨rfl, rfl⟩ := h; exact i1
     | cons t r2 =>
       simp only at h
       split at h
       · obtain ⟨a, r3, h3, h⟩ := thenF_okE h
         have i3 := ih _ _ _ _ h3 o1.tl
         have o3 : okTs r3 := okTs.suf o1.tl (sufs h3)
         obtain ⟨u, r4, rfl, _, h⟩ := expectF_okE h
         obtain ⟨b, r5, h5, h⟩ := thenF_okE h
         have i5 := ih _ _ _ _ h5 o3.tl
         simp only [Option.some.injEq, Res.ok.injEq] at h
         obtain ⟨rfl, rfl⟩ := h
         simp only [resP, resM, tagM, Wt] at i1 i3 i5 ⊢
         refine ⟨gE_mk (by simp) fit0 int0 (by simp) (by simp) (by simp) (by simp; exact ⟨i1.1, i3.1, i5.1⟩), ?_⟩
         simp only [eBulk_mk, vBulk0, vBulk.kBulk, eBulk.eBulkL, List.length_nil]
         omega
       · simp only [Option.some.injEq, Res.ok.injEq] at h; obtain ⟨rfl, rfl⟩ := h; exact i1
   | op n =>
     simp only [pF] at h
     split at h
     · exact ih .un _ _ _ h hp
     · obtain ⟨c, r1, h1, h⟩ := thenF_okE h
       have i1 := ih _ _ _ _ h1 hp
       have i2 := ih _ _ _ _ h ⟨i1.1, okTs.suf hp (sufs h1)⟩
       simp only [resP, resM, tagM] at i1 i2 ⊢
       exact ⟨i2.1, by omega⟩
   | ops n e0 =>
     simp only [pF] at h
     obtain ⟨p1, p2⟩ := hp
     cases ts with
     | nil => simp only [Option.some.injEq, Res.ok.injEq] at h; obtain ⟨rfl, rfl⟩ := h; exact ⟨p1, by simp [resM, tagM]⟩
     | cons t l =>
       simp only at h
       split at h
       · obtain ⟨x, r2, h2, h⟩ := thenF_okE h
         have i2 := ih _ _ _ _ h2 p2.tl
         have o2 : okTs r2 := okTs.suf p2.tl (sufs h2)
         have hy : gE (.mk 7 t.text val0 [e0, x] []) := gE_mk p2.hd fit0 int0 (by simp) (by simp) (by simp) (by simp; exact ⟨p1, i2.1⟩)
         simp only [resP, resM, tagM, Wt] at i2 ⊢
         split at h
         · simp only [Option.some.injEq, Res.ok.injEq] at h
           obtain ⟨rfl, rfl⟩ := h
           refine ⟨hy, ?_⟩
           simp only [eBulk_mk, vBulk0, vBulk.kBulk, eBulk.eBulkL, List.length_nil]
           omega
         · have i3 := ih _ _ _ _ h ⟨hy, o2⟩
           simp only [resP, resM, tagM, eBulk_mk, vBulk0, vBulk.kBulk, eBulk.eBulkL] at i3
           exact ⟨i3.1, by omega⟩
       · simp only [Option.some.injEq, Res.ok.injEq] at h; obtain ⟨rfl, rfl⟩ := h; exact ⟨p1, by simp [resM, tagM]⟩
   | un =>
     simp only [pF] at h
     have p2 : okTs ts := hp
     cases ts with
     | nil => exact ih .atom _ _ _ h hp
     | cons t l =>
       simp only at h
       split at h
       · obtain ⟨x, r2, h2, h⟩ := thenF_okE h
         have i2 := ih _ _ _ _ h2 p2.tl
         simp only [Option.some.injEq, Res.ok.injEq] at h
         obtain ⟨rfl, rfl⟩ := h
         simp only [resP, resM, tagM, Wt] at i2 ⊢
         refine ⟨gE_mk p2.hd fit0 int0 (by simp) (by simp) (by simp) (by simp; exact i2.1), ?_⟩
         simp only [eBulk_mk, vBulk0, vBulk.kBulk, eBulk.eBulkL, List.length_nil]
         omega
       · obtain ⟨x, r2, h2, h⟩ := thenF_okE h
         have i2 := ih _ _ _ _ h2 hp
         have i3 := ih _ _ _ _ h ⟨i2.1, okTs.suf p2 (sufs h2)⟩
         simp only [resP, resM, tagM] at i2 i3 ⊢
         exact ⟨i3.1, by omega⟩
   | chain e0 =>
     simp only [pF] at h
     obtain ⟨p1, p2⟩ := hp
     cases ts with
     | nil => simp only [Option.some.injEq, Res.ok.injEq] at h; obtain ⟨rfl, rfl⟩ := h; exact ⟨p1, by simp [resM, tagM]⟩
     | cons t l =>
       simp only at h
       split at h
       · cases l with
         | nil => simp at h
         | cons u r2 =>
           simp only at h
           split at h
           · have i3 := ih _ _ _ _ h ⟨gE_mk p2.tl.hd fit0 int0 (by simp) (by simp) (by simp) (by simp; exact p1), p2.tl.tl⟩
             simp only [resP, resM, tagM, Wt, eBulk_mk, vBulk0, vBulk.kBulk, eBulk.eBulkL] at i3 ⊢
             exact ⟨i3.1, by omega⟩
           · simp at h
       · split at h
         · obtain ⟨x, r2, h2, h⟩ := thenF_okE h
           have i2 := ih _ _ _ _ h2 p2.tl
           have o2 : okTs r2 := okTs.suf p2.tl (sufs h2)
           obtain ⟨u, r4, rfl, _, h⟩ := expectF_okE h
           have i3 := ih _ _ _ _ h ⟨gE_mk (by simp) fit0 int0 (by simp) (by simp) (by simp) (by simp; exact ⟨p1, i2.1⟩), o2.tl⟩
           simp only [resP, resM, tagM, Wt, eBulk_mk, vBulk0, vBulk.kBulk, eBulk.eBulkL, List.length_nil] at i2 i3 ⊢
           exact ⟨i3.1, by omega⟩
         · simp only [Option.some.injEq, Res.ok.injEq] at h; obtain ⟨rfl, rfl⟩ := h; exact ⟨p1, by simp [resM, tagM]⟩
   | atom =>
     simp only [pF] at h
     have p2 : okTs ts := hp
     cases ts with
     | nil => simp at h
     | cons t l =>
       have hd := p2.hd
       simp only at h
       split at h
       · split at h
         · rename_i hdec
           simp only [Option.some.injEq, Res.ok.injEq] at h
           obtain ⟨rfl, rfl⟩ := h
           simp only [isDec, Bool.and_eq_true, decide_eq_true_eq] at hdec
           simp only [resP, resM, tagM, Wt, lit]
           refine ⟨gE_mk (by simp) (vFitA _ _ _ _ (by simp)) (vIntA _ _ _ _ (by omega) (by omega)) (by simp) (by simp) (by simp) (by simp), ?_⟩
           simp only [eBulk_mk, vBulkA, vBulk.kBulk, eBulk.eBulkL, List.length_nil]
           omega
         · simp at h
       · split at h
         · split at h
           · simp only [Option.some.injEq, Res.ok.injEq] at h
             obtain ⟨rfl, rfl⟩ := h
             simp only [resP, resM, tagM, Wt, lit]
             refine ⟨gE_mk (by simp) (vFitA _ _ _ _ hd) (vIntA _ _ _ _ (by omega) (by omega)) (by simp) (by simp) (by simp) (by simp), ?_⟩
             simp only [eBulk_mk, vBulkA, vBulk.kBulk, eBulk.eBulkL, List.length_nil]
             omega
           · simp at h
         · split at h
           · split at h
             · simp only [Option.some.injEq, Res.ok.injEq] at h
               obtain ⟨rfl, rfl⟩ := h
               simp only [resP, resM, tagM, Wt, lit]
               refine ⟨gE_mk (by simp) fit0 int0 (by simp) (by simp) (by simp) (by simp), ?_⟩
               simp only [eBulk_mk, vBulk0, vBulk.kBulk, eBulk.eBulkL, List.length_nil]
               omega
             · split at h
               · simp only [Option.some.injEq, Res.ok.injEq] at h
                 obtain ⟨rfl, rfl⟩ := h
                 simp only [resP, resM, tagM, Wt, lit]
                 refine ⟨gE_mk (by simp) (vFitA _ _ _ _ (by simp)) (vIntA _ _ _ _ (by omega) (by omega)) (by simp) (by simp) (by simp) (by simp), ?_⟩
                 simp only [eBulk_mk, vBulkA, vBulk.kBulk, eBulk.eBulkL, List.length_nil]
                 omega
               · split at h
                 · have hn : gE (.mk 2 t.text val0 [] []) := gE_mk hd fit0 int0 (by simp) (by simp) (by simp) (by simp)
                   have hm : eBulk (.mk 2 t.text val0 [] []) + Wt l ≤ 0 + Wt (t :: l) := by
                     simp only [eBulk_mk, vBulk0, vBulk.kBulk, eBulk.eBulkL, List.length_nil, Wt]; omega
                   cases l with
                   | nil => simp only [Option.some.injEq, Res.ok.injEq] at h; obtain ⟨rfl, rfl⟩ := h; exact ⟨hn, hm⟩
                   | cons u r2 =>
                     simp only at h
                     split at h
                     · obtain ⟨x, r3, h3, h⟩ := thenF_okE h
                       have i3 := ih _ _ _ _ h3 p2.tl.tl
                       simp only [Option.some.injEq, Res.ok.injEq] at h
                       obtain ⟨rfl, rfl⟩ := h
                       simp only [resP, resM, tagM, Wt] at i3 ⊢
                       refine ⟨gE_mk hd fit0 int0 i3.1.2 (by simp) (by simp) i3.1.1, ?_⟩
                       simp only [eBulk_mk, vBulk0, vBulk.kBulk, List.length_nil]
                       omega
                     · simp only [Option.some.injEq, Res.ok.injEq] at h; obtain ⟨rfl, rfl⟩ := h; exact ⟨hn, hm⟩
                 · simp at h
           · split at h
             · obtain ⟨x, r2, h2, h⟩ := thenF_okE h
               have i2 := ih _ _ _ _ h2 p2.tl
               obtain ⟨u, r4, rfl, _, h⟩ := expectF_okE h
               simp only [Option.some.injEq, Res.ok.injEq] at h
               obtain ⟨rfl, rfl⟩ := h
               simp only [resP, resM, tagM, Wt] at i2 ⊢
               exact ⟨i2.1, by omega⟩
             · split at h
               · obtain ⟨x, r3, h3, h⟩ := thenF_okE h
                 have i3 := ih _ _ _ _ h3 p2.tl
                 simp only [Option.some.injEq, Res.ok.injEq] at h
                 obtain ⟨rfl, rfl⟩ := h
                 simp only [resP, resM, tagM, Wt] at i3 ⊢
                 refine ⟨gE_mk (by simp) fit0 int0 i3.1.2 (by simp) (by simp) i3.1.1, ?_⟩
                 simp only [eBulk_mk, vBulk0, vBulk.kBulk, List.length_nil]
                 omega
               · split at h
                 · have i3 := ih _ _ _ _ h p2.tl
                   simp only [resP, resM, tagM, Wt] at i3 ⊢
                   exact ⟨i3.1, by omega⟩
                 · simp at h
   | args close =>
     simp only [pF] at h
     have p2 : okTs ts := hp
     have st : ∀ ts, okTs ts → pF f (.items close []) ts = some (.ok e rest) → resP (.args close) e ts rest ∧ resM (.args close) e + Wt rest ≤ tagM (.args close) + Wt ts := by
       intro ts p2 h
       have i3 := ih _ _ _ _ h ⟨by simp, by simpa using p2.1, p2⟩
       simp only [resP, resM, tagM, eBulk.eBulkL] at i3 ⊢
       exact i3
     cases ts with
     | nil => exact st _ p2 h
     | cons t l =>
       simp only at h
       split at h
       · simp only [Option.some.injEq, Res.ok.injEq] at h
         obtain ⟨rfl, rfl⟩ := h
         simp [resP, resM, tagM, Wt, Ex.args, eBulk.eBulkL]
       · exact st _ p2 h
   | items close acc =>
     simp only [pF] at h
     obtain ⟨p1, p3, p2⟩ := hp
     obtain ⟨x, r1, h1, h⟩ := thenF_okE h
     have i1 := ih _ _ _ _ h1 p2
     have s1 := sufs h1
     have o1 : okTs r1 := okTs.suf p2 s1
     have hl := s1.length_le
     simp only [resP, resM, tagM] at i1
     have hpos : Wt r1 + 64 ≤ Wt ts := by
       have := eBulk_eq x
       omega
     cases r1 with
     | nil => simp at h
     | cons t r2 =>
       simp only [List.length_cons] at hl
       simp only at h
       split at h
       · simp only [Option.some.injEq, Res.ok.injEq] at h
         obtain ⟨rfl, rfl⟩ := h
         simp only [resP, resM, tagM, Wt, Ex.args, bulkL_app, eBulk.eBulkL] at i1 ⊢
         refine ⟨⟨fun y hy => ?_, by simp; omega⟩, by omega⟩
         rcases List.mem_append.1 hy with hy | hy
         · exact p1 y hy
         · simp at hy; subst hy; exact i1.1
       · split at h
         · have i3 := ih _ _ _ _ h ⟨fun y hy => by
             rcases List.mem_append.1 hy with hy | hy
             · exact p1 y hy
             · simp at hy; subst hy; exact i1.1, by simp; omega, o1.tl⟩
           simp only [resP, resM, tagM, Wt, bulkL_app, eBulk.eBulkL] at i1 i3 ⊢
           exact ⟨i3.1, by omega⟩
         · simp at h
   | ents =>
     simp only [pF] at h
     have p2 : okTs ts := hp
     have st : ∀ ts, okTs ts → pF f (.ent [] []) ts = some (.ok e rest) → resP .ents e ts rest ∧ resM .ents e + Wt rest ≤ tagM .ents + Wt ts := by
       intro ts p2 h
       have i3 := ih _ _ _ _ h ⟨by simp, by simp, by simpa using p2.1, rfl, p2⟩
       simp only [resP, resM, tagM, eBulk.eBulkL, vBulk.kBulk] at i3 ⊢
       exact ⟨i3.1, by omega⟩
     cases ts with
     | nil => exact st _ p2 h
     | cons t l =>
       simp only at h
       split at h
       · simp only [Option.some.injEq, Res.ok.injEq] at h
         obtain ⟨rfl, rfl⟩ := h
         simp only [resP, resM, tagM, Wt]
         refine ⟨gE_mk (by simp) fit0 int0 (by simp) (by simp) (by simp) (by simp), ?_⟩
         simp only [eBulk_mk, vBulk0, vBulk.kBulk, eBulk.eBulkL, List.length_nil]
         omega
       · exact st _ p2 h
   | ent acc ks =>
     simp only [pF] at h
     obtain ⟨p1, p4, p3, p5, p2⟩ := hp
     cases ts with
     | nil => simp at h
     | cons t l =>
       have hd := p2.hd
       simp only [List.length_cons] at p3
       simp only at h
       split at h
       · obtain ⟨u, r2, rfl, _, h⟩ := expectF_okE h
         obtain ⟨x, r3, h3, h⟩ := thenF_okE h
         have i3 := ih _ _ _ _ h3 p2.tl.tl
         have s3 := sufs h3
         have o3 : okTs r3 := okTs.suf p2.tl.tl s3
         have hl := s3.length_le
         simp only [resP, resM, tagM, List.length_cons] at i3 p3
         have hks : ∀ k ∈ ks ++ [t.text], k.length ≤ 1048576 := fun k hk => by
           rcases List.mem_append.1 hk with hk | hk
           · exact p4 k hk
           · simp at hk; subst hk; exact hd
         have hac : ∀ y ∈ acc ++ [x], gE y := fun y hy => by
           rcases List.mem_append.1 hy with hy | hy
           · exact p1 y hy
           · simp at hy; subst hy; exact i3.1
         cases r3 with
         | nil => simp at h
         | cons v r4 =>
           simp only [List.length_cons] at hl
           simp only at h
           split at h
           · simp only [Option.some.injEq, Res.ok.injEq] at h
             obtain ⟨rfl, rfl⟩ := h
             refine ⟨gE_mk (by simp) fit0 int0 (by simp; omega) (by simp; omega) hks hac, ?_⟩
             simp only [resM, tagM, Wt, eBulk_mk, vBulk0, bulkL_app, kBulk_app, vBulk.kBulk, eBulk.eBulkL, List.length_nil] at i3 ⊢
             omega
           · split at h
             · have i5 := ih _ _ _ _ h ⟨hac, hks, by simp; omega, by simp [p5], o3.tl⟩
               simp only [resP, resM, tagM, Wt, bulkL_app, kBulk_app, vBulk.kBulk, eBulk.eBulkL] at i3 i5 ⊢
               exact ⟨i5.1, by omega⟩
             · simp at h
       · simp at h
end Go.Proofs.YtofbdmdigopaoaaGreatDoor
end
section
set_option maxRecDepth 20000
namespace Go.Proofs.YtofbdmdigopaoaaGreatDoor
theorem tokF_text {s : Str} {k : Int} {t : Str} {n : Nat} (h : tokF s = .ok k t n) : t.length ≤ n + 4096 := by
 cases s with
 | nil => simp [tokF] at h
 | cons c r =>
   simp only [tokF] at h
   split at h
   · have := nameF_ok h; omega
   · split at h
     · have := numF_ok h; omega
     · split at h
       · have := strR_ok r.length r [] 1 (Nat.le_refl _) h; omega
       · obtain ⟨_, _, _, rfl⟩ := opF_ok h; simp; omega
theorem Wt_app (a b : List Tk) : Wt (a ++ b) = Wt a + Wt b := by induction a <;> simp_all [Wt]; omega
theorem toksF_ok : ∀ (f a : Nat) (s : Str) (op : Nat) (out T : List Tk), toksF f a s op out = .ok T → T.length ≤ out.length + s.length ∧ (∀ t ∈ T, t ∈ out ∨ t.text.length ≤ s.length + 4096) ∧ Wt T ≤ Wt out + 33000 * s.length + 8 * s.length := by
 intro f
 induction f with
 | zero => intro a s op out T h; simp only [toksF, ToksR.ok.injEq] at h; subst h; exact ⟨by omega, fun t ht => .inl ht, by omega⟩
 | succ f ih =>
   intro a s op out T h
   cases s with
   | nil => simp only [toksF, ToksR.ok.injEq] at h; subst h; exact ⟨by omega, fun t ht => .inl ht, by omega⟩
   | cons c r =>
     simp only [toksF] at h
     split at h
     · obtain ⟨h1, h2, h3⟩ := ih _ _ _ _ _ h
       simp only [List.length_cons] at *
       exact ⟨by omega, fun t ht => (h2 t ht).imp id fun h => by omega, by omega⟩
     · split at h
       · obtain ⟨h1, h2, h3⟩ := ih _ _ _ _ _ h
         simp only [List.length_cons, List.length_drop] at *
         exact ⟨by omega, fun t ht => (h2 t ht).imp id fun h => by omega, by omega⟩
       · split at h
         · obtain ⟨h1, h2, h3⟩ := ih _ _ _ _ _ h
           split at h1
           · rename_i hif
             rw [if_pos hif] at h2 h3
             simp only [List.length_append, List.length_cons, List.length_nil, Wt_app, Wt] at *
             refine ⟨by omega, fun t ht => ?_, by omega⟩
             rcases h2 t ht with h | h
             · rcases List.mem_append.1 h with h | h
               · exact .inl h
               · simp at h; subst h; exact .inr (by simp)
             · exact .inr (by omega)
           · rename_i hif
             rw [if_neg hif] at h2 h3
             simp only [List.length_cons] at *
             exact ⟨by omega, fun t ht => (h2 t ht).imp id fun h => by omega, by omega⟩
         · split at h
           · cases h
           · rename_i k t n hk
             have k1 := tokF_ok hk
             have k2 := tokF_text hk
             obtain ⟨h1, h2, h3⟩ := ih _ _ _ _ _ h
             simp only [List.length_append, List.length_cons, List.length_nil, List.length_drop, Wt_app, Wt] at *
             refine ⟨by omega, fun u hu => ?_, ?_⟩
             · rcases h2 u hu with h | h
               · rcases List.mem_append.1 h with h | h
                 · exact .inl h
                 · simp at h; subst h; exact .inr (by simp only; omega)
               · exact .inr (by omega)
             · obtain ⟨m, hm⟩ : ∃ m, r.length + 1 = n + m := ⟨r.length + 1 - n, by omega⟩
               rw [show r.length + 1 - n = m by omega] at h3
               rw [hm]
               omega
theorem toksF_err : ∀ (f a : Nat) (s : Str) (op : Nat) (out : List Tk) (i : Nat) (c : Int), toksF f a s op out = .err i c → c ≠ 0 := by
 intro f
 induction f with
 | zero => intro a s op out i c h; simp [toksF] at h
 | succ f ih =>
   intro a s op out i c h
   cases s with
   | nil => simp [toksF] at h
   | cons x r =>
     simp only [toksF] at h
     split at h
     · exact ih _ _ _ _ _ _ h
     · split at h
       · exact ih _ _ _ _ _ _ h
       · split at h
         · exact ih _ _ _ _ _ _ h
         · split at h
           · rename_i e he
             cases h
             exact tokF_err he
           · exact ih _ _ _ _ _ _ h
theorem tokens_ok {s : Str} {T : List Tk} (h : tokens s = .ok T) : okTs T ∧ Wt T ≤ 1099511627776 ∧ s.length ≤ 65536 := by
 rw [tokens] at h
 split at h
 · cases h
 · obtain ⟨h1, h2, h3⟩ := toksF_ok _ _ _ _ _ _ h
   simp only [List.length_nil, Wt] at h1 h3
   refine ⟨⟨by omega, fun t ht => ?_⟩, by omega, by omega⟩
   rcases h2 t ht with h | h
   · simp at h
   · omega
theorem tokens_err {s : Str} {i : Nat} {c : Int} (h : tokens s = .err i c) : c ≠ 0 := by
 rw [tokens] at h
 split at h
 · cases h; decide
 · exact toksF_err _ _ _ _ _ _ _ h
theorem cond_good {f : Nat} {T : List Tk} {e : Ex} {rest : List Tk} (h : pF f .cond T = some (.ok e rest)) (hT : okTs T) : gE e ∧ eBulk e ≤ Wt T := by
 obtain ⟨h1, h2⟩ := pF_good _ _ _ _ _ h hT
 simp only [resM, tagM] at h2
 exact ⟨h1, by omega⟩
theorem eCount_bulk : ∀ (n : Nat) (e : Ex), eBulk e ≤ n → eCount e ≤ eBulk e := by
 intro n
 induction n with
 | zero => intro e h; have := eBulk_eq e; omega
 | succ n ih =>
   intro e h
   cases e with
   | mk k nm v ar ks =>
     have hl : ∀ l : List Ex, eBulk.eBulkL l ≤ n → eCount.eCountL l ≤ eBulk.eBulkL l := by
       intro l
       induction l with
       | nil => intro _; simp [eCount.eCountL]
       | cons a r ihr =>
         intro hb
         simp only [eCount.eCountL, eBulk.eBulkL] at hb ⊢
         have := ih a (by omega)
         have := ihr (by omega)
         omega
     simp only [eBulk] at h
     have := hl ar (by omega)
     simp only [eCount, eBulk]
     omega
end Go.Proofs.YtofbdmdigopaoaaGreatDoor
end
section
set_option maxHeartbeats 8000000
set_option maxRecDepth 20000
namespace Go.Proofs.YtofbdmdigopaoaaGreatDoor
open Go.Abs
attribute [local irreducible] AW OX condQ GQ bodyQ RoundsA thenQ blockQ Acalls
variable {G : World → Nat → Prop}
abbrev vEs (l : List Ex) : V := .d (.sl (l.map Ex.enc))
theorem eqK_at (a b : List Str) (hl : a.length = b.length) (h : ∀ k, k < a.length → a.getD k default = b.getD k default) : a = b := by
 apply List.ext_getElem hl
 intro i h1 h2
 have := h i h1
 simpa [List.getD_eq_getElem?_getD, h1, h2] using this
theorem eEqL_at (a b : List Ex) (hl : a.length = b.length) : eEq.eEqL a b = true ↔ ∀ k, k < a.length → eEq (a.getD k default) (b.getD k default) = true := by
 induction a generalizing b with
 | nil => cases b with
   | nil => simp [eEq.eEqL]
   | cons => simp at hl
 | cons x r ih =>
   cases b with
   | nil => simp at hl
   | cons y s =>
     rw [eEq.eEqL, Bool.and_eq_true, ih s (by simpa using hl)]
     constructor
     · rintro ⟨h1, h2⟩ k hk
       cases k with
       | zero => exact h1
       | succ k => exact h2 k (by simpa using hk)
     · intro h
       exact ⟨h 0 (by simp), fun k hk => h (k + 1) (by simpa using hk)⟩
theorem eEqL_len {a b : List Ex} (h : eEq.eEqL a b = true) : a.length = b.length := by
 induction a generalizing b with
 | nil => cases b with
   | nil => rfl
   | cons => simp [eEq.eEqL] at h
 | cons x r ih =>
   cases b with
   | nil => simp [eEq.eEqL] at h
   | cons y s => rw [eEq.eEqL, Bool.and_eq_true] at h; simp [ih h.2]
theorem eEq_eq (a b : Ex) : eEq a b = (decide (a.kind = b.kind) && decide (a.name = b.name) && decide (a.keys = b.keys) && vEq a.value b.value && eEq.eEqL a.args b.args) := by
 cases a; rw [eEq]; rfl
theorem c_eqK (a b : List Str) (ha : a.length ≤ 1048576) (hb : b.length ≤ 1048576) : Ans G 35 [vKs a, vKs b] (vb (decide (a = b))) := by
 intro st
 by_cases hl : a.length = b.length
 · refine Acalls.body Tryz.func35 rfl Tryz.ntmps35 (by simp) ?_
   (try with_reducible refine Wk.aw fun _ hqq => ?_); (repeat' (first | ((with_reducible refine Wk.i ?_); simp -implicitDefEqProofs (disch := first | omega | (simp only [go_sem]; try omega)) only [go_sem, seval]) | (refine TQ_s (fun hc => ?_) (fun hc => ?_) <;> try (exfalso; first | omega | contradiction)) | with_reducible refine Wk.o ?_)); all_goals (repeat subst hqq)
   all_goals first
     | (exfalso; omega)
     | skip
   refine AW.loopS (fun i : Nat => [(0, vKs a), (1, vKs b), (12, vint ↑a.length), (13, vint ↑i)]) (fun _ => []) (fun _ => []) (fun i => i ≤ a.length ∧ ∀ k, k < i → a.getD k default = b.getD k default) (fun i => a.length - i) 0 (by simp -implicitDefEqProofs (disch := first | omega | (simp only [go_sem]; try omega)) only [go_sem, seval] <;> first | rfl | exact ⟨rfl, rfl⟩ | skip) (by simp -implicitDefEqProofs (disch := first | omega | (simp only [go_sem]; try omega)) only [go_sem, seval] <;> first | rfl | exact ⟨rfl, rfl⟩ | skip) ⟨by omega, by omega⟩ ?_
   intro i ⟨g1, g2⟩
   by_cases hlt : i < a.length
   · by_cases he : a.getD i default = b.getD i default
     · have he' := not_not_intro he
       (try with_reducible refine Wk.aw fun _ hqq => ?_); (repeat' (first | ((with_reducible refine Wk.i ?_); simp -implicitDefEqProofs (disch := first | omega | (simp only [go_sem]; try omega)) only [go_sem, seval]) | (refine TQ_s (fun hc => ?_) (fun hc => ?_) <;> try (exfalso; first | omega | contradiction)) | refine Wk.drawn mx (by kernel_rfl) ?_ | with_reducible first | refine Wk.o ?_ | refine Wk.q (by assumption) ?_)); all_goals (repeat subst hqq)
       · (refine ⟨i + 1, Nxt.mk ?_ ?_ ?_ (by simp -implicitDefEqProofs (disch := first | omega | (simp only [go_sem]; try omega)) only [go_sem, seval]) (by simp -implicitDefEqProofs (disch := first | omega | (simp only [go_sem]; try omega)) only [go_sem, seval]) (by first | rfl | (simp -implicitDefEqProofs (disch := first | omega | (simp only [go_sem]; try omega)) only [go_sem, seval]; all_goals omega)) (by first | rfl | (simp -implicitDefEqProofs (disch := first | omega | (simp only [go_sem]; try omega)) only [go_sem, seval]; all_goals omega))⟩; focus (try (simp -implicitDefEqProofs (disch := first | omega | (simp only [go_sem]; try omega)) only [go_sem, seval]); try ((repeat' apply And.intro) <;> first | rfl | trivial | refine vi_congr ?_ | refine vs_congr ?_ | refine vown_congr ?_ | skip)))
         · refine ⟨by omega, fun k hk => ?_⟩
           by_cases hki : k = i
           · subst hki; exact he
           · exact g2 k (by omega)
         · omega
     · (try with_reducible refine Wk.aw fun _ hqq => ?_); (repeat' (first | ((with_reducible refine Wk.i ?_); simp -implicitDefEqProofs (disch := first | omega | (simp only [go_sem]; try omega)) only [go_sem, seval]) | (refine TQ_s (fun hc => ?_) (fun hc => ?_) <;> try (exfalso; first | omega | contradiction)) | refine Wk.drawn mx (by kernel_rfl) ?_ | with_reducible refine Wk.ret fun _ _ => ?_ | (refine Wk.fin (by assumption) ?_; refine ⟨?_, rfl⟩) | with_reducible first | refine Wk.o ?_ | refine Wk.q (by assumption) ?_)); all_goals (repeat subst hqq)
       all_goals (refine ret_bool ?_; rw [decide_eq_false fun h => he (by rw [h])])
   · have hks := eqK_at _ _ hl fun k hk => g2 k (by omega)
     (try with_reducible refine Wk.aw fun _ hqq => ?_); (repeat' (first | ((with_reducible refine Wk.i ?_); simp -implicitDefEqProofs (disch := first | omega | (simp only [go_sem]; try omega)) only [go_sem, seval]) | (refine TQ_s (fun hc => ?_) (fun hc => ?_) <;> try (exfalso; first | omega | contradiction)) | with_reducible refine Wk.ret fun _ _ => ?_ | (refine Wk.fin (by assumption) ?_; refine ⟨?_, rfl⟩) | with_reducible first | refine Wk.o ?_ | refine Wk.q (by assumption) ?_ | refine Wk.sw fun _ hqq => ?_)); all_goals (repeat subst hqq)
     all_goals (refine ret_bool ?_; rw [decide_eq_true hks])
 · rw [decide_eq_false fun h => hl (by rw [h])]
   refine Acalls.body Tryz.func35 rfl Tryz.ntmps35 (by simp) ?_
   (try with_reducible refine Wk.aw fun _ hqq => ?_); (repeat' (first | ((with_reducible refine Wk.i ?_); simp -implicitDefEqProofs (disch := first | omega | (simp only [go_sem]; try omega)) only [go_sem, seval]) | (refine TQ_s (fun hc => ?_) (fun hc => ?_) <;> try (exfalso; first | omega | contradiction)) | with_reducible refine Wk.ret fun _ _ => ?_ | (refine Wk.fin (by assumption) ?_; refine ⟨?_, rfl⟩) | with_reducible first | refine Wk.o ?_ | refine Wk.q (by assumption) ?_)); all_goals (repeat subst hqq)
   all_goals first | rfl | (exfalso; omega)
theorem c_eqFuncE (a b : List Ex) (ha : a.length ≤ 1048576) (hb : b.length ≤ 1048576) (hcm : ∀ x ∈ a, ∀ y ∈ b, Ans G 22 [vE x, vE y] (vb (eEq x y))) : Ans G 37 [vEs a, vEs b, .clo 22 []] (vb (eEq.eEqL a b)) := by
 intro st
 by_cases hl : a.length = b.length
 · refine Acalls.body Tryz.func37 rfl Tryz.ntmps37 (by simp) ?_
   (try refine Wk.aw fun _ hqq => ?_); (repeat' (first | ((refine Wk.i ?_); simp -implicitDefEqProofs (disch := omega) only [go_sem, seval]) | (refine TQ_s (fun hc => ?_) (fun hc => ?_) <;> try omega) | refine Wk.o ?_)); all_goals (repeat subst hqq)
   all_goals first
     | (exfalso; omega)
     | skip
   refine AW.loopS (fun i : Nat => [(1, vEs b), (2, .clo 22 []), (15, vEs a), (16, vint ↑a.length), (17, vint ↑i)]) (fun _ => []) (fun _ => []) (fun i => i ≤ a.length ∧ ∀ k, k < i → eEq (a.getD k default) (b.getD k default) = true) (fun i => a.length - i) 0 (by simp -implicitDefEqProofs (disch := omega) only [go_sem, seval] <;> first | rfl | exact ⟨rfl, rfl⟩ | skip) (by simp -implicitDefEqProofs (disch := omega) only [go_sem, seval] <;> first | rfl | exact ⟨rfl, rfl⟩ | skip) ⟨by omega, by omega⟩ ?_
   intro i ⟨g1, g2⟩
   by_cases hlt : i < a.length
   · have hcx := hcm _ (getD_mem hlt) (b.getD i default) (getD_mem (by omega))
     cases he : eEq (a.getD i default) (b.getD i default)
     · rw [he] at hcx
       (try refine Wk.aw fun _ hqq => ?_); (repeat' (first | ((first | refine Wk.hd ?_ | refine Wk.i ?_); simp -implicitDefEqProofs (disch := omega) only [go_sem, seval]) | (refine TQ_s (fun hc => ?_) (fun hc => ?_) <;> try omega) | refine CQ_ok (hcx _) ?_ | refine Wk.ret fun _ _ => ?_ | (refine Wk.fin (by assumption) ?_; refine ⟨?_, rfl⟩) | first | refine Wk.o ?_ | refine Wk.q (by assumption) ?_)); all_goals (repeat subst hqq)
       all_goals (refine ret_bool ?_; rw [show eEq.eEqL a b = false from Bool.eq_false_iff.2 fun h => by have := (eEqL_at _ _ hl).1 h i hlt; rw [he] at this; cases this])
     · rw [he] at hcx
       (try refine Wk.aw fun _ hqq => ?_); (repeat' (first | ((first | refine Wk.hd ?_ | refine Wk.i ?_); simp -implicitDefEqProofs (disch := omega) only [go_sem, seval]) | (refine TQ_s (fun hc => ?_) (fun hc => ?_) <;> try omega) | refine CQ_ok (hcx _) ?_ | first | refine Wk.o ?_ | refine Wk.q (by assumption) ?_)); all_goals (repeat subst hqq)
       · (refine ⟨i + 1, Nxt.mk ?_ ?_ ?_ (by simp -implicitDefEqProofs (disch := omega) only [go_sem, seval]) (by simp -implicitDefEqProofs (disch := omega) only [go_sem, seval]) (by first | rfl | (simp -implicitDefEqProofs (disch := omega) only [go_sem, seval]; all_goals omega)) (by first | rfl | (simp -implicitDefEqProofs (disch := omega) only [go_sem, seval]; all_goals omega))⟩; focus (try (simp -implicitDefEqProofs (disch := omega) only [go_sem, seval]); try ((repeat' apply And.intro) <;> first | rfl | trivial | refine vi_congr ?_ | refine vs_congr ?_ | refine vown_congr ?_ | skip)))
         · refine ⟨by omega, fun k hk => ?_⟩
           by_cases hki : k = i
           · subst hki; exact he
           · exact g2 k (by omega)
         · omega
   · (try refine Wk.aw fun _ hqq => ?_); (repeat' (first | ((refine Wk.i ?_); simp -implicitDefEqProofs (disch := omega) only [go_sem, seval]) | (refine TQ_s (fun hc => ?_) (fun hc => ?_) <;> try omega) | refine Wk.ret fun _ _ => ?_ | (refine Wk.fin (by assumption) ?_; refine ⟨?_, rfl⟩) | first | refine Wk.o ?_ | refine Wk.q (by assumption) ?_ | refine Wk.sw fun _ hqq => ?_)); all_goals (repeat subst hqq)
     all_goals (refine ret_bool ?_; rw [(eEqL_at _ _ hl).2 fun k hk => g2 k (by omega)])
 · rw [show eEq.eEqL a b = false from Bool.eq_false_iff.2 fun h => hl (eEqL_len h)]
   refine Acalls.body Tryz.func37 rfl Tryz.ntmps37 (by simp) ?_
   (try refine Wk.aw fun _ hqq => ?_); (repeat' (first | ((refine Wk.i ?_); simp -implicitDefEqProofs (disch := omega) only [go_sem, seval]) | (refine TQ_s (fun hc => ?_) (fun hc => ?_) <;> try omega) | refine Wk.ret fun _ _ => ?_ | (refine Wk.fin (by assumption) ?_; refine ⟨?_, rfl⟩) | first | refine Wk.o ?_ | refine Wk.q (by assumption) ?_)); all_goals (repeat subst hqq)
   all_goals first | rfl | (exfalso; omega)
theorem c_par_Equal : ∀ a b : Ex, eFit a → eFit b → Ans G 22 [vE a, vE b] (vb (eEq a b)) := by
 intro a
 induction a using Ex.ind with
 | h a ih =>
   intro b fa fb st
   obtain ⟨a1, a2, a3, a4, a5, a6⟩ := (eFit_iff a).1 fa
   obtain ⟨b1, b2, b3, b4, b5, b6⟩ := (eFit_iff b).1 fb
   have hve := c_value_Equal (G := G) a.value b.value a2 b2
   have hke := c_eqK (G := G) a.keys b.keys a4 b4
   have hae := c_eqFuncE (G := G) a.args b.args a3 b3 fun x hx y hy => ih x hx y (a6 x hx) (b6 y hy)
   rw [eEq_eq]
   refine Acalls.body Tryz.func22 rfl Tryz.ntmps22 (by simp) ?_
   (try refine Wk.aw fun _ hqq => ?_); (repeat' (first | ((first | refine Wk.hd ?_ | refine Wk.i ?_); simp -implicitDefEqProofs only [go_sem, seval]) | (refine TQ_s (fun hc => ?_) (fun hc => ?_) <;> try omega) | refine CQ_ok (hve _) ?_ | refine CQ_ok (hke _) ?_ | refine CQ_ok (hae _) ?_ | refine Wk.ret fun _ _ => ?_ | (refine Wk.fin (by assumption) ?_; refine ⟨?_, rfl⟩) | first | refine Wk.o ?_ | refine Wk.q (by assumption) ?_)); all_goals (repeat subst hqq)
   all_goals (refine congrArg (fun b => Out.ret (.d (.bool b))) ?_; simp [*])
end Go.Proofs.YtofbdmdigopaoaaGreatDoor
end
section
set_option maxHeartbeats 8000000
set_option maxRecDepth 20000
namespace Go.Proofs.YtofbdmdigopaoaaGreatDoor
open Go.Abs
attribute [local irreducible] AW OX condQ GQ bodyQ RoundsA thenQ blockQ Acalls
variable {G : World → Nat → Prop}
structure GA (G : World → Nat → Prop) : Prop where
 v : GV G
 t : GT G
theorem k_par_Valid (e : Ex) (h : gE e) (hb : eBulk e ≤ 1099511627776) : Ans G 17 [vE e] (vint (eValid e)) :=
 c_par_Valid c_val_Valid c_repeated e h.1 hb (by have := eCount_bulk _ e (Nat.le_refl _); omega)
theorem k_par_Show (g : GA G) (e : Ex) (h : gE e) (hb : eBulk e ≤ 1099511627776) : Ans G 19 [vE e] (vs (showE e)) :=
 c_par_Show g.t c_val_Valid c_repeated e h.1 h.2 hb (by have := eCount_bulk _ e (Nat.le_refl _); omega)
theorem k_Simple (e : Ex) (h : gE e) (hb : eBulk e ≤ 1099511627776) : Ans G 23 [vE e] (vb (decide (eValid e = 0) && simpleF e)) :=
 c_Simple e h.1 (by have := eCount_bulk _ e (Nat.le_refl _); omega)
theorem k_par_Count (e : Ex) (hb : eBulk e ≤ 1099511627776) : Ans G 21 [vE e] (vint (eCount e)) :=
 c_par_Count _ e (Nat.le_refl _) (by have := eCount_bulk _ e (Nat.le_refl _); omega)
theorem k_ref_Count (e : Ex) (hb : eBulk e ≤ 1099511627776) : Ans G 16 [vE e] (vint (eCount e)) :=
 c_ref_Count _ e (Nat.le_refl _) (by have := eCount_bulk _ e (Nat.le_refl _); omega)
theorem k_Parse (g : GA G) (s : Str) (hs : s.length ≤ 1048576) : Ans G 11 [vs s] (parV (parseF s)) := by
 refine c_Parse g.v s hs (fun T e rest h hp => ?_) (fun T h => (tokens_ok h).1) (fun a c h => tokens_err h)
 obtain ⟨h1, h2, _⟩ := tokens_ok h
 obtain ⟨h3, h4⟩ := cond_good hp h1
 exact k_par_Valid e h3 (by omega)
theorem k_Take (g : GA G) (T : List Tk) (hT : okTs T) (hw : Wt T ≤ 1099511627776) : Ans G 14 [vTl T] (takeV T (takeF T)) := by
 refine c_Take g.v T hT.1 hT.2 fun e rest hp => ?_
 obtain ⟨h3, h4⟩ := cond_good hp hT
 exact k_par_Valid e h3 (by omega)
theorem runsF_self (x : Str) : runsF x x = 0 := by simp [runsF, cmpNat]
theorem natCmpF_self : ∀ (f : Nat) (s : Str), natCmpF f s s = 0
 | 0, _ => rfl
 | f + 1, [] => rfl
 | f + 1, c :: r => by
   simp only [natCmpF]
   split
   · simp [runsF_self, natCmpF_self f]
   · simp [natCmpF_self f]
theorem natCmp_self (s : Str) : natCmp s s = 0 := natCmpF_self _ s
theorem cmpKeys_self : ∀ l : List Str, cmpKeys l l = 0
 | [] => rfl
 | a :: r => by simp [cmpKeys, natCmp_self, cmpKeys_self r]
theorem vCmpL_self : ∀ l : List Val, (∀ v ∈ l, vCmp v v = 0) → vCmp.vCmpL l l = 0
 | [], _ => by simp [vCmp.vCmpL]
 | a :: r, h => by simp [vCmp.vCmpL, h a (by simp), vCmpL_self r (fun v hv => h v (by simp [hv]))]
theorem vCmp_self (v : Val) : vCmp v v = 0 := by
 induction v using Val.ind with
 | _ v ih =>
   obtain ⟨k, b, i, s, l, ks⟩ := v
   have := vCmpL_self l ih
   simp only [vCmp, Val.kind, Val.bool, Val.int, Val.str, Val.list, Val.keys, this, cmpKeys_self, cmpInt, cmpStr, ltStr_irr]
   simp
theorem vEq_self (v : Val) : vEq v v = true := by simp [vEq, vCmp_self v]
theorem eEqL_self : ∀ l : List Ex, (∀ v ∈ l, eEq v v = true) → eEq.eEqL l l = true
 | [], _ => by simp [eEq.eEqL]
 | a :: r, h => by simp [eEq.eEqL, h a (by simp), eEqL_self r (fun v hv => h v (by simp [hv]))]
theorem eEq_self (e : Ex) : eEq e e = true := by
 induction e using Ex.ind with
 | _ e ih =>
   obtain ⟨k, nm, v, ar, ks⟩ := e
   have := eEqL_self ar ih
   simp [eEq, Ex.kind, Ex.name, Ex.value, Ex.args, Ex.keys, vEq_self, this]
end Go.Proofs.YtofbdmdigopaoaaGreatDoor
end
section
set_option maxHeartbeats 8000000
set_option maxRecDepth 20000
namespace Go.Proofs.YtofbdmdigopaoaaGreatDoor
open Go.Abs
attribute [local irreducible] AW OX condQ GQ bodyQ RoundsA thenQ blockQ Acalls
variable {G : World → Nat → Prop}
def nm (c : UInt8) : Ex := .mk 2 [c] val0 [] []
def li (n : Int) : Ex := .mk 1 [] (.mk 2 false n [] [] []) [] []
def aw1 : Str := [49, 32, 43, 32, 50, 32, 42, 32, 51]
def awE1 : Ex := .mk 7 [43] val0 [li 1, .mk 7 [42] val0 [li 2, li 3] []] []
def aw2 : Str := [97, 32, 60, 32, 98, 32, 60, 32, 99]
def aw3 : Str := [40, 97, 32, 63, 32, 98, 32, 58, 32, 40, 99, 32, 63, 32, 100, 32, 58, 32, 101, 41, 41]
def awE3 : Ex := .mk 8 [] val0 [nm 97, nm 98, .mk 8 [] val0 [nm 99, nm 100, nm 101] []] []
def aw3s : Str := [97, 32, 63, 32, 98, 32, 58, 32, 99, 32, 63, 32, 100, 32, 58, 32, 101]
def aw4 : Str := [123, 97, 58, 32, 49, 44, 32, 34, 97, 34, 58, 32, 50, 125]
theorem aw1_p : parseF aw1 = .ok awE1 := by kernel_rfl
theorem aw2_p : parseF aw2 = .err 6 5 := by kernel_rfl
theorem aw3_p : parseF aw3 = .ok awE3 := by kernel_rfl
theorem aw4_p : parseF aw4 = .err 0 7 := by kernel_rfl
theorem aw1_c : eCount awE1 = 5 := by kernel_rfl
theorem aw1_s : showE awE1 = aw1 := by kernel_rfl
theorem aw3_s : showE awE3 = aw3s := by kernel_rfl
theorem aw13 : eEq awE1 awE3 = false := by kernel_rfl
theorem aw3_v : eValid awE3 = 0 := by kernel_rfl
theorem vE_aw1 : vE awE1 = .agg [vint 7, vs [43], .d (.int .i64 0), .d (.bool false), .d (.int .i64 0), .d (.str []), .d (.sl []), .d (.sl []), .d (.sl [(li 1).enc, [Abs.D.int .i64 7, .str [42], Abs.D.int .i64 0, .bool false, Abs.D.int .i64 0, .str [], .sl [], .sl [], .sl [(li 2).enc, (li 3).enc], .sl []]]), .d (.sl [])] := rfl
theorem gE_of {s : Str} {e : Ex} (h : parseF s = .ok e) : gE e ∧ eBulk e ≤ 1099511627776 := by
 rw [parseF] at h
 split at h
 · cases h
 · rename_i T hT
   obtain ⟨h1, h2, _⟩ := tokens_ok hT
   split at h
   · cases h
   · rename_i e' ht
     cases h
     obtain ⟨_, _, hp⟩ := (takeF_suf T).1 _ _ ht
     obtain ⟨h3, h4⟩ := cond_good hp h1
     exact ⟨h3, by omega⟩
   · cases h
theorem c_awake (g : GA G) : Ans G 10 [] (vb true) := by
 intro st
 have p1 := k_Parse g aw1 (by decide)
 have p2 := k_Parse g aw2 (by decide)
 have p3 := k_Parse g aw3 (by decide)
 have p4 := k_Parse g aw4 (by decide)
 obtain ⟨g1, b1⟩ := gE_of aw1_p
 obtain ⟨g3, b3⟩ := gE_of aw3_p
 have q1 := k_par_Count (G := G) awE1 b1
 have q2 := k_par_Show g awE1 g1 b1
 have q3 := k_par_Show g awE3 g3 b3
 have q4 := c_par_Equal (G := G) awE1 awE1 g1.1 g1.1
 have q5 := c_par_Equal (G := G) awE1 awE3 g1.1 g3.1
 have q6 := k_par_Valid (G := G) awE3 g3 b3
 rw [aw1_p] at p1
 rw [aw2_p] at p2
 rw [aw3_p] at p3
 rw [aw4_p] at p4
 simp only [parV] at p1 p2 p3 p4
 rw [aw1_c] at q1
 rw [aw1_s] at q2
 rw [aw3_s] at q3
 rw [eEq_self] at q4
 rw [aw13] at q5
 rw [aw3_v] at q6
 rw [vE_aw1] at p1 q1 q2 q4 q5
 refine Acalls.body Tryz.func10 rfl Tryz.ntmps10 (by simp) ?_
 (try with_reducible refine Wk.aw fun _ hqq => ?_); (repeat' (first | ((with_reducible first | refine Wk.hd ?_ | refine Wk.i ?_); simp -implicitDefEqProofs (disch := first | omega | (simp only [go_sem]; try omega)) only [go_sem, seval, beq_self_eq_true, aw1, aw3s]) | (refine TQ_s (fun hc => ?_) (fun hc => ?_) <;> try (exfalso; first | omega | contradiction)) | refine CQ_ok ((by first | exact p1 _ | exact p2 _ | exact p3 _ | exact p4 _)) ?_ | refine CQ_ok (q1 _) ?_ | refine CQ_ok ((by first | exact q2 _ | exact q3 _)) ?_ | refine CQ_ok ((by first | exact q4 _ | exact q5 _)) ?_ | refine CQ_ok (q6 _) ?_ | with_reducible refine Wk.ret fun _ _ => ?_ | (refine Wk.fin (by assumption) ?_; refine ⟨?_, rfl⟩) | with_reducible first | refine Wk.o ?_ | refine Wk.q (by assumption) ?_)); all_goals (repeat subst hqq)
 all_goals rfl
end Go.Proofs.YtofbdmdigopaoaaGreatDoor
end
section
set_option maxHeartbeats 8000000
set_option maxRecDepth 20000
namespace Go.Proofs.YtofbdmdigopaoaaGreatDoor
open Go.Abs
attribute [local irreducible] AW OX condQ GQ bodyQ RoundsA thenQ blockQ Acalls
variable {G : World → Nat → Prop}
end Go.Proofs.YtofbdmdigopaoaaGreatDoor
end
