/- A step of the proofs of the seat's theorems. -/
import Derived.Test.YtofbdmdigopaoaaGreatDoorQ6
import Derived.Test.YtofbdmdigopaoaaGreatDoorQ13
import Derived.Sort.Grow
import Derived.Deep.Draws
import Derived.Shelf.Strconv.Itoa4
import Derived.Shelf.Strconv.ErrVarAll
import Derived.Shelf.LaysM
import Derived.Shelf.LaysC
import Derived.Test.YtofbdmdigopaoaaGreatDoorProg
import Derived.KernelRfl
import Derived.Test.YtofbdmdigopaoaaGreatDoorChecked
set_option linter.unusedSimpArgs false
set_option linter.unusedVariables false
section
namespace Go.Abs
open Go.RowKit
def Ctx.kill (c : Ctx) (id : Nat) (t : Tok) : Ctx := { c with tok := c.tok.set id { t with val := .slice none 0 0, len := maxLen + 1 } }
theorem freeze_other (w : World) (g n k : Nat) (h : k ≠ g) : (w.freeze ⟨g, 0, none⟩ n).heap[k]? = w.heap[k]? := by
 unfold World.freeze
 split
 · rfl
 · simp only [Array.getElem?_modify]
   rw [if_neg (fun e => h e.symm)]
theorem freeze_cell (w : World) (p : Addr) (n : Nat) (a : Addr) : (w.freeze p n).cell? a = w.cell? a := by
 unfold World.freeze
 split
 · rfl
 · simp only [World.cell?, Array.getElem?_modify]
   by_cases e : p.block = a.block
   · rw [if_pos e]
     cases w.heap[a.block]? with
     | none => rfl
     | some o => cases o <;> rfl
   · rw [if_neg e]
theorem Conf.kill {c : Ctx} {w : World} {st : St} (h : Conf c w st) {id : Nat} {t : Tok} (ht : c.tok[id]? = some t) (hl : t.len ≤ maxLen) {g : Nat} (hg : t.val.ownBlock = some g) (n : Nat) :
   Conf (c.kill id t) (w.drew.freeze ⟨g, 0, none⟩ n) { st with toks := st.toks.set id (t.e, t.sz, maxLen + 1) } ∧ Ext c (c.kill id t) := by
 have hid : id < c.tok.length := (List.getElem?_eq_some_iff.1 ht).1
 have hext : Ext c (c.kill id t) := by
   refine ⟨fun _ _ _ h => h, fun _ _ h => h, fun j s hj => ?_, rfl, rfl⟩
   by_cases hji : j = id
   · subst hji
     rw [ht] at hj
     have : s = t := (Option.some.inj hj).symm
     subst this
     exact ⟨{ s with val := .slice none 0 0, len := maxLen + 1 }, by simp only [Ctx.kill]; rw [List.getElem?_set_self hid], rfl, by simp only; omega, fun e => by simp only at e; omega⟩
   · exact ⟨s, by simp only [Ctx.kill]; rw [List.getElem?_set_ne (Ne.symm hji)]; exact hj, rfl, Nat.le_refl _, fun _ => rfl⟩
 obtain ⟨h0, hdd | ⟨xs, ho, hgg⟩⟩ := h.tokown id t ht
 · have := hdd.1; omega
 obtain ⟨_, _, hgmu⟩ := hgg g hg
 have hbg := (ho.lt g hg).1
 have hsz : (w.drew.freeze ⟨g, 0, none⟩ n).heap.size = w.heap.size := by
   unfold World.freeze; split
   · rfl
   · simp
 have hos : (w.drew.freeze ⟨g, 0, none⟩ n).os = w.os ∧ (w.drew.freeze ⟨g, 0, none⟩ n).tape = w.tape ∧ (w.drew.freeze ⟨g, 0, none⟩ n).output = w.output := by
   unfold World.freeze; split <;> exact ⟨rfl, rfl, rfl⟩
 have hgr : w.grownBy (w.drew.freeze ⟨g, 0, none⟩ n) (some g) := ⟨hos.1, hos.2.1, hos.2.2, by omega, fun k _ hk => freeze_other w.drew g n k (fun e => hk (by rw [e]))⟩
 refine ⟨{
   mulen := h.mulen
   muinj := h.muinj
   mubase := h.mubase
   muH := h.muH
   blk := ?_
   toklen := by simp only [Ctx.kill, List.map_set, h.toklen]
   tokown := ?_
   tokinj := ?_
   sealed := ?_
   below := h.below.trans ⟨hos.1, hos.2.1, hos.2.2, by omega, fun k hk => freeze_other w.drew g n k (by simp only [Ctx.kill] at *; omega)⟩
   basele := by rw [hsz]; exact h.basele }, hext⟩
 · intro b k B hk hB
   obtain ⟨o, ho', hr⟩ := h.blk b k B hk hB
   have hne : k ≠ g := fun e => hgmu (e ▸ List.mem_of_getElem? hk)
   exact ⟨o, by rw [freeze_other w.drew g n k hne]; exact ho', hr.mono hext⟩
 · intro j s hj
   by_cases hji : j = id
   · subst hji
     simp only [Ctx.kill, List.getElem?_set_self hid, Option.some.injEq] at hj
     subst hj
     exact ⟨h0, .inl ⟨Nat.lt_succ_self _, rfl⟩⟩
   · simp only [Ctx.kill, List.getElem?_set_ne (Ne.symm hji)] at hj
     obtain ⟨h1, hd | ⟨ys, ho', hg'⟩⟩ := h.tokown j s hj
     · exact ⟨h1, .inl hd⟩
     · refine ⟨h1, .inr ⟨ys, ho'.kept hgr ?_, hg'⟩⟩
       cases hb : s.val.ownBlock with
       | none => exact .inl rfl
       | some g' =>
         refine .inr fun e => hji ?_
         have : g' = g := Option.some.inj e
         subst this
         exact h.tokinj j id s t g' hj ht hb hg
 · intro i j s u g' hi hj hs hu
   by_cases hii : i = id
   · subst hii
     simp only [Ctx.kill, List.getElem?_set_self hid, Option.some.injEq] at hi
     subst hi
     simp [Value.ownBlock] at hs
   · by_cases hjj : j = id
     · subst hjj
       simp only [Ctx.kill, List.getElem?_set_self hid, Option.some.injEq] at hj
       subst hj
       simp [Value.ownBlock] at hu
     · simp only [Ctx.kill, List.getElem?_set_ne (Ne.symm hii)] at hi
       simp only [Ctx.kill, List.getElem?_set_ne (Ne.symm hjj)] at hj
       exact h.tokinj i j s u g' hi hj hs hu
 · intro k o v hv
   rw [freeze_cell]
   exact h.sealed k o v hv
section
variable {P : Program} {G : World → Nat → Prop} {n : NDs} {st0 : St} {Q : AX → Fr → St → Prop} {fr : Fr} {st : St}
theorem bodyQ_retM {fn : Func} {R : Out → St → Prop} {st' s1 : St} {l : List V} {v : V} (m : Nat) (hm : st.toks.length ≤ m) (hs : st'.cut st.blks.length m = s1)
   (ho : ∀ (b : Nat) (B : Blk), s1.blks[b]? = some B → st.blks[b]? = some B ∨ B.within st.blks.length m = true)
   (h : resOf P fr st' fn.results.toList = some l) (hv : (resV l).share = v) (hw : v.within st.blks.length m = true) (hR : R (.ret v) s1) : bodyQ P fn st R .ret fr st' := by
 subst hv hs
 refine ⟨m, ⟨Nat.le_refl _, hm, fun b B h1 h2 => ho b B ?_⟩, l, h, hw, hR⟩
 simp only [St.cut]
 rw [List.getElem?_take_of_lt h1]; exact h2
theorem bodyQ_nrm {fn : Func} {R : Out → St → Prop} {st' : St} (h : bodyQ P fn st R .ret fr st') : bodyQ P fn st R .normal fr st' := h
theorem take_set_len {α : Type} (l : List α) (i : Nat) (x : α) : (l.set i x).take l.length = l.set i x := List.take_of_length_le (by simp)
theorem set_old {N M b : Nat} {B' : Blk} {bs : List Blk} (hw : B'.within N M = true) : ∀ (i : Nat) (B : Blk), (bs.set b B')[i]? = some B → bs[i]? = some B ∨ B.within N M = true := by
 intro i B h
 by_cases hi : i = b
 · subst hi
   by_cases hlt : i < bs.length
   · rw [List.getElem?_set_self hlt, Option.some.injEq] at h; subst h; exact .inr hw
   · rw [List.getElem?_eq_none (by simp; omega)] at h; cases h
 · rw [List.getElem?_set_ne (Ne.symm hi)] at h; exact .inl h
end
end Go.Abs
end
section
namespace Go.Abs
open Go.RowKit
section
variable {P : Program} {G : World → Nat → Prop} {n : NDs} {st0 : St} {Q : AX → Fr → St → Prop}
theorem OMr.run' {all : Array Oper} {muts : List Nat} {res : List Nat} : ∀ {l : List Oper} {fr : Fr} {st : St} {rest : List Oper} {fr' : Fr} {st' : St} {fr'' : Fr} {st'' : St} {i : Nat} {vs ss},
   runL P n all res l fr st = some (rest, fr', st') → OMr P G n all muts (i + (l.length - rest.length)) rest fr' st' vs ss fr'' st'' → ∃ vs1 ss1, ss1.length = l.length - rest.length ∧ OMr P G n all muts i l fr st (vs1 ++ vs) (ss1 ++ ss) fr'' st''
 | [], fr, st, rest, fr', st', fr'', st'', i, vs, ss, h, k => by
   simp only [runL, Option.some.injEq, Prod.mk.injEq] at h
   obtain ⟨rfl, rfl, rfl⟩ := h
   exact ⟨[], [], by simp, by simpa using k⟩
 | o :: r, fr, st, rest, fr', st', fr'', st'', i, vs, ss, h, k => by
   simp only [runL] at h
   split at h
   · split at h
     · rename_i hg
       split at h
       · simp only [Option.some.injEq, Prod.mk.injEq] at h
         obtain ⟨rfl, rfl, rfl⟩ := h
         exact ⟨[], [], by simp, by simpa using k⟩
       · rename_i hne
         split at h
         · rename_i v st1 he
           split at h
           · rename_i hd
             have hlen := OMr.run.runL_len h
             obtain ⟨vs1, ss1, h0, h1⟩ := OMr.run' (i := i + 1) (vs := vs) (ss := ss) h (by
               have : i + 1 + (r.length - rest.length) = i + ((o :: r).length - rest.length) := by simp only [List.length_cons]; omega
               rw [this]; exact k)
             exact ⟨v :: vs1, st1 :: ss1, by simp only [List.length_cons, h0]; omega, .cons i o r fr st v st1 _ _ _ _ (.op _ _ hg he hd) (fun hk => evalOp_reader (by simpa using hne) he (OMr.run.kindO_1 hk)) h1⟩
           · simp at h
         · simp at h
     · rename_i hg
       split at h
       · rename_i hd
         have hlen := OMr.run.runL_len h
         obtain ⟨vs1, ss1, h0, h1⟩ := OMr.run' (i := i + 1) (vs := vs) (ss := ss) h (by
               have : i + 1 + (r.length - rest.length) = i + ((o :: r).length - rest.length) := by simp only [List.length_cons]; omega
               rw [this]; exact k)
         exact ⟨.tup [] :: vs1, st :: ss1, by simp only [List.length_cons, h0]; omega, .cons i o r fr st _ st _ _ _ _ (.skip hg hd) (fun _ => rfl) h1⟩
       · simp at h
     · simp at h
   · simp only [Option.some.injEq, Prod.mk.injEq] at h
     obtain ⟨rfl, rfl, rfl⟩ := h
     exact ⟨[], [], by simp, by simpa using k⟩
def calmB (l : List Oper) (muts : List Nat) (i : Nat) : Bool := l.zipIdx.all fun (o, j) => decide (i ≤ j) || kindO muts j o != 2
structure ExM (P : Program) (l : List Oper) (fr' : Fr) (st st2 : St) (m : Nat) (p : Nat × Nat) : Prop where
 lt : p.1 < m
 hi : p.2 ≤ m + 1
 ex : ∃ o t ty, l[p.1]? = some o ∧ o.op = .load ty (.tmp t) ∧ o.guard = none ∧ (∀ j, wrt l t = some j → j < p.1) ∧ evalLoad P ty (fr' t) st = evalLoad P ty (fr' t) st2
theorem AW.regM (hm : P.follows .mixedOrders = true) {id : Nat} {l post : List Oper} (m : Nat) (ex : List (Nat × Nat)) (hok : drawOK l [m] ex l.length = true) (hcalm : calmB l [m] m = true)
   {dd : Option Tmp} {args : Array Operand} {ats : Array TypeId} {ty : TypeId} {pos : String} {after : Array Edge} {gd : Option (Nat × Bool)} {g : FuncId} {xs : List V} {v : V} {fr fr1 fr3 : Fr} {st st2 st3 : St}
   (h1 : runL P n l.toArray [] l fr st = some ({ dst := dd, op := .call { callee := .value (.func g), args := args, argTypes := ats }, type := ty, pos := pos, after := after, guard := gd } :: post, fr1, st)) (hl : l.length - (post.length + 1) = m)
   (hcall : ∀ args w, (callFunc g args).run P w = .ok (.enter g args) w)
   (hg : goes l.toArray { dst := dd, op := .call { callee := .value (.func g), args := args, argTypes := ats }, type := ty, pos := pos, after := after, guard := gd } fr1 = some true) (hd : dstOK n dd = true)
   (hx : args.toList.map (fun o => (ev fr1 o).share) = xs)
   (h : Acalls P G g xs st (fun q s => q = .ret v ∧ s = st2))
   (h2 : runL P n l.toArray [] post (putA fr1 dd v) st2 = some ([], fr3, st3)) (hex : ∀ p ∈ ex, ExM P l fr3 st st2 m p) (k : Q .normal fr3 st3) : AW P G n st0 (.region id l.toArray true) Q fr st := by
 subst hx
 have hkind : kindO [m] m { dst := dd, op := .call { callee := .value (.func g), args := args, argTypes := ats }, type := ty, pos := pos, after := after, guard := gd } = 2 := by simp [kindO]
 obtain ⟨vs2, ss2, _, hB⟩ := OMr.run' (G := G) (muts := [m]) (i := m + 1) (vs := []) (ss := []) h2 (.nil _ _ _)
 have hstep := OMr.cons m _ post fr1 st v st2 _ _ _ _ (StepOK.call v st2 g [] (.func g) args ats hg rfl rfl hcall hd (by rw [List.append_nil]; exact h)) (fun hk => by rw [hkind] at hk; omega) hB
 obtain ⟨vs1, ss1, hlen1, hA⟩ := OMr.run' (G := G) (muts := [m]) (i := 0) h1 (by simp only [List.length_cons, Nat.zero_add, hl]; exact hstep)
 simp only [List.length_cons, hl] at hlen1
 refine AW.drawnM hm hok hA (fun i hi hmem => ?_) k
 have hE := hex (i, hi) hmem
 obtain ⟨o, t, ty', e1, e2, e3, e4, e5⟩ := hE.ex
 have hspec := hA.spec [] fr (fun i => (vs1 ++ (v :: (vs2 ++ []))).getD i .junk) (fun i => (st :: (ss1 ++ (st2 :: (ss2 ++ [])))).getD i default) rfl (fun j o d ho hd => (drawOK_facts hok ho).dst d hd) (by simp) (by simp) (by
   funext t; unfold valOf; cases wrt ([] ++ l) t <;> simp)
 simp only [List.nil_append, List.length_nil, Nat.zero_le, true_implies] at hspec
 have hsame : ∀ k, k ≤ m → (st :: (ss1 ++ (st2 :: (ss2 ++ [])))).getD k default = st := by
   intro k
   induction k with
   | zero => intro _; rfl
   | succ k ih =>
     intro hk
     have ih := ih (by omega)
     have hkl : k < l.length := by omega
     obtain ⟨s1, s2⟩ := hspec.1 k l[k] (by simp [hkl])
     have hc := List.all_eq_true.1 hcalm (l[k], k) (by rw [List.mem_zipIdx_iff_getElem?]; simp [hkl])
     simp only [Bool.or_eq_true, decide_eq_true_eq, bne_iff_ne, ne_eq] at hc
     have hk2 : kindO [m] k l[k] ≠ 2 := hc.resolve_left (by omega)
     by_cases hk0 : kindO [m] k l[k] = 0
     · have hq : stQuiet l[k].op = true := by
         unfold kindO at hk0
         split at hk0
         · simp at hk0
         · split at hk0
           · assumption
           · split at hk0 <;> simp at hk0
       have := (s1.quiet hq).1
       exact this.trans ih
     · have hk1 : kindO [m] k l[k] = 1 := by
         have : kindO [m] k l[k] = 0 ∨ kindO [m] k l[k] = 1 ∨ kindO [m] k l[k] = 2 := by
           unfold kindO
           split
           · simp
           · split
             · simp
             · split <;> simp
         omega
       exact (s2 hk1).trans ih
 have hafter : (st :: (ss1 ++ (st2 :: (ss2 ++ [])))).getD (m + 1) default = st2 := by
   simp [List.getD_eq_getElem?_getD, hlen1]
 refine ⟨o, t, ty', e1, e2, e3, e4, fun k hk v' s hv hs => ?_⟩
 have hEl := hE.lt
 have hEh := hE.hi
 simp only at hEl hEh
 subst hs
 rw [hsame i (by omega)] at hv
 by_cases hkm : k ≤ m
 · show evalLoad P ty' (fr3 t) ((st :: (ss1 ++ (st2 :: (ss2 ++ [])))).getD k default) = some v'
   rw [hsame k hkm]; exact hv
 · have : k = m + 1 := by omega
   subst this
   show evalLoad P ty' (fr3 t) ((st :: (ss1 ++ (st2 :: (ss2 ++ [])))).getD (m + 1) default) = some v'
   rw [hafter, ← e5]; exact hv
theorem OMr.specP {all : Array Oper} {muts : List Nat} (L : List Oper) (fr0 : Fr) (W : Nat → V) (T : Nat → St) (hd : ∀ j o d, L[j]? = some o → o.dst = some d → wrt L d = some j) :
   ∀ {l : List Oper} {fr : Fr} {st : St} {vs : List V} {ss : List St} {fr' : Fr} {st' : St} {q : Nat}, OMr P G n all muts q l fr st vs ss fr' st' → (∀ i, i < l.length → L[q + i]? = l[i]?) →
     (∀ i, i < l.length → W (q + i) = vs.getD i .junk) → (∀ i, i ≤ l.length → T (q + i) = (st :: ss).getD i default) → fr = valOf L fr0 W (fun k => decide (k < q)) →
     (∀ i o, q ≤ i → i < q + l.length → L[i]? = some o → StepOK P G n all o (valOf L fr0 W (fun k => decide (k < i))) (T i) (W i) (T (i + 1)) ∧ (kindO muts i o = 1 → T (i + 1) = T i)) ∧
     fr' = valOf L fr0 W (fun k => decide (k < q + l.length)) ∧ st' = T (q + l.length) := by
 intro l
 induction l with
 | nil =>
   intro fr st vs ss fr' st' q h hL hW hT hfr
   cases h
   refine ⟨fun i o h1 h2 => by simp at h2; omega, by simpa using hfr, ?_⟩
   have := hT 0 (Nat.le_refl _)
   simpa using this.symm
 | cons o r ih =>
   intro fr st vs ss fr' st' q h hL hW hT hfr
   cases h with
   | cons _ _ _ _ _ v st1 vs ss _ _ hs hk hr =>
     have hlo : L[q]? = some o := by have := hL 0 (by simp); simpa using this
     have hv : W q = v := by have := hW 0 (by simp); simpa using this
     have t0 : T q = st := by have := hT 0 (by simp); simpa using this
     have t1 : T (q + 1) = st1 := by have := hT 1 (by simp); simpa using this
     have hput : putA fr o.dst v = valOf L fr0 W (fun k => decide (k < q + 1)) := by
       funext t
       rw [hfr]
       unfold putA
       cases hdst : o.dst with
       | none =>
         simp only [valOf]
         cases hw : wrt L t with
         | none => rfl
         | some i =>
           have hi : i ≠ q := by
             rintro rfl
             obtain ⟨o', h1, h2⟩ := wrt_some hw
             rw [hlo] at h1
             cases h1
             rw [hdst] at h2
             cases h2
           have : (decide (i < q)) = decide (i < q + 1) := by simp; omega
           simp only [this]
       | some d =>
         simp only [upd]
         split
         · rename_i htd
           subst htd
           simp only [valOf, hd q o t hlo hdst]
           simp [hv]
         · rename_i htd
           simp only [valOf]
           cases hw : wrt L t with
           | none => rfl
           | some i =>
             have hi : i ≠ q := by
               rintro rfl
               obtain ⟨o', h1, h2⟩ := wrt_some hw
               rw [hlo] at h1
               cases h1
               rw [hdst] at h2
               cases h2
               exact htd rfl
             have : (decide (i < q)) = decide (i < q + 1) := by simp; omega
             simp only [this]
     obtain ⟨h1, h2, h3⟩ := ih hr (fun i hi => by have := hL (i + 1) (by simpa using hi); rw [show q + 1 + i = q + (i + 1) by omega, this]; simp) (fun i hi => by
         have := hW (i + 1) (by simpa using hi)
         rw [show q + 1 + i = q + (i + 1) by omega, this]; simp) (fun i hi => by
         have := hT (i + 1) (by simpa using hi)
         rw [show q + 1 + i = q + (i + 1) by omega, this]; simp) hput
     have hlen : q + 1 + r.length = q + (o :: r).length := by simp only [List.length_cons]; omega
     rw [hlen] at h1 h2 h3
     refine ⟨fun i o' hi hi2 ho' => ?_, h2, h3⟩
     by_cases he : i = q
     · subst he
       rw [hlo] at ho'
       cases ho'
       rw [t0, t1, hv, ← hfr]
       exact ⟨hs, hk⟩
     · exact h1 i o' (by omega) hi2 ho'
theorem runL_take {all : Array Oper} {res : List Nat} {muts : List Nat} : ∀ {l rest : List Oper} {fr fr' : Fr} {st st' : St} (i : Nat), runL P n all res l fr st = some (rest, fr', st') →
   ∃ vs ss pre, l = pre ++ rest ∧ ss.length = pre.length ∧ OMr P G n all muts i pre fr st vs ss fr' st'
 | [], rest, fr, fr', st, st', i, h => by
   simp only [runL, Option.some.injEq, Prod.mk.injEq] at h
   obtain ⟨rfl, rfl, rfl⟩ := h
   exact ⟨[], [], [], rfl, rfl, .nil _ _ _⟩
 | o :: r, rest, fr, fr', st, st', i, h => by
   simp only [runL] at h
   split at h
   · split at h
     · rename_i hg
       split at h
       · simp only [Option.some.injEq, Prod.mk.injEq] at h
         obtain ⟨rfl, rfl, rfl⟩ := h
         exact ⟨[], [], [], rfl, rfl, .nil _ _ _⟩
       · rename_i hne
         split at h
         · rename_i v st1 he
           split at h
           · rename_i hd
             obtain ⟨vs, ss, pre, e1, e2, e3⟩ := runL_take (i + 1) h
             exact ⟨v :: vs, st1 :: ss, o :: pre, by rw [e1]; rfl, by simp [e2], .cons i o pre fr st v st1 _ _ _ _ (.op _ _ hg he hd) (fun hk => evalOp_reader (by simpa using hne) he (OMr.run.kindO_1 hk)) e3⟩
           · simp at h
         · simp at h
     · rename_i hg
       split at h
       · rename_i hd
         obtain ⟨vs, ss, pre, e1, e2, e3⟩ := runL_take (i + 1) h
         exact ⟨.tup [] :: vs, st :: ss, o :: pre, by rw [e1]; rfl, by simp [e2], .cons i o pre fr st _ st _ _ _ _ (.skip hg hd) (fun _ => rfl) e3⟩
       · simp at h
     · simp at h
   · simp only [Option.some.injEq, Prod.mk.injEq] at h
     obtain ⟨rfl, rfl, rfl⟩ := h
     exact ⟨[], [], [], rfl, rfl, .nil _ _ _⟩
theorem AW.regMP (hm : P.follows .mixedOrders = true) {id : Nat} {l post : List Oper} (m : Nat) (ex : List (Nat × Nat)) (hok : drawOK l [m] ex m = true) (hcalm : calmB l [m] m = true)
   {dd : Option Tmp} {args : Array Operand} {ats : Array TypeId} {ty : TypeId} {pos : String} {after : Array Edge} {gd : Option (Nat × Bool)} {g : FuncId} {xs : List V} {v : V} {fr fr1 : Fr} {st st2 : St}
   (h1 : runL P n l.toArray [] l fr st = some ({ dst := dd, op := .call { callee := .value (.func g), args := args, argTypes := ats }, type := ty, pos := pos, after := after, guard := gd } :: post, fr1, st)) (hl : l.length - (post.length + 1) = m)
   (hcall : ∀ args w, (callFunc g args).run P w = .ok (.enter g args) w)
   (hg : goes l.toArray { dst := dd, op := .call { callee := .value (.func g), args := args, argTypes := ats }, type := ty, pos := pos, after := after, guard := gd } fr1 = some true)
   (hx : args.toList.map (fun o => (ev fr1 o).share) = xs)
   (h : Acalls P G g xs st (fun q s => q = .pan v ∧ s = st2)) (k : ∀ fr, Q (.pan v) fr st2) : AW P G n st0 (.region id l.toArray true) Q fr st := by
 subst hx
 obtain ⟨vs, ss, pre, e1, e2, hA⟩ := runL_take (G := G) (muts := [m]) 0 h1
 have hpl : pre.length = m := by
   have := congrArg List.length e1
   simp only [List.length_append, List.length_cons] at this
   omega
 have hlm : l[m]? = some { dst := dd, op := .call { callee := .value (.func g), args := args, argTypes := ats }, type := ty, pos := pos, after := after, guard := gd } := by rw [e1, ← hpl]; simp
 have hml : m < l.length := (List.getElem?_eq_some_iff.1 hlm).1
 have hdst : ∀ j o d, l[j]? = some o → o.dst = some d → wrt l d = some j := fun j o d ho hd => (drawOK_facts hok ho).dst d hd
 obtain ⟨s1, s2, s3⟩ := hA.specP l fr (fun i => vs.getD i .junk) (fun i => (st :: ss).getD i default) hdst (fun i hi => by rw [e1, Nat.zero_add, List.getElem?_append_left hi]) (by simp) (by simp) (by
   funext t; unfold valOf; cases wrt l t <;> simp)
 simp only [Nat.zero_add, hpl, Nat.zero_le, true_implies] at s1 s2 s3
 have hsame : ∀ k, k ≤ m → (st :: ss).getD k default = st := by
   intro k
   induction k with
   | zero => intro _; rfl
   | succ k ih =>
     intro hk
     have ih := ih (by omega)
     have hkl : k < l.length := by omega
     obtain ⟨q1, q2⟩ := s1 k l[k] (by omega) (by simp [hkl])
     have hc := List.all_eq_true.1 hcalm (l[k], k) (by rw [List.mem_zipIdx_iff_getElem?]; simp [hkl])
     simp only [Bool.or_eq_true, decide_eq_true_eq, bne_iff_ne, ne_eq] at hc
     have hk2 : kindO [m] k l[k] ≠ 2 := hc.resolve_left (by omega)
     by_cases hk0 : kindO [m] k l[k] = 0
     · have hq : stQuiet l[k].op = true := by
         unfold kindO at hk0
         split at hk0
         · simp at hk0
         · split at hk0
           · assumption
           · split at hk0 <;> simp at hk0
       exact ((q1.quiet hq).1).trans ih
     · have hk1 : kindO [m] k l[k] = 1 := by
         have : kindO [m] k l[k] = 0 ∨ kindO [m] k l[k] = 1 ∨ kindO [m] k l[k] = 2 := by
           unfold kindO
           split
           · simp
           · split
             · simp
             · split <;> simp
         omega
       exact (q2 hk1).trans ih
 intro c0 c w a h0 he hc hgg hf hs hdf
 have hg0 : G c0.w0 c0.base := by rw [← he.w0, ← he.base]; exact hgg
 have R : Run P G n l [m] ex m fr (fun i => vs.getD i .junk) (fun i => (st :: ss).getD i default) := by
   refine ⟨hok, by omega, fun i o hi ho => (s1 i o hi ho).1, fun i o hi ho => (s1 i o hi ho).2, ?_, trivial⟩
   intro i hi o hmem ho him k hk hkm
   have := (s1 i o him ho).1
   have t1 := hsame i (by omega)
   have t2 := hsame (i + 1) (by omega)
   have t3 := hsame k hkm
   rw [t1, t2] at this
   show StepOK P G n l.toArray o _ ((st :: ss).getD k default) (vs.getD i .junk) ((st :: ss).getD k default)
   rw [t3]; exact this
 refine wp_region_any hm ?_
 have hrep : ∀ i, (Array.replicate l.toArray.size false).getD i false = false := fun i => by
   rw [Array.getD_eq_getD_getElem?, Array.getElem?_replicate]
   split <;> rfl
 refine wpAny_run R hg0 (.inr ⟨_, hlm, by simp [kindO], v, st2, g, [], .func g, args, ats, by rw [← s2]; exact hg, rfl, rfl, hcall, ?_, k⟩) _ _ 0 a _ c ?_ ?_ he (drew_conf hc) ?_ hs hdf
 · have t1 := hsame m (Nat.le_refl _)
   rw [List.append_nil, ← s2]
   show Acalls P G g _ ((st :: ss).getD m default) _
   rw [t1]; exact h
 · refine ⟨by simp, fun j o _ hj => ?_, fun j hj => ?_, Nat.zero_le _, fun i o _ _ => ?_⟩
   · exact absurd hj (by rw [hrep]; simp)
   · exact absurd hj (by rw [hrep]; simp)
   · rw [hrep]; simp
 · exact Nat.le_trans Array.count_le_size (by simp)
 · intro t
   have := hf t
   unfold valOf
   cases wrt l t with
   | none => exact this
   | some i => simp only [hrep]; exact this
theorem exM_nil {l : List Oper} {fr' : Fr} {st st2 : St} {m : Nat} : ∀ p ∈ ([] : List (Nat × Nat)), ExM P l fr' st st2 m p := fun _ h => by cases h
theorem exM_cons {l : List Oper} {fr' : Fr} {st st2 : St} {m i hi : Nat} {ps : List (Nat × Nat)} {dd : Option Tmp} {ty : TypeId} {t : Tmp} {tt : TypeId} {pos : String} {after : Array Edge} (h1 : i < m) (h2 : hi ≤ m + 1)
   (h3 : l[i]? = some ⟨dd, .load ty (.tmp t), tt, pos, after, none⟩) (h4 : (match wrt l t with | some j => decide (j < i) | none => true) = true) (h5 : evalLoad P ty (fr' t) st = evalLoad P ty (fr' t) st2)
   (hr : ∀ p ∈ ps, ExM P l fr' st st2 m p) : ∀ p ∈ (i, hi) :: ps, ExM P l fr' st st2 m p := by
 intro p hp
 rcases List.mem_cons.1 hp with rfl | hp
 · exact ⟨h1, h2, _, t, ty, h3, rfl, rfl, fun j hj => by rw [hj] at h4; simpa using h4, h5⟩
 · exact hr p hp
end
end Go.Abs
end
section
namespace Go.Abs
open Go.RowKit
open Go.Sort (grow heap_grow_old size_grow)
theorem Below.grow' (w : World) (k : Nat) (os : Array Obj) : Below w.heap.size w (grow (w.drewN k) os) :=
 ⟨rfl, rfl, rfl, by simp [World.drewN], fun j hj => by rw [heap_grow_old (w.drewN k) os (by exact hj)]; rfl⟩
theorem Conf.later {c : Ctx} {w w' : World} {st : St} (h : Conf c w st) (hb : Below w.heap.size w w') : Conf c w' st where
 mulen := h.mulen
 muinj := h.muinj
 mubase := h.mubase
 muH := h.muH
 blk := fun b k B hk hB => let ⟨o, ho, hr⟩ := h.blk b k B hk hB; ⟨o, by rw [hb.block k (h.mult hk)]; exact ho, hr⟩
 toklen := h.toklen
 tokown := by
   intro id t ht
   obtain ⟨h0, hd | ⟨xs, ⟨hx, ho⟩, hg⟩⟩ := h.tokown id t ht
   · exact ⟨h0, .inl hd⟩
   · refine ⟨h0, .inr ⟨xs, ⟨hx, ?_⟩, hg⟩⟩
     rcases ho with ho | ⟨g, cap, cur, hv, hbg, hh, hrest⟩
     · exact .inl ho
     · refine .inr ⟨g, cap, cur, hv, hbg, ?_, hrest⟩
       rw [hb.block g (Array.getElem?_eq_some_iff.1 hh).1]
       exact hh
 tokinj := h.tokinj
 sealed := by
   intro k o v hv
   have := h.sealed k o v hv
   rw [World.cell?_of_block (hb.block k (World.block_lt_of_cell? w _ this))]
   exact this
 below := h.below.trans (hb.mono h.basele)
 basele := Nat.le_trans h.basele hb.size
end Go.Abs
end
section
namespace Go.Abs
open Go.RowKit
def shO (M N : List Blk) : Prop := N.length = M.length ∧ ∀ (i : Nat) (B B' : Blk), M[i]? = some B → N[i]? = some B' → B' = B ∨ B' = shB B
theorem shO.refl (M : List Blk) : shO M M := ⟨rfl, fun i B B' h1 h2 => .inl (by rw [h1] at h2; injection h2 with h; exact h.symm)⟩
theorem shO.app {M N L L' : List Blk} (h : shO M N) (hl : L.map shB = L') : shO (M ++ L) (N ++ L') := by
 subst hl
 refine ⟨by simp [h.1], fun i B B' h1 h2 => ?_⟩
 by_cases hi : i < M.length
 · rw [List.getElem?_append_left hi] at h1
   rw [List.getElem?_append_left (by rw [h.1]; exact hi)] at h2
   exact h.2 i B B' h1 h2
 · rw [List.getElem?_append_right (by omega)] at h1
   rw [List.getElem?_append_right (by rw [h.1]; omega), List.getElem?_map, h.1, h1] at h2
   exact .inr (by simpa using h2.symm)
section
variable {P : Program} {G : World → Nat → Prop} {n : NDs} {st0 : St} {Q : AX → Fr → St → Prop} {fr : Fr} {st : St}
structure NxtTW {τ : Type} (st0 : St) (σ : τ → List (Nat × V)) (S : τ → St) (p : τ → Prop) (μ : τ → Nat) (x : τ) (fr : Fr) (st : St) (x' : τ) : Prop where
 slots : okF fr (σ x')
 ok : p x'
 less : μ x' < μ x
 state : ∃ M, st.cut (S x').blks.length (S x').toks.length = ⟨M, (S x').toks⟩ ∧ shO M (S x').blks ∧ ∀ (b : Nat) (B : Blk), M[b]? = some B → st0.blks[b]? = some B ∨ B.within (S x').blks.length (S x').toks.length = true
 blks : st0.blks.length ≤ (S x').blks.length
 toks : st0.toks.length ≤ (S x').toks.length
 win : okW (S x').blks.length (S x').toks.length (σ x') = true
theorem AW.loopTW {τ : Type} (σ : τ → List (Nat × V)) (S : τ → St) (p : τ → Prop) (μ : τ → Nat) (x0 : τ) {body : Code} {M0 : List Blk}
   (hst : st = ⟨M0, (S x0).toks⟩) (hM : shO M0 (S x0).blks) (h0 : okF fr (σ x0)) (hp : p x0)
   (round : ∀ x, p x → AW P G n st0 body (thenQ (fun fr' st' => ∃ x', NxtTW st0 σ S p μ x fr' st' x') Q) (frOf (σ x)) (S x)) : AW P G n st0 (.loop body) Q fr st := by
 subst hst
 refine AW.prune (frOf (σ x0)) (frOf_prune h0) ?_
 intro c0 c w a h0' he0 hc hg hf hs hd
 refine wp_loop_ghost (fun k a w => ∃ x c1, p x ∧ μ x = k ∧ Ext c0 c1 ∧ Conf c1 w (S x) ∧ FrRel c1 a.tmps (frOf (σ x)) ∧ a.tmps.size = n.sz ∧ a.defers = n.ds) (μ x0)
   ⟨x0, c, hp, rfl, he0, hc.shB hM.1 hM.2, hf, hs, hd⟩ ?_
 rintro k a1 w1 ⟨x, c1, hI, rfl, he, hc1, hf1, hs1, hd1⟩
 refine wp_mono (round x hI c0 c1 w1 a1 h0' he hc1 (by rw [he.w0, he.base, ← he0.w0, ← he0.base]; exact hg) hf1 hs1 hd1) ?_
 rintro e a2 w2 ⟨x2, fr2, st2, c2, hq, he2, hc2, hf2, hs2, hd2, hx⟩
 cases e <;> cases x2 <;> simp only [XRel] at hx
 · obtain ⟨x', hN⟩ := hq
   obtain ⟨M, hst, hsh, hold⟩ := hN.state
   have hb : st2.blks.take (S x').blks.length = M := congrArg St.blks hst
   have hcut : CutOK st0 st2 (S x').blks.length (S x').toks.length := by
     refine ⟨hN.blks, hN.toks, fun b B hlt hB => hold b B ?_⟩
     rw [← hb, List.getElem?_take_of_lt hlt]; exact hB
   obtain ⟨h1, h2⟩ := hcut.conf h0' he2 hc2
   refine ⟨_, hN.less, x', _, hN.ok, rfl, h2, ?_, ?_, hs2, hd2⟩
   · rw [hst] at h1; exact h1.shB hsh.1 hsh.2
   · have := hf2.sweep (S x').blks.length (S x').toks.length
     intro t
     rcases frOf_prune (okF_sweep hN.slots hN.win) t with e | e <;> rw [e]
     · exact this t
     · exact .junk _
 · exact ⟨.exit _, fr2, st2, c2, hq, he2, hc2, hf2, hs2, hd2, hx⟩
 · exact ⟨.ret, fr2, st2, c2, hq, he2, hc2, hf2, hs2, hd2, trivial⟩
 · exact ⟨.pan _, fr2, st2, c2, hq, he2, hc2, hf2, hs2, hd2, hx⟩
end
end Go.Abs
end
section
namespace Go.Proofs
open Go.Shelf
def Tryz.laysM171_ren : Go.Shelf.Ren := ⟨fun | 171 => 134 | 243 => 165 | 246 => 181 | 283 => 193 | 284 => 194 | 285 => 195 | 286 => 196 | 129 => 204 | 317 => 203 | 318 => 205 | 319 => 206 | 320 => 207 | 337 => 215 | 338 => 216 | n => n, fun | 3 => 3 | 9 => 9 | 2 => 2 | 4 => 4 | 171 => 160 | 0 => 0 | 53 => 161 | 37 => 46 | 5 => 5 | 173 => 164 | 212 => 171 | 51 => 172 | 20 => 20 | 213 => 173 | 46 => 174 | 232 => 194 | 233 => 195 | n => n, fun | 17 => 1 | 18 => 6 | 19 => 7 | n => n⟩
theorem Tryz.laysM171 : Go.Proofs.LaysM.n171 Tryz.prog Tryz.laysM171_ren := {
 mixed := by kernel_rfl
 f129 := Tryz.func204.trans (congrArg some (by kernel_rfl))
 f171 := Tryz.func134.trans (congrArg some (by kernel_rfl))
 f243 := Tryz.func165.trans (congrArg some (by kernel_rfl))
 f246 := Tryz.func181.trans (congrArg some (by kernel_rfl))
 f283 := Tryz.func193.trans (congrArg some (by kernel_rfl))
 f284 := Tryz.func194.trans (congrArg some (by kernel_rfl))
 f285 := Tryz.func195.trans (congrArg some (by kernel_rfl))
 f286 := Tryz.func196.trans (congrArg some (by kernel_rfl))
 f317 := Tryz.func203.trans (congrArg some (by kernel_rfl))
 f318 := Tryz.func205.trans (congrArg some (by kernel_rfl))
 f319 := Tryz.func206.trans (congrArg some (by kernel_rfl))
 f320 := Tryz.func207.trans (congrArg some (by kernel_rfl))
 f337 := Tryz.func215.trans (congrArg some (by kernel_rfl))
 f338 := Tryz.func216.trans (congrArg some (by kernel_rfl))
 t0 := Tryz.underlying0
 a0 := Tryz.isAgg0
 z0 := Tryz.sizeOf0
 v0 := Tryz.zeroValue0
 t2 := Tryz.underlying2
 a2 := Tryz.isAgg2
 z2 := Tryz.sizeOf2
 v2 := Tryz.zeroValue2
 t3 := Tryz.underlying3
 a3 := Tryz.isAgg3
 z3 := Tryz.sizeOf3
 v3 := Tryz.zeroValue3
 t4 := Tryz.underlying4
 a4 := Tryz.isAgg4
 z4 := Tryz.sizeOf4
 v4 := Tryz.zeroValue4
 t5 := Tryz.underlying5
 a5 := Tryz.isAgg5
 z5 := Tryz.sizeOf5
 v5 := Tryz.zeroValue5
 t9 := Tryz.underlying9
 a9 := Tryz.isAgg9
 z9 := Tryz.sizeOf9
 v9 := Tryz.zeroValue9
 t20 := Tryz.underlying20
 a20 := Tryz.isAgg20
 z20 := Tryz.sizeOf20
 v20 := Tryz.zeroValue20
 t37 := Tryz.underlying46
 a37 := Tryz.isAgg46
 z37 := Tryz.sizeOf46
 v37 := Tryz.zeroValue46
 t46 := Tryz.underlying174
 a46 := Tryz.isAgg174
 z46 := Tryz.sizeOf174
 v46 := Tryz.zeroValue174
 t51 := Tryz.underlying172
 a51 := Tryz.isAgg172
 z51 := Tryz.sizeOf172
 v51 := Tryz.zeroValue172
 t53 := Tryz.underlying161
 a53 := Tryz.isAgg161
 z53 := Tryz.sizeOf161
 v53 := Tryz.zeroValue161
 t171 := Tryz.underlying160
 a171 := Tryz.isAgg160
 z171 := Tryz.sizeOf160
 v171 := Tryz.zeroValue160
 t173 := Tryz.underlying164
 a173 := Tryz.isAgg164
 z173 := Tryz.sizeOf164
 v173 := Tryz.zeroValue164
 t212 := Tryz.underlying171
 a212 := Tryz.isAgg171
 z212 := Tryz.sizeOf171
 v212 := Tryz.zeroValue171
 t213 := Tryz.underlying173
 a213 := Tryz.isAgg173
 z213 := Tryz.sizeOf173
 t232 := Tryz.underlying194
 a232 := Tryz.isAgg194
 z232 := Tryz.sizeOf194
 v232 := Tryz.zeroValue194
 t233 := Tryz.underlying195
 a233 := Tryz.isAgg195
 z233 := Tryz.sizeOf195
 v233 := Tryz.zeroValue195
 g17 := by kernel_rfl
 g18 := by kernel_rfl
 g19 := by kernel_rfl
 i0 := by kernel_rfl
 i2 := by kernel_rfl
 i3 := by kernel_rfl
 i4 := by kernel_rfl
 i5 := by kernel_rfl
 i9 := by kernel_rfl
 i20 := by kernel_rfl
 i37 := by kernel_rfl
 i46 := by kernel_rfl
 i51 := by kernel_rfl
 i53 := by kernel_rfl
 i171 := by kernel_rfl
 i173 := by kernel_rfl
 i212 := by kernel_rfl
 i232 := by kernel_rfl
 i233 := by kernel_rfl
 m17 := by kernel_rfl
 m18 := by kernel_rfl
 m19 := by kernel_rfl }
def Tryz.laysC172_ren : Go.Shelf.Ren := ⟨fun | 172 => 187 | 244 => 200 | 245 => 201 | 247 => 210 | 279 => 211 | 280 => 212 | 281 => 213 | 282 => 214 | 287 => 221 | 316 => 222 | 171 => 134 | 205 => 223 | 321 => 225 | 322 => 226 | 243 => 165 | 246 => 181 | 283 => 193 | 284 => 194 | 285 => 195 | 286 => 196 | 129 => 204 | 317 => 203 | 318 => 205 | 319 => 206 | 320 => 207 | 337 => 215 | 338 => 216 | n => n, fun | 9 => 9 | 3 => 3 | 75 => 113 | 76 => 129 | 4 => 4 | 5 => 5 | 167 => 177 | 37 => 46 | 0 => 0 | 85 => 178 | 2 => 2 | 168 => 180 | 53 => 161 | 175 => 189 | 46 => 174 | 210 => 192 | 127 => 135 | 145 => 199 | 143 => 197 | 21 => 21 | 171 => 160 | 173 => 164 | 212 => 171 | 51 => 172 | 20 => 20 | 213 => 173 | 232 => 194 | 233 => 195 | 80 => 108 | n => n, fun | 15 => 4 | 16 => 5 | 17 => 1 | 18 => 6 | 19 => 7 | n => n⟩
theorem Tryz.laysC172 : Go.Proofs.LaysC.n172 Tryz.prog Tryz.laysC172_ren := {
 mixed := by kernel_rfl
 f129 := Tryz.func204.trans (congrArg some (by kernel_rfl))
 f171 := Tryz.func134.trans (congrArg some (by kernel_rfl))
 f172 := Tryz.func187.trans (congrArg some (by kernel_rfl))
 f205 := Tryz.func223.trans (congrArg some (by kernel_rfl))
 f243 := Tryz.func165.trans (congrArg some (by kernel_rfl))
 f244 := Tryz.func200.trans (congrArg some (by kernel_rfl))
 f245 := Tryz.func201.trans (congrArg some (by kernel_rfl))
 f246 := Tryz.func181.trans (congrArg some (by kernel_rfl))
 f247 := Tryz.func210.trans (congrArg some (by kernel_rfl))
 f279 := Tryz.func211.trans (congrArg some (by kernel_rfl))
 f280 := Tryz.func212.trans (congrArg some (by kernel_rfl))
 f281 := Tryz.func213.trans (congrArg some (by kernel_rfl))
 f282 := Tryz.func214.trans (congrArg some (by kernel_rfl))
 f283 := Tryz.func193.trans (congrArg some (by kernel_rfl))
 f284 := Tryz.func194.trans (congrArg some (by kernel_rfl))
 f285 := Tryz.func195.trans (congrArg some (by kernel_rfl))
 f286 := Tryz.func196.trans (congrArg some (by kernel_rfl))
 f287 := Tryz.func221.trans (congrArg some (by kernel_rfl))
 f316 := Tryz.func222.trans (congrArg some (by kernel_rfl))
 f317 := Tryz.func203.trans (congrArg some (by kernel_rfl))
 f318 := Tryz.func205.trans (congrArg some (by kernel_rfl))
 f319 := Tryz.func206.trans (congrArg some (by kernel_rfl))
 f320 := Tryz.func207.trans (congrArg some (by kernel_rfl))
 f321 := Tryz.func225.trans (congrArg some (by kernel_rfl))
 f322 := Tryz.func226.trans (congrArg some (by kernel_rfl))
 f337 := Tryz.func215.trans (congrArg some (by kernel_rfl))
 f338 := Tryz.func216.trans (congrArg some (by kernel_rfl))
 t0 := Tryz.underlying0
 a0 := Tryz.isAgg0
 z0 := Tryz.sizeOf0
 v0 := Tryz.zeroValue0
 t2 := Tryz.underlying2
 a2 := Tryz.isAgg2
 z2 := Tryz.sizeOf2
 v2 := Tryz.zeroValue2
 t3 := Tryz.underlying3
 a3 := Tryz.isAgg3
 z3 := Tryz.sizeOf3
 v3 := Tryz.zeroValue3
 t4 := Tryz.underlying4
 a4 := Tryz.isAgg4
 z4 := Tryz.sizeOf4
 v4 := Tryz.zeroValue4
 t5 := Tryz.underlying5
 a5 := Tryz.isAgg5
 z5 := Tryz.sizeOf5
 v5 := Tryz.zeroValue5
 t9 := Tryz.underlying9
 a9 := Tryz.isAgg9
 z9 := Tryz.sizeOf9
 v9 := Tryz.zeroValue9
 t20 := Tryz.underlying20
 a20 := Tryz.isAgg20
 z20 := Tryz.sizeOf20
 v20 := Tryz.zeroValue20
 t21 := Tryz.underlying21
 a21 := Tryz.isAgg21
 z21 := Tryz.sizeOf21
 v21 := Tryz.zeroValue21
 t37 := Tryz.underlying46
 a37 := Tryz.isAgg46
 z37 := Tryz.sizeOf46
 v37 := Tryz.zeroValue46
 t46 := Tryz.underlying174
 a46 := Tryz.isAgg174
 z46 := Tryz.sizeOf174
 v46 := Tryz.zeroValue174
 t51 := Tryz.underlying172
 a51 := Tryz.isAgg172
 z51 := Tryz.sizeOf172
 v51 := Tryz.zeroValue172
 t53 := Tryz.underlying161
 a53 := Tryz.isAgg161
 z53 := Tryz.sizeOf161
 v53 := Tryz.zeroValue161
 t75 := Tryz.underlying113
 a75 := Tryz.isAgg113
 z75 := Tryz.sizeOf113
 v75 := Tryz.zeroValue113
 t76 := Tryz.underlying129
 a76 := Tryz.isAgg129
 z76 := Tryz.sizeOf129
 v76 := Tryz.zeroValue129
 t85 := Tryz.underlying178
 a85 := Tryz.isAgg178
 z85 := Tryz.sizeOf178
 v85 := Tryz.zeroValue178
 t127 := Tryz.underlying135
 a127 := Tryz.isAgg135
 z127 := Tryz.sizeOf135
 v127 := Tryz.zeroValue135
 t143 := Tryz.underlying197
 a143 := Tryz.isAgg197
 z143 := Tryz.sizeOf197
 v143 := Tryz.zeroValue197
 t145 := Tryz.underlying199
 a145 := Tryz.isAgg199
 z145 := Tryz.sizeOf199
 v145 := Tryz.zeroValue199
 t167 := Tryz.underlying177
 a167 := Tryz.isAgg177
 z167 := Tryz.sizeOf177
 v167 := Tryz.zeroValue177
 t168 := Tryz.underlying180
 a168 := Tryz.isAgg180
 z168 := Tryz.sizeOf180
 v168 := Tryz.zeroValue180
 t171 := Tryz.underlying160
 a171 := Tryz.isAgg160
 z171 := Tryz.sizeOf160
 v171 := Tryz.zeroValue160
 t173 := Tryz.underlying164
 a173 := Tryz.isAgg164
 z173 := Tryz.sizeOf164
 v173 := Tryz.zeroValue164
 t175 := Tryz.underlying189
 a175 := Tryz.isAgg189
 z175 := Tryz.sizeOf189
 v175 := Tryz.zeroValue189
 t210 := Tryz.underlying192
 a210 := Tryz.isAgg192
 z210 := Tryz.sizeOf192
 v210 := Tryz.zeroValue192
 t212 := Tryz.underlying171
 a212 := Tryz.isAgg171
 z212 := Tryz.sizeOf171
 v212 := Tryz.zeroValue171
 t213 := Tryz.underlying173
 a213 := Tryz.isAgg173
 z213 := Tryz.sizeOf173
 t232 := Tryz.underlying194
 a232 := Tryz.isAgg194
 z232 := Tryz.sizeOf194
 v232 := Tryz.zeroValue194
 t233 := Tryz.underlying195
 a233 := Tryz.isAgg195
 z233 := Tryz.sizeOf195
 v233 := Tryz.zeroValue195
 g15 := by kernel_rfl
 g16 := by kernel_rfl
 g17 := by kernel_rfl
 g18 := by kernel_rfl
 g19 := by kernel_rfl
 t80 := Tryz.underlying108
 a80 := Tryz.isAgg108
 z80 := Tryz.sizeOf108
 v80 := Tryz.zeroValue108
 i0 := by kernel_rfl
 i2 := by kernel_rfl
 i3 := by kernel_rfl
 i4 := by kernel_rfl
 i5 := by kernel_rfl
 i9 := by kernel_rfl
 i20 := by kernel_rfl
 i21 := by kernel_rfl
 i37 := by kernel_rfl
 i46 := by kernel_rfl
 i51 := by kernel_rfl
 i53 := by kernel_rfl
 i75 := by kernel_rfl
 i76 := by kernel_rfl
 i80 := by kernel_rfl
 i85 := by kernel_rfl
 i127 := by kernel_rfl
 i143 := by kernel_rfl
 i145 := by kernel_rfl
 i167 := by kernel_rfl
 i168 := by kernel_rfl
 i171 := by kernel_rfl
 i173 := by kernel_rfl
 i175 := by kernel_rfl
 i210 := by kernel_rfl
 i212 := by kernel_rfl
 i232 := by kernel_rfl
 i233 := by kernel_rfl
 m15 := by kernel_rfl
 m16 := by kernel_rfl
 m17 := by kernel_rfl
 m18 := by kernel_rfl
 m19 := by kernel_rfl
 c0 := by kernel_rfl
 c2 := by kernel_rfl
 c3 := by kernel_rfl
 c4 := by kernel_rfl
 c5 := by kernel_rfl
 c9 := by kernel_rfl
 c20 := by kernel_rfl
 c21 := by kernel_rfl
 c37 := by kernel_rfl
 c46 := by kernel_rfl
 c51 := by kernel_rfl
 c53 := by kernel_rfl
 c75 := by kernel_rfl
 c76 := by kernel_rfl
 c80 := by kernel_rfl
 c85 := by kernel_rfl
 c127 := by kernel_rfl
 c143 := by kernel_rfl
 c145 := by kernel_rfl
 c167 := by kernel_rfl
 c168 := by kernel_rfl
 c171 := by kernel_rfl
 c173 := by kernel_rfl
 c175 := by kernel_rfl
 c210 := by kernel_rfl
 c212 := by kernel_rfl
 c213 := by kernel_rfl
 c232 := by kernel_rfl
 c233 := by kernel_rfl }
end Go.Proofs
end
section
namespace Go.Proofs.YtofbdmdigopaoaaGreatDoor.T
open Go.Abs
set_option maxRecDepth 100000
theorem st0 : isStr Tryz.prog 0 = false := by kernel_rfl
theorem sl0 : slE Tryz.prog 0 = none := by kernel_rfl
theorem sz1 : szOf Tryz.prog 1 = some 1 := by kernel_rfl
theorem st1 : isStr Tryz.prog 1 = false := by kernel_rfl
theorem sz2 : szOf Tryz.prog 2 = some 1 := by kernel_rfl
theorem st2 : isStr Tryz.prog 2 = false := by kernel_rfl
theorem sz3 : szOf Tryz.prog 3 = some 1 := by kernel_rfl
theorem ag3 : isAggB Tryz.prog 3 = some false := by kernel_rfl
theorem st3 : isStr Tryz.prog 3 = false := by kernel_rfl
theorem ik3 : intK Tryz.prog 3 = some .i64 := by kernel_rfl
theorem tc3 : tcT Tryz.prog 3 = false := by kernel_rfl
theorem zs3 : zeroSz Tryz.prog 3 = some 1 := by kernel_rfl
theorem zc3 : zeroCs Tryz.prog 3 = some [.d (.int .i64 0)] := by kernel_rfl
theorem sz4 : szOf Tryz.prog 4 = some 1 := by kernel_rfl
theorem ag4 : isAggB Tryz.prog 4 = some false := by kernel_rfl
theorem bo4 : isBool Tryz.prog 4 = true := by kernel_rfl
theorem ik5 : intK Tryz.prog 5 = some .u8 := by kernel_rfl
theorem zs5 : zeroSz Tryz.prog 5 = some 1 := by kernel_rfl
theorem sz9 : szOf Tryz.prog 9 = some 1 := by kernel_rfl
theorem ag9 : isAggB Tryz.prog 9 = some false := by kernel_rfl
theorem st9 : isStr Tryz.prog 9 = true := by kernel_rfl
theorem zs9 : zeroSz Tryz.prog 9 = some 1 := by kernel_rfl
theorem sz23 : szOf Tryz.prog 23 = some 1 := by kernel_rfl
theorem ag23 : isAggB Tryz.prog 23 = some false := by kernel_rfl
theorem sl23 : slE Tryz.prog 23 = some (26, 6, 88) := by kernel_rfl
theorem sz24 : szOf Tryz.prog 24 = some 1 := by kernel_rfl
theorem ag24 : isAggB Tryz.prog 24 = some false := by kernel_rfl
theorem sl24 : slE Tryz.prog 24 = some (9, 1, 16) := by kernel_rfl
theorem sz26 : szOf Tryz.prog 26 = some 6 := by kernel_rfl
theorem ag26 : isAggB Tryz.prog 26 = some true := by kernel_rfl
theorem is26 : isStruct Tryz.prog 26 = true := by kernel_rfl
theorem fd26_0 : fld Tryz.prog 26 0 = some (0, 1, false) := by kernel_rfl
theorem fd26_1 : fld Tryz.prog 26 1 = some (1, 1, false) := by kernel_rfl
theorem fd26_2 : fld Tryz.prog 26 2 = some (2, 1, false) := by kernel_rfl
theorem fd26_3 : fld Tryz.prog 26 3 = some (3, 1, false) := by kernel_rfl
theorem fd26_4 : fld Tryz.prog 26 4 = some (4, 1, false) := by kernel_rfl
theorem fd26_5 : fld Tryz.prog 26 5 = some (5, 1, false) := by kernel_rfl
theorem tc26 : tcT Tryz.prog 26 = false := by kernel_rfl
theorem zc26 : zeroCs Tryz.prog 26 = some [.d (.int .i64 0), .d (.bool false), .d (.int .i64 0), .d (.str []), .nils, .nils] := by kernel_rfl
theorem sz27 : szOf Tryz.prog 27 = some 1 := by kernel_rfl
theorem ag27 : isAggB Tryz.prog 27 = some false := by kernel_rfl
theorem sl27 : slE Tryz.prog 27 = some (29, 10, 160) := by kernel_rfl
theorem sz29 : szOf Tryz.prog 29 = some 10 := by kernel_rfl
theorem ag29 : isAggB Tryz.prog 29 = some true := by kernel_rfl
theorem is29 : isStruct Tryz.prog 29 = true := by kernel_rfl
theorem fd29_0 : fld Tryz.prog 29 0 = some (0, 1, false) := by kernel_rfl
theorem fd29_1 : fld Tryz.prog 29 1 = some (1, 1, false) := by kernel_rfl
theorem fd29_2 : fld Tryz.prog 29 2 = some (2, 6, true) := by kernel_rfl
theorem fd29_3 : fld Tryz.prog 29 3 = some (8, 1, false) := by kernel_rfl
theorem fd29_4 : fld Tryz.prog 29 4 = some (9, 1, false) := by kernel_rfl
theorem tc29 : tcT Tryz.prog 29 = false := by kernel_rfl
theorem zs29 : zeroSz Tryz.prog 29 = some 10 := by kernel_rfl
theorem zc29 : zeroCs Tryz.prog 29 = some [.d (.int .i64 0), .d (.str []), .d (.int .i64 0), .d (.bool false), .d (.int .i64 0), .d (.str []), .nils, .nils, .nils, .nils] := by kernel_rfl
theorem sz30 : szOf Tryz.prog 30 = some 1 := by kernel_rfl
theorem ag30 : isAggB Tryz.prog 30 = some false := by kernel_rfl
theorem tc30 : tcT Tryz.prog 30 = false := by kernel_rfl
theorem zc30 : zeroCs Tryz.prog 30 = some [.d (.int .i64 0)] := by kernel_rfl
theorem sz37 : szOf Tryz.prog 37 = some 1 := by kernel_rfl
theorem ag37 : isAggB Tryz.prog 37 = some false := by kernel_rfl
theorem sl37 : slE Tryz.prog 37 = some (52, 3, 32) := by kernel_rfl
theorem sz46 : szOf Tryz.prog 46 = some 1 := by kernel_rfl
theorem ag46 : isAggB Tryz.prog 46 = some false := by kernel_rfl
theorem sl46 : slE Tryz.prog 46 = some (5, 1, 1) := by kernel_rfl
theorem by46 : isBytes Tryz.prog 46 = true := by kernel_rfl
theorem bk46 : byteOK Tryz.prog 46 = true := by kernel_rfl
theorem sl47 : slE Tryz.prog 47 = some (3, 1, 8) := by kernel_rfl
theorem sz52 : szOf Tryz.prog 52 = some 3 := by kernel_rfl
theorem ag52 : isAggB Tryz.prog 52 = some true := by kernel_rfl
theorem is52 : isStruct Tryz.prog 52 = true := by kernel_rfl
theorem fd52_0 : fld Tryz.prog 52 0 = some (0, 1, false) := by kernel_rfl
theorem fd52_1 : fld Tryz.prog 52 1 = some (1, 1, false) := by kernel_rfl
theorem fd52_2 : fld Tryz.prog 52 2 = some (2, 1, false) := by kernel_rfl
theorem tc52 : tcT Tryz.prog 52 = false := by kernel_rfl
theorem zs52 : zeroSz Tryz.prog 52 = some 3 := by kernel_rfl
theorem zc52 : zeroCs Tryz.prog 52 = some [.d (.int .i64 0), .d (.str []), .d (.int .i64 0)] := by kernel_rfl
theorem is77 : isStruct Tryz.prog 77 = true := by kernel_rfl
theorem fd77_0 : fld Tryz.prog 77 0 = some (0, 1, false) := by kernel_rfl
theorem fd77_1 : fld Tryz.prog 77 1 = some (1, 1, false) := by kernel_rfl
theorem zc77 : zeroCs Tryz.prog 77 = some [.nils, .d (.int .i64 0)] := by kernel_rfl
theorem sz79 : szOf Tryz.prog 79 = some 2 := by kernel_rfl
theorem ifc79 : isIface Tryz.prog 79 = some false := by kernel_rfl
theorem is79 : isStruct Tryz.prog 79 = true := by kernel_rfl
theorem fd79_0 : fld Tryz.prog 79 0 = some (0, 1, false) := by kernel_rfl
theorem fd79_1 : fld Tryz.prog 79 1 = some (1, 1, false) := by kernel_rfl
theorem tc79 : tcT Tryz.prog 79 = false := by kernel_rfl
theorem zc79 : zeroCs Tryz.prog 79 = some [.d (.int .i64 0), .d (.int .i64 0)] := by kernel_rfl
theorem fd106_1 : fld Tryz.prog 106 1 = some (1, 1, false) := by kernel_rfl
theorem tc106 : tcT Tryz.prog 106 = true := by kernel_rfl
theorem zc106 : zeroCs Tryz.prog 106 = some [.d .nilp, .nils] := by kernel_rfl
theorem ifc113 : isIface Tryz.prog 113 = some true := by kernel_rfl
attribute [go_sem] st0 sl0 sz1 st1
attribute [go_sem] sz2 st2 sz3 ag3 st3 ik3
attribute [go_sem] tc3 zs3 zc3 sz4 ag4 bo4
attribute [go_sem] ik5 zs5
attribute [go_sem] sz9 ag9 st9
attribute [go_sem] zs9
attribute [go_sem] sz23 ag23
attribute [go_sem] sl23 sz24 ag24 sl24
attribute [go_sem] sz26 ag26
attribute [go_sem] is26 fd26_0 fd26_1 fd26_2 fd26_3 fd26_4 fd26_5 tc26 zc26 sz27 ag27
attribute [go_sem] sl27
attribute [go_sem] sz29 ag29 is29 fd29_0 fd29_1 fd29_2 fd29_3
attribute [go_sem] fd29_4 tc29 zs29 zc29 sz30 ag30 tc30 zc30
attribute [go_sem] sz37 ag37 sl37
attribute [go_sem] sz46 ag46
attribute [go_sem] sl46 by46 bk46 sl47
attribute [go_sem] sz52 ag52 is52 fd52_0
attribute [go_sem] fd52_1 fd52_2 tc52 zs52 zc52
attribute [go_sem] is77 fd77_0 fd77_1 zc77
attribute [go_sem] sz79 ifc79 is79 fd79_0 fd79_1 tc79 zc79
attribute [go_sem] fd106_1 tc106 zc106
attribute [go_sem] ifc113
end Go.Proofs.YtofbdmdigopaoaaGreatDoor.T
end
