/- A step of the proofs of the seat's theorems. -/
import Derived.Test.YtofbdmdigopaoaaGreatDoorQ7
import Derived.Lib.AppendStr
set_option linter.unusedSimpArgs false
set_option linter.unusedVariables false
section
namespace Go.Abs
open Go.RowKit
variable {P : Program} {c : Ctx} {w : World} {st : St}
theorem evalFieldAddr_sound (t : TypeId) (f : Nat) {x : Value} {X Z : V} (hx : Rel c x X) (h : evalFieldAddr P t X f = some Z) :
   ∃ cv, (Instr.fieldAt t x f).run P w = .ok cv w ∧ Rel c cv Z := by
 unfold evalFieldAddr at h
 split at h
 case h_2 => simp at h
 rename_i off sz b hfl
 obtain ⟨fs, fd, hu, hff, hsz, _, rfl⟩ := fld_eq hfl
 split at h
 case isTrue => simp at h
 rename_i h0
 have hrun : ∀ k o, (Instr.fieldAt t (.pointer (some ⟨k, o, none⟩)) f).run P w = .ok (.pointer (some ⟨k, o + fd.offset, none⟩)) w := by
   intro k o
   simp only [Instr.fieldAt, Sem.run_bind, run_underlying hu, Result.andThen_ok, hff, Instr.sureAddr, Sem.run_pure, fieldPlace, run_sizeOf' hsz]
   rw [if_neg h0]
   simp [addr_add]
 split at h <;> simp only [Option.some.injEq, reduceCtorEq] at h <;> subst h
 · cases hx with | ptr _ kk _ hk => ?_
   exact ⟨_, hrun _ _, .ptr _ _ _ hk⟩
 · cases hx with | ep kk base _ vs _ h1 h2 => ?_
   exact ⟨_, hrun _ _, by rw [Nat.add_assoc]; exact .ep kk base _ vs _ h1 h2⟩
theorem evalField_sound (t : TypeId) (f : Nat) {x : Value} {X Z : V} (hx : Rel c x X) (h : evalField P t X f = some Z) :
   ∃ cv, (Instr.field t x f).run P w = .ok cv w ∧ Rel c cv Z := by
 unfold evalField at h
 split at h
 case h_2 => simp at h
 rename_i off sz b cs hfl hcs
 obtain ⟨fs, fd, hu, hff, hsz, hb, rfl⟩ := fld_eq hfl
 obtain ⟨hs, hr⟩ := hx.cells hcs
 have hagg : ∃ arr, x = .agg arr ∧ loadCs b cs fd.offset sz = some Z := by
   split at h
   · cases hx with | agg arr _ _ _ => exact ⟨arr, rfl, h⟩
   · cases hx with | d _ _ hx => ?_
     cases hx with | agg arr _ _ _ => exact ⟨arr, rfl, h⟩
   · simp at h
 obtain ⟨arr, rfl, hl⟩ := hagg
 simp only [Value.cells] at hs hr
 unfold loadCs at hl
 split at hl
 · rename_i hbt
   subst hbt
   split at hl <;> simp only [Option.some.injEq, reduceCtorEq] at hl
   rename_i hle
   subst hl
   refine ⟨.agg (arr.extract fd.offset (fd.offset + sz)), ?_, .agg _ _ (by simp; omega) fun i hi => ?_⟩
   · simp only [Instr.field, Sem.run_bind, run_underlying hu, Result.andThen_ok, hff, asAgg, Sem.run_pure, part, run_isAgg' hb, if_true, run_sizeOf' hsz]
   · simp only [List.length_take, List.length_drop] at hi
     rw [drop_take_getD _ _ _ _ _ (by omega)]
     have := hr (fd.offset + i) (by omega)
     rwa [show (arr.extract fd.offset (fd.offset + sz)).getD i undef = arr.getD (fd.offset + i) undef by
       simp only [Array.getD_eq_getD_getElem?]
       rw [Array.getElem?_extract_of_lt (by omega), Array.getElem?_eq_getElem (by omega)]]
 · rename_i hbt
   have hbt' : b = false := by simpa using hbt
   subst hbt'
   have hlt : fd.offset < cs.length := (List.getElem?_eq_some_iff.1 hl).1
   obtain ⟨v, hv⟩ : ∃ v, arr[fd.offset]? = some v := ⟨_, Array.getElem?_eq_getElem (by omega)⟩
   refine ⟨v, ?_, ?_⟩
   · simp only [Instr.field, Sem.run_bind, run_underlying hu, Result.andThen_ok, hff, asAgg, Sem.run_pure, part, run_isAgg' hb]
     simp [hv]
   · have := hr _ hlt
     rwa [show cs.getD fd.offset .junk = Z by simp [List.getD_eq_getElem?_getD, hl], show arr.getD fd.offset undef = v by simp [Array.getD_eq_getD_getElem?, hv]] at this
theorem arE_eq {t : TypeId} {m sz : Nat} {b : Bool} (h : arE P t = some (m, sz, b)) : ∃ e, P.underlying t = some (.array m e) ∧ szOf P e = some sz := by
 unfold arE at h
 split at h
 · rename_i n e hu
   split at h <;> simp only [Option.some.injEq, Prod.mk.injEq, reduceCtorEq] at h
   rename_i s b' h1 h2
   obtain ⟨rfl, rfl, rfl⟩ := h
   exact ⟨e, hu, h1⟩
 · simp at h
theorem evalIndexAddr_sound (t : TypeId) {x i : Value} {X I Z : V} (hx : Rel c x X) (hi : Rel c i I) (h : evalIndexAddr P t X I = some Z) :
   ∃ cv, (Instr.indexAt t x i).run P w = .ok cv w ∧ Rel c cv Z := by
 unfold evalIndexAddr at h
 split at h
 case h_2 => simp at h
 rename_i k n
 cases hi with | d _ _ hi => ?_
 cases hi
 split at h
 case isFalse => simp at h
 rename_i h0
 split at h
 · rename_i es e sz by_ he hsl
   obtain ⟨hu, ie, hie, hsz, _⟩ := slE_eq hsl
   split at h <;> simp only [Option.some.injEq, reduceCtorEq] at h
   rename_i hcond
   obtain ⟨hlt, hall⟩ := hcond
   subst h
   have r := hx.toD he
   cases r with
   | slnil => simp at hlt
   | sl0 a => simp at hlt
   | sl k' off m cap sz' vs es h1 h2 h3 h4 h5 =>
     subst h1
     have hg : es.getD n.toNat [] = es[n.toNat] := by simp [List.getD_eq_getElem?_getD, hlt]
     have hlen : (es.getD n.toNat []).length = sz := by
       have := List.all_eq_true.1 hall es[n.toNat] (List.getElem_mem _)
       rw [hg]
       simpa using this
     have hsz' : sz' = sz := by
       have e1 := h3 es[n.toNat] (List.getElem_mem _)
       rw [← hlen, hg, e1]
     subst hsz'
     refine ⟨.pointer (some ⟨k', off + n.toNat * sz', none⟩), ?_, ?_⟩
     · simp only [Instr.indexAt, asIntOf, Sem.run_bind, Sem.run_pure, Result.andThen_ok, run_underlying hu]
       rw [if_pos ⟨h0, by omega⟩]
       simp [sizeOf, typeInfo, hie, hsz, addr_add]
     · have := Rel.ep (c := c) k' (off + n.toNat * sz') 0 (vs n.toNat) (es.getD n.toNat []) (fun j hj => h4 n.toNat j hlt (by omega)) (fun j hj => h5 n.toNat j hlt (by omega))
       simpa using this
 · rename_i hno
   have arr_run : ∀ kk o m sz b, arE P t = some (m, sz, b) → n < m → (Instr.indexAt t (.pointer (some ⟨kk, o, none⟩)) (.int k n)).run P w = .ok (.pointer (some ⟨kk, o + n.toNat * sz, none⟩)) w := by
     intro kk o m sz b har hlt
     obtain ⟨e, hu, hsz⟩ := arE_eq har
     simp only [Instr.indexAt, asIntOf, Sem.run_bind, Sem.run_pure, Result.andThen_ok, run_underlying hu, Instr.sureAddr]
     rw [if_pos ⟨h0, hlt⟩]
     simp [run_sizeOf' hsz, addr_add]
   split at h
   · rename_i kb off m sz b har
     split at h <;> simp only [Option.some.injEq, reduceCtorEq] at h
     rename_i hlt
     subst h
     cases hx with | ptr _ kk _ hk => ?_
     exact ⟨_, arr_run _ _ _ _ _ har hlt, .ptr _ _ _ hk⟩
   · rename_i cs off m sz b har
     split at h <;> simp only [Option.some.injEq, reduceCtorEq] at h
     rename_i hlt
     subst h
     cases hx with | ep kk base _ vs _ h1 h2 => ?_
     exact ⟨_, arr_run _ _ _ _ _ har hlt, by rw [Nat.add_assoc]; exact .ep kk base _ vs _ h1 h2⟩
   · simp at h
theorem evalIndex_sound (t : TypeId) {x i : Value} {X I Z : V} (hx : Rel c x X) (hi : Rel c i I) (h : evalIndex P t X I = some Z) :
   ∃ cv, (Instr.index t x i).run P w = .ok cv w ∧ Rel c cv Z := by
 unfold evalIndex at h
 split at h
 case h_2 => simp at h
 rename_i k n s
 cases hi with | d _ _ hi => ?_
 cases hi
 cases hx with | d _ _ hx => ?_
 cases hx with | str s' _ e => ?_
 split at h
 case isFalse => simp at h
 rename_i hcond
 simp only [Bool.and_eq_true, decide_eq_true_eq] at hcond
 have hu := isStr_eq hcond.1
 cases hb : s[n.toNat]? with
 | none => simp [hb] at h
 | some b =>
   rw [hb] at h
   simp only [Option.map_some, Option.some.injEq] at h
   subst h
   have hlt : n.toNat < s.length := (List.getElem?_eq_some_iff.1 hb).1
   have hsize : s'.size = s.length := by rw [← e, Array.length_toList]; rfl
   refine ⟨_, ?_, .d _ _ (.int .u8 b.toNat)⟩
   rw [run_index_string (P := P) w t s' k n hu, dif_pos ⟨hcond.2, by omega⟩]
   congr 3
   have : s'.data.toList[n.toNat]? = some b := by rw [e]; exact hb
   rw [Array.getElem?_toList] at this
   obtain ⟨h2, h3⟩ := Array.getElem?_eq_some_iff.1 this
   clear this
   exact congrArg UInt8.toNat h3
theorem evalExtract_sound {x : Value} {X Z : V} (i : Nat) (hx : Rel c x X) (h : evalExtract X i = some Z) : ∃ cv, (Instr.extract x i).run P w = .ok cv w ∧ Rel c cv Z := by
 unfold evalExtract at h
 split at h
 case h_2 => simp at h
 rename_i vs
 cases hx with | tup arr _ hs hr => ?_
 have hlt : i < vs.length := (List.getElem?_eq_some_iff.1 h).1
 obtain ⟨v, hv⟩ : ∃ v, arr[i]? = some v := ⟨_, Array.getElem?_eq_getElem (by omega)⟩
 refine ⟨v, ?_, ?_⟩
 · simp only [Instr.extract, hv, Sem.run_pure]
 · have := hr i hlt
   rwa [show vs.getD i .junk = Z by simp [List.getD_eq_getElem?_getD, h], show arr.getD i undef = v by simp [Array.getD_eq_getD_getElem?, hv]] at this
theorem evalLen_sound (t ty : TypeId) {x : Value} {X Z : V} (hx : Rel c x X) (h : evalLen P t X = some Z) : ∃ cv, (Builtin.len_ #[t] ty #[x]).run P w = .ok cv w ∧ Rel c cv Z := by
 unfold evalLen at h
 split at h
 · cases hx with | d _ _ hx => ?_
   cases hx with | str s _ e => ?_
   split at h <;> simp only [Option.some.injEq, reduceCtorEq] at h
   rename_i hs
   subst h
   refine ⟨_, run_len_string (P := P) w t ty s (isStr_eq hs), .d _ _ ?_⟩
   rw [← e, Array.length_toList]
   exact .int _ _
 · split at h <;> simp only [Option.some.injEq, reduceCtorEq] at h
   rename_i es q he hsl
   obtain ⟨e, sz, by_⟩ := q
   obtain ⟨hu, _⟩ := slE_eq hsl
   subst h
   have r := hx.toD he
   cases r with
   | slnil => exact ⟨_, run_len_slice (P := P) w t ty none 0 0 (elem_eq hu), .d _ _ (.int _ _)⟩
   | sl0 a => exact ⟨_, run_len_slice (P := P) w t ty _ 0 0 (elem_eq hu), .d _ _ (.int _ _)⟩
   | sl k off n cap sz vs es h1 h2 h3 h4 h5 =>
     subst h1
     exact ⟨_, run_len_slice (P := P) w t ty _ _ _ (elem_eq hu), .d _ _ (.int _ _)⟩
theorem held_sound {x : Value} {X : V} {d : D} (hx : Rel c x X) (h : X.held = some d) : RelD c.H x d := by
 unfold V.held at h
 split at h
 · rename_i cs
   cases hx with | agg arr _ hs hr => ?_
   cases hd : allD cs with
   | none => simp [hd] at h
   | some l =>
     rw [hd] at h
     simp only [Option.map_some, Option.some.injEq] at h
     subst h
     obtain ⟨h1, h2⟩ := allD_rel (c := c) hd
     exact .agg _ _ (hs.trans h1) fun i hi => by
       rw [array_getD_toList]
       exact h2 (vs := arr.toList) (fun j hj => by rw [← array_getD_toList]; exact hr j hj) i hi
 · exact hx.toD h
theorem Conf.iterAt (hc : Conf c w st) {b k : Nat} {s : List UInt8} {pos : Nat} (hk : c.mu[b]? = some k) (hB : st.blks[b]? = some (.iter s pos)) :
   ∃ s' : ByteArray, w.heap[k]? = some (.stringIter s' pos) ∧ s'.data.toList = s := by
 obtain ⟨o, ho, hr⟩ := hc.blk b k _ hk hB
 cases hr with
 | iter s' _ _ e => exact ⟨s', ho, e⟩
theorem Conf.setIter (hc : Conf c w st) {b k : Nat} {s : List UInt8} {pos pos' : Nat} {s' : ByteArray} (hk : c.mu[b]? = some k) (hB : st.blks[b]? = some (.iter s pos))
   (hh : w.heap[k]? = some (.stringIter s' pos)) (e : s'.data.toList = s) :
   Conf c { w with heap := w.heap.setIfInBounds k (.stringIter s' pos') } (setBlk st b (.iter s pos')) := by
 have hother : ∀ k', k' ≠ k → ({ w with heap := w.heap.setIfInBounds k (.stringIter s' pos') } : World).heap[k']? = w.heap[k']? := fun k' hne => by
   show (w.heap.setIfInBounds k _)[k']? = _
   rw [Array.getElem?_setIfInBounds_ne (Ne.symm hne)]
 refine {
   mulen := by simp [setBlk, hc.mulen]
   muinj := hc.muinj
   mubase := hc.mubase
   muH := hc.muH
   blk := ?_
   toklen := hc.toklen
   tokown := ?_
   tokinj := hc.tokinj
   sealed := ?_
   below := hc.below.trans ⟨rfl, rfl, rfl, by simp, fun k' hk' => hother k' (by have := hc.mubase b k hk; omega)⟩
   basele := by simpa using hc.basele }
 · intro b' k' B' hk' hB'
   by_cases hbb : b' = b
   · subst hbb
     have hkk : k' = k := by rw [hk] at hk'; exact (Option.some.inj hk').symm
     subst hkk
     have hlt : b' < st.blks.length := (List.getElem?_eq_some_iff.1 hB).1
     simp only [setBlk, List.getElem?_set_self hlt, Option.some.injEq] at hB'
     subst hB'
     refine ⟨.stringIter s' pos', ?_, .iter _ _ _ e⟩
     show (w.heap.setIfInBounds k' _)[k']? = _
     rw [Array.getElem?_setIfInBounds_self_of_lt (Array.getElem?_eq_some_iff.1 hh).1]
   · have hne : k' ≠ k := fun e => hbb (hc.muinj b' b k (e ▸ hk') hk)
     simp only [setBlk, List.getElem?_set_ne (Ne.symm hbb)] at hB'
     obtain ⟨o, ho, hrel⟩ := hc.blk b' k' B' hk' hB'
     exact ⟨o, by rw [hother k' hne]; exact ho, hrel⟩
 · intro id t ht
   obtain ⟨h0, hd | ⟨xs, ho, hg⟩⟩ := hc.tokown id t ht
   · exact ⟨h0, .inl hd⟩
   refine ⟨h0, .inr ⟨xs, ho.kept (row := some k) ⟨rfl, rfl, rfl, by simp, fun k' _ hk' => hother k' (fun e => hk' (by rw [e]))⟩ (.inr ?_), hg⟩⟩
   intro e
   exact (hg k e).2.2 (List.mem_of_getElem? hk)
 · intro k' o v hv
   have hne : k' ≠ k := by
     intro e
     subst e
     rw [hc.muH b k' o hk] at hv
     simp at hv
   have := hc.sealed k' o v hv
   rw [World.cell?_of_block (w := w) (hother k' hne)]
   exact this
end Go.Abs
end
section
namespace Go.Abs
open Go.RowKit
variable {P : Program} {c : Ctx} {w : World} {st : St}
theorem run_append_ways (base : Nat) (t ty e : TypeId) (i : TypeInfo) (z : Value) (ht : P.underlying t = some (.slice e)) (hi : P.info? e = some i) (hz : i.zero = some z)
   (hzs : z.cells.size = i.size)
   (v : Value) (n : Nat) (xs : List Value) (hown : w.ownsRow base e i.size v n xs)
   (a : Addr) (m cp : Nat) (news : List Value) (hl : news.length = m * i.size) (hnews : ∀ j u, news[j]? = some u → w.cell? (a.add j) = some u) (h1 : ∀ u ∈ news, u.oneCell' = true)
   (hm : 0 < m) (h63 : n + m ≤ maxLen) (hbytes : (n + m) * i.bytes ≤ 140737488355328) (hbase : base ≤ w.heap.size) :
   ∃ w' row g cap, (Builtin.append_ #[t, t] ty #[v, .slice (some a) m cp]).run P w = .ok (.slice (some ⟨g, 0, none⟩) (n + m) cap) w' ∧
     w'.ownsRow base e i.size (.slice (some ⟨g, 0, none⟩) (n + m) cap) (n + m) (xs ++ news) ∧ w.grownBy w' row ∧ n + m ≤ cap ∧
     ((row = none ∧ w.heap.size ≤ g) ∨ (row = some g ∧ v.ownBlock = some g)) := by
 have hsmall : n + m ≤ 9223372036854775807 := by simp only [maxLen] at h63; omega
 have hlen : (xs ++ news).length = (n + m) * i.size := by rw [List.length_append, hown.1, hl, Nat.add_mul]
 have grown : ∀ (old : Nat), old < n + m →
     (w.drew.alloc (.cells (xs.toArray ++ news.toArray ++ Builtin.zeroCells z.cells (grownCap w (n + m) old e - (n + m))) e)).ownsRow base e i.size
       (.slice (some ⟨w.heap.size, 0, none⟩) (n + m) (grownCap w (n + m) old e)) (n + m) (xs ++ news) ∧
     w.grownBy (w.drew.alloc (.cells (xs.toArray ++ news.toArray ++ Builtin.zeroCells z.cells (grownCap w (n + m) old e - (n + m))) e)) none ∧ n + m ≤ grownCap w (n + m) old e := by
   intro old ho
   have hge := grownCap_ge w (n + m) old e
   have hcm : grownCap w (n + m) old e ≤ maxLen := grownCap_le_maxLen w (n + m) old e h63
   refine ⟨⟨hlen, .inr ⟨w.heap.size, _, _, rfl, hbase, heap_alloc_new w.drew _, hge, hcm, ?_, ?_⟩⟩, ⟨rfl, rfl, rfl, by simp, fun k hk _ => heap_alloc_old w.drew _ hk⟩, hge⟩
   · simp only [Array.size_append, List.size_toArray, size_zeroCells, hzs, hown.1, hl, ← Nat.add_mul]
     congr 1
     omega
   · simp only [Array.toList_append, List.append_assoc]
     rw [← List.append_assoc, ← hlen]
     exact List.take_left
 rcases hown.2 with ⟨rfl, rfl⟩ | ⟨g, cap, cur, rfl, hbg, hg, hnc, hcm, hcs, htake⟩
 · have hx : xs = [] := List.eq_nil_of_length_eq_zero (by simpa using hown.1)
   subst hx
   have hr := run_append_nil (P := P) w t ty e i z ht hi hz a m cp news hl hnews (by omega) (by omega) (by have hb := hbytes; simp only [Nat.zero_add] at hb; omega)
   have hgr := grown 0 (by omega)
   simp only [Nat.zero_add, List.nil_append, Array.empty_append] at hgr ⊢
   exact ⟨_, none, _, _, hr, hgr.1, hgr.2.1, hgr.2.2, .inl ⟨rfl, Nat.le_refl _⟩⟩
 · by_cases hroom : n + m ≤ cap
   · have hfit : n * i.size + news.length ≤ cur.size := by rw [hl, hcs, ← Nat.add_mul]; exact Nat.mul_le_mul_right _ hroom
     have hr := run_append_room (P := P) w t ty e i ht hi g n cap cur hg a m cp news hl hnews h1 hroom hfit
     refine ⟨_, some g, _, _, hr, ⟨hlen, .inr ⟨g, cap, _, rfl, hbg, setRow_heap w g cur _ e _ hg, hroom, hcm, ?_, ?_⟩⟩, ⟨rfl, rfl, rfl, by simp, fun k _ hk => setRow_other w g k _ (fun e => hk (by simp [e]))⟩, hroom, .inr ⟨rfl, rfl⟩⟩
     · simp only [List.size_toArray, List.length_append, List.length_take, List.length_drop, Array.length_toList]
       omega
     · rw [htake, ← hlen]
       exact List.take_left
   · have holds : ∀ j u, xs[j]? = some u → w.cell? ((⟨g, 0, none⟩ : Addr).add j) = some u := hown.cells (g := g) rfl
     have hr := run_append_grow (P := P) w t ty e i z ht hi hz ⟨g, 0, none⟩ n cap xs hown.1 holds a m cp news hl hnews (by omega) (by omega) (growslice_fits (by omega) hbytes)
     have hgr := grown cap (by omega)
     exact ⟨_, none, _, _, hr, hgr.1, hgr.2.1, hgr.2.2, .inl ⟨rfl, Nat.le_refl _⟩⟩
def Ctx.newTok (c : Ctx) (e : TypeId) (sz : Nat) : Ctx := { c with tok := c.tok ++ [⟨.slice none 0 0, e, sz, 0⟩] }
theorem Ext.newTok (c : Ctx) (e : TypeId) (sz : Nat) : Ext c (c.newTok e sz) :=
 ⟨fun _ _ _ h => h, fun _ _ h => h, fun _ t h => ⟨t, getElem?_snoc_left h, rfl, Nat.le_refl _, fun _ => rfl⟩, rfl, rfl⟩
theorem Conf.newTok (h : Conf c w st) (e : TypeId) {sz : Nat} (hsz : 0 < sz) : Conf (c.newTok e sz) w { st with toks := st.toks ++ [(e, sz, 0)] } where
 mulen := h.mulen
 muinj := h.muinj
 mubase := h.mubase
 muH := h.muH
 blk := fun b k B hk hB => let ⟨o, ho, hr⟩ := h.blk b k B hk hB; ⟨o, ho, hr.mono (Ext.newTok c e sz)⟩
 toklen := by simp [Ctx.newTok, h.toklen]
 tokown := by
   intro id t ht
   rcases getElem?_snoc_cases ht with ht | ⟨_, rfl⟩
   · exact h.tokown id t ht
   · exact ⟨hsz, .inr ⟨[], World.ownsRow_nil w _ _ _, fun g hg => by simp [Value.ownBlock] at hg⟩⟩
 tokinj := by
   intro i j s t g hi hj hs ht
   rcases getElem?_snoc_cases hi with hi | ⟨_, rfl⟩
   · rcases getElem?_snoc_cases hj with hj | ⟨_, rfl⟩
     · exact h.tokinj i j s t g hi hj hs ht
     · simp [Value.ownBlock] at ht
   · simp [Value.ownBlock] at hs
 sealed := h.sealed
 below := h.below
 basele := h.basele
def Ctx.growTok (c : Ctx) (id : Nat) (t : Tok) (g len : Nat) (v : Value) (xs : List Value) : Ctx :=
 { c with H := fun k o => if k = g ∧ o < len * t.sz then xs[o]? else c.H k o, tok := c.tok.set id { t with val := v, len := len } }
theorem Conf.growTok (h : Conf c w st) {id : Nat} {t : Tok} (ht : c.tok[id]? = some t) {old news : List Value} {w' : World} {row : Option Nat} {g m cap : Nat}
   (hm : 0 < m) (hold : w.ownsRow c.base t.e t.sz t.val t.len old)
   (hown : w'.ownsRow c.base t.e t.sz (.slice (some ⟨g, 0, none⟩) (t.len + m) cap) (t.len + m) (old ++ news)) (hgr : w.grownBy w' row)
   (hrow : (row = none ∧ w.heap.size ≤ g) ∨ (row = some g ∧ t.val.ownBlock = some g)) :
   Conf (c.growTok id t g (t.len + m) (.slice (some ⟨g, 0, none⟩) (t.len + m) cap) (old ++ news)) w' { st with toks := st.toks.set id (t.e, t.sz, t.len + m) } ∧
   Ext c (c.growTok id t g (t.len + m) (.slice (some ⟨g, 0, none⟩) (t.len + m) cap) (old ++ news)) := by
 have hid : id < c.tok.length := (List.getElem?_eq_some_iff.1 ht).1
 obtain ⟨hsz0, hdd | ⟨old', hold', hgg⟩⟩ := h.tokown id t ht
 · exfalso
   rcases hold.2 with ⟨_, hn⟩ | ⟨g1, cap1, cur1, hv, _, _, h1, h2, _⟩
   · have := hdd.1; simp only [maxLen] at this; omega
   · have := hdd.1; omega
 have hoo : old = old' := by
   rcases hold.2 with ⟨hv, hn⟩ | ⟨g1, cap1, cur1, hv, _, hg1, _, _, _, htk⟩
   · have e1 : old = [] := List.eq_nil_of_length_eq_zero (by rw [hold.1, hn]; simp)
     have e2 : old' = [] := List.eq_nil_of_length_eq_zero (by rw [hold'.1, hn]; simp)
     rw [e1, e2]
   · rcases hold'.2 with ⟨hv', _⟩ | ⟨g2, cap2, cur2, hv', _, hg2, _, _, _, htk'⟩
     · rw [hv] at hv'; simp at hv'
     · rw [hv] at hv'
       simp at hv'
       obtain ⟨rfl, rfl⟩ := hv'
       rw [hg1] at hg2
       simp at hg2
       subst hg2
       rw [← htk, ← htk']
 subst hoo
 have hgbase : c.base ≤ g := (hown.lt g rfl).1
 have hlen : (old ++ news).length = (t.len + m) * t.sz := hown.1
 have hmul : (t.len + m) * t.sz = t.len * t.sz + m * t.sz := Nat.add_mul _ _ _
 have hHg : ∀ o v, c.H g o = some v → row = some g ∧ o < t.len * t.sz ∧ old[o]? = some v := by
   intro o v hv
   rcases hrow with ⟨_, hf⟩ | ⟨hr, ho⟩
   · rw [h.fresh hf] at hv; simp at hv
   · obtain ⟨h1, h2, _⟩ := hgg g ho
     rcases Nat.lt_or_ge o (t.len * t.sz) with hlt | hge
     · exact ⟨hr, hlt, by rw [← h1 o hlt]; exact hv⟩
     · rw [h2 o hge] at hv; simp at hv
 have hother : ∀ k, k < w.heap.size → k ≠ g → w'.heap[k]? = w.heap[k]? := by
   intro k hk hne
   refine hgr.block k hk fun e => ?_
   rcases hrow with ⟨hr, _⟩ | ⟨hr, _⟩
   · rw [hr] at e; simp at e
   · rw [hr] at e; simp at e; exact hne e
 have hgmu : g ∉ c.mu := by
   intro hmem
   obtain ⟨i, hi⟩ := List.mem_iff_getElem?.1 hmem
   rcases hrow with ⟨_, hf⟩ | ⟨_, ho⟩
   · have := h.mult hi; omega
   · exact (hgg g ho).2.2 hmem
 have hgtok : ∀ (j : Nat) (s : Tok), c.tok[j]? = some s → s.val.ownBlock = some g → j = id := by
   intro j s hj hs
   rcases hrow with ⟨_, hf⟩ | ⟨_, ho⟩
   · have := (h.tokblk hj hs).2; omega
   · exact h.tokinj j id s t g hj ht hs ho
 have hext : Ext c (c.growTok id t g (t.len + m) (.slice (some ⟨g, 0, none⟩) (t.len + m) cap) (old ++ news)) := by
   refine ⟨fun k o v hv => ?_, fun _ _ hk => hk, fun j s hj => ?_, rfl, rfl⟩
   · simp only [Ctx.growTok]
     split
     · rename_i hc
       obtain ⟨rfl, _⟩ := hc
       obtain ⟨_, hlt, ho⟩ := hHg o v hv
       rw [List.getElem?_append_left (by rw [hold.1]; exact hlt)]
       exact ho
     · exact hv
   · by_cases hji : j = id
     · subst hji
       rw [ht] at hj
       have : s = t := (Option.some.inj hj).symm
       subst this
       exact ⟨{ s with val := .slice (some ⟨g, 0, none⟩) (s.len + m) cap, len := s.len + m }, by simp only [Ctx.growTok]; rw [List.getElem?_set_self hid], rfl, by simp, fun e => by simp at e; omega⟩
     · exact ⟨s, by simp only [Ctx.growTok]; rw [List.getElem?_set_ne (Ne.symm hji)]; exact hj, rfl, Nat.le_refl _, fun _ => rfl⟩
 refine ⟨?_, hext⟩
 refine {
   mulen := h.mulen
   muinj := h.muinj
   mubase := h.mubase
   muH := ?_
   blk := ?_
   toklen := ?_
   tokown := ?_
   tokinj := ?_
   sealed := ?_
   below := h.below.grown hgr h.basele ?_
   basele := Nat.le_trans h.basele hgr.size }
 · intro i k o hk
   have hne : k ≠ g := fun e => hgmu (e ▸ List.mem_of_getElem? hk)
   simp only [Ctx.growTok]
   rw [if_neg (fun hc => hne hc.1)]
   exact h.muH i k o hk
 · intro b k B hk hB
   have hne : k ≠ g := fun e => hgmu (e ▸ List.mem_of_getElem? hk)
   obtain ⟨o, ho, hr⟩ := h.blk b k B hk hB
   exact ⟨o, by rw [hother k (h.mult hk) hne]; exact ho, hr.mono hext⟩
 · simp only [Ctx.growTok, List.map_set, h.toklen]
 · intro j s hj
   by_cases hji : j = id
   · subst hji
     simp only [Ctx.growTok, List.getElem?_set_self hid, Option.some.injEq] at hj
     subst hj
     refine ⟨hsz0, .inr ⟨old ++ news, hown, fun g' hg' => ?_⟩⟩
     simp only [Value.ownBlock, Option.some.injEq] at hg'
     subst hg'
     refine ⟨fun o ho => by simp only [Ctx.growTok]; rw [if_pos ⟨by trivial, ho⟩], fun o ho => ?_, hgmu⟩
     simp only [Ctx.growTok]
     rw [if_neg (fun hc => by have := hc.2; simp only at ho; omega)]
     cases hv : c.H g o with
     | none => rfl
     | some v =>
       have := (hHg o v hv).2.1
       simp only at ho
       omega
   · simp only [Ctx.growTok, List.getElem?_set_ne (Ne.symm hji)] at hj
     obtain ⟨h0, hd | ⟨xs, ho, hg'⟩⟩ := h.tokown j s hj
     · exact ⟨h0, .inl hd⟩
     refine ⟨h0, .inr ⟨xs, ho.kept hgr ?_, fun g' hgb => ?_⟩⟩
     · cases hb : s.val.ownBlock with
       | none => exact .inl rfl
       | some b =>
         refine .inr fun e => ?_
         rcases hrow with ⟨hr, _⟩ | ⟨hr, _⟩
         · rw [hr] at e; simp at e
         · rw [hr] at e
           exact hji (hgtok j s hj (by rw [hb, e]))
     · obtain ⟨h1, h2, h3⟩ := hg' g' hgb
       have hne : g' ≠ g := fun e => hji (hgtok j s hj (by rw [hgb, e]))
       exact ⟨fun o ho => by simp only [Ctx.growTok]; rw [if_neg (fun hc => hne hc.1)]; exact h1 o ho, fun o ho => by simp only [Ctx.growTok]; rw [if_neg (fun hc => hne hc.1)]; exact h2 o ho, h3⟩
 · intro i j s u g' hi hj hs hu
   by_cases hii : i = id <;> by_cases hjj : j = id
   · omega
   · subst hii
     simp only [Ctx.growTok, List.getElem?_set_self hid, Option.some.injEq] at hi
     simp only [Ctx.growTok, List.getElem?_set_ne (Ne.symm hjj)] at hj
     subst hi
     simp only [Value.ownBlock, Option.some.injEq] at hs
     exact absurd (hgtok j u hj (hs ▸ hu)) hjj
   · subst hjj
     simp only [Ctx.growTok, List.getElem?_set_self hid, Option.some.injEq] at hj
     simp only [Ctx.growTok, List.getElem?_set_ne (Ne.symm hii)] at hi
     subst hj
     simp only [Value.ownBlock, Option.some.injEq] at hu
     exact absurd (hgtok i s hi (hu ▸ hs)) hii
   · simp only [Ctx.growTok, List.getElem?_set_ne (Ne.symm hii)] at hi
     simp only [Ctx.growTok, List.getElem?_set_ne (Ne.symm hjj)] at hj
     exact h.tokinj i j s u g' hi hj hs hu
 · intro k o v hv
   simp only [Ctx.growTok] at hv
   split at hv
   · rename_i hc
     obtain ⟨rfl, _⟩ := hc
     have := hown.cells (g := k) rfl o v hv
     rwa [addr_add, Nat.zero_add] at this
   · rename_i hc
     have hcell := h.sealed k o v hv
     have hlt := World.block_lt_of_cell? w _ hcell
     by_cases hkg : k = g
     · subst hkg
       obtain ⟨_, hlt', _⟩ := hHg o v hv
       exact (hc ⟨by simp, by rw [hmul]; omega⟩).elim
     · rw [World.cell?_of_block (w := w) (hother k hlt hkg)]
       exact hcell
 · intro k hk
   rcases hrow with ⟨hr, _⟩ | ⟨hr, _⟩
   · rw [hr] at hk; simp at hk
   · rw [hr] at hk; simp at hk; omega
theorem rowsOK_mem {sz : Nat} {xs : List (List D)} (h : rowsOK sz xs = true) {r : List D} (hr : r ∈ xs) : r.length = sz ∧ ∀ x ∈ r, x.one = true := by
 have := List.all_eq_true.1 h r hr
 simp only [Bool.and_eq_true, beq_iff_eq, List.all_eq_true] at this
 exact this
theorem flat_cells {H : GH} (hs : ∀ k o v, H k o = some v → w.cell? ⟨k, o, none⟩ = some v) {k off m sz : Nat} (vs : Nat → Nat → Value) (hsz : 0 < sz)
   (h : ∀ i j, i < m → j < sz → H k (off + i * sz + j) = some (vs i j)) :
   ∃ news : List Value, news.length = m * sz ∧ (∀ j u, news[j]? = some u → w.cell? ((⟨k, off, none⟩ : Addr).add j) = some u) ∧ ∀ i j, i < m → j < sz → news[i * sz + j]? = some (vs i j) := by
 refine ⟨(List.range (m * sz)).map fun q => vs (q / sz) (q % sz), by simp, fun j u hu => ?_, fun i j hi hj => ?_⟩
 · have hj : j < m * sz := by simpa using (List.getElem?_eq_some_iff.1 hu).1
   rw [List.getElem?_map, List.getElem?_range hj] at hu
   simp only [Option.map_some, Option.some.injEq] at hu
   have hd : j / sz < m := Nat.div_lt_of_lt_mul (by rw [Nat.mul_comm]; exact hj)
   have := hs _ _ _ (h (j / sz) (j % sz) hd (Nat.mod_lt _ hsz))
   rw [addr_add, ← hu, ← this]
   congr 2
   have := Nat.div_add_mod j sz
   rw [Nat.mul_comm] at this
   omega
 · have hlt : i * sz + j < m * sz := by
     have : (i + 1) * sz ≤ m * sz := Nat.mul_le_mul_right _ hi
     rw [Nat.add_mul] at this
     omega
   rw [List.getElem?_map, List.getElem?_range hlt]
   simp only [Option.map_some, Option.some.injEq]
   rw [Nat.mul_comm, Nat.mul_add_div hsz, Nat.div_eq_of_lt hj, Nat.add_zero, Nat.mul_add_mod, Nat.mod_eq_of_lt hj]
theorem append_core (hc : Conf c w st) {sz2 : Nat} {id : Nat} {tk : Tok} (htk : c.tok[id]? = some tk) (hsz : tk.sz = sz2) {es xs : List (List D)} (hlen : es.length = tk.len) (hes : ∀ r ∈ es, r.length = sz2)
   (hval : RelD c.H tk.val (.sl es)) (hxs : rowsOK sz2 xs = true) {m : Nat} {vs : Nat → Nat → Value} {news : List Value} (h1 : xs.length = m) (hmpos : 0 < m) (hn1 : news.length = m * sz2)
   (hn3 : ∀ i j, i < m → j < sz2 → news[i * sz2 + j]? = some (vs i j)) (h5 : ∀ i j, i < m → j < sz2 → RelD c.H (vs i j) ((xs.getD i []).getD j .nilp)) {old : List Value}
   (hold : w.ownsRow c.base tk.e tk.sz tk.val tk.len old) (hgg : ∀ g, tk.val.ownBlock = some g → (∀ o, o < tk.len * tk.sz → c.H g o = old[o]?) ∧ (∀ o, tk.len * tk.sz ≤ o → c.H g o = none) ∧ g ∉ c.mu)
   {w' : World} {row : Option Nat} {g cap : Nat} (hown : w'.ownsRow c.base tk.e tk.sz (.slice (some ⟨g, 0, none⟩) (tk.len + m) cap) (tk.len + m) (old ++ news)) (hgr : w.grownBy w' row) (hcap : tk.len + m ≤ cap)
   (hrow : (row = none ∧ w.heap.size ≤ g) ∨ (row = some g ∧ tk.val.ownBlock = some g)) :
   ∃ c', Rel c' (.slice (some ⟨g, 0, none⟩) (tk.len + m) cap) (.own id (es ++ xs)) ∧ Conf c' w' { st with toks := st.toks.set id (tk.e, tk.sz, tk.len + m) } ∧ Ext c c' := by
 obtain ⟨hconf, hext⟩ := hc.growTok htk (news := news) hmpos hold hown hgr hrow
 have hid : id < c.tok.length := (List.getElem?_eq_some_iff.1 htk).1
 refine ⟨_, ?_, hconf, hext⟩
 have hHn : ∀ o, o < (tk.len + m) * tk.sz → (c.growTok id tk g (tk.len + m) (.slice (some ⟨g, 0, none⟩) (tk.len + m) cap) (old ++ news)).H g o = (old ++ news)[o]? := by
   intro o ho
   simp only [Ctx.growTok]
   rw [if_pos ⟨by trivial, ho⟩]
 have holdrel : ∀ i j, i < tk.len → j < tk.sz → ∃ v, old[i * tk.sz + j]? = some v ∧ RelD c.H v ((es.getD i []).getD j .nilp) := by
   intro i j hi hj
   generalize htv : tk.val = tv at hval
   cases hval with
   | slnil => simp at hlen; omega
   | sl0 a => simp at hlen; omega
   | sl k1 off1 n1 cap1 sz1 vs1 _ a1 a2 a3 a4 a5 =>
     have hs1 : sz1 = tk.sz := by
       have hi' : i < es.length := by omega
       rw [← a3 es[i] (List.getElem_mem _), hes es[i] (List.getElem_mem _)]
       omega
     subst hs1
     rcases hold.2 with ⟨hv, _⟩ | ⟨g1, cap2, cur1, hv, _, hg1, _, _, _, _⟩
     · rw [htv] at hv; simp at hv
     · have hv2 := hv
       rw [htv] at hv
       simp only [Value.slice.injEq, Option.some.injEq, Addr.mk.injEq] at hv
       obtain ⟨⟨rfl, rfl, _⟩, _, _⟩ := hv
       have b1 := a4 i j (by omega) hj
       have hlt : i * tk.sz + j < tk.len * tk.sz := by
         have : (i + 1) * tk.sz ≤ tk.len * tk.sz := Nat.mul_le_mul_right _ hi
         rw [Nat.add_mul] at this
         omega
       have b2 := (hgg k1 (by rw [hv2]; rfl)).1 _ hlt
       rw [Nat.zero_add] at b1
       rw [b1] at b2
       exact ⟨vs1 i j, b2.symm, a5 i j (by omega) hj⟩
 have hmul : (tk.len + m) * tk.sz = tk.len * tk.sz + m * tk.sz := Nat.add_mul _ _ _
 have hcell : ∀ i j, i < tk.len + m → j < tk.sz → ∃ v, (old ++ news)[i * tk.sz + j]? = some v ∧ RelD c.H v (((es ++ xs).getD i []).getD j .nilp) := by
   intro i j hi hj
   by_cases hil : i < tk.len
   · obtain ⟨v, e1, e2⟩ := holdrel i j hil hj
     refine ⟨v, ?_, ?_⟩
     · rw [List.getElem?_append_left (List.getElem?_eq_some_iff.1 e1).1]; exact e1
     · rw [show (es ++ xs).getD i [] = es.getD i [] by
         simp only [List.getD_eq_getElem?_getD]
         rw [List.getElem?_append_left (by omega)]]
       exact e2
   · have hd : i - tk.len < m := by omega
     refine ⟨vs (i - tk.len) j, ?_, ?_⟩
     · have := hn3 (i - tk.len) j hd (by omega)
       have hge : tk.len * tk.sz ≤ i * tk.sz := Nat.mul_le_mul_right _ (by omega)
       rw [List.getElem?_append_right (by rw [hold.1]; omega), hold.1, ← this]
       congr 1
       have : i * tk.sz = (i - tk.len) * tk.sz + tk.len * tk.sz := by rw [← Nat.add_mul]; congr 1; omega
       rw [this, hsz]
       omega
     · rw [show (es ++ xs).getD i [] = xs.getD (i - tk.len) [] by
         simp only [List.getD_eq_getElem?_getD]
         rw [List.getElem?_append_right (by omega), hlen]]
       exact h5 _ _ hd (by omega)
 refine .own _ id _ { tk with val := .slice (some ⟨g, 0, none⟩) (tk.len + m) cap, len := tk.len + m } ?_ ?_ ?_ ?_ ?_
 · refine .sl g 0 (tk.len + m) cap tk.sz (fun i j => ((old ++ news)[i * tk.sz + j]?).getD undef) _ (by simp [hlen, h1]) hcap ?_ ?_ ?_
   · intro r hr
     rcases List.mem_append.1 hr with hr | hr
     · rw [hes r hr, hsz]
     · rw [(rowsOK_mem hxs hr).1, hsz]
   · intro i j hi hj
     obtain ⟨v, e1, _⟩ := hcell i j hi hj
     have hlt : i * tk.sz + j < (tk.len + m) * tk.sz := by
       have : (i + 1) * tk.sz ≤ (tk.len + m) * tk.sz := Nat.mul_le_mul_right _ hi
       rw [Nat.add_mul] at this
       omega
     rw [Nat.zero_add, hHn _ hlt, e1]
     rfl
   · intro i j hi hj
     obtain ⟨v, e1, e2⟩ := hcell i j hi hj
     simp only [e1, Option.getD_some]
     exact e2.mono hext.H
 · simp only [Ctx.growTok]; rw [List.getElem?_set_self hid]
 · intro r hr
   rcases List.mem_append.1 hr with hr | hr
   · rw [hes r hr, hsz]
   · rw [(rowsOK_mem hxs hr).1, hsz]
 · simp [hlen, h1]
 · intro _; rfl
theorem append_tok (hc : Conf c w st) {t ty e : TypeId} {sz by_ : Nat} (hsl : slE P t = some (e, sz, by_)) (hz : zeroSz P e = some sz)
   {id : Nat} {tk : Tok} (htk : c.tok[id]? = some tk) (he : tk.e = e) (hsz : tk.sz = sz) {es xs : List (List D)} (hlen : es.length = tk.len) (hes : ∀ r ∈ es, r.length = sz)
   (hval : RelD c.H tk.val (.sl es)) {xv : Value} (hx : RelD c.H xv (.sl xs)) (hxs : rowsOK sz xs = true) (hne : xs ≠ [])
   (hb : (es.length + xs.length) * by_ ≤ roomB) (hm : es.length + xs.length ≤ maxLen) :
   ∃ cv w' c', (Builtin.append_ #[t, t] ty #[tk.val, xv]).run P w = .ok cv w' ∧ Rel c' cv (.own id (es ++ xs)) ∧ Conf c' w' { st with toks := st.toks.set id (e, sz, es.length + xs.length) } ∧ Ext c c' := by
 obtain ⟨hu, ie, hie, hsz', hby⟩ := slE_eq hsl
 unfold zeroSz at hz
 obtain ⟨z, hz1, hz2⟩ := Option.map_eq_some_iff.1 hz
 have hz3 : ie.zero = some z := by
   unfold zeroOf at hz1
   rw [hie] at hz1
   simpa using hz1
 obtain ⟨hsz0, hdd | ⟨old, hold, hgg⟩⟩ := hc.tokown id tk htk
 · exfalso; have := hdd.1; omega
 subst he
 cases hx with
 | slnil => exact absurd rfl hne
 | sl0 a => exact absurd rfl hne
 | sl k off m cap0 sz2 vs _ h1 h2 h3 h4 h5 =>
   have hmpos : 0 < m := by
     rw [← h1]
     exact List.length_pos_iff.2 hne
   have hsz2 : sz2 = sz := by
     obtain ⟨r, hr⟩ := List.exists_mem_of_ne_nil xs hne
     rw [← h3 r hr, (rowsOK_mem hxs hr).1]
   subst hsz2
   have hszp : 0 < sz2 := by omega
   obtain ⟨news, hn1, hn2, hn3⟩ := flat_cells (w := w) hc.sealed vs hszp h4
   have hone : ∀ u ∈ news, u.oneCell' = true := by
     intro u hu
     obtain ⟨q, hq, rfl⟩ := List.mem_iff_getElem.1 hu
     have hq' : q < m * sz2 := by omega
     have hd : q / sz2 < m := Nat.div_lt_of_lt_mul (by rw [Nat.mul_comm]; exact hq')
     have hmod := Nat.mod_lt q hszp
     have := hn3 _ _ hd hmod
     have hqe : q / sz2 * sz2 + q % sz2 = q := by rw [Nat.mul_comm]; exact Nat.div_add_mod q sz2
     rw [hqe, List.getElem?_eq_getElem hq] at this
     simp only [Option.some.injEq] at this
     rw [this]
     refine (h5 _ _ hd hmod).one ?_
     have hdx : q / sz2 < xs.length := by omega
     have hmem : xs.getD (q / sz2) [] ∈ xs := by
       rw [List.getD_eq_getElem?_getD, List.getElem?_eq_getElem hdx, Option.getD_some]
       exact List.getElem_mem _
     obtain ⟨hl, ho⟩ := rowsOK_mem hxs hmem
     refine ho _ ?_
     rw [List.getD_eq_getElem?_getD (l := xs.getD (q / sz2) []), List.getElem?_eq_getElem (by omega), Option.getD_some]
     exact List.getElem_mem _
   have hold' : w.ownsRow c.base tk.e ie.size tk.val tk.len old := by rw [hsz', ← hsz]; exact hold
   obtain ⟨w', row, g, cap, hrun, hown, hgr, hcap, hrow⟩ := run_append_ways (P := P) c.base t ty tk.e ie z hu hie hz3 (by rw [hz2, hsz']) tk.val tk.len old hold' ⟨k, off, none⟩ m cap0 news (by rw [hn1, hsz']) hn2 hone hmpos
     (by omega) (by rw [hby, ← hlen, ← h1]; exact hb) hc.basele
   rw [hsz', ← hsz] at hown
   obtain ⟨c', k1, k2, k3⟩ := append_core hc htk hsz hlen hes hval hxs h1 hmpos hn1 hn3 h5 hold hgg hown hgr hcap hrow
   exact ⟨_, w', c', hrun, k1, by rw [hlen, h1, ← hsz]; exact k2, k3⟩
theorem run_append_ways_str (base : Nat) (t u ty e : TypeId) (i : TypeInfo) (ht : P.underlying t = some (.slice e)) (hu : P.underlying u = some .string) (hi : P.info? e = some i) (hz : i.zero = some (.int .u8 0))
   (hsize : i.size = 1) (hby : i.bytes = 1) (v : Value) (n : Nat) (xs : List Value) (hown : w.ownsRow base e 1 v n xs) (s : ByteArray) (hm : 0 < s.size)
   (h63 : n + s.size ≤ maxLen) (hbytes : n + s.size ≤ 140737488355328) (hbase : base ≤ w.heap.size) :
   ∃ w' row g cap, (Builtin.append_ #[t, u] ty #[v, .string s]).run P w = .ok (.slice (some ⟨g, 0, none⟩) (n + s.size) cap) w' ∧
     w'.ownsRow base e 1 (.slice (some ⟨g, 0, none⟩) (n + s.size) cap) (n + s.size) (xs ++ Lib.strCells s) ∧ w.grownBy w' row ∧ n + s.size ≤ cap ∧
     ((row = none ∧ w.heap.size ≤ g) ∨ (row = some g ∧ v.ownBlock = some g)) := by
 have hsmall : n + s.size ≤ 9223372036854775807 := by simp only [maxLen] at h63; omega
 have hxl : xs.length = n := by simpa using hown.1
 have hlen : (xs ++ Lib.strCells s).length = (n + s.size) * 1 := by rw [List.length_append, hxl, Lib.strCells_length, Nat.mul_one]
 have grown : ∀ (old : Nat), old < n + s.size →
     (w.drew.alloc (.cells (xs.toArray ++ (Lib.strCells s).toArray ++ Builtin.zeroCells (Value.int .u8 0).cells (grownCap w (n + s.size) old e - (n + s.size))) e)).ownsRow base e 1
       (.slice (some ⟨w.heap.size, 0, none⟩) (n + s.size) (grownCap w (n + s.size) old e)) (n + s.size) (xs ++ Lib.strCells s) ∧
     w.grownBy (w.drew.alloc (.cells (xs.toArray ++ (Lib.strCells s).toArray ++ Builtin.zeroCells (Value.int .u8 0).cells (grownCap w (n + s.size) old e - (n + s.size))) e)) none ∧ n + s.size ≤ grownCap w (n + s.size) old e := by
   intro old ho
   have hge := grownCap_ge w (n + s.size) old e
   have hcm : grownCap w (n + s.size) old e ≤ maxLen := grownCap_le_maxLen w (n + s.size) old e h63
   refine ⟨⟨hlen, .inr ⟨w.heap.size, _, _, rfl, hbase, heap_alloc_new w.drew _, hge, hcm, ?_, ?_⟩⟩, ⟨rfl, rfl, rfl, by simp, fun k hk _ => heap_alloc_old w.drew _ hk⟩, hge⟩
   · have hz1 : (Value.int IntKind.u8 0).cells.size = 1 := rfl
     simp only [Array.size_append, List.size_toArray, size_zeroCells, hz1, hxl, Lib.strCells_length]
     omega
   · simp only [Array.toList_append, List.append_assoc]
     rw [← List.append_assoc, ← hlen]
     exact List.take_left
 rcases hown.2 with ⟨rfl, rfl⟩ | ⟨g, cap, cur, rfl, hbg, hg, hnc, hcm, hcs, htake⟩
 · have hx : xs = [] := List.eq_nil_of_length_eq_zero hxl
   subst hx
   have hr := run_append_nil_string (P := P) w t u ty e i (.int .u8 0) ht hu hi hz s (by omega) (by omega) (by rw [hby]; omega)
   have hgr := grown 0 (by omega)
   simp only [Nat.zero_add, List.nil_append, Array.empty_append] at hgr ⊢
   have e1 : (s.data.map fun b => Value.int .u8 b.toNat) = (Lib.strCells s).toArray := by
     apply Array.ext'
     simp [Lib.strCells]
   rw [e1] at hr
   exact ⟨_, none, _, _, hr, hgr.1, hgr.2.1, hgr.2.2, .inl ⟨rfl, Nat.le_refl _⟩⟩
 · by_cases hroom : n + s.size ≤ cap
   · have hcs' : cur.size = cap := by simpa using hcs
     have hr := Lib.run_append_room_string (P := P) w t u ty e i ht hu hi hsize g n cap cur hg s hroom (by omega)
     refine ⟨_, some g, _, _, hr, ⟨hlen, .inr ⟨g, cap, _, rfl, hbg, setRow_heap w g cur _ e _ hg, hroom, hcm, ?_, ?_⟩⟩, ⟨rfl, rfl, rfl, by simp, fun k _ hk => setRow_other w g k _ (fun e => hk (by simp [e]))⟩, hroom, .inr ⟨rfl, rfl⟩⟩
     · simp only [List.size_toArray, List.length_append, List.length_take, List.length_drop, Array.length_toList, Lib.strCells_length]
       omega
     · have ht' : cur.toList.take n = xs := by simpa using htake
       rw [ht', ← hlen]
       exact List.take_left
   · have holds : ∀ j u, xs[j]? = some u → w.cell? ((⟨g, 0, none⟩ : Addr).add j) = some u := hown.cells (g := g) rfl
     have hr := Lib.run_append_grow_string (P := P) w t u ty e i (.int .u8 0) ht hu hi hz ⟨g, 0, none⟩ n cap xs (by rw [hsize]; simpa using hxl) holds s (by omega) (by omega) (by rw [hby]; exact growslice_fits (by omega) (by omega))
     have hgr := grown cap (by omega)
     exact ⟨_, none, _, _, hr, hgr.1, hgr.2.1, hgr.2.2, .inl ⟨rfl, Nat.le_refl _⟩⟩
theorem append_tok_str (hc : Conf c w st) {t u ty e : TypeId} {by_ : Nat} (hsl : slE P t = some (e, 1, by_)) (hu : isStr P u = true) (hz : zeroOf P e = some (.int .u8 0)) (hb1 : by_ = 1)
   {id : Nat} {tk : Tok} (htk : c.tok[id]? = some tk) (he : tk.e = e) (hsz : tk.sz = 1) {es : List (List D)} {l : List UInt8} (hlen : es.length = tk.len) (hes : ∀ r ∈ es, r.length = 1)
   (hval : RelD c.H tk.val (.sl es)) {s : ByteArray} (hs : s.data.toList = l) (hne : l ≠ [])
   (hb : (es.length + l.length) * by_ ≤ roomB) (hm : es.length + l.length ≤ maxLen) :
   ∃ cv w' c', (Builtin.append_ #[t, u] ty #[tk.val, .string s]).run P w = .ok cv w' ∧ Rel c' cv (.own id (es ++ byteRows l)) ∧ Conf c' w' { st with toks := st.toks.set id (e, 1, es.length + l.length) } ∧ Ext c c' := by
 obtain ⟨hut, ie, hie, hsz', hby'⟩ := slE_eq hsl
 have hstr : P.underlying u = some .string := by
   unfold isStr at hu
   split at hu
   · assumption
   · cases hu
 have hz3 : ie.zero = some (.int .u8 0) := by
   unfold zeroOf at hz
   rw [hie] at hz
   simpa using hz
 obtain ⟨hsz0, hdd | ⟨old, hold, hgg⟩⟩ := hc.tokown id tk htk
 · exfalso; have := hdd.1; omega
 subst he
 have hsl' : s.size = l.length := by rw [← hs, Array.length_toList]; rfl
 have hmpos : 0 < l.length := List.length_pos_iff.2 hne
 have hold' : w.ownsRow c.base tk.e 1 tk.val tk.len old := by rw [← hsz]; exact hold
 obtain ⟨w', row, g, cap, hrun, hown, hgr, hcap, hrow⟩ := run_append_ways_str (P := P) c.base t u ty tk.e ie hut hstr hie hz3 hsz' (by rw [hby', hb1]) tk.val tk.len old hold' s (by omega) (by omega) (by rw [hsl']; simp only [hb1, Nat.mul_one, roomB] at hb; omega) hc.basele
 rw [hsl'] at hrun hown hcap
 have hown' : w'.ownsRow c.base tk.e tk.sz (.slice (some ⟨g, 0, none⟩) (tk.len + l.length) cap) (tk.len + l.length) (old ++ Lib.strCells s) := by rw [hsz]; exact hown
 have hxs : rowsOK 1 (byteRows l) = true := by simp [rowsOK, byteRows, D.one]
 obtain ⟨c', k1, k2, k3⟩ := append_core hc htk hsz hlen hes hval hxs (m := l.length) (vs := fun i _ => .int .u8 (l.getD i 0).toNat) (news := Lib.strCells s) (by simp [byteRows]) hmpos (by rw [Lib.strCells_length, hsl', Nat.mul_one])
   (fun i j hi hj => by
     have : j = 0 := by omega
     subst this
     simp [Lib.strCells, hs, List.getD_eq_getElem?_getD, hi])
   (fun i j hi hj => by
     have : j = 0 := by omega
     subst this
     simp only [byteRows, List.getD_eq_getElem?_getD, List.getElem?_map]
     rw [List.getElem?_eq_getElem hi]
     exact .int _ _) hold hgg hown' hgr hcap hrow
 exact ⟨_, w', c', hrun, k1, by rw [hlen, ← hsz]; exact k2, k3⟩
end Go.Abs
end
