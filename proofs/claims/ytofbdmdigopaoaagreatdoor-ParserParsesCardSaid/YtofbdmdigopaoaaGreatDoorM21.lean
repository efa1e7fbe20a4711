/- A step of the proofs of the seat's theorems. -/
import Derived.Test.YtofbdmdigopaoaaGreatDoorM5
import Derived.Test.YtofbdmdigopaoaaGreatDoorM14
import Derived.Test.YtofbdmdigopaoaaGreatDoorM20
set_option linter.unusedSimpArgs false
set_option linter.unusedVariables false
section
set_option maxHeartbeats 8000000
set_option maxRecDepth 20000
namespace Go.Proofs.YtofbdmdigopaoaaGreatDoor
open Go.Abs
variable {G : World → Nat → Prop}
abbrev bT : Nat := 106
abbrev bE : Nat := 5
theorem setCell_row {w : World} {k : Nat} {arr : Array Value} {e : TypeId} {f : Nat × Nat} (h : w.heap[k]? = some (.cells arr e f)) (i : Nat) (v : Value) : w.setCell ⟨k, i, none⟩ v = w.setRow k (arr.setIfInBounds i v) := by
 have hh : (w.setCell ⟨k, i, none⟩ v).heap = (w.setRow k (arr.setIfInBounds i v)).heap := by
   apply Array.ext_getElem?
   intro j
   by_cases hj : j = k
   · subst hj
     rw [setRow_heap w j arr _ e f h]
     simp only [World.setCell, Array.getElem?_modify, if_true, h]
     rfl
   · rw [setRow_other w k j _ hj]
     simp only [World.setCell, Array.getElem?_modify]
     rw [if_neg (fun e => hj e.symm)]
 simp only [World.setCell, World.setRow] at hh ⊢
 rw [hh]
theorem bld_at {c : Ctx} {w : World} {st : St} (hc : Conf c w st) {b : Nat} {p X : V} (hb : st.blks[b]? = some (.tc bT [p, X])) : ∃ k pv xv, c.mu[b]? = some k ∧ w.heap[k]? = some (.cells #[pv, xv] bT (0, 0)) ∧ Rel c pv p ∧ Rel c xv X := by
 have hlt : b < c.mu.length := by rw [hc.mulen]; exact (List.getElem?_eq_some_iff.1 hb).1
 have hk : c.mu[b]? = some c.mu[b] := List.getElem?_eq_getElem hlt
 obtain ⟨arr, elem, h1, h2, h3, h4⟩ := hc.rowAt hk hb rfl
 have he := h4 _ _ rfl
 subst he
 have h0 := h3 0 (by simp)
 have h1' := h3 1 (by simp)
 refine ⟨_, arr.getD 0 undef, arr.getD 1 undef, hk, ?_, by simpa using h0, by simpa using h1'⟩
 rw [h1]
 congr 2
 apply Array.ext
 · simpa using h2
 · intro i hi hi2
   simp only [List.length_cons, List.length_nil] at h2
   match i with
   | 0 => simp [Array.getD_eq_getD_getElem?, show 0 < arr.size by omega]
   | 1 => simp [Array.getD_eq_getD_getElem?, show 1 < arr.size by omega]
   | i + 2 => omega
theorem c_copyCheck_u (st : St) (b : Nat) (X : V) (hb : st.blks[b]? = some (.tc bT [.ptr b 0, X])) : Acalls Tryz.prog G 146 [.ptr b 0] st (fun o s => o = .ret (.tup []) ∧ s = st) := by
 intro c w cargs hc hG hs hr
 obtain ⟨k, pv, xv, hk, hh, hp, hx⟩ := bld_at hc hb
 have h0 := hr 0 (by simp)
 have ha : cargs = #[.pointer (some ⟨k, 0, none⟩)] := by
   simp only [List.getD_cons_zero] at h0
   generalize hq : cargs.getD 0 undef = q at h0
   cases h0 with | ptr _ k' _ hk' => ?_
   rw [hk] at hk'; cases hk'
   apply Array.ext
   · simpa using hs
   · intro i hi hi2
     have : i = 0 := by simp at hi2; omega
     subst this
     simpa [Array.getD_eq_getD_getElem?, hi] using hq
 subst ha
 have hpv : pv = .pointer (some ⟨k, 0, none⟩) := by
   cases hp with | ptr _ k' _ hk' => ?_
   rw [hk] at hk'; cases hk'; rfl
 subst hpv
 refine (cc_used k w (by simp [World.cell?, hh])).mono ?_
 rintro e w' ⟨rfl, rfl⟩
 exact ⟨.ret (.tup []), st, c, ⟨rfl, rfl⟩, Ext.refl c, hc, .tup _ _ rfl (by simp)⟩
theorem c_copyCheck_f (st : St) (b : Nat) (X : V) (hb : st.blks[b]? = some (.tc bT [.d .nilp, X])) : Acalls Tryz.prog G 146 [.ptr b 0] st (fun o s => o = .ret (.tup []) ∧ s = ⟨st.blks.set b (.tc bT [.ptr b 0, X]), st.toks⟩) := by
 intro c w cargs hc hG hs hr
 obtain ⟨k, pv, xv, hk, hh, hp, hx⟩ := bld_at hc hb
 have h0 := hr 0 (by simp)
 have ha : cargs = #[.pointer (some ⟨k, 0, none⟩)] := by
   simp only [List.getD_cons_zero] at h0
   generalize hq : cargs.getD 0 undef = q at h0
   cases h0 with | ptr _ k' _ hk' => ?_
   rw [hk] at hk'; cases hk'
   apply Array.ext
   · simpa using hs
   · intro i hi hi2
     have : i = 0 := by simp at hi2; omega
     subst this
     simpa [Array.getD_eq_getD_getElem?, hi] using hq
 subst ha
 have hpv : pv = .pointer none := by
   cases hp with | d _ _ h => ?_
   cases h; rfl
 subst hpv
 refine (cc_fresh k w (by simp [World.cell?, hh]) (by simp [World.shape?, hh]) (by simp [World.frozen?, hh])).mono ?_
 rintro e w' ⟨rfl, rfl⟩
 rw [setCell_row hh]
 refine ⟨.ret (.tup []), _, c, ⟨rfl, rfl⟩, Ext.refl c, ?_, .tup _ _ rfl (by simp)⟩
 refine hc.setRow hk hb hh (cs' := [.ptr b 0, X]) (by simp) (fun i hi => ?_) (.inr rfl)
 match i with
 | 0 => exact .ptr _ _ _ hk
 | 1 => simpa using hx
 | i + 2 => simp at hi; omega
end Go.Proofs.YtofbdmdigopaoaaGreatDoor
end
section
set_option maxHeartbeats 8000000
set_option maxRecDepth 20000
namespace Go.Proofs.YtofbdmdigopaoaaGreatDoor
open Go.Abs
variable {G : World → Nat → Prop}
theorem arg_ptr {c : Ctx} {b k : Nat} {cargs : Array Value} (hk : c.mu[b]? = some k) (hs : cargs.size = 1) (h0 : Rel c (cargs.getD 0 undef) (.ptr b 0)) : cargs = #[.pointer (some ⟨k, 0, none⟩)] := by
 generalize hq : cargs.getD 0 undef = q at h0
 cases h0 with | ptr _ k' _ hk' => ?_
 rw [hk] at hk'; cases hk'
 apply Array.ext
 · simpa using hs
 · intro i hi hi2
   have : i = 0 := by simp at hi2; omega
   subst this
   simpa [Array.getD_eq_getD_getElem?, hi] using hq
theorem own_bytes {c : Ctx} {w : World} {st : St} (hc : Conf c w st) {id : Nat} {s : Str} {xv : Value} (hx : Rel c xv (.own id (byteRows s))) (ht : st.toks[id]? = some (bE, 1, s.length)) (h0 : s ≠ []) :
   ∃ t g cap cur, c.tok[id]? = some t ∧ t.len = s.length ∧ t.val = xv ∧ xv = .slice (some ⟨g, 0, none⟩) s.length cap ∧ w.heap[g]? = some (.cells cur bE (0, 0)) ∧ s.length ≤ cap ∧ cap ≤ maxLen ∧ cur.size = cap ∧ t.e = bE ∧ t.sz = 1 ∧
     ∀ j x, s[j]? = some x → w.cell? ((⟨g, 0, none⟩ : Addr).add j) = some (.int .u8 x.toNat) := by
 have hl0 : s.length ≠ 0 := by simpa using h0
 have hrl : (byteRows s).length = s.length := by simp [byteRows]
 cases hx with | own _ _ _ t r htk hszr hle heq => ?_
 have htl : t.e = bE ∧ t.sz = 1 ∧ t.len = s.length := by
   have := hc.toklen ▸ ht
   rw [List.getElem?_map, htk] at this
   simpa using this
 obtain ⟨h1, h2, h3⟩ := htl
 have hv := heq (by rw [hrl, h3])
 subst hv
 obtain ⟨_, hdd | ⟨old, hold, _⟩⟩ := hc.tokown id t htk
 · exfalso
   generalize htv : t.val = tv at r
   generalize hbr : byteRows s = rows at r hrl
   cases r with
   | slnil => simp at hrl; exact h0 (List.length_eq_zero_iff.1 hrl.symm)
   | sl0 a => simp at hrl; exact h0 (List.length_eq_zero_iff.1 hrl.symm)
   | sl k off n cap sz vs _ b1 b2 b3 b4 b5 =>
     have := hdd.2
     rw [htv] at this
     simp [Value.ownBlock] at this
 rcases hold.2 with ⟨_, hn⟩ | ⟨g, cap, cur, hv, hbg, hg, hnc, hcm, hcs, htake⟩
 · omega
 refine ⟨t, g, cap, cur, htk, h3, rfl, by rw [hv, h3], by rw [hg, h1], by omega, hcm, by rw [hcs, h2, Nat.mul_one], h1, h2, ?_⟩
 intro j x hj
 have hjl : j < s.length := (List.getElem?_eq_some_iff.1 hj).1
 generalize htv : t.val = tv at r
 generalize hbr : byteRows s = rows at r hrl
 cases r with
 | slnil => simp at hrl; exact absurd (List.length_eq_zero_iff.1 hrl.symm) h0
 | sl0 a => simp at hrl; exact absurd (List.length_eq_zero_iff.1 hrl.symm) h0
 | sl k off n cap' sz vs _ b1 b2 b3 b4 b5 =>
   rw [htv] at hv
   simp only [Value.slice.injEq, Option.some.injEq, Addr.mk.injEq] at hv
   obtain ⟨⟨rfl, rfl, _⟩, _, _⟩ := hv
   have hsz1 : sz = 1 := by
     have := b3 (rows[0]'(by rw [hrl]; omega)) (List.getElem_mem _)
     subst hbr
     simpa [byteRows] using this.symm
   subst hsz1
   have e1 := b4 j 0 (by rw [← b1, hrl]; exact hjl) (by omega)
   have e2 := b5 j 0 (by rw [← b1, hrl]; exact hjl) (by omega)
   have e3 : (rows.getD j []).getD 0 .nilp = .int .u8 x.toNat := by
     subst hbr
     simp only [byteRows, List.getD_eq_getElem?_getD, List.getElem?_map, hj]
     rfl
   rw [e3] at e2
   generalize hvj : vs j 0 = vj at e1 e2
   cases e2
   have := hc.sealed _ _ _ e1
   rw [addr_add]
   simpa using this
theorem c_bString_row (st : St) (b id : Nat) (p : V) (s : Str) (hb : st.blks[b]? = some (.tc bT [p, .own id (byteRows s)])) (ht : st.toks[id]? = some (bE, 1, s.length)) (h0 : s ≠ []) :
   Acalls Tryz.prog G 110 [.ptr b 0] st (fun o s' => o = .ret (.d (.str s)) ∧ s' = ⟨st.blks, st.toks.set id (bE, 1, maxLen + 1)⟩) := by
 intro c w cargs hc hG hs hr
 obtain ⟨k, pv, xv, hk, hh, hp, hx⟩ := bld_at hc hb
 obtain ⟨t, g, cap, cur, q1, q2, q3, q4, q5, q6, q7, q8, q9, q10, q11⟩ := own_bytes hc hx ht h0
 have ha := arg_ptr hk (by simpa using hs) (hr 0 (by simp))
 subst ha q4
 refine (st_row k g cap pv bT cur s w hh q5 q6 q7 q8 h0 q11).mono ?_
 rintro e w' ⟨rfl, rfl⟩
 obtain ⟨k1, k2⟩ := hc.kill q1 (by rw [q2]; omega) (g := g) (by rw [q3]; rfl) s.length
 rw [q9, q10] at k1
 exact ⟨.ret (.d (.str s)), _, _, ⟨rfl, rfl⟩, k2, k1, .d _ _ (.str _ _ (by simp))⟩
theorem c_bString_nil (st : St) (b : Nat) (p : V) (hb : st.blks[b]? = some (.tc bT [p, .nils])) :
   Acalls Tryz.prog G 110 [.ptr b 0] st (fun o s' => o = .ret (.d (.str [])) ∧ s' = st) := by
 intro c w cargs hc hG hs hr
 obtain ⟨k, pv, xv, hk, hh, hp, hx⟩ := bld_at hc hb
 have ha := arg_ptr hk (by simpa using hs) (hr 0 (by simp))
 subst ha
 have hxv : xv = .slice none 0 0 := by cases hx; rfl
 subst hxv
 refine (st_nil k pv bT w hh).mono ?_
 rintro e w' ⟨rfl, rfl⟩
 exact ⟨.ret (.d (.str [])), st, c, ⟨rfl, rfl⟩, Ext.refl c, hc.drew, .d _ _ (.str _ _ rfl)⟩
end Go.Proofs.YtofbdmdigopaoaaGreatDoor
end
section
set_option maxHeartbeats 8000000
set_option maxRecDepth 20000
namespace Go.Proofs.YtofbdmdigopaoaaGreatDoor
open Go.Abs
attribute [local irreducible] AW OX condQ GQ bodyQ RoundsA thenQ blockQ Acalls
variable {G : World → Nat → Prop}
theorem set_get {α : Type} {l : List α} {i : Nat} {x y : α} (h : l[i]? = some x) : (l.set i y)[i]? = some y := List.getElem?_set_self (List.getElem?_eq_some_iff.1 h).1
theorem byteRows_len (s : Str) : (byteRows s).length = s.length := by simp [byteRows]
theorem byteRows_app (s t : Str) : byteRows s ++ byteRows t = byteRows (s ++ t) := by simp [byteRows]
theorem byteRows_one (c : UInt8) : [[D.int .u8 c.toNat]] = byteRows [c] := rfl
theorem rowsOK_bytes (s : Str) : rowsOK 1 (byteRows s) = true := by simp [rowsOK, byteRows, D.one]
theorem rowsLen_bytes (s : Str) : rowsLen 1 (byteRows s) = true := by simp [rowsLen, byteRows]
theorem appB_own {st : St} {e by_ id : Nat} {s x : Str} (ht : st.toks[id]? = some (e, 1, s.length)) (hx : x ≠ []) (h1 : (s.length + x.length) * by_ ≤ 140737488355328) (h2 : s.length + x.length ≤ 9223372036854775807) :
   appB (some 1) true true e 1 by_ (byteRows x) (.own id (byteRows s)) st = some (.own id (byteRows (s ++ x)), ⟨st.blks, st.toks.set id (e, 1, s.length + x.length)⟩) := by
 have hm : maxLen = 9223372036854775807 := by decide
 have he : (byteRows x).isEmpty = false := by cases x <;> simp_all [byteRows]
 simp only [appB, roomB, byteRows_len]
 rw [if_pos ⟨trivial, by omega, trivial⟩, if_pos ⟨ht, trivial, h1, by omega⟩, he, byteRows_app]
 rfl
theorem appB_ownE {st : St} {e by_ id : Nat} {s : Str} (ht : st.toks[id]? = some (e, 1, s.length)) (h1 : s.length * by_ ≤ 140737488355328) (h2 : s.length ≤ 9223372036854775807) :
   appB (some 1) true true e 1 by_ (byteRows []) (.own id (byteRows s)) st = some (.own id (byteRows s), st) := by
 have hm : maxLen = 9223372036854775807 := by decide
 simp only [appB, roomB, byteRows_len, List.length_nil, Nat.add_zero]
 rw [if_pos ⟨trivial, by omega, trivial⟩, if_pos ⟨ht, trivial, h1, by omega⟩]
 rfl
theorem appB_nil {st : St} {e by_ : Nat} {x : Str} (hx : x ≠ []) (h1 : x.length * by_ ≤ 140737488355328) (h2 : x.length ≤ 9223372036854775807) :
   appB (some 1) true true e 1 by_ (byteRows x) .nils st = some (.own st.toks.length (byteRows x), ⟨st.blks, st.toks ++ [(e, 1, x.length)]⟩) := by
 have hm : maxLen = 9223372036854775807 := by decide
 have he : (byteRows x).isEmpty = false := by cases x <;> simp_all [byteRows]
 simp only [appB, roomB, byteRows_len]
 rw [if_pos ⟨trivial, by omega, trivial⟩, if_pos ⟨h1, by omega⟩, he]
 rfl
theorem c_WB1 (st : St) (b id : Nat) (s : Str) (ch : UInt8) (hb : st.blks[b]? = some (.tc bT [.ptr b 0, .own id (byteRows s)])) (ht : st.toks[id]? = some (bE, 1, s.length)) (hs : s.length ≤ 4398046511104) :
   Acalls Tryz.prog G 113 [.ptr b 0, vc ch] st (fun o s' => o = .ret (.d .nili) ∧ s' = ⟨st.blks.set b (.tc bT [.ptr b 0, .own id (byteRows (s ++ [ch]))]), st.toks.set id (bE, 1, s.length + 1)⟩) := by
 have hcc := c_copyCheck_u (G := G) st b _ hb
 have hap := appB_own (st := st) (e := bE) (by_ := 1) (id := id) (s := s) (x := [ch]) ht (by simp) (by simp; omega) (by simp; omega)
 have hbl : b < st.blks.length := (List.getElem?_eq_some_iff.1 hb).1
 have hil : id < st.toks.length := (List.getElem?_eq_some_iff.1 ht).1
 refine Acalls.body Tryz.func113 rfl Tryz.ntmps113 (by simp) ?_
 (try refine Wk.aw fun _ hqq => ?_); (repeat' (first | ((first | refine Wk.hd ?_ | refine Wk.i ?_); simp -implicitDefEqProofs only [go_sem, seval, hb, byteRows_one, rowsOK_bytes, rowsLen_bytes, app_own, hap, splice]) | refine CQ_ok (hcc) ?_ | first | refine Wk.o ?_ | refine Wk.q (by assumption) ?_)); all_goals (repeat subst hqq)
 refine bodyQ_retM st.toks.length (Nat.le_refl _) (by simp only [St.cut, List.length_set, take_set_len, List.take_of_length_le, Nat.le_refl]; rfl) (set_old ?_) (by simp -implicitDefEqProofs only [go_sem, seval, resOf_tmp, Tryz.results113]; first | done | exact rfl) rfl rfl ⟨rfl, ?_⟩
 · simp [Blk.within, V.within, V.within.all, hbl, hil]
 · simp
theorem c_WB0 (st : St) (b : Nat) (ch : UInt8) (hb : st.blks[b]? = some (.tc bT [.d .nilp, .nils])) :
   Acalls Tryz.prog G 113 [.ptr b 0, vc ch] st (fun o s' => o = .ret (.d .nili) ∧ s' = ⟨st.blks.set b (.tc bT [.ptr b 0, .own st.toks.length (byteRows [ch])]), st.toks ++ [(bE, 1, 1)]⟩) := by
 have hcc := c_copyCheck_f (G := G) st b _ hb
 have hap := appB_nil (st := ⟨st.blks.set b (.tc bT [.ptr b 0, .nils]), st.toks⟩) (e := bE) (by_ := 1) (x := [ch]) (by simp) (by simp) (by simp)
 have hbl : b < st.blks.length := (List.getElem?_eq_some_iff.1 hb).1
 have hsg := set_get (y := Blk.tc bT [.ptr b 0, .nils]) hb
 refine Acalls.body Tryz.func113 rfl Tryz.ntmps113 (by simp) ?_
 (try refine Wk.aw fun _ hqq => ?_); (repeat' (first | ((first | refine Wk.hd ?_ | refine Wk.i ?_); simp -implicitDefEqProofs only [go_sem, seval, hsg, byteRows_one, rowsOK_bytes, rowsLen_bytes, app_nils, hap, splice, List.set_set]) | refine CQ_st (hcc) ?_ | first | refine Wk.o ?_ | refine Wk.q (by assumption) ?_)); all_goals (repeat subst hqq)
 refine bodyQ_retM (st.toks.length + 1) (by omega) (by simp only [St.cut, List.length_set, take_set_len]; rw [List.take_of_length_le (by simp)]) (set_old ?_) (by simp -implicitDefEqProofs only [go_sem, seval, resOf_tmp, Tryz.results113]; first | done | exact rfl) rfl rfl ⟨rfl, ?_⟩
 · simp [Blk.within, V.within, V.within.all, hbl]
 · simp
theorem c_WS1 (st : St) (b id : Nat) (s x : Str) (hb : st.blks[b]? = some (.tc bT [.ptr b 0, .own id (byteRows s)])) (ht : st.toks[id]? = some (bE, 1, s.length)) (hs : s.length ≤ 4398046511104) (hx : x ≠ []) (hx2 : x.length ≤ 4398046511104) :
   Acalls Tryz.prog G 136 [.ptr b 0, vs x] st (fun o s' => o = .ret (.tup [vint ↑x.length, .d .nili]) ∧ s' = ⟨st.blks.set b (.tc bT [.ptr b 0, .own id (byteRows (s ++ x))]), st.toks.set id (bE, 1, s.length + x.length)⟩) := by
 have hcc := c_copyCheck_u (G := G) st b _ hb
 have hap := appB_own (st := st) (e := bE) (by_ := 1) (id := id) (s := s) (x := x) ht hx (by omega) (by omega)
 have hbl : b < st.blks.length := (List.getElem?_eq_some_iff.1 hb).1
 have hil : id < st.toks.length := (List.getElem?_eq_some_iff.1 ht).1
 have hne : ((46 : Nat) == 9) = false := by decide
 refine Acalls.body Tryz.func136 rfl Tryz.ntmps136 (by simp) ?_
 (try refine Wk.aw fun _ hqq => ?_); (repeat' (first | ((first | refine Wk.hd ?_ | refine Wk.i ?_); simp -implicitDefEqProofs only [go_sem, seval, hb, hne, Bool.and_self, rowsOK_bytes, rowsLen_bytes, app_own, hap, splice]) | refine CQ_ok (hcc) ?_ | first | refine Wk.o ?_ | refine Wk.q (by assumption) ?_)); all_goals (repeat subst hqq)
 refine bodyQ_retM st.toks.length (Nat.le_refl _) (by simp only [St.cut, List.length_set, take_set_len, List.take_of_length_le, Nat.le_refl]; rfl) (set_old ?_) (by simp -implicitDefEqProofs only [go_sem, seval, resOf_tmp, Tryz.results136]; first | done | exact rfl) rfl rfl ⟨rfl, ?_⟩
 · simp [Blk.within, V.within, V.within.all, hbl, hil]
 · simp
theorem c_WS1e (st : St) (b id : Nat) (s : Str) (hb : st.blks[b]? = some (.tc bT [.ptr b 0, .own id (byteRows s)])) (ht : st.toks[id]? = some (bE, 1, s.length)) (hs : s.length ≤ 4398046511104) :
   Acalls Tryz.prog G 136 [.ptr b 0, vs []] st (fun o s' => o = .ret (.tup [vint 0, .d .nili]) ∧ s' = ⟨st.blks.set b (.tc bT [.ptr b 0, .own id (byteRows s)]), st.toks⟩) := by
 have hcc := c_copyCheck_u (G := G) st b _ hb
 have hap := appB_ownE (st := st) (e := bE) (by_ := 1) (id := id) (s := s) ht (by omega) (by omega)
 have hbl : b < st.blks.length := (List.getElem?_eq_some_iff.1 hb).1
 have hil : id < st.toks.length := (List.getElem?_eq_some_iff.1 ht).1
 have hne : ((46 : Nat) == 9) = false := by decide
 refine Acalls.body Tryz.func136 rfl Tryz.ntmps136 (by simp) ?_
 (try refine Wk.aw fun _ hqq => ?_); (repeat' (first | ((first | refine Wk.hd ?_ | refine Wk.i ?_); simp -implicitDefEqProofs only [go_sem, seval, hb, hne, Bool.and_self, rowsOK_bytes, rowsLen_bytes, app_own, hap, splice]) | refine CQ_ok (hcc) ?_ | first | refine Wk.o ?_ | refine Wk.q (by assumption) ?_)); all_goals (repeat subst hqq)
 refine bodyQ_retM st.toks.length (Nat.le_refl _) (by simp only [St.cut, take_set_len, List.take_length]; rfl) (set_old ?_) (by simp -implicitDefEqProofs only [go_sem, seval, resOf_tmp, Tryz.results136]; first | done | exact rfl) rfl rfl ⟨rfl, ?_⟩
 · simp [Blk.within, V.within, V.within.all, hbl, hil]
 · simp
theorem c_bLen1 (st : St) (b id : Nat) (s : Str) (hb : st.blks[b]? = some (.tc bT [.ptr b 0, .own id (byteRows s)])) :
   Acalls Tryz.prog G 109 [.ptr b 0] st (fun o s' => o = .ret (vint ↑s.length) ∧ s' = st) := by
 refine Acalls.body Tryz.func109 rfl Tryz.ntmps109 (by simp) ?_
 (try refine Wk.aw fun _ hqq => ?_); (repeat' (first | ((refine Wk.i ?_); simp -implicitDefEqProofs only [go_sem, seval, hb, byteRows_len]) | refine Wk.ret fun _ _ => ?_ | (refine Wk.fin (by assumption) ?_; refine ⟨?_, rfl⟩) | first | refine Wk.o ?_ | refine Wk.q (by assumption) ?_)); all_goals (repeat subst hqq)
 all_goals rfl
theorem c_bLen0 (st : St) (b : Nat) (p : V) (hb : st.blks[b]? = some (.tc bT [p, .nils])) :
   Acalls Tryz.prog G 109 [.ptr b 0] st (fun o s' => o = .ret (vint 0) ∧ s' = st) := by
 refine Acalls.body Tryz.func109 rfl Tryz.ntmps109 (by simp) ?_
 (try refine Wk.aw fun _ hqq => ?_); (repeat' (first | ((refine Wk.i ?_); simp -implicitDefEqProofs only [go_sem, seval, hb]) | refine Wk.ret fun _ _ => ?_ | (refine Wk.fin (by assumption) ?_; refine ⟨?_, rfl⟩) | first | refine Wk.o ?_ | refine Wk.q (by assumption) ?_)); all_goals (repeat subst hqq)
 all_goals rfl
end Go.Proofs.YtofbdmdigopaoaaGreatDoor
end
section
set_option maxHeartbeats 8000000
set_option maxRecDepth 20000
namespace Go.Proofs.YtofbdmdigopaoaaGreatDoor
open Go.Abs
attribute [local irreducible] AW OX condQ GQ bodyQ RoundsA thenQ blockQ Acalls
variable {G : World → Nat → Prop}
theorem unusedF_iff (v : Val) : unusedF v = true ↔ (v.kind = 1 ∨ v.bool = false) ∧ (v.kind = 2 ∨ v.int = 0) ∧ (v.kind = 3 ∨ v.str = []) ∧ (v.kind = 4 ∨ v.kind = 5 ∨ (v.list.length : Int) = 0) ∧ (v.kind = 5 ∨ (v.keys.length : Int) = 0) := by
 have h2 : v.list = [] ↔ (v.list.length : Int) = 0 := by cases v.list <;> simp; omega
 have h3 : v.keys = [] ↔ (v.keys.length : Int) = 0 := by cases v.keys <;> simp; omega
 simp only [unusedF, Bool.and_eq_true, Bool.or_eq_true, decide_eq_true_eq, Bool.not_eq_true', h2, h3, and_assoc, or_assoc]
theorem c_plain07 (v : Val) (fv : vFit v) : Ans G 131 [vV v] (vb (unusedF v)) := by
 intro st
 rw [vV, Val.enc_eq]
 obtain ⟨a1, a2, a3, a4, a5⟩ := (vFit_iff v).1 fv
 refine Acalls.body Tryz.func131 rfl Tryz.ntmps131 (by simp) ?_
 (try refine Wk.aw fun _ hqq => ?_); (repeat' (first | ((first | refine Wk.hd ?_ | refine Wk.i ?_); simp -implicitDefEqProofs only [go_sem, seval]) | (refine TQ_s (fun hc => ?_) (fun hc => ?_) <;> try omega) | refine Wk.ret fun _ _ => ?_ | (refine Wk.fin (by assumption) ?_; refine ⟨?_, rfl⟩) | first | refine Wk.o ?_ | refine Wk.q (by assumption) ?_)); all_goals (repeat subst hqq)
 all_goals (refine congrArg (fun b => Out.ret (.d (.bool b))) ?_; rw [Bool.eq_iff_iff, unusedF_iff]; clear fv a4 a5; grind)
theorem c_unused (v : Val) (fv : vFit v) : Ans G 160 [vV v] (vb (unusedF v)) := by
 intro st
 rw [vV, Val.enc_eq]
 obtain ⟨a1, a2, a3, a4, a5⟩ := (vFit_iff v).1 fv
 refine Acalls.body Tryz.func160 rfl Tryz.ntmps160 (by simp) ?_
 (try refine Wk.aw fun _ hqq => ?_); (repeat' (first | ((first | refine Wk.hd ?_ | refine Wk.i ?_); simp -implicitDefEqProofs only [go_sem, seval]) | (refine TQ_s (fun hc => ?_) (fun hc => ?_) <;> try omega) | refine Wk.ret fun _ _ => ?_ | (refine Wk.fin (by assumption) ?_; refine ⟨?_, rfl⟩) | first | refine Wk.o ?_ | refine Wk.q (by assumption) ?_)); all_goals (repeat subst hqq)
 all_goals (refine congrArg (fun b => Out.ret (.d (.bool b))) ?_; rw [Bool.eq_iff_iff, unusedF_iff]; clear fv a4 a5; grind)
end Go.Proofs.YtofbdmdigopaoaaGreatDoor
end
section
set_option maxHeartbeats 8000000
set_option maxRecDepth 20000
namespace Go.Proofs.YtofbdmdigopaoaaGreatDoor
open Go.Abs
attribute [local irreducible] AW OX condQ GQ bodyQ RoundsA thenQ blockQ Acalls
variable {G : World → Nat → Prop}
theorem c_key07 (k : Str) : Ans G 163 [vs k] (vb (okKey k)) := by
 intro st
 refine Acalls.body Tryz.func163 rfl Tryz.ntmps163 (by simp) ?_
 (try refine Wk.aw fun _ hqq => ?_); (repeat' (first | ((first | refine Wk.hd ?_ | refine Wk.i ?_); simp -implicitDefEqProofs only [go_sem, seval]) | (refine TQ_s (fun hc => ?_) (fun hc => ?_) <;> try omega) | refine Wk.ret fun _ _ => ?_ | (refine Wk.fin (by assumption) ?_; refine ⟨?_, rfl⟩) | first | refine Wk.o ?_ | refine Wk.q (by assumption) ?_)); all_goals (repeat subst hqq)
 all_goals (refine ret_bool ?_; simp only [okKey, decide_eq_true_eq, reduceCtorEq, iff_false, false_iff, iff_true, true_iff]; omega)
theorem keysAsc_at (l : List Str) (i : Nat) (hi : i < l.length) : keysAsc (l.drop i) = (okKey (l.getD i default) && (if i + 1 < l.length then decide (natCmp (l.getD i default) (l.getD (i + 1) default) < 0) else true) && keysAsc (l.drop (i + 1))) := by
 rw [List.drop_eq_getElem_cons hi, keysAsc.eq_def, getD_eq hi]
 simp only
 by_cases h : i + 1 < l.length
 · rw [List.drop_eq_getElem_cons h, if_pos h, getD_eq h]
 · rw [List.drop_of_length_le (by omega), if_neg h]
def ascAt (l : List Str) (i : Nat) : Bool := (decide (i = 0) || decide (l.length ≤ i) || decide (natCmp (l.getD (i - 1) default) (l.getD i default) < 0)) && keysAsc (l.drop i)
theorem ascAt_0 (l : List Str) : ascAt l 0 = keysAsc l := by simp [ascAt]
theorem ascAt_end (l : List Str) : ascAt l l.length = true := by simp [ascAt, keysAsc]
theorem ascAt_step (l : List Str) (i : Nat) (hi : i < l.length) : ascAt l i = ((decide (i = 0) || decide (natCmp (l.getD (i - 1) default) (l.getD i default) < 0)) && okKey (l.getD i default) && ascAt l (i + 1)) := by
 simp only [ascAt, keysAsc_at l i hi, Nat.add_sub_cancel]
 have h0 : decide (l.length ≤ i) = false := decide_eq_false (by omega)
 have h1 : decide (i + 1 = 0) = false := decide_eq_false (by omega)
 rw [h0, h1]
 by_cases h : i + 1 < l.length
 · have h2 : decide (l.length ≤ i + 1) = false := decide_eq_false (by omega)
   rw [if_pos h, h2]; simp [Bool.and_assoc]
 · have h2 : decide (l.length ≤ i + 1) = true := decide_eq_true (by omega)
   rw [if_neg h, h2]; simp [Bool.and_assoc]
theorem c_ascending (v : Val) (fv : vFit v) : Ans G 132 [vV v] (vb (decide (v.keys.length = v.list.length ∧ keysAsc v.keys = true))) := by
 intro st
 rw [show decide (v.keys.length = v.list.length ∧ keysAsc v.keys = true) = (decide (v.keys.length = v.list.length) && keysAsc v.keys) from by rw [Bool.eq_iff_iff]; simp]
 obtain ⟨a1, a2, a3, a4, a5⟩ := (vFit_iff v).1 fv
 refine Acalls.body Tryz.func132 rfl Tryz.ntmps132 (by simp) ?_
 (try refine Wk.aw fun _ hqq => ?_); (repeat' (first | ((refine Wk.i ?_); simp -implicitDefEqProofs (disch := omega) only [go_sem, seval]) | refine Wk.o ?_)); all_goals (repeat subst hqq)
 refine AW.loopS (fun i : Nat => [(1, .ptr st.blks.length 0), (3, vint ↑i)]) (fun _ => [.cells (v.enc.map .d)]) (fun _ => []) (fun i => i ≤ v.keys.length ∧ ascAt v.keys i = keysAsc v.keys) (fun i => v.keys.length - i) 0 (by simp -implicitDefEqProofs (disch := omega) only [go_sem, seval] <;> first | rfl | exact ⟨rfl, rfl⟩ | skip) (by simp -implicitDefEqProofs (disch := omega) only [go_sem, seval] <;> first | rfl | exact ⟨rfl, rfl⟩ | skip) ⟨by omega, ascAt_0 _⟩ ?_
 intro i ⟨h1, h2⟩
 have h3 := ascAt_step v.keys i
 rw [← h2]
 by_cases hi : i < v.keys.length
 · have hk := a4 _ (getD_mem hi)
   have hk2 := a4 _ (getD_mem (l := v.keys) (i := i - 1) (by omega))
   rw [h3 hi]
   (try refine Wk.aw fun _ hqq => ?_); (repeat' (first | ((first | refine Wk.hd ?_ | refine Wk.i ?_); simp -implicitDefEqProofs (disch := omega) only [go_sem, seval]) | (refine TQ_s (fun hc => ?_) (fun hc => ?_) <;> try omega) | refine CQ_ok (c_key07 _ _) ?_ | refine CQ_ok (c_ref04_Compare _ _ (by first | exact hk2 | exact a4 _ (getD_mem (by omega))) hk _) ?_ | refine Wk.drawn mx (by kernel_rfl) ?_ | refine Wk.ret fun _ _ => ?_ | (refine Wk.fin (by assumption) ?_; refine ⟨?_, rfl⟩) | first | refine Wk.o ?_ | refine Wk.q (by assumption) ?_)); all_goals (repeat subst hqq)
   · refine ret_bool ?_
     rw [hc]; simp
   · refine ret_bool ?_
     have : decide (i = 0) = false := decide_eq_false (by omega)
     have h5 : decide (natCmp (v.keys.getD (i - 1) default) (v.keys.getD i default) < 0) = false := decide_eq_false (by rw [show i - 1 = (↑i - 1 : Int).toNat by omega]; omega)
     rw [this, h5]; simp
   · have : decide (natCmp (v.keys.getD (i - 1) default) (v.keys.getD i default) < 0) = true := decide_eq_true (by rw [show i - 1 = (↑i - 1 : Int).toNat by omega]; omega)
     rw [this, ‹okKey _ = true›]
     (refine ⟨i + 1, Nxt.mk ?_ ?_ ?_ (by simp -implicitDefEqProofs (disch := omega) only [go_sem, seval]) (by simp -implicitDefEqProofs (disch := omega) only [go_sem, seval]) (by first | rfl | (simp -implicitDefEqProofs (disch := omega) only [go_sem, seval]; all_goals omega)) (by first | rfl | (simp -implicitDefEqProofs (disch := omega) only [go_sem, seval]; all_goals omega))⟩; focus (try (simp -implicitDefEqProofs (disch := omega) only [go_sem, seval]); try ((repeat' apply And.intro) <;> first | rfl | trivial | refine vi_congr ?_ | refine vs_congr ?_ | refine vown_congr ?_ | skip)))
     · exact ⟨by omega, by simp⟩
     · omega
   · have : decide (i = 0) = true := decide_eq_true (by omega)
     rw [this, ‹okKey _ = true›]
     (refine ⟨i + 1, Nxt.mk ?_ ?_ ?_ (by simp -implicitDefEqProofs (disch := omega) only [go_sem, seval]) (by simp -implicitDefEqProofs (disch := omega) only [go_sem, seval]) (by first | rfl | (simp -implicitDefEqProofs (disch := omega) only [go_sem, seval]; all_goals omega)) (by first | rfl | (simp -implicitDefEqProofs (disch := omega) only [go_sem, seval]; all_goals omega))⟩; focus (try (simp -implicitDefEqProofs (disch := omega) only [go_sem, seval]); try ((repeat' apply And.intro) <;> first | rfl | trivial | refine vi_congr ?_ | refine vs_congr ?_ | refine vown_congr ?_ | skip)))
     · exact ⟨by omega, by simp⟩
     · omega
 · have hi' : i = v.keys.length := by omega
   subst hi'
   rw [ascAt_end]
   (try refine Wk.aw fun _ hqq => ?_); (repeat' (first | ((refine Wk.i ?_); simp -implicitDefEqProofs (disch := omega) only [go_sem, seval, Nat.lt_irrefl]) | refine Wk.ret fun _ _ => ?_ | (refine Wk.fin (by assumption) ?_; refine ⟨?_, rfl⟩) | first | refine Wk.o ?_ | refine Wk.q (by assumption) ?_ | refine Wk.sw fun _ hqq => ?_)); all_goals (repeat subst hqq)
   all_goals simp
theorem vNode_len (v : Val) (level : Nat) : vNode v level = if 16 < level then 13 else if v.kind < 0 ∨ 5 < v.kind ∨ unusedF v = false then 1
 else if v.int < -9007199254740992 ∨ 9007199254740992 < v.int then 2
 else if 4096 < v.str.length ∨ 1024 < v.list.length ∨ 1024 < v.keys.length then 3
 else if v.kind = 5 ∧ ¬ (v.keys.length = v.list.length ∧ keysAsc v.keys = true) then 1
 else if (v.kind = 4 ∨ v.kind = 5) ∧ v.list.length = 0 ∧ level = 16 then 13 else 0 := by
 have h2 : v.list = [] ↔ v.list.length = 0 := by cases v.list <;> simp
 simp only [vNode, h2]
theorem vNode_A (v : Val) (level : Nat) (hA : v.keys.length = v.list.length ∧ keysAsc v.keys = true) : vNode v level = if 16 < level then 13 else if v.kind < 0 ∨ 5 < v.kind ∨ unusedF v = false then 1
 else if v.int < -9007199254740992 ∨ 9007199254740992 < v.int then 2
 else if 4096 < v.str.length ∨ 1024 < v.list.length ∨ 1024 < v.keys.length then 3
 else if (v.kind = 4 ∨ v.kind = 5) ∧ v.list.length = 0 ∧ level = 16 then 13 else 0 := by
 rw [vNode_len]; simp only [eq_true hA, not_true_eq_false, and_false, if_false]
theorem vNode_nA (v : Val) (level : Nat) (hA : ¬ (v.keys.length = v.list.length ∧ keysAsc v.keys = true)) : vNode v level = if 16 < level then 13 else if v.kind < 0 ∨ 5 < v.kind ∨ unusedF v = false then 1
 else if v.int < -9007199254740992 ∨ 9007199254740992 < v.int then 2
 else if 4096 < v.str.length ∨ 1024 < v.list.length ∨ 1024 < v.keys.length then 3
 else if v.kind = 5 then 1
 else if (v.kind = 4 ∨ v.kind = 5) ∧ v.list.length = 0 ∧ level = 16 then 13 else 0 := by
 rw [vNode_len]; simp only [eq_false hA, not_false_eq_true, and_true]
theorem vCheck_eq (level : Nat) (v : Val) : vCheck level v = if vNode v level ≠ 0 then vNode v level else vCheck.vCheckL (level + 1) v.list := by
 cases v; rw [vCheck]; rfl
theorem vCheckL_at (level : Nat) (l : List Val) (i : Nat) : vCheck.vCheckL level (l.drop i) = if i < l.length then (if vCheck level (l.getD i default) ≠ 0 then vCheck level (l.getD i default) else vCheck.vCheckL level (l.drop (i + 1))) else 0 := by
 by_cases h : i < l.length
 · rw [List.drop_eq_getElem_cons h, if_pos h, getD_eq h, vCheck.vCheckL]
 · rw [List.drop_of_length_le (by omega), if_neg h, vCheck.vCheckL]
theorem c_check07 : ∀ v : Val, vFit v → ∀ level : Nat, level ≤ 1000 → Ans G 93 [vV v, vint level] (vint (vCheck level v)) := by
 intro v
 induction v using Val.ind with
 | h v ih =>
   intro fv level hlv st
   obtain ⟨a1, a2, a3, a4, a5⟩ := (vFit_iff v).1 fv
   have hp := c_plain07 (G := G) v fv
   have hasc := c_ascending (G := G) v fv
   rw [vCheck_eq]
   by_cases hd : 16 < level
   · have hn : vNode v level = 13 := if_pos hd
     rw [hn]
     refine Acalls.body Tryz.func93 rfl Tryz.ntmps93 (by simp) ?_
     (try refine Wk.aw fun _ hqq => ?_); (repeat' (first | ((refine Wk.i ?_); simp -implicitDefEqProofs (disch := omega) only [go_sem, seval]) | (refine TQ_s (fun hc => ?_) (fun hc => ?_) <;> try omega) | refine Wk.ret fun _ _ => ?_ | (refine Wk.fin (by assumption) ?_; refine ⟨?_, rfl⟩) | first | refine Wk.o ?_ | refine Wk.q (by assumption) ?_)); all_goals (repeat subst hqq)
     all_goals rfl
   · by_cases hA : v.keys.length = v.list.length ∧ keysAsc v.keys = true
     · refine Acalls.body Tryz.func93 rfl Tryz.ntmps93 (by simp) ?_
       (try refine Wk.aw fun _ hqq => ?_); (repeat' (first | ((first | refine Wk.hd ?_ | refine Wk.i ?_); simp -implicitDefEqProofs (disch := omega) only [go_sem, seval]) | (refine TQ_s (fun hc => ?_) (fun hc => ?_) <;> try omega) | refine CQ_ok (hp _) ?_ | refine CQ_ok (hasc _) ?_ | refine Wk.ret fun _ _ => ?_ | (refine Wk.fin (by assumption) ?_; refine ⟨?_, rfl⟩) | first | refine Wk.o ?_ | refine Wk.q (by assumption) ?_)); all_goals (repeat subst hqq)
       all_goals first
         | (exfalso; contradiction)
         | (refine ret_int ?_; rw [vNode_A v level hA]; simp (disch := first | assumption | omega | exact .inr (.inr ‹_›) | (simp only [‹unusedF v = true›, reduceCtorEq, or_false]; omega) | exact ⟨‹_›, ‹_›⟩ | (rintro ⟨h1, h2⟩; first | omega | exact h2 ‹_› | exact h2 ⟨‹_›, ‹_›⟩)) only [if_pos, if_neg]; all_goals rfl)
         | skip
       all_goals (have hv0 : vNode v level = 0 := (by rw [vNode_A v level hA]; simp (disch := first | assumption | omega | exact .inr (.inr ‹_›) | (simp only [‹unusedF v = true›, reduceCtorEq, or_false]; omega) | exact ⟨‹_›, ‹_›⟩ | (rintro ⟨h1, h2⟩; first | omega | exact h2 ‹_› | exact h2 ⟨‹_›, ‹_›⟩)) only [if_pos, if_neg]))
       all_goals rw [hv0]
       all_goals refine AW.loopS (fun i : Nat => [(1, vint ↑level), (2, .ptr st.blks.length 0), (5, vint ↑i)]) (fun _ => [.cells (v.enc.map .d)]) (fun _ => []) (fun i => i ≤ v.list.length ∧ vCheck.vCheckL (level + 1) (v.list.drop i) = vCheck.vCheckL (level + 1) v.list) (fun i => v.list.length - i) 0 (by simp -implicitDefEqProofs (disch := omega) only [go_sem, seval] <;> first | rfl | exact ⟨rfl, rfl⟩ | skip) (by simp -implicitDefEqProofs (disch := omega) only [go_sem, seval] <;> first | rfl | exact ⟨rfl, rfl⟩ | skip) ⟨by omega, rfl⟩ ?_
       all_goals (intro i ⟨h1, h2⟩; have h3 := vCheckL_at (level + 1) v.list i; rw [if_neg (by simp), ← h2])
       all_goals (try refine Wk.aw fun _ hqq => ?_); (repeat' (first | ((first | refine Wk.hd ?_ | refine Wk.i ?_); simp -implicitDefEqProofs (disch := omega) only [go_sem, seval]) | (refine TQ_s (fun hc => ?_) (fun hc => ?_) <;> try omega) | refine CQ_ok (ih _ (getD_mem (by omega)) (a5 _ (getD_mem (by omega))) (level + 1) (by omega) _) ?_ | refine Wk.ret fun _ _ => ?_ | (refine Wk.fin (by assumption) ?_; refine ⟨?_, rfl⟩) | first | refine Wk.o ?_ | refine Wk.q (by assumption) ?_ | refine Wk.sw fun _ hqq => ?_)); all_goals (repeat subst hqq)
       all_goals first
         | (rw [if_pos (by first | assumption | omega), if_pos (by assumption)] at h3; rw [h3]; done)
         | (rw [if_neg (by first | assumption | omega)] at h3; rw [h3]; done)
         | skip
       all_goals (rw [if_pos (by first | assumption | omega), if_neg (by assumption)] at h3)
       all_goals ((refine ⟨i + 1, Nxt.mk ?_ ?_ ?_ (by simp -implicitDefEqProofs (disch := omega) only [go_sem, seval]) (by simp -implicitDefEqProofs (disch := omega) only [go_sem, seval]) (by first | rfl | (simp -implicitDefEqProofs (disch := omega) only [go_sem, seval]; all_goals omega)) (by first | rfl | (simp -implicitDefEqProofs (disch := omega) only [go_sem, seval]; all_goals omega))⟩; focus (try (simp -implicitDefEqProofs (disch := omega) only [go_sem, seval]); try ((repeat' apply And.intro) <;> first | rfl | trivial | refine vi_congr ?_ | refine vs_congr ?_ | refine vown_congr ?_ | skip))))
       all_goals first | omega | exact ⟨by omega, by rw [h3]⟩
     · refine Acalls.body Tryz.func93 rfl Tryz.ntmps93 (by simp) ?_
       (try refine Wk.aw fun _ hqq => ?_); (repeat' (first | ((first | refine Wk.hd ?_ | refine Wk.i ?_); simp -implicitDefEqProofs (disch := omega) only [go_sem, seval]) | (refine TQ_s (fun hc => ?_) (fun hc => ?_) <;> try omega) | refine CQ_ok (hp _) ?_ | refine CQ_ok (hasc _) ?_ | refine Wk.ret fun _ _ => ?_ | (refine Wk.fin (by assumption) ?_; refine ⟨?_, rfl⟩) | first | refine Wk.o ?_ | refine Wk.q (by assumption) ?_)); all_goals (repeat subst hqq)
       all_goals first
         | (exfalso; contradiction)
         | (refine ret_int ?_; rw [vNode_nA v level hA]; simp (disch := first | assumption | omega | exact .inr (.inr ‹_›) | (simp only [‹unusedF v = true›, reduceCtorEq, or_false]; omega) | exact ⟨‹_›, ‹_›⟩ | (rintro ⟨h1, h2⟩; first | omega | exact h2 ‹_› | exact h2 ⟨‹_›, ‹_›⟩)) only [if_pos, if_neg]; all_goals rfl)
         | skip
       all_goals (have hv0 : vNode v level = 0 := (by rw [vNode_nA v level hA]; simp (disch := first | assumption | omega | exact .inr (.inr ‹_›) | (simp only [‹unusedF v = true›, reduceCtorEq, or_false]; omega) | exact ⟨‹_›, ‹_›⟩ | (rintro ⟨h1, h2⟩; first | omega | exact h2 ‹_› | exact h2 ⟨‹_›, ‹_›⟩)) only [if_pos, if_neg]))
       all_goals rw [hv0]
       all_goals refine AW.loopS (fun i : Nat => [(1, vint ↑level), (2, .ptr st.blks.length 0), (5, vint ↑i)]) (fun _ => [.cells (v.enc.map .d)]) (fun _ => []) (fun i => i ≤ v.list.length ∧ vCheck.vCheckL (level + 1) (v.list.drop i) = vCheck.vCheckL (level + 1) v.list) (fun i => v.list.length - i) 0 (by simp -implicitDefEqProofs (disch := omega) only [go_sem, seval] <;> first | rfl | exact ⟨rfl, rfl⟩ | skip) (by simp -implicitDefEqProofs (disch := omega) only [go_sem, seval] <;> first | rfl | exact ⟨rfl, rfl⟩ | skip) ⟨by omega, rfl⟩ ?_
       all_goals (intro i ⟨h1, h2⟩; have h3 := vCheckL_at (level + 1) v.list i; rw [if_neg (by simp), ← h2])
       all_goals (try refine Wk.aw fun _ hqq => ?_); (repeat' (first | ((first | refine Wk.hd ?_ | refine Wk.i ?_); simp -implicitDefEqProofs (disch := omega) only [go_sem, seval]) | (refine TQ_s (fun hc => ?_) (fun hc => ?_) <;> try omega) | refine CQ_ok (ih _ (getD_mem (by omega)) (a5 _ (getD_mem (by omega))) (level + 1) (by omega) _) ?_ | refine Wk.ret fun _ _ => ?_ | (refine Wk.fin (by assumption) ?_; refine ⟨?_, rfl⟩) | first | refine Wk.o ?_ | refine Wk.q (by assumption) ?_ | refine Wk.sw fun _ hqq => ?_)); all_goals (repeat subst hqq)
       all_goals first
         | (rw [if_pos (by first | assumption | omega), if_pos (by assumption)] at h3; rw [h3]; done)
         | (rw [if_neg (by first | assumption | omega)] at h3; rw [h3]; done)
         | skip
       all_goals (rw [if_pos (by first | assumption | omega), if_neg (by assumption)] at h3)
       all_goals ((refine ⟨i + 1, Nxt.mk ?_ ?_ ?_ (by simp -implicitDefEqProofs (disch := omega) only [go_sem, seval]) (by simp -implicitDefEqProofs (disch := omega) only [go_sem, seval]) (by first | rfl | (simp -implicitDefEqProofs (disch := omega) only [go_sem, seval]; all_goals omega)) (by first | rfl | (simp -implicitDefEqProofs (disch := omega) only [go_sem, seval]; all_goals omega))⟩; focus (try (simp -implicitDefEqProofs (disch := omega) only [go_sem, seval]); try ((repeat' apply And.intro) <;> first | rfl | trivial | refine vi_congr ?_ | refine vs_congr ?_ | refine vown_congr ?_ | skip))))
       all_goals first | omega | exact ⟨by omega, by rw [h3]⟩
end Go.Proofs.YtofbdmdigopaoaaGreatDoor
end
