/- A step of the proofs of the seat's theorems. -/
import Derived.Test.YtofbdmdigopaoaaGreatDoorQ18
import Derived.Test.YtofbdmdigopaoaaGreatDoorQ20
import Derived.Test.YtofbdmdigopaoaaGreatDoorQ23
set_option linter.unusedSimpArgs false
set_option linter.unusedVariables false
section
set_option maxHeartbeats 8000000
set_option maxRecDepth 20000
namespace Go.Proofs.YtofbdmdigopaoaaGreatDoor
open Go.Abs
attribute [local irreducible] AW OX condQ GQ bodyQ RoundsA thenQ blockQ Acalls
variable {G : World → Nat → Prop}
abbrev rdB (T : List Tk) (j : Nat) : Blk := .cells [vTl T, vint ↑j]
abbrev panV (j : Nat) (code : Int) : V := .d (.iface 79 (.agg [.int .i64 j, .int .i64 code]))
def realT (t : Tk) : Bool := if t.kind = 1 then isName t.text else if t.kind = 2 then isDec t.text else if t.kind = 3 then decide (t.text.length ≤ 4096) else decide (t.kind = 4)
def peekF (T : List Tk) (j : Nat) : Tk := if j < T.length then (if realT (T.getD j default) then T.getD j default else tk0) else tk0
theorem c_fail (st : St) (b j : Nat) (T : List Tk) (code : Int) (hb : st.blks[b]? = some (rdB T j)) : Acalls Tryz.prog G 123 [.ptr b 0, vint code] st (fun o s => o = .pan (panV j code) ∧ s = st) := by
 refine Acalls.body Tryz.func123 rfl Tryz.ntmps123 (by simp) ?_
 (try refine Wk.aw fun _ hqq => ?_); (repeat' (first | ((first | refine Wk.hd ?_ | refine Wk.i ?_); simp -implicitDefEqProofs only [go_sem, seval, hb]) | first | refine Wk.o ?_ | refine Wk.q (by assumption) ?_)); all_goals (repeat subst hqq)
 exact bodyQ_panS (s1 := st) (by simp [St.cut]) (fun _ _ h => .inl h) rfl ⟨rfl, rfl⟩
theorem c_peek (hg : GV G) (st : St) (b j : Nat) (T : List Tk) (hT : T.length ≤ 1048576) (hx : ∀ t ∈ T, t.text.length ≤ 1048576) (hj : j ≤ 2000000) (hb : st.blks[b]? = some (rdB T j)) :
   Acalls Tryz.prog G 120 [.ptr b 0] st (fun o s => o = .ret (.agg ((peekF T j).enc.map .d)) ∧ s = st) := by
 have hbl : b < st.blks.length := (List.getElem?_eq_some_iff.1 hb).1
 have hb2 : ∀ x, (st.blks ++ [x])[b]? = some (rdB T j) := fun x => by rw [List.getElem?_append_left hbl]; exact hb
 rw [peekF]
 by_cases hlt : j < T.length
 · rw [if_pos hlt]
   have hr := c_real hg (T.getD j default).kind (T.getD j default).text (T.getD j default).at_ (hx _ (getD_mem hlt))
   have hrt : realT (T.getD j default) = (if (T.getD j default).kind = 1 then isName (T.getD j default).text else if (T.getD j default).kind = 2 then isDec (T.getD j default).text else if (T.getD j default).kind = 3 then decide ((T.getD j default).text.length ≤ 4096) else decide ((T.getD j default).kind = 4)) := rfl
   rw [← hrt] at hr
   refine Acalls.body Tryz.func120 rfl Tryz.ntmps120 (by simp) ?_
   (try refine Wk.aw fun _ hqq => ?_); (repeat' (first | ((first | refine Wk.hd ?_ | refine Wk.i ?_); simp -implicitDefEqProofs (disch := omega) only [go_sem, seval, hb2]) | (refine TQ_s (fun hc => ?_) (fun hc => ?_) <;> try omega) | refine CQ_ok (hr _) ?_ | refine Wk.drawn mx (by kernel_rfl) ?_ | refine Wk.ret fun _ _ => ?_ | (refine Wk.fin (by assumption) ?_; refine ⟨?_, rfl⟩) | first | refine Wk.o ?_ | refine Wk.q (by assumption) ?_)); all_goals (repeat subst hqq)
   · rw [if_pos ‹realT _ = true›]; rfl
   · rw [if_neg (by rw [‹realT _ = false›]; simp)]; rfl
 · rw [if_neg hlt]
   refine Acalls.body Tryz.func120 rfl Tryz.ntmps120 (by simp) ?_
   (try refine Wk.aw fun _ hqq => ?_); (repeat' (first | ((first | refine Wk.hd ?_ | refine Wk.i ?_); simp -implicitDefEqProofs (disch := omega) only [go_sem, seval, hb2]) | (refine TQ_s (fun hc => ?_) (fun hc => ?_) <;> try omega) | refine Wk.drawn mx (by kernel_rfl) ?_ | refine Wk.ret fun _ _ => ?_ | (refine Wk.fin (by assumption) ?_; refine ⟨?_, rfl⟩) | first | refine Wk.o ?_ | refine Wk.q (by assumption) ?_)); all_goals (repeat subst hqq)
   all_goals rfl
def needF (T : List Tk) (j : Nat) : Except Int Tk := if T.length ≤ j then .error 4 else if (peekF T j).kind = 0 then .error 5 else .ok (peekF T j)
theorem c_need_ok (hg : GV G) (st : St) (b j : Nat) (T : List Tk) (hT : T.length ≤ 1048576) (hx : ∀ t ∈ T, t.text.length ≤ 1048576) (hj : j ≤ 2000000) (hb : st.blks[b]? = some (rdB T j)) (t : Tk) (h : needF T j = .ok t) :
   Acalls Tryz.prog G 122 [.ptr b 0] st (fun o s => o = .ret (.agg (t.enc.map .d)) ∧ s = st) := by
 have hbl : b < st.blks.length := (List.getElem?_eq_some_iff.1 hb).1
 have hb2 : ∀ x, (st.blks ++ [x])[b]? = some (rdB T j) := fun x => by rw [List.getElem?_append_left hbl]; exact hb
 have hp := fun x => c_peek (G := G) hg ⟨st.blks ++ [x], st.toks⟩ b j T hT hx hj (hb2 x)
 rw [needF] at h
 by_cases h1 : T.length ≤ j
 · rw [if_pos h1] at h; cases h
 rw [if_neg h1] at h
 by_cases h2 : (peekF T j).kind = 0
 · rw [if_pos h2] at h; cases h
 rw [if_neg h2] at h
 cases h
 generalize peekF T j = t at hp h2
 refine Acalls.body Tryz.func122 rfl Tryz.ntmps122 (by simp) ?_
 (try refine Wk.aw fun _ hqq => ?_); (repeat' (first | ((first | refine Wk.hd ?_ | refine Wk.i ?_); simp -implicitDefEqProofs only [go_sem, seval, hb2]) | (refine TQ_s (fun hc => ?_) (fun hc => ?_) <;> try omega) | refine CQ_ok (hp _) ?_ | refine Wk.drawn mx (by kernel_rfl) ?_ | refine Wk.ret fun _ _ => ?_ | (refine Wk.fin (by assumption) ?_; refine ⟨?_, rfl⟩) | first | refine Wk.o ?_ | refine Wk.q (by assumption) ?_)); all_goals (repeat subst hqq)
 all_goals rfl
theorem c_need_err (hg : GV G) (st : St) (b j : Nat) (T : List Tk) (hT : T.length ≤ 1048576) (hx : ∀ t ∈ T, t.text.length ≤ 1048576) (hj : j ≤ 2000000) (hb : st.blks[b]? = some (rdB T j)) (e : Int) (h : needF T j = .error e) :
   Acalls Tryz.prog G 122 [.ptr b 0] st (fun o s => o = .pan (panV j e) ∧ s = st) := by
 have hbl : b < st.blks.length := (List.getElem?_eq_some_iff.1 hb).1
 have hb2 : ∀ x, (st.blks ++ [x])[b]? = some (rdB T j) := fun x => by rw [List.getElem?_append_left hbl]; exact hb
 have hb3 : ∀ x y, (st.blks ++ [x, y])[b]? = some (rdB T j) := fun x y => by rw [List.getElem?_append_left hbl]; exact hb
 have hp := fun x => c_peek (G := G) hg ⟨st.blks ++ [x], st.toks⟩ b j T hT hx hj (hb2 x)
 have hf2 := fun x c => c_fail (G := G) ⟨st.blks ++ [x], st.toks⟩ b j T c (hb2 x)
 have hf3 := fun x y c => c_fail (G := G) ⟨st.blks ++ [x, y], st.toks⟩ b j T c (hb3 x y)
 rw [needF] at h
 by_cases h1 : T.length ≤ j
 · rw [if_pos h1] at h; cases h
   refine Acalls.body Tryz.func122 rfl Tryz.ntmps122 (by simp) ?_
   (try refine Wk.aw fun _ hqq => ?_); (repeat' (first | ((first | refine Wk.hd ?_ | refine Wk.i ?_); simp -implicitDefEqProofs only [go_sem, seval, hb2]) | (refine TQ_s (fun hc => ?_) (fun hc => ?_) <;> try omega) | refine CQ_pan (hf2 _ _) ?_ | refine Wk.drawn mx (by kernel_rfl) ?_ | first | refine Wk.o ?_ | refine Wk.q (by assumption) ?_)); all_goals (repeat subst hqq)
   all_goals exact bodyQ_panS (by simp [St.cut]) (fun _ _ h => .inl h) rfl ⟨rfl, rfl⟩
 rw [if_neg h1] at h
 by_cases h2 : (peekF T j).kind = 0
 · rw [if_pos h2] at h; cases h
   generalize peekF T j = t at hp h2
   refine Acalls.body Tryz.func122 rfl Tryz.ntmps122 (by simp) ?_
   (try refine Wk.aw fun _ hqq => ?_); (repeat' (first | ((first | refine Wk.hd ?_ | refine Wk.i ?_); simp -implicitDefEqProofs only [go_sem, seval, hb2, h2]) | (refine TQ_s (fun hc => ?_) (fun hc => ?_) <;> try omega) | refine CQ_ok (hp _) ?_ | refine CQ_pan (hf3 _ _ _) ?_ | refine Wk.drawn mx (by kernel_rfl) ?_ | first | refine Wk.o ?_ | refine Wk.q (by assumption) ?_)); all_goals (repeat subst hqq)
   all_goals exact bodyQ_panS (by simp [St.cut]) (fun _ _ h => .inl h) rfl ⟨rfl, rfl⟩
 · rw [if_neg h2] at h; cases h
def isF (T : List Tk) (j : Nat) (s : Str) : Bool := decide ((peekF T j).kind = 4) && decide ((peekF T j).text = s)
theorem c_is (hg : GV G) (st : St) (b j : Nat) (T : List Tk) (hT : T.length ≤ 1048576) (hx : ∀ t ∈ T, t.text.length ≤ 1048576) (hj : j ≤ 2000000) (hb : st.blks[b]? = some (rdB T j)) (s : Str) :
   Acalls Tryz.prog G 121 [.ptr b 0, vs s] st (fun o s' => o = .ret (vb (isF T j s)) ∧ s' = st) := by
 have hp := c_peek (G := G) hg st b j T hT hx hj hb
 rw [isF]
 generalize peekF T j = t at hp
 refine Acalls.body Tryz.func121 rfl Tryz.ntmps121 (by simp) ?_
 (try refine Wk.aw fun _ hqq => ?_); (repeat' (first | ((first | refine Wk.hd ?_ | refine Wk.i ?_); simp -implicitDefEqProofs only [go_sem, seval]) | (refine TQ_s (fun hc => ?_) (fun hc => ?_) <;> try omega) | refine CQ_ok (hp) ?_ | refine Wk.ret fun _ _ => ?_ | (refine Wk.fin (by assumption) ?_; refine ⟨?_, rfl⟩) | first | refine Wk.o ?_ | refine Wk.q (by assumption) ?_)); all_goals (repeat subst hqq)
 all_goals (refine ret_bool ?_; simp only [Bool.and_eq_true, decide_eq_true_eq]; simp_all)
theorem c_accept_f (hg : GV G) (st : St) (b j : Nat) (T : List Tk) (hT : T.length ≤ 1048576) (hx : ∀ t ∈ T, t.text.length ≤ 1048576) (hj : j ≤ 2000000) (hb : st.blks[b]? = some (rdB T j)) (s : Str) (h : isF T j s = false) :
   Acalls Tryz.prog G 81 [.ptr b 0, vs s] st (fun o s' => o = .ret (vb false) ∧ s' = st) := by
 have hp := c_is (G := G) hg st b j T hT hx hj hb s
 rw [h] at hp
 refine Acalls.body Tryz.func81 rfl Tryz.ntmps81 (by simp) ?_
 (try refine Wk.aw fun _ hqq => ?_); (repeat' (first | ((first | refine Wk.hd ?_ | refine Wk.i ?_); simp -implicitDefEqProofs only [go_sem, seval]) | refine CQ_ok (hp) ?_ | refine Wk.ret fun _ _ => ?_ | (refine Wk.fin (by assumption) ?_; refine ⟨?_, rfl⟩) | first | refine Wk.o ?_ | refine Wk.q (by assumption) ?_)); all_goals (repeat subst hqq)
 all_goals rfl
theorem c_accept_t (hg : GV G) (st : St) (b j : Nat) (T : List Tk) (hT : T.length ≤ 1048576) (hx : ∀ t ∈ T, t.text.length ≤ 1048576) (hj : j ≤ 2000000) (hb : st.blks[b]? = some (rdB T j)) (s : Str) (h : isF T j s = true) :
   Acalls Tryz.prog G 81 [.ptr b 0, vs s] st (fun o s' => o = .ret (vb true) ∧ s' = ⟨st.blks.set b (rdB T (j + 1)), st.toks⟩) := by
 have hp := c_is (G := G) hg st b j T hT hx hj hb s
 have hbl : b < st.blks.length := (List.getElem?_eq_some_iff.1 hb).1
 rw [h] at hp
 refine Acalls.body Tryz.func81 rfl Tryz.ntmps81 (by simp) ?_
 (try refine Wk.aw fun _ hqq => ?_); (repeat' (first | ((first | refine Wk.hd ?_ | refine Wk.i ?_); simp -implicitDefEqProofs (disch := omega) only [go_sem, seval, hb, splice]) | refine CQ_ok (hp) ?_ | first | refine Wk.o ?_ | refine Wk.q (by assumption) ?_)); all_goals (repeat subst hqq)
 refine bodyQ_retM st.toks.length (Nat.le_refl _) (s1 := ⟨st.blks.set b (rdB T (j + 1)), st.toks⟩) (by simp only [St.cut, List.length_set, take_set_len, List.take_length]; first | done | rfl) (set_old ?_) (by simp -implicitDefEqProofs (disch := omega) only [go_sem, seval, resOf_tmp, Tryz.results81]; first | done | exact rfl) rfl rfl ⟨rfl, rfl⟩
 simp [Blk.within, V.within, V.within.all]
theorem isF_need {T : List Tk} {j : Nat} {s : Str} (h : isF T j s = true) : needF T j = .ok (peekF T j) := by
 simp only [isF, Bool.and_eq_true, decide_eq_true_eq] at h
 rw [needF]
 by_cases h1 : T.length ≤ j
 · rw [peekF, if_neg (by omega)] at h; exact absurd h.1 (by decide)
 · rw [if_neg h1, if_neg (by omega)]
theorem needF_err {T : List Tk} {j : Nat} {e : Int} (h : needF T j = .error e) : e = missAt T j := by
 rw [needF] at h
 rw [missAt]
 split at h
 · cases h; rw [if_pos (by assumption)]
 · rw [if_neg (by assumption)]
   split at h <;> cases h; rfl
theorem needF_lt {T : List Tk} {j : Nat} {t : Tk} (h : needF T j = .ok t) : j < T.length := by
 rw [needF] at h
 split at h
 · cases h
 · omega
theorem c_expect_t (hg : GV G) (st : St) (b j : Nat) (T : List Tk) (hT : T.length ≤ 1048576) (hx : ∀ t ∈ T, t.text.length ≤ 1048576) (hj : j ≤ 2000000) (hb : st.blks[b]? = some (rdB T j)) (s : Str) (h : isF T j s = true) :
   Acalls Tryz.prog G 82 [.ptr b 0, vs s] st (fun o s' => o = .ret (.tup []) ∧ s' = ⟨st.blks.set b (rdB T (j + 1)), st.toks⟩) := by
 have hn := c_need_ok (G := G) hg st b j T hT hx hj hb _ (isF_need h)
 have ha := c_accept_t (G := G) hg st b j T hT hx hj hb s h
 have hbl : b < st.blks.length := (List.getElem?_eq_some_iff.1 hb).1
 refine Acalls.body Tryz.func82 rfl Tryz.ntmps82 (by simp) ?_
 (try refine Wk.aw fun _ hqq => ?_); (repeat' (first | ((first | refine Wk.hd ?_ | refine Wk.i ?_); simp -implicitDefEqProofs only [go_sem, seval]) | refine CQ_ok (hn) ?_ | refine CQ_st (ha) ?_ | first | refine Wk.o ?_ | refine Wk.q (by assumption) ?_)); all_goals (repeat subst hqq)
 refine bodyQ_nrm (bodyQ_retM st.toks.length (Nat.le_refl _) (s1 := ⟨st.blks.set b (rdB T (j + 1)), st.toks⟩) (by simp [St.cut, take_set_len]) (set_old ?_) rfl rfl rfl ⟨rfl, rfl⟩)
 simp [Blk.within, V.within, V.within.all]
theorem c_expect_f (hg : GV G) (st : St) (b j : Nat) (T : List Tk) (hT : T.length ≤ 1048576) (hx : ∀ t ∈ T, t.text.length ≤ 1048576) (hj : j ≤ 2000000) (hb : st.blks[b]? = some (rdB T j)) (s : Str) (h : isF T j s = false) :
   Acalls Tryz.prog G 82 [.ptr b 0, vs s] st (fun o s' => o = .pan (panV j (missAt T j)) ∧ s' = st) := by
 have ha := c_accept_f (G := G) hg st b j T hT hx hj hb s h
 have hf := c_fail (G := G) st b j T 5 hb
 cases hne : needF T j with
 | error e =>
   have hn := c_need_err (G := G) hg st b j T hT hx hj hb e hne
   rw [← needF_err hne]
   refine Acalls.body Tryz.func82 rfl Tryz.ntmps82 (by simp) ?_
   (try refine Wk.aw fun _ hqq => ?_); (repeat' (first | ((first | refine Wk.hd ?_ | refine Wk.i ?_); simp -implicitDefEqProofs only [go_sem, seval]) | refine CQ_pan (hn) ?_ | first | refine Wk.o ?_ | refine Wk.q (by assumption) ?_)); all_goals (repeat subst hqq)
   all_goals exact bodyQ_panS (s1 := st) (by simp [St.cut]) (fun _ _ h => .inl h) rfl ⟨rfl, rfl⟩
 | ok t =>
   have hn := c_need_ok (G := G) hg st b j T hT hx hj hb t hne
   have hm : missAt T j = 5 := if_neg (by have := needF_lt hne; omega)
   rw [hm]
   refine Acalls.body Tryz.func82 rfl Tryz.ntmps82 (by simp) ?_
   (try refine Wk.aw fun _ hqq => ?_); (repeat' (first | ((first | refine Wk.hd ?_ | refine Wk.i ?_); simp -implicitDefEqProofs only [go_sem, seval]) | refine CQ_ok (hn) ?_ | refine CQ_ok (ha) ?_ | refine CQ_pan (hf) ?_ | first | refine Wk.o ?_ | refine Wk.q (by assumption) ?_)); all_goals (repeat subst hqq)
   all_goals exact bodyQ_panS (s1 := st) (by simp [St.cut]) (fun _ _ h => .inl h) rfl ⟨rfl, rfl⟩
end Go.Proofs.YtofbdmdigopaoaaGreatDoor
end
section
set_option maxHeartbeats 8000000
set_option maxRecDepth 20000
namespace Go.Proofs.YtofbdmdigopaoaaGreatDoor
open Go.Abs
attribute [local irreducible] AW OX condQ GQ bodyQ RoundsA thenQ blockQ Acalls
variable {G : World → Nat → Prop}
theorem isF_op (T : List Tk) (j : Nat) (s : Str) : isF T j s = opAt T j s := by
 rw [isF, opAt, peekF]
 by_cases h : j < T.length
 · rw [if_pos h, decide_eq_true h, Bool.true_and, isOpT]
   by_cases hk : (T.getD j default).kind = 4
   · have : realT (T.getD j default) = true := by rw [realT, if_neg (by omega), if_neg (by omega), if_neg (by omega), decide_eq_true hk]
     rw [if_pos this]
     generalize T.getD j default = t at *
     simp [hk]
   · generalize T.getD j default = t at *
     by_cases hr : realT t = true
     · rw [if_pos hr]; simp [hk]
     · rw [if_neg hr]; simp [hk, tk0]
 · rw [if_neg h, decide_eq_false h]; simp [tk0]
def rdO (T : List Tk) : Res Ex → Out
 | .ok e _ => .ret (vE e)
 | .err rest c => .pan (panV (T.length - rest.length) c)
def RdP (G : World → Nat → Prop) (T : List Tk) (f : FuncId) (args : List V) (j : Nat) (r : Res Ex) : Prop :=
 ∀ B K b, B[b]? = some (rdB T j) → Acalls Tryz.prog G f (.ptr b 0 :: args) ⟨B, K⟩ (fun o s => o = rdO T r ∧ s = ⟨B.set b (rdB T (T.length - (resRest r).length)), K⟩)
theorem get_app {l m : List Blk} {b : Nat} {x : Blk} (h : l[b]? = some x) : (l ++ m)[b]? = some x := by rw [List.getElem?_append_left (List.getElem?_eq_some_iff.1 h).1]; exact h
theorem set_app {l m : List Blk} {b : Nat} {x y : Blk} (h : l[b]? = some x) : (l ++ m).set b y = l.set b y ++ m := List.set_append_left _ _ (List.getElem?_eq_some_iff.1 h).1
theorem set_app2 {l m : List Blk} {b : Nat} {x y z : Blk} (h : l[b]? = some x) : (l.set b z ++ m).set b y = l.set b y ++ m := by rw [set_app (set_get (y := z) h), List.set_set]
structure RdIH (G : World → Nat → Prop) (T : List Tk) (f : Nat) : Prop where
 cond : ∀ i, i ≤ T.length → ∀ r, pF f .cond (T.drop i) = some r → RdP G T 49 [] i r
 op : ∀ n, 1 ≤ n → n ≤ 7 → ∀ i, i ≤ T.length → ∀ r, pF f (.op n) (T.drop i) = some r → RdP G T 80 [vint ↑n] i r
 un : ∀ i, i ≤ T.length → ∀ r, pF f .un (T.drop i) = some r → RdP G T 119 [] i r
 chain : ∀ i, i ≤ T.length → ∀ r, thenF (pF f .atom (T.drop i)) (fun e r2 => pF f (.chain e) r2) = some r → RdP G T 152 [] i r
theorem r_cond (hg : GV G) {T : List Tk} {f : Nat} (hT : T.length ≤ 1048576) (hx : ∀ t ∈ T, t.text.length ≤ 1048576) (hf : RdIH G T f) (i : Nat) (hi : i ≤ T.length) (r : Res Ex) (h : pF (f + 1) .cond (T.drop i) = some r) :
   RdP G T 49 [] i r := by
 intro B K b hb
 have hbl : b < B.length := (List.getElem?_eq_some_iff.1 hb).1
 have hs1 : ∀ m y, (B ++ m).set b y = B.set b y ++ m := fun m y => set_app hb
 have hs2 : ∀ z m y, (B.set b z ++ m).set b y = B.set b y ++ m := fun z m y => set_app2 hb
 have hg1 : ∀ m, (B ++ m)[b]? = some (rdB T i) := fun m => get_app hb
 have hg2 : ∀ z m, (B.set b z ++ m)[b]? = some z := fun z m => get_app (set_get hb)
 have hl : ∀ z, (B.set b z).length = B.length := fun z => List.length_set
 have hG : ∀ (z : Blk) (m : List Blk) (k : Nat), (B.set b z ++ m)[B.length + k]? = m[k]? := fun z m k => by rw [List.getElem?_append_right (by simp)]; simp
 have hG0 : ∀ (z : Blk) (m : List Blk), (B.set b z ++ m)[B.length]? = m[0]? := fun z m => by rw [List.getElem?_append_right (by simp)]; simp
 have hS : ∀ (z y : Blk) (m : List Blk) (k : Nat), (B.set b z ++ m).set (B.length + k) y = B.set b z ++ m.set k y := fun z y m k => by rw [List.set_append_right _ _ (by simp)]; simp
 have hS0 : ∀ (z y : Blk) (m : List Blk), (B.set b z ++ m).set B.length y = B.set b z ++ m.set 0 y := fun z y m => by rw [List.set_append_right _ _ (by simp)]; simp
 simp only [pF] at h
 have len : ∀ j, j ≤ T.length → T.length - (T.drop j).length = j := fun j hj => by simp only [List.length_drop]; omega
 rcases h1 : pF f (.op 2) (T.drop i) with _ | (⟨c, r1⟩ | ⟨r1, ec⟩)
 · rw [h1] at h; simp [thenF] at h
 · have c1 := hf.op 2 (by omega) (by omega) i hi _ h1
   obtain ⟨j, hij, hj, d1, e1⟩ := pF_at h1 hi
   simp only [resRest] at d1 e1
   subst d1
   simp only [RdP, rdO, resRest, e1] at c1
   rw [h1] at h
   simp only [thenF] at h
   cases hbq : opAt T j [63]
   · have hr : r = .ok c (T.drop j) := by
       by_cases hjl : j < T.length
       · rw [dropT hjl] at h
         simp only [opAt_f hjl hbq, Bool.false_eq_true, if_false, Option.some.injEq] at h
         rw [← h, dropT hjl]
       · rw [dropT_nil hjl] at h
         simp only [Option.some.injEq] at h
         rw [← h, dropT_nil hjl]
     subst hr
     simp only [rdO, resRest, e1]
     refine Acalls.body Tryz.func49 rfl Tryz.ntmps49 (by simp) ?_
     (try refine Wk.aw fun _ hqq => ?_); (repeat' (first | ((first | refine Wk.hd ?_ | refine Wk.i ?_); simp -implicitDefEqProofs only [go_sem, seval, hs1, hs2, hl, hG, hG0, hS, hS0]) | refine CQ_st (c1 _ _ b (hg1 _)) ?_ | refine CQ_ok (c_accept_f hg _ b j T hT hx (by omega) (by exact hg2 _ _) _ (by rw [isF_op]; exact hbq)) ?_ | first | refine Wk.o ?_ | refine Wk.q (by assumption) ?_)); all_goals (repeat subst hqq)
     refine bodyQ_retM (v := vE c) K.length (Nat.le_refl _) (s1 := ⟨B.set b (rdB T j), K⟩) (by simp [St.cut]) (set_old ?_) (by simp -implicitDefEqProofs only [go_sem, seval, resOf_tmp, resOf_cell, Tryz.results49, hG, hG0]; first | done | exact rfl) (by simp -implicitDefEqProofs only [go_sem, seval, resV]; first | done | exact rfl) (by simp -implicitDefEqProofs only [go_sem, seval]; first | done | exact rfl) ⟨rfl, rfl⟩
     simp [Blk.within, V.within, V.within.all]
   · have hjl := opAt_lt hbq
     rw [dropT hjl] at h
     simp only [opAt_t hbq, if_true] at h
     have ha := fun m => c_accept_t (G := G) hg ⟨B.set b (rdB T j) ++ m, K⟩ b j T hT hx (by omega) (by exact hg2 _ _) [63] (by rw [isF_op]; exact hbq)
     have ha' : ∀ m, Acalls Tryz.prog G 81 [.ptr b 0, vs [63]] ⟨B.set b (rdB T j) ++ m, K⟩ (fun o s' => o = .ret (vb true) ∧ s' = ⟨B.set b (rdB T (j + 1)) ++ m, K⟩) := fun m => by have := ha m; simp only [hs2] at this; exact this
     rcases h2 : pF f .cond (T.drop (j + 1)) with _ | (⟨a, r3⟩ | ⟨r3, e3⟩)
     · rw [h2] at h; simp at h
     · have c2 := hf.cond (j + 1) (by omega) _ h2
       obtain ⟨k, hjk, hk, d2, e2⟩ := pF_at h2 (by omega)
       simp only [resRest] at d2 e2
       subst d2
       simp only [RdP, rdO, resRest, e2] at c2
       rw [h2] at h
       simp only at h
       rw [expectF_at] at h
       have c2' : ∀ m, Acalls Tryz.prog G 49 [.ptr b 0] ⟨B.set b (rdB T (j + 1)) ++ m, K⟩ (fun o s => o = .ret (vE a) ∧ s = ⟨B.set b (rdB T k) ++ m, K⟩) := fun m => by have := c2 _ K b (hg2 _ m); simp only [hs2] at this; exact this
       cases hb2 : opAt T k [58]
       · rw [hb2] at h
         simp only [Bool.false_eq_true, if_false, Option.some.injEq] at h
         subst h
         have hx2 := fun m => c_expect_f (G := G) hg ⟨B.set b (rdB T k) ++ m, K⟩ b k T hT hx (by omega) (by exact hg2 _ _) [58] (by rw [isF_op]; exact hb2)
         simp only [rdO, resRest, len k hk]
         refine Acalls.body Tryz.func49 rfl Tryz.ntmps49 (by simp) ?_
         (try refine Wk.aw fun _ hqq => ?_); (repeat' (first | ((first | refine Wk.hd ?_ | refine Wk.i ?_); simp -implicitDefEqProofs only [go_sem, seval, hs1, hs2, hl, hG, hG0, hS, hS0]) | refine CQ_st (c1 _ _ b (hg1 _)) ?_ | refine CQ_st (ha' _) ?_ | refine CQ_st (c2' _) ?_ | refine CQ_pan (hx2 _) ?_ | first | refine Wk.o ?_ | refine Wk.q (by assumption) ?_)); all_goals (repeat subst hqq)
         refine bodyQ_panS (s1 := ⟨B.set b (rdB T k), K⟩) (by simp [St.cut]) (set_old ?_) rfl ⟨rfl, rfl⟩
         simp [Blk.within, V.within, V.within.all]
       · have hkl := opAt_lt hb2
         rw [hb2] at h
         simp only [if_true] at h
         have hx2 := fun m => c_expect_t (G := G) hg ⟨B.set b (rdB T k) ++ m, K⟩ b k T hT hx (by omega) (by exact hg2 _ _) [58] (by rw [isF_op]; exact hb2)
         have hx2' : ∀ m, Acalls Tryz.prog G 82 [.ptr b 0, vs [58]] ⟨B.set b (rdB T k) ++ m, K⟩ (fun o s' => o = .ret (.tup []) ∧ s' = ⟨B.set b (rdB T (k + 1)) ++ m, K⟩) := fun m => by have := hx2 m; simp only [hs2] at this; exact this
         rcases h3 : pF f .cond (T.drop (k + 1)) with _ | (⟨d, r5⟩ | ⟨r5, e5⟩)
         · rw [h3] at h; simp [thenF] at h
         · have c3 := hf.cond (k + 1) (by omega) _ h3
           obtain ⟨m, hkm, hm, d3, e3⟩ := pF_at h3 (by omega)
           simp only [resRest] at d3 e3
           subst d3
           simp only [RdP, rdO, resRest, e3] at c3
           rw [h3] at h
           simp only [thenF, Option.some.injEq] at h
           subst h
           have c3' : ∀ m', Acalls Tryz.prog G 49 [.ptr b 0] ⟨B.set b (rdB T (k + 1)) ++ m', K⟩ (fun o s => o = .ret (vE d) ∧ s = ⟨B.set b (rdB T m) ++ m', K⟩) := fun m' => by have := c3 _ K b (hg2 _ m'); simp only [hs2] at this; exact this
           simp only [rdO, resRest, len m hm]
           refine Acalls.body Tryz.func49 rfl Tryz.ntmps49 (by simp) ?_
           (try refine Wk.aw fun _ hqq => ?_); (repeat' (first | ((first | refine Wk.hd ?_ | refine Wk.i ?_); simp -implicitDefEqProofs only [go_sem, seval, hs1, hs2, hl, hG, hG0, hS, hS0]) | refine CQ_st (c1 _ _ b (hg1 _)) ?_ | refine CQ_st (ha' _) ?_ | refine CQ_st ((by first | exact c2' _ | exact c3' _)) ?_ | refine CQ_st (hx2' _) ?_ | first | refine Wk.o ?_ | refine Wk.q (by assumption) ?_)); all_goals (repeat subst hqq)
           refine bodyQ_retM (v := vE (Ex.mk 8 [] val0 [c, a, d] [])) K.length (Nat.le_refl _) (s1 := ⟨B.set b (rdB T m), K⟩) (by simp [St.cut]) (set_old ?_) (by simp -implicitDefEqProofs only [go_sem, seval, resOf_tmp, resOf_cell, Tryz.results49, hG, hG0]; first | done | exact rfl) (by simp -implicitDefEqProofs only [go_sem, seval, resV]; first | done | exact rfl) (by simp -implicitDefEqProofs only [go_sem, seval]; first | done | exact rfl) ⟨rfl, rfl⟩
           simp [Blk.within, V.within, V.within.all]
         · have c3 := hf.cond (k + 1) (by omega) _ h3
           have he := pF_err h3
           rw [h3] at h
           simp only [thenF, Option.some.injEq] at h
           subst h
           simp only [RdP, rdO, resRest] at c3
           have c3' : ∀ m', Acalls Tryz.prog G 49 [.ptr b 0] ⟨B.set b (rdB T (k + 1)) ++ m', K⟩ (fun o s => o = .pan (panV (T.length - r5.length) e5) ∧ s = ⟨B.set b (rdB T (T.length - r5.length)) ++ m', K⟩) := fun m' => by have := c3 _ K b (hg2 _ m'); simp only [hs2] at this; exact this
           simp only [rdO, resRest]
           refine Acalls.body Tryz.func49 rfl Tryz.ntmps49 (by simp) ?_
           (try refine Wk.aw fun _ hqq => ?_); (repeat' (first | ((first | refine Wk.hd ?_ | refine Wk.i ?_); simp -implicitDefEqProofs only [go_sem, seval, hs1, hs2, hl, hG, hG0, hS, hS0]) | refine CQ_st (c1 _ _ b (hg1 _)) ?_ | refine CQ_st (ha' _) ?_ | refine CQ_st (c2' _) ?_ | refine CQ_pan (c3' _) ?_ | refine CQ_st (hx2' _) ?_ | first | refine Wk.o ?_ | refine Wk.q (by assumption) ?_)); all_goals (repeat subst hqq)
           refine bodyQ_panS (s1 := ⟨B.set b (rdB T (T.length - r5.length)), K⟩) (by simp [St.cut]) (set_old ?_) rfl ⟨rfl, rfl⟩
           simp [Blk.within, V.within, V.within.all]
     · have c2 := hf.cond (j + 1) (by omega) _ h2
       have he := pF_err h2
       rw [h2] at h
       simp only [Option.some.injEq] at h
       subst h
       simp only [RdP, rdO, resRest] at c2
       have c2' : ∀ m, Acalls Tryz.prog G 49 [.ptr b 0] ⟨B.set b (rdB T (j + 1)) ++ m, K⟩ (fun o s => o = .pan (panV (T.length - r3.length) e3) ∧ s = ⟨B.set b (rdB T (T.length - r3.length)) ++ m, K⟩) := fun m => by have := c2 _ K b (hg2 _ m); simp only [hs2] at this; exact this
       simp only [rdO, resRest]
       refine Acalls.body Tryz.func49 rfl Tryz.ntmps49 (by simp) ?_
       (try refine Wk.aw fun _ hqq => ?_); (repeat' (first | ((first | refine Wk.hd ?_ | refine Wk.i ?_); simp -implicitDefEqProofs only [go_sem, seval, hs1, hs2, hl, hG, hG0, hS, hS0]) | refine CQ_st (c1 _ _ b (hg1 _)) ?_ | refine CQ_st (ha' _) ?_ | refine CQ_pan (c2' _) ?_ | first | refine Wk.o ?_ | refine Wk.q (by assumption) ?_)); all_goals (repeat subst hqq)
       refine bodyQ_panS (s1 := ⟨B.set b (rdB T (T.length - r3.length)), K⟩) (by simp [St.cut]) (set_old ?_) rfl ⟨rfl, rfl⟩
       simp [Blk.within, V.within, V.within.all]
 · have c1 := hf.op 2 (by omega) (by omega) i hi _ h1
   have he := pF_err h1
   rw [h1] at h
   simp only [thenF, Option.some.injEq] at h
   subst h
   simp only [RdP, rdO, resRest] at c1
   simp only [rdO, resRest]
   refine Acalls.body Tryz.func49 rfl Tryz.ntmps49 (by simp) ?_
   (try refine Wk.aw fun _ hqq => ?_); (repeat' (first | ((first | refine Wk.hd ?_ | refine Wk.i ?_); simp -implicitDefEqProofs only [go_sem, seval]) | refine CQ_pan (c1 _ _ b (hg1 _)) ?_ | first | refine Wk.o ?_ | refine Wk.q (by assumption) ?_)); all_goals (repeat subst hqq)
   refine bodyQ_panS (s1 := ⟨B.set b (rdB T (T.length - r1.length)), K⟩) (by rw [hs1]; simp [St.cut]) (set_old ?_) rfl ⟨rfl, rfl⟩
   simp [Blk.within, V.within, V.within.all]
end Go.Proofs.YtofbdmdigopaoaaGreatDoor
end
section
set_option maxHeartbeats 8000000
set_option maxRecDepth 20000
namespace Go.Proofs.YtofbdmdigopaoaaGreatDoor
open Go.Abs
attribute [local irreducible] AW OX condQ GQ bodyQ RoundsA thenQ blockQ Acalls
variable {G : World → Nat → Prop}
end Go.Proofs.YtofbdmdigopaoaaGreatDoor
end
section
set_option maxHeartbeats 8000000
set_option maxRecDepth 20000
namespace Go.Proofs.YtofbdmdigopaoaaGreatDoor
open Go.Abs
attribute [local irreducible] AW OX condQ GQ bodyQ RoundsA thenQ blockQ Acalls
variable {G : World → Nat → Prop}
theorem opAt_text {T : List Tk} {i : Nat} {s : Str} (h : opAt T i s = true) : (T.getD i default).text = s := by
 have := opAt_t h
 simp only [isOpT, Bool.and_eq_true, decide_eq_true_eq] at this
 exact this.2
theorem r_un (hg : GV G) {T : List Tk} {f : Nat} (hT : T.length ≤ 1048576) (hx : ∀ t ∈ T, t.text.length ≤ 1048576) (hf : RdIH G T f) (i : Nat) (hi : i ≤ T.length) (r : Res Ex) (h : pF (f + 1) .un (T.drop i) = some r) :
   RdP G T 119 [] i r := by
 intro B K b hb
 have hbl : b < B.length := (List.getElem?_eq_some_iff.1 hb).1
 have hs1 : ∀ m y, (B ++ m).set b y = B.set b y ++ m := fun m y => set_app hb
 have hs2 : ∀ z m y, (B.set b z ++ m).set b y = B.set b y ++ m := fun z m y => set_app2 hb
 have hg1 : ∀ m, (B ++ m)[b]? = some (rdB T i) := fun m => get_app hb
 have hg2 : ∀ z m, (B.set b z ++ m)[b]? = some z := fun z m => get_app (set_get hb)
 have hl : ∀ z, (B.set b z).length = B.length := fun z => List.length_set
 have hG : ∀ (z : Blk) (m : List Blk) (k : Nat), (B.set b z ++ m)[B.length + k]? = m[k]? := fun z m k => by rw [List.getElem?_append_right (by simp)]; simp
 have hG0 : ∀ (z : Blk) (m : List Blk), (B.set b z ++ m)[B.length]? = m[0]? := fun z m => by rw [List.getElem?_append_right (by simp)]; simp
 have hS : ∀ (z y : Blk) (m : List Blk) (k : Nat), (B.set b z ++ m).set (B.length + k) y = B.set b z ++ m.set k y := fun z y m k => by rw [List.set_append_right _ _ (by simp)]; simp
 have hS0 : ∀ (z y : Blk) (m : List Blk), (B.set b z ++ m).set B.length y = B.set b z ++ m.set 0 y := fun z y m => by rw [List.set_append_right _ _ (by simp)]; simp
 simp only [pF] at h
 have len : ∀ j, j ≤ T.length → T.length - (T.drop j).length = j := fun j hj => by simp only [List.length_drop]; omega
 have at_ : ∀ s, opAt T i s = true → ∀ m, Acalls Tryz.prog G 81 [.ptr b 0, vs s] ⟨B ++ m, K⟩ (fun o s' => o = .ret (vb true) ∧ s' = ⟨B.set b (rdB T (i + 1)) ++ m, K⟩) := fun s hs m => by
   have := c_accept_t (G := G) hg ⟨B ++ m, K⟩ b i T hT hx (by omega) (hg1 m) s (by rw [isF_op]; exact hs)
   simp only [hs1] at this; exact this
 have af_ : ∀ s, opAt T i s = false → ∀ m, Acalls Tryz.prog G 81 [.ptr b 0, vs s] ⟨B ++ m, K⟩ (fun o s' => o = .ret (vb false) ∧ s' = ⟨B ++ m, K⟩) := fun s hs m =>
   c_accept_f (G := G) hg ⟨B ++ m, K⟩ b i T hT hx (by omega) (hg1 m) s (by rw [isF_op]; exact hs)
 by_cases hb' : (opAt T i [33] || opAt T i [45]) = true
 · have hil : i < T.length := by
     rw [Bool.or_eq_true] at hb'
     rcases hb' with hb' | hb' <;> exact opAt_lt hb'
   have hb2 : (isOpT [33] (T.getD i default) || isOpT [45] (T.getD i default)) = true := by simpa [opAt, hil] using hb'
   rw [dropT hil] at h
   simp only [hb2, if_true] at h
   rcases h1 : pF f .un (T.drop (i + 1)) with _ | (⟨c, r1⟩ | ⟨r1, ec⟩)
   · rw [h1] at h; simp [thenF] at h
   · have c1 := hf.un (i + 1) (by omega) _ h1
     obtain ⟨j, hij, hj, d1, e1⟩ := pF_at h1 (by omega)
     simp only [resRest] at d1 e1
     subst d1
     simp only [RdP, rdO, resRest, e1] at c1
     have c1' : ∀ m, Acalls Tryz.prog G 119 [.ptr b 0] ⟨B.set b (rdB T (i + 1)) ++ m, K⟩ (fun o s => o = .ret (vE c) ∧ s = ⟨B.set b (rdB T j) ++ m, K⟩) := fun m => by have := c1 _ K b (hg2 _ m); simp only [hs2] at this; exact this
     rw [h1] at h
     simp only [thenF, Option.some.injEq] at h
     subst h
     simp only [rdO, resRest, len j hj]
     cases hb1 : opAt T i [33]
     · rw [hb1, Bool.false_or] at hb'
       rw [opAt_text hb']
       have a1 := af_ _ hb1
       have a2 := at_ _ hb'
       refine Acalls.body Tryz.func119 rfl Tryz.ntmps119 (by simp) ?_
       (try refine Wk.aw fun _ hqq => ?_); (repeat' (first | ((refine AW.atL ?_); refine AW.rounds 2 ?_) | ((first | refine Wk.hd ?_ | refine Wk.i ?_); simp -implicitDefEqProofs only [go_sem, seval, hs1, hs2, hl, hG, hG0, hS, hS0]) | refine CQ_ok (a1 _) ?_ | refine CQ_st (a2 _) ?_ | refine CQ_st (c1' _) ?_ | first | refine Wk.o ?_ | refine Wk.q (by assumption) ?_ | refine Wk.rnd fun _ hqq => ?_)); all_goals (repeat subst hqq)
       refine bodyQ_retM (v := vE (Ex.mk 6 [45] val0 [c] [])) K.length (Nat.le_refl _) (s1 := ⟨B.set b (rdB T j), K⟩) (by simp [St.cut]) (set_old ?_) (by simp -implicitDefEqProofs only [go_sem, seval, resOf_tmp, resOf_cell, Tryz.results119, hG, hG0]; first | done | exact rfl) (by simp -implicitDefEqProofs only [go_sem, seval, resV]; first | done | exact rfl) (by simp -implicitDefEqProofs only [go_sem, seval]; first | done | exact rfl) ⟨rfl, rfl⟩
       simp [Blk.within, V.within, V.within.all]
     · rw [opAt_text hb1]
       have a1 := at_ _ hb1
       refine Acalls.body Tryz.func119 rfl Tryz.ntmps119 (by simp) ?_
       (try refine Wk.aw fun _ hqq => ?_); (repeat' (first | ((refine AW.atL ?_); refine AW.rounds 1 ?_) | ((first | refine Wk.hd ?_ | refine Wk.i ?_); simp -implicitDefEqProofs only [go_sem, seval, hs1, hs2, hl, hG, hG0, hS, hS0]) | refine CQ_st (a1 _) ?_ | refine CQ_st (c1' _) ?_ | first | refine Wk.o ?_ | refine Wk.q (by assumption) ?_ | refine Wk.rnd fun _ hqq => ?_)); all_goals (repeat subst hqq)
       refine bodyQ_retM (v := vE (Ex.mk 6 [33] val0 [c] [])) K.length (Nat.le_refl _) (s1 := ⟨B.set b (rdB T j), K⟩) (by simp [St.cut]) (set_old ?_) (by simp -implicitDefEqProofs only [go_sem, seval, resOf_tmp, resOf_cell, Tryz.results119, hG, hG0]; first | done | exact rfl) (by simp -implicitDefEqProofs only [go_sem, seval, resV]; first | done | exact rfl) (by simp -implicitDefEqProofs only [go_sem, seval]; first | done | exact rfl) ⟨rfl, rfl⟩
       simp [Blk.within, V.within, V.within.all]
   · have c1 := hf.un (i + 1) (by omega) _ h1
     rw [h1] at h
     simp only [thenF, Option.some.injEq] at h
     subst h
     simp only [RdP, rdO, resRest] at c1
     have c1' : ∀ m, Acalls Tryz.prog G 119 [.ptr b 0] ⟨B.set b (rdB T (i + 1)) ++ m, K⟩ (fun o s => o = .pan (panV (T.length - r1.length) ec) ∧ s = ⟨B.set b (rdB T (T.length - r1.length)) ++ m, K⟩) := fun m => by have := c1 _ K b (hg2 _ m); simp only [hs2] at this; exact this
     simp only [rdO, resRest]
     cases hb1 : opAt T i [33]
     · rw [hb1, Bool.false_or] at hb'
       have a1 := af_ _ hb1
       have a2 := at_ _ hb'
       refine Acalls.body Tryz.func119 rfl Tryz.ntmps119 (by simp) ?_
       (try refine Wk.aw fun _ hqq => ?_); (repeat' (first | ((refine AW.atL ?_); refine AW.rounds 2 ?_) | ((first | refine Wk.hd ?_ | refine Wk.i ?_); simp -implicitDefEqProofs only [go_sem, seval, hs1, hs2, hl, hG, hG0, hS, hS0]) | refine CQ_ok (a1 _) ?_ | refine CQ_st (a2 _) ?_ | refine CQ_pan (c1' _) ?_ | first | refine Wk.o ?_ | refine Wk.q (by assumption) ?_ | refine Wk.rnd fun _ hqq => ?_)); all_goals (repeat subst hqq)
       refine bodyQ_panS (s1 := ⟨B.set b (rdB T (T.length - r1.length)), K⟩) (by simp [St.cut]) (set_old ?_) rfl ⟨rfl, rfl⟩
       simp [Blk.within, V.within, V.within.all]
     · have a1 := at_ _ hb1
       refine Acalls.body Tryz.func119 rfl Tryz.ntmps119 (by simp) ?_
       (try refine Wk.aw fun _ hqq => ?_); (repeat' (first | ((refine AW.atL ?_); refine AW.rounds 1 ?_) | ((first | refine Wk.hd ?_ | refine Wk.i ?_); simp -implicitDefEqProofs only [go_sem, seval, hs1, hs2, hl, hG, hG0, hS, hS0]) | refine CQ_st (a1 _) ?_ | refine CQ_pan (c1' _) ?_ | first | refine Wk.o ?_ | refine Wk.q (by assumption) ?_ | refine Wk.rnd fun _ hqq => ?_)); all_goals (repeat subst hqq)
       refine bodyQ_panS (s1 := ⟨B.set b (rdB T (T.length - r1.length)), K⟩) (by simp [St.cut]) (set_old ?_) rfl ⟨rfl, rfl⟩
       simp [Blk.within, V.within, V.within.all]
 · have hb' := Bool.eq_false_iff.2 hb'
   rw [Bool.or_eq_false_iff] at hb'
   have a1 := af_ _ hb'.1
   have a2 := af_ _ hb'.2
   have h' : thenF (pF f .atom (T.drop i)) (fun e r2 => pF f (.chain e) r2) = some r := by
     by_cases hil : i < T.length
     · rw [dropT hil] at h
       simp only [opAt_f hil hb'.1, opAt_f hil hb'.2, Bool.or_self, Bool.false_eq_true, if_false] at h
       rw [← dropT hil] at h
       exact h
     · rw [dropT_nil hil] at h ⊢
       simp only at h
       cases f with
       | zero => simp [pF] at h
       | succ f =>
         simp only [pF, Option.some.injEq] at h ⊢
         subst h; rfl
   have c1 := hf.chain i hi _ h'
   cases r with
   | ok e rest =>
     simp only [RdP, rdO, resRest] at c1
     have c1' : ∀ m, Acalls Tryz.prog G 152 [.ptr b 0] ⟨B ++ m, K⟩ (fun o s => o = .ret (vE e) ∧ s = ⟨B.set b (rdB T (T.length - rest.length)) ++ m, K⟩) := fun m => by have := c1 _ K b (hg1 m); simp only [hs1] at this; exact this
     simp only [rdO, resRest]
     refine Acalls.body Tryz.func119 rfl Tryz.ntmps119 (by simp) ?_
     (try refine Wk.aw fun _ hqq => ?_); (repeat' (first | ((refine AW.atL ?_); refine AW.rounds 3 ?_) | ((first | refine Wk.hd ?_ | refine Wk.i ?_); simp -implicitDefEqProofs only [go_sem, seval, hs1, hs2, hl, hG, hG0, hS, hS0]) | refine CQ_ok ((by first | exact a1 _ | exact a2 _)) ?_ | refine CQ_st (c1' _) ?_ | first | refine Wk.o ?_ | refine Wk.q (by assumption) ?_ | refine Wk.sw fun _ hqq => ?_ | refine Wk.rnd fun _ hqq => ?_)); all_goals (repeat subst hqq)
     refine bodyQ_retM (v := vE e) K.length (Nat.le_refl _) (s1 := ⟨B.set b (rdB T (T.length - rest.length)), K⟩) (by simp [St.cut]) (set_old ?_) (by simp -implicitDefEqProofs only [go_sem, seval, resOf_tmp, resOf_cell, Tryz.results119, hG, hG0]; first | done | exact rfl) (by simp -implicitDefEqProofs only [go_sem, seval, resV]; first | done | exact rfl) (by simp -implicitDefEqProofs only [go_sem, seval]; first | done | exact rfl) ⟨rfl, rfl⟩
     simp [Blk.within, V.within, V.within.all]
   | err rest c =>
     simp only [RdP, rdO, resRest] at c1
     have c1' : ∀ m, Acalls Tryz.prog G 152 [.ptr b 0] ⟨B ++ m, K⟩ (fun o s => o = .pan (panV (T.length - rest.length) c) ∧ s = ⟨B.set b (rdB T (T.length - rest.length)) ++ m, K⟩) := fun m => by have := c1 _ K b (hg1 m); simp only [hs1] at this; exact this
     simp only [rdO, resRest]
     refine Acalls.body Tryz.func119 rfl Tryz.ntmps119 (by simp) ?_
     (try refine Wk.aw fun _ hqq => ?_); (repeat' (first | ((refine AW.atL ?_); refine AW.rounds 3 ?_) | ((first | refine Wk.hd ?_ | refine Wk.i ?_); simp -implicitDefEqProofs only [go_sem, seval, hs1, hs2, hl, hG, hG0, hS, hS0]) | refine CQ_ok ((by first | exact a1 _ | exact a2 _)) ?_ | refine CQ_pan (c1' _) ?_ | first | refine Wk.o ?_ | refine Wk.q (by assumption) ?_ | refine Wk.sw fun _ hqq => ?_ | refine Wk.rnd fun _ hqq => ?_)); all_goals (repeat subst hqq)
     refine bodyQ_panS (s1 := ⟨B.set b (rdB T (T.length - rest.length)), K⟩) (by simp [St.cut]) (set_old ?_) rfl ⟨rfl, rfl⟩
     simp [Blk.within, V.within, V.within.all]
end Go.Proofs.YtofbdmdigopaoaaGreatDoor
end
section
set_option maxHeartbeats 8000000
set_option maxRecDepth 20000
namespace Go.Proofs.YtofbdmdigopaoaaGreatDoor
open Go.Abs
attribute [local irreducible] AW OX condQ GQ bodyQ RoundsA thenQ blockQ Acalls
variable {G : World → Nat → Prop}
theorem set_id {l : List Blk} {b : Nat} {x : Blk} (h : l[b]? = some x) : l.set b x = l := by
 apply List.ext_getElem?
 intro i
 rw [List.getElem?_set]
 by_cases hi : b = i
 · subst hi; rw [if_pos rfl, if_pos (List.getElem?_eq_some_iff.1 h).1, h]
 · rw [if_neg hi]
theorem c_par_word (s : Str) : Ans G 156 [vs s] (vb (decide (s = sTrue) || decide (s = sFalse) || decide (s = sNull))) := by
 intro st
 refine Acalls.body Tryz.func156 rfl Tryz.ntmps156 (by simp) ?_
 (try refine Wk.aw fun _ hqq => ?_); (repeat' (first | ((first | refine Wk.hd ?_ | refine Wk.i ?_); simp -implicitDefEqProofs only [go_sem, seval]) | (refine TQ_s (fun hc => ?_) (fun hc => ?_) <;> try omega) | refine Wk.ret fun _ _ => ?_ | (refine Wk.fin (by assumption) ?_; refine ⟨?_, rfl⟩) | first | refine Wk.o ?_ | refine Wk.q (by assumption) ?_)); all_goals (repeat subst hqq)
 all_goals (refine ret_bool ?_; simp only [Bool.or_eq_true, decide_eq_true_eq]; simp_all [sTrue, sFalse, sNull])
def rdA (T : List Tk) : Res Ex → Out
 | .ok l _ => .ret (.d (.sl (l.args.map Ex.enc)))
 | .err rest c => .pan (panV (T.length - rest.length) c)
def RdA (G : World → Nat → Prop) (T : List Tk) (f : FuncId) (args : List V) (j : Nat) (r : Res Ex) : Prop :=
 ∀ B K b, B[b]? = some (rdB T j) → Acalls Tryz.prog G f (.ptr b 0 :: args) ⟨B, K⟩ (fun o s => o = rdA T r ∧ s = ⟨B.set b (rdB T (T.length - (resRest r).length)), K⟩)
def nameR (f : Nat) (T : List Tk) (s : Str) (j : Nat) : Option (Res Ex) :=
 if s = sNull then some (.ok (lit val0) (T.drop j))
 else if s = sTrue ∨ s = sFalse then some (.ok (lit (.mk 1 (decide (s = sTrue)) 0 [] [] [])) (T.drop j))
 else if opAt T j [40] = true then thenF (pF f (.args [41]) (T.drop (j + 1))) fun l r3 => some (.ok (.mk 5 s val0 l.args []) r3)
 else some (.ok (.mk 2 s val0 [] []) (T.drop j))
theorem r_name (hg : GV G) {T : List Tk} {f : Nat} (hT : T.length ≤ 1048576) (hx : ∀ t ∈ T, t.text.length ≤ 1048576)
   (hargs : ∀ s, s ≠ [44] → ∀ i, i ≤ T.length → ∀ r, pF f (.args s) (T.drop i) = some r → RdA G T 190 [vs s] i r) (s : Str) (i : Nat) (hi : i ≤ T.length) (r : Res Ex) (h : nameR f T s i = some r) :
   RdP G T 189 [vs s] i r := by
 intro B K b hb
 have hbl : b < B.length := (List.getElem?_eq_some_iff.1 hb).1
 have hs1 : ∀ m y, (B ++ m).set b y = B.set b y ++ m := fun m y => set_app hb
 have hs2 : ∀ z m y, (B.set b z ++ m).set b y = B.set b y ++ m := fun z m y => set_app2 hb
 have hg1 : ∀ m, (B ++ m)[b]? = some (rdB T i) := fun m => get_app hb
 have hg2 : ∀ z m, (B.set b z ++ m)[b]? = some z := fun z m => get_app (set_get hb)
 have hl : ∀ z, (B.set b z).length = B.length := fun z => List.length_set
 have hG : ∀ (z : Blk) (m : List Blk) (k : Nat), (B.set b z ++ m)[B.length + k]? = m[k]? := fun z m k => by rw [List.getElem?_append_right (by simp)]; simp
 have hG0 : ∀ (z : Blk) (m : List Blk), (B.set b z ++ m)[B.length]? = m[0]? := fun z m => by rw [List.getElem?_append_right (by simp)]; simp
 have hS : ∀ (z y : Blk) (m : List Blk) (k : Nat), (B.set b z ++ m).set (B.length + k) y = B.set b z ++ m.set k y := fun z y m k => by rw [List.set_append_right _ _ (by simp)]; simp
 have hS0 : ∀ (z y : Blk) (m : List Blk), (B.set b z ++ m).set B.length y = B.set b z ++ m.set 0 y := fun z y m => by rw [List.set_append_right _ _ (by simp)]; simp
 have len : ∀ j, j ≤ T.length → T.length - (T.drop j).length = j := fun j hj => by simp only [List.length_drop]; omega
 have hw := c_par_word (G := G) s
 rw [nameR] at h
 by_cases h1 : s = sNull
 · rw [if_pos h1, Option.some.injEq] at h
   subst h1 h
   have hlit := c_par_literal (G := G) val0
   simp only [rdO, resRest, len i hi, set_id hb]
   refine Acalls.body Tryz.func189 rfl Tryz.ntmps189 (by simp) ?_
   (try refine Wk.aw fun _ hqq => ?_); (repeat' (first | ((first | refine Wk.hd ?_ | refine Wk.i ?_); simp -implicitDefEqProofs only [go_sem, seval, hs1, hs2, hl, hG, hG0, hS, hS0, sNull]) | refine CQ_ok (hlit _) ?_ | refine Wk.ret fun _ _ => ?_ | (refine Wk.fin (by assumption) ?_; refine ⟨?_, rfl⟩) | first | refine Wk.o ?_ | refine Wk.q (by assumption) ?_)); all_goals (repeat subst hqq)
   all_goals rfl
 rw [if_neg h1] at h
 have nn : s = [110, 117, 108, 108] → False := h1
 by_cases h2 : s = sTrue ∨ s = sFalse
 · rw [if_pos h2, Option.some.injEq] at h
   subst h
   have hw2 : (decide (s = sTrue) || decide (s = sFalse) || decide (s = sNull)) = true := by rcases h2 with h2 | h2 <;> simp [h2]
   rw [hw2] at hw
   have hlit := c_par_literal (G := G) (.mk 1 (decide (s = sTrue)) 0 [] [] [])
   simp only [rdO, resRest, len i hi, set_id hb]
   refine Acalls.body Tryz.func189 rfl Tryz.ntmps189 (by simp) ?_
   (try refine Wk.aw fun _ hqq => ?_); (repeat' (first | ((first | refine Wk.hd ?_ | refine Wk.i ?_); simp -implicitDefEqProofs only [go_sem, seval, hs1, hs2, hl, hG, hG0, hS, hS0]) | (refine TQ_s (fun hc => ?_) (fun hc => ?_) <;> try omega) | refine CQ_ok (hlit _) ?_ | refine CQ_ok (hw _) ?_ | refine Wk.ret fun _ _ => ?_ | (refine Wk.fin (by assumption) ?_; refine ⟨?_, rfl⟩) | first | refine Wk.o ?_ | refine Wk.q (by assumption) ?_)); all_goals (repeat subst hqq)
   all_goals first | rfl | exact (nn (by assumption)).elim
 · rw [if_neg h2] at h
   have hw2 : (decide (s = sTrue) || decide (s = sFalse) || decide (s = sNull)) = false := by
     simp only [Bool.or_eq_false_iff, decide_eq_false_iff_not]
     exact ⟨⟨fun h => h2 (.inl h), fun h => h2 (.inr h)⟩, h1⟩
   rw [hw2] at hw
   have hnn : decide (s = [110, 117, 108, 108]) = false := decide_eq_false nn
   cases hq : opAt T i [40]
   · rw [hq] at h
     simp only [Bool.false_eq_true, if_false, Option.some.injEq] at h
     subst h
     have a1 : ∀ m, Acalls Tryz.prog G 81 [.ptr b 0, vs [40]] ⟨B ++ m, K⟩ (fun o s' => o = .ret (vb false) ∧ s' = ⟨B ++ m, K⟩) := fun m =>
       c_accept_f (G := G) hg ⟨B ++ m, K⟩ b i T hT hx (by omega) (hg1 m) [40] (by rw [isF_op]; exact hq)
     simp only [rdO, resRest, len i hi, set_id hb]
     refine Acalls.body Tryz.func189 rfl Tryz.ntmps189 (by simp) ?_
     (try refine Wk.aw fun _ hqq => ?_); (repeat' (first | ((first | refine Wk.hd ?_ | refine Wk.i ?_); simp -implicitDefEqProofs only [go_sem, seval, hs1, hs2, hl, hG, hG0, hS, hS0, hnn]) | refine CQ_ok (hw _) ?_ | refine CQ_ok (a1 _) ?_ | refine Wk.ret fun _ _ => ?_ | (refine Wk.fin (by assumption) ?_; refine ⟨?_, rfl⟩) | first | refine Wk.o ?_ | refine Wk.q (by assumption) ?_)); all_goals (repeat subst hqq)
     all_goals first | rfl | exact (nn (by assumption)).elim | skip
   · rw [hq] at h
     simp only [if_true] at h
     have hil := opAt_lt hq
     have a1 : ∀ m, Acalls Tryz.prog G 81 [.ptr b 0, vs [40]] ⟨B ++ m, K⟩ (fun o s' => o = .ret (vb true) ∧ s' = ⟨B.set b (rdB T (i + 1)) ++ m, K⟩) := fun m => by
       have := c_accept_t (G := G) hg ⟨B ++ m, K⟩ b i T hT hx (by omega) (hg1 m) [40] (by rw [isF_op]; exact hq)
       simp only [hs1] at this; exact this
     rcases h3 : pF f (.args [41]) (T.drop (i + 1)) with _ | (⟨l, r1⟩ | ⟨r1, ec⟩)
     · rw [h3] at h; simp [thenF] at h
     · have c1 := hargs [41] (by decide) (i + 1) (by omega) _ h3
       rw [h3] at h
       simp only [thenF, Option.some.injEq] at h
       subst h
       simp only [RdA, rdA, resRest] at c1
       have c1' : ∀ m, Acalls Tryz.prog G 190 [.ptr b 0, vs [41]] ⟨B.set b (rdB T (i + 1)) ++ m, K⟩ (fun o s => o = .ret (.d (.sl (l.args.map Ex.enc))) ∧ s = ⟨B.set b (rdB T (T.length - r1.length)) ++ m, K⟩) := fun m => by have := c1 _ K b (hg2 _ m); simp only [hs2] at this; exact this
       simp only [rdO, resRest]
       have hve : vE (Ex.mk 5 s val0 l.args []) = V.agg [V.d (D.int .i64 5), V.d (D.str s), V.d (D.int .i64 0), V.d (D.bool false), V.d (D.int .i64 0), V.d (D.str []), V.d (D.sl []), V.d (D.sl []), V.d (D.sl (l.args.map Ex.enc)), V.d (D.sl [])] := by rw [vE, Ex.enc_eq]; rfl
       refine Acalls.body Tryz.func189 rfl Tryz.ntmps189 (by simp) ?_
       (try refine Wk.aw fun _ hqq => ?_); (repeat' (first | ((first | refine Wk.hd ?_ | refine Wk.i ?_); simp -implicitDefEqProofs only [go_sem, seval, hs1, hs2, hl, hG, hG0, hS, hS0, hnn]) | refine CQ_ok (hw _) ?_ | refine CQ_st (a1 _) ?_ | refine CQ_st (c1' _) ?_ | first | refine Wk.o ?_ | refine Wk.q (by assumption) ?_)); all_goals (repeat subst hqq)
       all_goals first | exact (nn (by assumption)).elim | skip
       all_goals refine bodyQ_retM (v := vE (Ex.mk 5 s val0 l.args [])) K.length (Nat.le_refl _) (s1 := ⟨B.set b (rdB T (T.length - r1.length)), K⟩) (by simp [St.cut]) (set_old ?_) (by simp -implicitDefEqProofs only [go_sem, seval, resOf_tmp, resOf_cell, Tryz.results189, hG, hG0]; first | done | exact rfl) (by rw [hve]; simp -implicitDefEqProofs only [go_sem, seval, resV]; first | done | exact rfl) (by simp -implicitDefEqProofs only [go_sem, seval]; first | done | exact rfl) ⟨rfl, rfl⟩
       all_goals simp [Blk.within, V.within, V.within.all]
     · have c1 := hargs [41] (by decide) (i + 1) (by omega) _ h3
       rw [h3] at h
       simp only [thenF, Option.some.injEq] at h
       subst h
       simp only [RdA, rdA, resRest] at c1
       have c1' : ∀ m, Acalls Tryz.prog G 190 [.ptr b 0, vs [41]] ⟨B.set b (rdB T (i + 1)) ++ m, K⟩ (fun o s => o = .pan (panV (T.length - r1.length) ec) ∧ s = ⟨B.set b (rdB T (T.length - r1.length)) ++ m, K⟩) := fun m => by have := c1 _ K b (hg2 _ m); simp only [hs2] at this; exact this
       simp only [rdO, resRest]
       refine Acalls.body Tryz.func189 rfl Tryz.ntmps189 (by simp) ?_
       (try refine Wk.aw fun _ hqq => ?_); (repeat' (first | ((first | refine Wk.hd ?_ | refine Wk.i ?_); simp -implicitDefEqProofs only [go_sem, seval, hs1, hs2, hl, hG, hG0, hS, hS0, hnn]) | refine CQ_ok (hw _) ?_ | refine CQ_st (a1 _) ?_ | refine CQ_pan (c1' _) ?_ | first | refine Wk.o ?_ | refine Wk.q (by assumption) ?_)); all_goals (repeat subst hqq)
       all_goals first | exact (nn (by assumption)).elim | skip
       all_goals refine bodyQ_panS (s1 := ⟨B.set b (rdB T (T.length - r1.length)), K⟩) (by simp [St.cut]) (set_old ?_) rfl ⟨rfl, rfl⟩
       all_goals simp [Blk.within, V.within, V.within.all]
end Go.Proofs.YtofbdmdigopaoaaGreatDoor
end
section
set_option maxHeartbeats 8000000
set_option maxRecDepth 20000
namespace Go.Proofs.YtofbdmdigopaoaaGreatDoor
open Go.Abs
attribute [local irreducible] AW OX condQ GQ bodyQ RoundsA thenQ blockQ Acalls
variable {G : World → Nat → Prop}
abbrev zE' : List V := [.d (.int .i64 0), .d (.str []), .d (.int .i64 0), .d (.bool false), .d (.int .i64 0), .d (.str []), .d (.sl []), .d (.sl []), .d (.sl []), .d (.sl [])]
end Go.Proofs.YtofbdmdigopaoaaGreatDoor
end
