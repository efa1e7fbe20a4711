/- A step of the proofs of the seat's theorems. -/
import Derived.Test.YtofbdmdigopaoaaGreatDoorQ30
import Derived.Test.YtofbdmdigopaoaaGreatDoorQXA29
set_option linter.unusedSimpArgs false
set_option linter.unusedVariables false
set_option maxHeartbeats 8000000
set_option maxRecDepth 20000
namespace Go.Proofs.YtofbdmdigopaoaaGreatDoor
open Go.Abs
attribute [local irreducible] AW OX condQ GQ bodyQ RoundsA thenQ blockQ Acalls
variable {G : World → Nat → Prop}
def oprL : List Str := [[124, 124], [38, 38], [61, 61], [33, 61], [60], [60, 61], [62], [62, 61], [43], [45], [42], [47], [37]]
def oprN : List Int := [2, 3, 4, 4, 4, 4, 4, 4, 5, 5, 6, 6, 6]
def encI (l : List Int) : List (List D) := l.map fun n => [Abs.D.int .i64 n]
theorem c_operators : Ans G 24 [] (.tup [vKs oprL, .d (.sl (encI oprN))]) := by
 intro st
 refine Acalls.body Tryz.func24 rfl Tryz.ntmps24 (by simp) ?_
 (try refine Wk.aw fun _ hqq => ?_); (repeat' (first | ((refine Wk.i ?_); simp -implicitDefEqProofs only [go_sem, seval]) | refine Wk.ret fun _ _ => ?_ | (refine Wk.fin (by assumption) ?_; refine ⟨?_, rfl⟩) | first | refine Wk.o ?_ | refine Wk.q (by assumption) ?_)); all_goals (repeat subst hqq)
 all_goals rfl
def src1 (u : Bool) : Str := if u then [45, 120] else [120]
def src2 (u : Bool) : Str := if u then [33, 122] else [122]
def srcS (a b : Nat) (u : Bool) : Str := src1 u ++ [32] ++ oprL.getD a [] ++ [32, 121, 32] ++ oprL.getD b [] ++ [32] ++ src2 u
def chkS (a b : Nat) (u : Bool) : Bool :=
 match parseF (srcS a b u) with
 | .err at_ c => decide (oprN.getD a 0 = 4) && decide (oprN.getD b 0 = 4) && decide (c = 5) && decide (at_ = ((src1 u).length : Int) + (oprL.getD a []).length + 4)
 | .ok e => !(decide (oprN.getD a 0 = 4) && decide (oprN.getD b 0 = 4)) && decide (e.kind = 7) && decide (e.args.length = 2) &&
     if oprN.getD b 0 ≤ oprN.getD a 0 then decide (e.name = oprL.getD b []) && decide ((e.args.getD 0 default).kind = 7) && decide ((e.args.getD 0 default).name = oprL.getD a []) && decide ((e.args.getD 1 default).kind ≠ 7)
     else decide (e.name = oprL.getD a []) && decide ((e.args.getD 1 default).kind = 7) && decide ((e.args.getD 1 default).name = oprL.getD b []) && decide ((e.args.getD 0 default).kind ≠ 7)
theorem chk_all : ((List.range 13).all fun a => (List.range 13).all fun b => chkS a b true && chkS a b false) = true := by kernel_rfl
theorem chk_at {a b : Nat} (ha : a < 13) (hb : b < 13) (u : Bool) : chkS a b u = true := by
 have h := List.all_eq_true.1 (List.all_eq_true.1 chk_all a (List.mem_range.2 ha)) b (List.mem_range.2 hb)
 simp only [Bool.and_eq_true] at h
 cases u
 · exact h.2
 · exact h.1
theorem oprL_len : oprL.length = 13 := rfl
theorem oprN_len : oprN.length = 13 := rfl
theorem opr_short : ∀ s ∈ oprL, s.length ≤ 2 := by decide
theorem getD_short (a : Nat) : (oprL.getD a []).length ≤ 2 := by
 by_cases h : a < oprL.length
 · rw [List.getD_eq_getElem?_getD, List.getElem?_eq_getElem h]
   exact opr_short _ (List.getElem_mem h)
 · rw [List.getD_eq_getElem?_getD, List.getElem?_eq_none (by omega)]
   simp
theorem tm13 (c : UInt8) : (IntKind.i64.wrap (c.toNat : Int)).tmod 13 = ((c.toNat % 13 : Nat) : Int) := by
 have := c.toNat_lt
 rw [wrap64 (by omega) (by omega), Int.tmod_eq_emod_of_nonneg (by omega)]; omega
theorem ixL {a : Nat} (h : a < 13) : ixR true (encKs oprL) (a : Int) = some (.ep [.str (oprL.getD a [])] 0) := by
 rw [ixK (by omega) (by rw [oprL_len]; omega)]; rfl
theorem ixN {a : Nat} (h : a < 13) : ixR true (encI oprN) (a : Int) = some (.ep [Abs.D.int .i64 (oprN.getD a 0)] 0) := by
 rw [encI, ixR_map (by omega) (by rw [oprN_len]; omega)]; rfl
def srcT (a b : Nat) : Str := 45 :: 120 :: 32 :: (oprL.getD a [] ++ 32 :: 121 :: 32 :: (oprL.getD b [] ++ [32, 33, 122]))
def srcF (a b : Nat) : Str := 120 :: 32 :: (oprL.getD a [] ++ 32 :: 121 :: 32 :: (oprL.getD b [] ++ [32, 122]))
theorem srcT_eq (a b : Nat) : srcS a b true = srcT a b := by simp [srcS, srcT, src1, src2]
theorem srcF_eq (a b : Nat) : srcS a b false = srcF a b := by simp [srcS, srcF, src1, src2]
theorem rowsI : rowsLen 1 (encI oprN) = true := by decide
theorem law_Strengths (g : GA G) (i j : UInt8) (u : Bool) : Ans G 8 [vc i, vc j, vb u] (vb true) := by
 intro st
 have ca := c_awake g
 have co := c_operators (G := G)
 have ha : i.toNat % 13 < 13 := Nat.mod_lt _ (by decide)
 have hb : j.toNat % 13 < 13 := Nat.mod_lt _ (by decide)
 have hc0 := chk_at ha hb u
 have ti := tm13 i
 have tj := tm13 j
 generalize i.toNat % 13 = a at *
 generalize j.toNat % 13 = b at *
 have xa := ixL ha
 have xb := ixL hb
 have na := ixN ha
 have nb := ixN hb
 have la := getD_short a
 have lb := getD_short b
 cases u
 · have p1 := k_Parse g (srcF a b) (by simp only [srcF, List.length_cons, List.length_append, List.length_nil]; omega)
   rw [chkS, srcF_eq] at hc0
   cases h : parseF (srcF a b) with
   | err at_ c =>
     rw [h] at p1 hc0
     simp only [parV] at p1
     simp only [Bool.and_eq_true, decide_eq_true_eq] at hc0
     obtain ⟨⟨⟨n1, n2⟩, rfl⟩, rfl⟩ := hc0
     rw [srcF] at p1
     refine Acalls.body Tryz.func8 rfl Tryz.ntmps8 (by simp) ?_
     (try with_reducible refine Wk.aw fun _ hqq => ?_); (repeat' (first | ((with_reducible refine Wk.atX 6 ?_); refine AW.regC (P := Tryz.prog) mx 16 22 [(5, 22), (11, 22)] (by kernel_rfl) (by simp -implicitDefEqProofs (disch := first | omega | (simp only [go_sem]; try omega)) only [go_sem, seval, ti, tj, oprL_len, rowsI, n1, n2, src1, xa, xb, na, nb, List.cons_append, List.nil_append, List.append_assoc]; first | done | exact rfl) (by kernel_rfl) (by rfl) Tryz.call11 (by rfl) (by rfl) (by rfl) (by exact fun st_ => p1 _) (by simp -implicitDefEqProofs (disch := first | omega | (simp only [go_sem]; try omega)) only [go_sem, seval, ti, tj, oprL_len, rowsI, n1, n2, src1, xa, xb, na, nb, List.cons_append, List.nil_append, List.append_assoc]; first | done | exact rfl) (by rfl) (by rfl) ?_) | (with_reducible first | refine Wk.ox ?_ | refine Wk.th ?_ | refine Wk.bl ?_) | ((with_reducible first | refine Wk.hd ?_ | refine Wk.i ?_); simp -implicitDefEqProofs (disch := first | omega | (simp only [go_sem]; try omega)) only [go_sem, seval, ti, tj, oprL_len, rowsI, n1, n2, src1, xa, xb, na, nb, List.cons_append, List.nil_append, List.append_assoc]) | refine CQ_ok (co _) ?_ | refine CQ_ok (ca _) ?_ | refine Wk.drawn mx (by kernel_rfl) ?_ | with_reducible refine Wk.ret fun _ _ => ?_ | (refine Wk.fin (by assumption) ?_; refine ⟨?_, rfl⟩) | with_reducible first | refine Wk.o ?_ | refine Wk.q (by assumption) ?_)); all_goals (repeat subst hqq)
     all_goals rfl
   | ok e =>
     rw [h] at p1 hc0
     simp only [parV] at p1
     rw [srcF] at p1
     by_cases hge : oprN.getD b 0 ≤ oprN.getD a 0
     · simp only [hge, if_true, Bool.and_eq_true, decide_eq_true_eq, Bool.not_eq_true', Bool.and_eq_false_iff, decide_eq_false_iff_not] at hc0
       obtain ⟨⟨⟨n4, ek⟩, el⟩, ⟨⟨en, k0⟩, m0⟩, k1⟩ := hc0
       refine Acalls.body Tryz.func8 rfl Tryz.ntmps8 (by simp) ?_
       (try with_reducible refine Wk.aw fun _ hqq => ?_); (repeat' (first | ((with_reducible refine Wk.atX 6 ?_); refine AW.regC (P := Tryz.prog) mx 16 22 [(5, 22), (11, 22)] (by kernel_rfl) (by simp -implicitDefEqProofs (disch := first | omega | (simp only [go_sem]; try omega)) only [go_sem, seval, ti, tj, oprL_len, rowsI, ek, el, en, k0, m0, xa, xb, na, nb, List.cons_append, List.nil_append, List.append_assoc]; first | done | exact rfl) (by kernel_rfl) (by rfl) Tryz.call11 (by rfl) (by rfl) (by rfl) (by exact fun st_ => p1 _) (by simp -implicitDefEqProofs (disch := first | omega | (simp only [go_sem]; try omega)) only [go_sem, seval, ti, tj, oprL_len, rowsI, ek, el, en, k0, m0, xa, xb, na, nb, List.cons_append, List.nil_append, List.append_assoc]; first | done | exact rfl) (by rfl) (by rfl) ?_) | (with_reducible first | refine Wk.ox ?_ | refine Wk.th ?_ | refine Wk.bl ?_) | ((with_reducible first | refine Wk.hd ?_ | refine Wk.i ?_); simp -implicitDefEqProofs (disch := first | omega | (simp only [go_sem]; try omega)) only [go_sem, seval, ti, tj, oprL_len, rowsI, ek, el, en, k0, m0, xa, xb, na, nb, List.cons_append, List.nil_append, List.append_assoc]) | (refine TQ_s (fun hc => ?_) (fun hc => ?_) <;> try (exfalso; first | omega | contradiction)) | refine CQ_ok (co _) ?_ | refine CQ_ok (ca _) ?_ | refine Wk.drawn mx (by kernel_rfl) ?_ | with_reducible refine Wk.ret fun _ _ => ?_ | (refine Wk.fin (by assumption) ?_; refine ⟨?_, rfl⟩) | with_reducible first | refine Wk.o ?_ | refine Wk.q (by assumption) ?_)); all_goals (repeat subst hqq)
       all_goals rfl
     · simp only [hge, if_false, Bool.and_eq_true, decide_eq_true_eq, Bool.not_eq_true', Bool.and_eq_false_iff, decide_eq_false_iff_not] at hc0
       obtain ⟨⟨⟨n4, ek⟩, el⟩, ⟨⟨en, k1⟩, m1⟩, k0⟩ := hc0
       refine Acalls.body Tryz.func8 rfl Tryz.ntmps8 (by simp) ?_
       (try with_reducible refine Wk.aw fun _ hqq => ?_); (repeat' (first | ((with_reducible refine Wk.atX 6 ?_); refine AW.regC (P := Tryz.prog) mx 16 22 [(5, 22), (11, 22)] (by kernel_rfl) (by simp -implicitDefEqProofs (disch := first | omega | (simp only [go_sem]; try omega)) only [go_sem, seval, ti, tj, oprL_len, rowsI, ek, el, en, k1, m1, xa, xb, na, nb, List.cons_append, List.nil_append, List.append_assoc]; first | done | exact rfl) (by kernel_rfl) (by rfl) Tryz.call11 (by rfl) (by rfl) (by rfl) (by exact fun st_ => p1 _) (by simp -implicitDefEqProofs (disch := first | omega | (simp only [go_sem]; try omega)) only [go_sem, seval, ti, tj, oprL_len, rowsI, ek, el, en, k1, m1, xa, xb, na, nb, List.cons_append, List.nil_append, List.append_assoc]; first | done | exact rfl) (by rfl) (by rfl) ?_) | (with_reducible first | refine Wk.ox ?_ | refine Wk.th ?_ | refine Wk.bl ?_) | ((with_reducible first | refine Wk.hd ?_ | refine Wk.i ?_); simp -implicitDefEqProofs (disch := first | omega | (simp only [go_sem]; try omega)) only [go_sem, seval, ti, tj, oprL_len, rowsI, ek, el, en, k1, m1, xa, xb, na, nb, List.cons_append, List.nil_append, List.append_assoc]) | (refine TQ_s (fun hc => ?_) (fun hc => ?_) <;> try (exfalso; first | omega | contradiction)) | refine CQ_ok (co _) ?_ | refine CQ_ok (ca _) ?_ | refine Wk.drawn mx (by kernel_rfl) ?_ | with_reducible refine Wk.ret fun _ _ => ?_ | (refine Wk.fin (by assumption) ?_; refine ⟨?_, rfl⟩) | with_reducible first | refine Wk.o ?_ | refine Wk.q (by assumption) ?_)); all_goals (repeat subst hqq)
       all_goals rfl
 · have p1 := k_Parse g (srcT a b) (by simp only [srcT, List.length_cons, List.length_append, List.length_nil]; omega)
   rw [chkS, srcT_eq] at hc0
   cases h : parseF (srcT a b) with
   | err at_ c =>
     rw [h] at p1 hc0
     simp only [parV] at p1
     simp only [Bool.and_eq_true, decide_eq_true_eq] at hc0
     obtain ⟨⟨⟨n1, n2⟩, rfl⟩, rfl⟩ := hc0
     rw [srcT] at p1
     refine Acalls.body Tryz.func8 rfl Tryz.ntmps8 (by simp) ?_
     (try with_reducible refine Wk.aw fun _ hqq => ?_); (repeat' (first | ((with_reducible refine Wk.atX 6 ?_); refine AW.regC (P := Tryz.prog) mx 16 22 [(5, 22), (11, 22)] (by kernel_rfl) (by simp -implicitDefEqProofs (disch := first | omega | (simp only [go_sem]; try omega)) only [go_sem, seval, ti, tj, oprL_len, rowsI, n1, n2, src1, xa, xb, na, nb, List.cons_append, List.nil_append, List.append_assoc]; first | done | exact rfl) (by kernel_rfl) (by rfl) Tryz.call11 (by rfl) (by rfl) (by rfl) (by exact fun st_ => p1 _) (by simp -implicitDefEqProofs (disch := first | omega | (simp only [go_sem]; try omega)) only [go_sem, seval, ti, tj, oprL_len, rowsI, n1, n2, src1, xa, xb, na, nb, List.cons_append, List.nil_append, List.append_assoc]; first | done | exact rfl) (by rfl) (by rfl) ?_) | (with_reducible first | refine Wk.ox ?_ | refine Wk.th ?_ | refine Wk.bl ?_) | ((with_reducible first | refine Wk.hd ?_ | refine Wk.i ?_); simp -implicitDefEqProofs (disch := first | omega | (simp only [go_sem]; try omega)) only [go_sem, seval, ti, tj, oprL_len, rowsI, n1, n2, src1, xa, xb, na, nb, List.cons_append, List.nil_append, List.append_assoc]) | refine CQ_ok (co _) ?_ | refine CQ_ok (ca _) ?_ | refine Wk.drawn mx (by kernel_rfl) ?_ | with_reducible refine Wk.ret fun _ _ => ?_ | (refine Wk.fin (by assumption) ?_; refine ⟨?_, rfl⟩) | with_reducible first | refine Wk.o ?_ | refine Wk.q (by assumption) ?_)); all_goals (repeat subst hqq)
     all_goals rfl
   | ok e =>
     rw [h] at p1 hc0
     simp only [parV] at p1
     rw [srcT] at p1
     by_cases hge : oprN.getD b 0 ≤ oprN.getD a 0
     · simp only [hge, if_true, Bool.and_eq_true, decide_eq_true_eq, Bool.not_eq_true', Bool.and_eq_false_iff, decide_eq_false_iff_not] at hc0
       obtain ⟨⟨⟨n4, ek⟩, el⟩, ⟨⟨en, k0⟩, m0⟩, k1⟩ := hc0
       refine Acalls.body Tryz.func8 rfl Tryz.ntmps8 (by simp) ?_
       (try with_reducible refine Wk.aw fun _ hqq => ?_); (repeat' (first | ((with_reducible refine Wk.atX 6 ?_); refine AW.regC (P := Tryz.prog) mx 16 22 [(5, 22), (11, 22)] (by kernel_rfl) (by simp -implicitDefEqProofs (disch := first | omega | (simp only [go_sem]; try omega)) only [go_sem, seval, ti, tj, oprL_len, rowsI, ek, el, en, k0, m0, xa, xb, na, nb, List.cons_append, List.nil_append, List.append_assoc]; first | done | exact rfl) (by kernel_rfl) (by rfl) Tryz.call11 (by rfl) (by rfl) (by rfl) (by exact fun st_ => p1 _) (by simp -implicitDefEqProofs (disch := first | omega | (simp only [go_sem]; try omega)) only [go_sem, seval, ti, tj, oprL_len, rowsI, ek, el, en, k0, m0, xa, xb, na, nb, List.cons_append, List.nil_append, List.append_assoc]; first | done | exact rfl) (by rfl) (by rfl) ?_) | (with_reducible first | refine Wk.ox ?_ | refine Wk.th ?_ | refine Wk.bl ?_) | ((with_reducible first | refine Wk.hd ?_ | refine Wk.i ?_); simp -implicitDefEqProofs (disch := first | omega | (simp only [go_sem]; try omega)) only [go_sem, seval, ti, tj, oprL_len, rowsI, ek, el, en, k0, m0, xa, xb, na, nb, List.cons_append, List.nil_append, List.append_assoc]) | (refine TQ_s (fun hc => ?_) (fun hc => ?_) <;> try (exfalso; first | omega | contradiction)) | refine CQ_ok (co _) ?_ | refine CQ_ok (ca _) ?_ | refine Wk.drawn mx (by kernel_rfl) ?_ | with_reducible refine Wk.ret fun _ _ => ?_ | (refine Wk.fin (by assumption) ?_; refine ⟨?_, rfl⟩) | with_reducible first | refine Wk.o ?_ | refine Wk.q (by assumption) ?_)); all_goals (repeat subst hqq)
       all_goals rfl
     · simp only [hge, if_false, Bool.and_eq_true, decide_eq_true_eq, Bool.not_eq_true', Bool.and_eq_false_iff, decide_eq_false_iff_not] at hc0
       obtain ⟨⟨⟨n4, ek⟩, el⟩, ⟨⟨en, k1⟩, m1⟩, k0⟩ := hc0
       refine Acalls.body Tryz.func8 rfl Tryz.ntmps8 (by simp) ?_
       (try with_reducible refine Wk.aw fun _ hqq => ?_); (repeat' (first | ((with_reducible refine Wk.atX 6 ?_); refine AW.regC (P := Tryz.prog) mx 16 22 [(5, 22), (11, 22)] (by kernel_rfl) (by simp -implicitDefEqProofs (disch := first | omega | (simp only [go_sem]; try omega)) only [go_sem, seval, ti, tj, oprL_len, rowsI, ek, el, en, k1, m1, xa, xb, na, nb, List.cons_append, List.nil_append, List.append_assoc]; first | done | exact rfl) (by kernel_rfl) (by rfl) Tryz.call11 (by rfl) (by rfl) (by rfl) (by exact fun st_ => p1 _) (by simp -implicitDefEqProofs (disch := first | omega | (simp only [go_sem]; try omega)) only [go_sem, seval, ti, tj, oprL_len, rowsI, ek, el, en, k1, m1, xa, xb, na, nb, List.cons_append, List.nil_append, List.append_assoc]; first | done | exact rfl) (by rfl) (by rfl) ?_) | (with_reducible first | refine Wk.ox ?_ | refine Wk.th ?_ | refine Wk.bl ?_) | ((with_reducible first | refine Wk.hd ?_ | refine Wk.i ?_); simp -implicitDefEqProofs (disch := first | omega | (simp only [go_sem]; try omega)) only [go_sem, seval, ti, tj, oprL_len, rowsI, ek, el, en, k1, m1, xa, xb, na, nb, List.cons_append, List.nil_append, List.append_assoc]) | (refine TQ_s (fun hc => ?_) (fun hc => ?_) <;> try (exfalso; first | omega | contradiction)) | refine CQ_ok (co _) ?_ | refine CQ_ok (ca _) ?_ | refine Wk.drawn mx (by kernel_rfl) ?_ | with_reducible refine Wk.ret fun _ _ => ?_ | (refine Wk.fin (by assumption) ?_; refine ⟨?_, rfl⟩) | with_reducible first | refine Wk.o ?_ | refine Wk.q (by assumption) ?_)); all_goals (repeat subst hqq)
       all_goals rfl
end Go.Proofs.YtofbdmdigopaoaaGreatDoor
