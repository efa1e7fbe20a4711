/- A step of the proofs of the seat's theorems. -/
import Derived.Test.YtofbdmdigopaoaaGreatDoorM28
import Derived.Test.YtofbdmdigopaoaaGreatDoorM35
import Derived.Test.YtofbdmdigopaoaaGreatDoorM36
set_option linter.unusedSimpArgs false
set_option linter.unusedVariables false
section
set_option maxHeartbeats 8000000
set_option maxRecDepth 20000
namespace Go.Proofs.YtofbdmdigopaoaaGreatDoor
open Go.Abs
attribute [local irreducible] AW OX condQ GQ bodyQ RoundsA thenQ blockQ Acalls
variable {G : World → Nat → Prop}
structure GA (G : World → Nat → Prop) : Prop where
 v : GV G
 t : GT G
theorem k_par_Valid (e : Ex) (h : gE e) (hb : eBulk e ≤ 1099511627776) : Ans G 17 [vE e] (vint (eValid e)) :=
 c_par_Valid c_val_Valid c_repeated e h.1 hb (by have := eCount_bulk _ e (Nat.le_refl _); omega)
theorem k_ref_Valid (e : Ex) (h : gE e) (hb : eBulk e ≤ 1099511627776) : Ans G 18 [vE e] (vint (eValid e)) :=
 c_ref_Valid e h.1 (by have := eCount_bulk _ e (Nat.le_refl _); omega)
theorem k_par_Show (g : GA G) (e : Ex) (h : gE e) (hb : eBulk e ≤ 1099511627776) : Ans G 19 [vE e] (vs (showE e)) :=
 c_par_Show g.t c_val_Valid c_repeated e h.1 h.2 hb (by have := eCount_bulk _ e (Nat.le_refl _); omega)
theorem k_ref_Show (e : Ex) (h : gE e) (hb : eBulk e ≤ 1099511627776) : Ans G 20 [vE e] (vs (showE e)) :=
 c_ref_Show e h.1 h.2 hb (by have := eCount_bulk _ e (Nat.le_refl _); omega)
theorem k_par_Count (e : Ex) (hb : eBulk e ≤ 1099511627776) : Ans G 21 [vE e] (vint (eCount e)) :=
 c_par_Count _ e (Nat.le_refl _) (by have := eCount_bulk _ e (Nat.le_refl _); omega)
theorem k_ref_Count (e : Ex) (hb : eBulk e ≤ 1099511627776) : Ans G 16 [vE e] (vint (eCount e)) :=
 c_ref_Count _ e (Nat.le_refl _) (by have := eCount_bulk _ e (Nat.le_refl _); omega)
theorem k_Parse (g : GA G) (s : Str) (hs : s.length ≤ 1048576) : Ans G 11 [vs s] (parV (parseF s)) := by
 refine c_Parse g.v s hs (fun T e rest h hp => ?_) (fun T h => (tokens_ok h).1) (fun a c h => tokens_err h)
 obtain ⟨h1, h2, _⟩ := tokens_ok h
 obtain ⟨h3, h4⟩ := cond_good hp h1
 exact k_par_Valid e h3 (by omega)
theorem k_ref_Parse (s : Str) (hs : s.length ≤ 1048576) : Ans G 12 [vs s] (parV (parseF s)) := by
 refine c_ref_Parse s hs (fun T e rest h hp => ?_) (fun T h => (tokens_ok h).1) (fun a c h => tokens_err h)
 obtain ⟨h1, h2, _⟩ := tokens_ok h
 obtain ⟨h3, h4⟩ := cond_good hp h1
 exact k_ref_Valid e h3 (by omega)
theorem k_Take (g : GA G) (T : List Tk) (hT : okTs T) (hw : Wt T ≤ 1099511627776) : Ans G 14 [vTl T] (takeV T (takeF T)) := by
 refine c_Take g.v T hT.1 hT.2 fun e rest hp => ?_
 obtain ⟨h3, h4⟩ := cond_good hp hT
 exact k_par_Valid e h3 (by omega)
theorem k_ref_Take (T : List Tk) (hT : okTs T) (hw : Wt T ≤ 1099511627776) : Ans G 15 [vTl T] (takeV T (takeF T)) := by
 refine c_ref_Take T hT.1 hT.2 fun e rest hp => ?_
 obtain ⟨h3, h4⟩ := cond_good hp hT
 exact k_ref_Valid e h3 (by omega)
theorem runsF_self (x : Str) : runsF x x = 0 := by simp [runsF, cmpNat]
theorem natCmpF_self : ∀ (f : Nat) (s : Str), natCmpF f s s = 0
 | 0, _ => rfl
 | f + 1, [] => rfl
 | f + 1, c :: r => by
   simp only [natCmpF]
   split
   · simp [runsF_self, natCmpF_self f]
   · simp [natCmpF_self f]
theorem natCmp_self (s : Str) : natCmp s s = 0 := natCmpF_self _ s
theorem cmpKeys_self : ∀ l : List Str, cmpKeys l l = 0
 | [] => rfl
 | a :: r => by simp [cmpKeys, natCmp_self, cmpKeys_self r]
theorem vCmpL_self : ∀ l : List Val, (∀ v ∈ l, vCmp v v = 0) → vCmp.vCmpL l l = 0
 | [], _ => by simp [vCmp.vCmpL]
 | a :: r, h => by simp [vCmp.vCmpL, h a (by simp), vCmpL_self r (fun v hv => h v (by simp [hv]))]
theorem vCmp_self (v : Val) : vCmp v v = 0 := by
 induction v using Val.ind with
 | _ v ih =>
   obtain ⟨k, b, i, s, l, ks⟩ := v
   have := vCmpL_self l ih
   simp only [vCmp, Val.kind, Val.bool, Val.int, Val.str, Val.list, Val.keys, this, cmpKeys_self, cmpInt, cmpStr, ltStr_irr]
   simp
theorem vEq_self (v : Val) : vEq v v = true := by simp [vEq, vCmp_self v]
theorem eEqL_self : ∀ l : List Ex, (∀ v ∈ l, eEq v v = true) → eEq.eEqL l l = true
 | [], _ => by simp [eEq.eEqL]
 | a :: r, h => by simp [eEq.eEqL, h a (by simp), eEqL_self r (fun v hv => h v (by simp [hv]))]
theorem eEq_self (e : Ex) : eEq e e = true := by
 induction e using Ex.ind with
 | _ e ih =>
   obtain ⟨k, nm, v, ar, ks⟩ := e
   have := eEqL_self ar ih
   simp [eEq, Ex.kind, Ex.name, Ex.value, Ex.args, Ex.keys, vEq_self, this]
end Go.Proofs.YtofbdmdigopaoaaGreatDoor
end
section
set_option maxHeartbeats 8000000
set_option maxRecDepth 20000
namespace Go.Proofs.YtofbdmdigopaoaaGreatDoor
open Go.Abs
attribute [local irreducible] AW OX condQ GQ bodyQ RoundsA thenQ blockQ Acalls
variable {G : World → Nat → Prop}
def nm (c : UInt8) : Ex := .mk 2 [c] val0 [] []
def li (n : Int) : Ex := .mk 1 [] (.mk 2 false n [] [] []) [] []
def aw1 : Str := [49, 32, 43, 32, 50, 32, 42, 32, 51]
def awE1 : Ex := .mk 7 [43] val0 [li 1, .mk 7 [42] val0 [li 2, li 3] []] []
def aw2 : Str := [97, 32, 60, 32, 98, 32, 60, 32, 99]
def aw3 : Str := [40, 97, 32, 63, 32, 98, 32, 58, 32, 40, 99, 32, 63, 32, 100, 32, 58, 32, 101, 41, 41]
def awE3 : Ex := .mk 8 [] val0 [nm 97, nm 98, .mk 8 [] val0 [nm 99, nm 100, nm 101] []] []
def aw3s : Str := [97, 32, 63, 32, 98, 32, 58, 32, 99, 32, 63, 32, 100, 32, 58, 32, 101]
def aw4 : Str := [123, 97, 58, 32, 49, 44, 32, 34, 97, 34, 58, 32, 50, 125]
theorem aw1_p : parseF aw1 = .ok awE1 := by kernel_rfl
theorem aw2_p : parseF aw2 = .err 6 5 := by kernel_rfl
theorem aw3_p : parseF aw3 = .ok awE3 := by kernel_rfl
theorem aw4_p : parseF aw4 = .err 0 7 := by kernel_rfl
theorem aw1_c : eCount awE1 = 5 := by kernel_rfl
theorem aw1_s : showE awE1 = aw1 := by kernel_rfl
theorem aw3_s : showE awE3 = aw3s := by kernel_rfl
theorem aw13 : eEq awE1 awE3 = false := by kernel_rfl
theorem aw3_v : eValid awE3 = 0 := by kernel_rfl
theorem vE_aw1 : vE awE1 = .agg [vint 7, vs [43], .d (.int .i64 0), .d (.bool false), .d (.int .i64 0), .d (.str []), .d (.sl []), .d (.sl []), .d (.sl [(li 1).enc, [Abs.D.int .i64 7, .str [42], Abs.D.int .i64 0, .bool false, Abs.D.int .i64 0, .str [], .sl [], .sl [], .sl [(li 2).enc, (li 3).enc], .sl []]]), .d (.sl [])] := rfl
theorem gE_of {s : Str} {e : Ex} (h : parseF s = .ok e) : gE e ∧ eBulk e ≤ 1099511627776 := by
 rw [parseF] at h
 split at h
 · cases h
 · rename_i T hT
   obtain ⟨h1, h2, _⟩ := tokens_ok hT
   split at h
   · cases h
   · rename_i e' ht
     cases h
     obtain ⟨_, _, hp⟩ := (takeF_suf T).1 _ _ ht
     obtain ⟨h3, h4⟩ := cond_good hp h1
     exact ⟨h3, by omega⟩
   · cases h
theorem c_awake (g : GA G) : Ans G 10 [] (vb true) := by
 intro st
 have p1 := k_Parse g aw1 (by decide)
 have p2 := k_Parse g aw2 (by decide)
 have p3 := k_Parse g aw3 (by decide)
 have p4 := k_Parse g aw4 (by decide)
 obtain ⟨g1, b1⟩ := gE_of aw1_p
 obtain ⟨g3, b3⟩ := gE_of aw3_p
 have q1 := k_par_Count (G := G) awE1 b1
 have q2 := k_par_Show g awE1 g1 b1
 have q3 := k_par_Show g awE3 g3 b3
 have q4 := c_par_Equal (G := G) awE1 awE1 g1.1 g1.1
 have q5 := c_par_Equal (G := G) awE1 awE3 g1.1 g3.1
 have q6 := k_par_Valid (G := G) awE3 g3 b3
 rw [aw1_p] at p1
 rw [aw2_p] at p2
 rw [aw3_p] at p3
 rw [aw4_p] at p4
 simp only [parV] at p1 p2 p3 p4
 rw [aw1_c] at q1
 rw [aw1_s] at q2
 rw [aw3_s] at q3
 rw [eEq_self] at q4
 rw [aw13] at q5
 rw [aw3_v] at q6
 rw [vE_aw1] at p1 q1 q2 q4 q5
 refine Acalls.body Tryz.func10 rfl Tryz.ntmps10 (by simp) ?_
 (try with_reducible refine Wk.aw fun _ hqq => ?_); (repeat' (first | ((with_reducible first | refine Wk.hd ?_ | refine Wk.i ?_); simp -implicitDefEqProofs (disch := first | omega | (simp only [go_sem]; try omega)) only [go_sem, seval, beq_self_eq_true, aw1, aw3s]) | (refine TQ_s (fun hc => ?_) (fun hc => ?_) <;> try (exfalso; first | omega | contradiction)) | refine CQ_ok ((by first | exact p1 _ | exact p2 _ | exact p3 _ | exact p4 _)) ?_ | refine CQ_ok (q1 _) ?_ | refine CQ_ok ((by first | exact q2 _ | exact q3 _)) ?_ | refine CQ_ok ((by first | exact q4 _ | exact q5 _)) ?_ | refine CQ_ok (q6 _) ?_ | with_reducible refine Wk.ret fun _ _ => ?_ | (refine Wk.fin (by assumption) ?_; refine ⟨?_, rfl⟩) | with_reducible first | refine Wk.o ?_ | refine Wk.q (by assumption) ?_)); all_goals (repeat subst hqq)
 all_goals rfl
end Go.Proofs.YtofbdmdigopaoaaGreatDoor
end
section
set_option maxHeartbeats 8000000
set_option maxRecDepth 20000
namespace Go.Proofs.YtofbdmdigopaoaaGreatDoor
open Go.Abs
attribute [local irreducible] AW OX condQ GQ bodyQ RoundsA thenQ blockQ Acalls
variable {G : World → Nat → Prop}
theorem gE0 : gE ex0 := gE_mk (by simp) fit0 int0 (by simp) (by simp) (by simp) (by simp)
theorem law_Parses (g : GA G) (s : Str) : Ans G 3 [vs s] (vb true) := by
 intro st
 have ca := c_awake g
 by_cases hl : 3000 < s.length
 · refine Acalls.body Tryz.func3 rfl Tryz.ntmps3 (by simp) ?_
   (try refine Wk.aw fun _ hqq => ?_); (repeat' (first | ((first | refine Wk.hd ?_ | refine Wk.i ?_); simp -implicitDefEqProofs only [go_sem, seval]) | (refine TQ_s (fun hc => ?_) (fun hc => ?_) <;> try omega) | refine CQ_ok (ca _) ?_ | refine Wk.ret fun _ _ => ?_ | (refine Wk.fin (by assumption) ?_; refine ⟨?_, rfl⟩) | first | refine Wk.o ?_ | refine Wk.q (by assumption) ?_)); all_goals (repeat subst hqq)
   all_goals rfl
 · have hs : s.length ≤ 1048576 := by omega
   have p1 := k_Parse g s hs
   have p2 := k_ref_Parse (G := G) s hs
   cases h : parseF s with
   | ok e =>
     rw [h] at p1 p2
     obtain ⟨g1, _⟩ := gE_of h
     have q := c_ref_Equal (G := G) e e g1.1 g1.1
     rw [eEq_self] at q
     simp only [parV] at p1 p2
     refine Acalls.body Tryz.func3 rfl Tryz.ntmps3 (by simp) ?_
     (try refine Wk.aw fun _ hqq => ?_); (repeat' (first | ((first | refine Wk.hd ?_ | refine Wk.i ?_); simp -implicitDefEqProofs only [go_sem, seval]) | (refine TQ_s (fun hc => ?_) (fun hc => ?_) <;> try omega) | refine CQ_ok (p1 _) ?_ | refine CQ_ok (p2 _) ?_ | refine CQ_ok (q _) ?_ | refine CQ_ok (ca _) ?_ | refine Wk.ret fun _ _ => ?_ | (refine Wk.fin (by assumption) ?_; refine ⟨?_, rfl⟩) | first | refine Wk.o ?_ | refine Wk.q (by assumption) ?_)); all_goals (repeat subst hqq)
     all_goals rfl
   | err a c =>
     rw [h] at p1 p2
     have q := c_ref_Equal (G := G) ex0 ex0 gE0.1 gE0.1
     rw [eEq_self] at q
     simp only [parV] at p1 p2
     refine Acalls.body Tryz.func3 rfl Tryz.ntmps3 (by simp) ?_
     (try refine Wk.aw fun _ hqq => ?_); (repeat' (first | ((first | refine Wk.hd ?_ | refine Wk.i ?_); simp -implicitDefEqProofs only [go_sem, seval]) | (refine TQ_s (fun hc => ?_) (fun hc => ?_) <;> try omega) | refine CQ_ok (p1 _) ?_ | refine CQ_ok (p2 _) ?_ | refine CQ_ok (q _) ?_ | refine CQ_ok (ca _) ?_ | refine Wk.ret fun _ _ => ?_ | (refine Wk.fin (by assumption) ?_; refine ⟨?_, rfl⟩) | first | refine Wk.o ?_ | refine Wk.q (by assumption) ?_)); all_goals (repeat subst hqq)
     all_goals rfl
theorem law_Takes (g : GA G) (T : List Tk) (hT : okTs T) (hw : Wt T ≤ 1099511627776) : Ans G 4 [vTl T] (vb true) := by
 intro st
 have ca := c_awake g
 have hTl := hT.1
 by_cases hl : 1500 < T.length
 · refine Acalls.body Tryz.func4 rfl Tryz.ntmps4 (by simp) ?_
   (try refine Wk.aw fun _ hqq => ?_); (repeat' (first | ((first | refine Wk.hd ?_ | refine Wk.i ?_); simp -implicitDefEqProofs only [go_sem, seval]) | (refine TQ_s (fun hc => ?_) (fun hc => ?_) <;> try omega) | refine CQ_ok (ca _) ?_ | refine Wk.ret fun _ _ => ?_ | (refine Wk.fin (by assumption) ?_; refine ⟨?_, rfl⟩) | first | refine Wk.o ?_ | refine Wk.q (by assumption) ?_)); all_goals (repeat subst hqq)
   all_goals rfl
 · have p1 := k_Take g T hT hw
   have p2 := k_ref_Take (G := G) T hT hw
   cases h : takeF T with
   | ok e rest =>
     rw [h] at p1 p2
     obtain ⟨_, _, hp⟩ := (takeF_suf T).1 _ _ h
     obtain ⟨g1, _⟩ := cond_good hp hT
     have q := c_ref_Equal (G := G) e e g1.1 g1.1
     rw [eEq_self] at q
     simp only [takeV] at p1 p2
     refine Acalls.body Tryz.func4 rfl Tryz.ntmps4 (by simp) ?_
     (try refine Wk.aw fun _ hqq => ?_); (repeat' (first | ((first | refine Wk.hd ?_ | refine Wk.i ?_); simp -implicitDefEqProofs only [go_sem, seval]) | (refine TQ_s (fun hc => ?_) (fun hc => ?_) <;> try omega) | refine CQ_ok (p1 _) ?_ | refine CQ_ok (p2 _) ?_ | refine CQ_ok (q _) ?_ | refine CQ_ok (ca _) ?_ | refine Wk.ret fun _ _ => ?_ | (refine Wk.fin (by assumption) ?_; refine ⟨?_, rfl⟩) | first | refine Wk.o ?_ | refine Wk.q (by assumption) ?_)); all_goals (repeat subst hqq)
     all_goals rfl
   | err rest c =>
     rw [h] at p1 p2
     have q := c_ref_Equal (G := G) ex0 ex0 gE0.1 gE0.1
     rw [eEq_self] at q
     simp only [takeV] at p1 p2
     refine Acalls.body Tryz.func4 rfl Tryz.ntmps4 (by simp) ?_
     (try refine Wk.aw fun _ hqq => ?_); (repeat' (first | ((first | refine Wk.hd ?_ | refine Wk.i ?_); simp -implicitDefEqProofs only [go_sem, seval]) | (refine TQ_s (fun hc => ?_) (fun hc => ?_) <;> try omega) | refine CQ_ok (p1 _) ?_ | refine CQ_ok (p2 _) ?_ | refine CQ_ok (q _) ?_ | refine CQ_ok (ca _) ?_ | refine Wk.ret fun _ _ => ?_ | (refine Wk.fin (by assumption) ?_; refine ⟨?_, rfl⟩) | first | refine Wk.o ?_ | refine Wk.q (by assumption) ?_)); all_goals (repeat subst hqq)
     all_goals rfl
theorem law_Shows (g : GA G) (a b : Ex) (ga : gE a) (gb : gE b) (ba : eBulk a ≤ 1099511627776) (bb : eBulk b ≤ 1099511627776) : Ans G 5 [vE a, vE b] (vb true) := by
 intro st
 have ca := c_awake g
 have n1 := k_ref_Count (G := G) a ba
 have n2 := k_ref_Count (G := G) b bb
 have m1 := k_par_Count (G := G) a ba
 have v1 := k_par_Valid (G := G) a ga ba
 have v2 := k_ref_Valid (G := G) a ga ba
 have s1 := k_par_Show g a ga ba
 have s2 := k_ref_Show (G := G) a ga ba
 have e1 := c_par_Equal (G := G) a b ga.1 gb.1
 have e2 := c_ref_Equal (G := G) a b ga.1 gb.1
 have e3 := c_par_Equal (G := G) a a ga.1 ga.1
 rw [eEq_self] at e3
 generalize eEq a b = eb at e1 e2
 generalize showE a = sa at s1 s2
 generalize eValid a = va at v1 v2
 refine Acalls.body Tryz.func5 rfl Tryz.ntmps5 (by simp) ?_
 (try refine Wk.aw fun _ hqq => ?_); (repeat' (first | ((first | refine Wk.hd ?_ | refine Wk.i ?_); simp -implicitDefEqProofs only [go_sem, seval]) | (refine TQ_s (fun hc => ?_) (fun hc => ?_) <;> try omega) | refine CQ_ok (ca _) ?_ | refine CQ_ok ((by first | exact n1 _ | exact n2 _)) ?_ | refine CQ_ok (m1 _) ?_ | refine CQ_ok (v1 _) ?_ | refine CQ_ok (v2 _) ?_ | refine CQ_ok (s1 _) ?_ | refine CQ_ok (s2 _) ?_ | refine CQ_ok ((by first | exact e1 _ | exact e3 _)) ?_ | refine CQ_ok (e2 _) ?_ | refine Wk.drawn mx (by kernel_rfl) ?_ | refine Wk.ret fun _ _ => ?_ | (refine Wk.fin (by assumption) ?_; refine ⟨?_, rfl⟩) | first | refine Wk.o ?_ | refine Wk.q (by assumption) ?_)); all_goals (repeat subst hqq)
 all_goals first | rfl | (simp at hc)
end Go.Proofs.YtofbdmdigopaoaaGreatDoor
end
