/- A step of the proofs of the seat's theorems. -/
import Derived.Test.YtofbdmdigopaoaaGreatDoorQ30
import Derived.Test.YtofbdmdigopaoaaGreatDoorQXP6
set_option linter.unusedSimpArgs false
set_option linter.unusedVariables false
set_option maxHeartbeats 8000000
set_option maxRecDepth 20000
namespace Go.Proofs.YtofbdmdigopaoaaGreatDoor
open Go.Abs
attribute [local irreducible] AW OX condQ GQ bodyQ RoundsA thenQ blockQ Acalls
variable {G : World → Nat → Prop}
theorem take_err {T r : List Tk} {c : Int} (h : takeF T = .err r c) : c ≠ 0 := by
 obtain ⟨x, hx⟩ := takeF_some T
 rw [takeF, hx] at h
 rcases x with ⟨e1, r1⟩ | ⟨r1, c1⟩
 · simp only at h
   split at h
   · cases h; assumption
   · cases h
 · cases h
   rcases pF_err hx with h | h <;> omega
theorem parse_err {s : Str} {a c : Int} (h : parseF s = .err a c) : c ≠ 0 := by
 unfold parseF at h
 cases hT : tokens s with
 | err a' c' => rw [hT] at h; cases h; exact tokens_err hT
 | ok T =>
   rw [hT] at h
   simp only at h
   cases ht : takeF T with
   | err r c' => rw [ht] at h; cases h; exact take_err ht
   | ok e' r =>
     rw [ht] at h
     cases r with
     | cons t r => cases h; decide
     | nil => cases h
theorem law_Enclosed (g : GA G) (s : Str) (hs : s.length ≤ 1048576) : Ans G 7 [vs s] (vb true) := by
 intro st
 have ca := c_awake g
 have p1 := k_Parse g s hs
 cases h : parseF s with
 | err a c =>
   have hc0 := parse_err h
   rw [h] at p1
   simp only [parV] at p1
   refine Acalls.body Tryz.func7 rfl Tryz.ntmps7 (by simp) ?_
   (try with_reducible refine Wk.aw fun _ hqq => ?_); (repeat' (first | ((with_reducible first | refine Wk.hd ?_ | refine Wk.i ?_); simp -implicitDefEqProofs (disch := first | omega | (simp only [go_sem]; try omega)) only [go_sem, seval]) | (refine TQ_s (fun hc => ?_) (fun hc => ?_) <;> try (exfalso; first | omega | contradiction)) | refine CQ_ok (p1 _) ?_ | refine CQ_ok (ca _) ?_ | with_reducible refine Wk.ret fun _ _ => ?_ | (refine Wk.fin (by assumption) ?_; refine ⟨?_, rfl⟩) | with_reducible first | refine Wk.o ?_ | refine Wk.q (by assumption) ?_)); all_goals (repeat subst hqq)
   all_goals first | rfl | (simp at hc)
 | ok e =>
   rw [h] at p1
   obtain ⟨g1, _⟩ := gE_of h
   by_cases hl : 65532 < s.length
   · simp only [parV] at p1
     refine Acalls.body Tryz.func7 rfl Tryz.ntmps7 (by simp) ?_
     (try with_reducible refine Wk.aw fun _ hqq => ?_); (repeat' (first | ((with_reducible first | refine Wk.hd ?_ | refine Wk.i ?_); simp -implicitDefEqProofs (disch := first | omega | (simp only [go_sem]; try omega)) only [go_sem, seval]) | (refine TQ_s (fun hc => ?_) (fun hc => ?_) <;> try (exfalso; first | omega | contradiction)) | refine CQ_ok (p1 _) ?_ | refine CQ_ok (ca _) ?_ | with_reducible refine Wk.ret fun _ _ => ?_ | (refine Wk.fin (by assumption) ?_; refine ⟨?_, rfl⟩) | with_reducible first | refine Wk.o ?_ | refine Wk.q (by assumption) ?_)); all_goals (repeat subst hqq)
     all_goals first | rfl | (simp at hc)
   · have p2 := k_Parse g (40 :: 10 :: (s ++ [10, 41])) (by simp; omega)
     rw [parse_in h (by omega)] at p2
     have q := c_par_Equal (G := G) e e g1.1 g1.1
     rw [eEq_self] at q
     simp only [parV] at p1 p2
     refine Acalls.body Tryz.func7 rfl Tryz.ntmps7 (by simp) ?_
     (try with_reducible refine Wk.aw fun _ hqq => ?_); (repeat' (first | ((with_reducible first | refine Wk.hd ?_ | refine Wk.i ?_); simp -implicitDefEqProofs (disch := first | omega | (simp only [go_sem]; try omega)) only [go_sem, seval, List.cons_append, List.nil_append, List.append_assoc]) | (refine TQ_s (fun hc => ?_) (fun hc => ?_) <;> try (exfalso; first | omega | contradiction)) | refine CQ_ok ((by first | exact p1 _ | exact p2 _)) ?_ | refine CQ_ok (q _) ?_ | refine CQ_ok (ca _) ?_ | with_reducible refine Wk.ret fun _ _ => ?_ | (refine Wk.fin (by assumption) ?_; refine ⟨?_, rfl⟩) | with_reducible first | refine Wk.o ?_ | refine Wk.q (by assumption) ?_)); all_goals (repeat subst hqq)
     all_goals first | rfl | (simp at hc)
theorem zs52 : zeroSz Tryz.prog 52 = some 3 := by kernel_rfl
theorem rows_tk (a : List Tk) : rowsOK 3 (a.map Tk.enc) = true := by
 unfold rowsOK
 rw [List.all_eq_true]
 intro r hr
 obtain ⟨t, _, rfl⟩ := List.mem_map.1 hr
 rfl
theorem len_tk (a : List Tk) : rowsLen 3 (a.map Tk.enc) = true := by
 unfold rowsLen
 rw [List.all_eq_true]
 intro r hr
 obtain ⟨t, _, rfl⟩ := List.mem_map.1 hr
 rfl
theorem app_tk0 (a : List Tk) (B : List Blk) (K : List (Nat × Nat × Nat)) (h0 : 0 < a.length) (h1 : a.length ≤ 1048576) :
   appA Tryz.prog (some (52, 3, 32)) (some (.sl (a.map Tk.enc))) .nils ⟨B, K⟩ = some (.own K.length (a.map Tk.enc), ⟨B, K ++ [(52, 3, a.length)]⟩) := by
 have hm : maxLen = 9223372036854775807 := by decide
 have hxe : (a.map Tk.enc).isEmpty = false := by cases a <;> simp_all
 rw [app_nils, appB, zs52]
 simp only []
 rw [if_pos ⟨rows_tk a, by decide, trivial⟩, if_pos (by rw [List.length_map, hm, roomB]; omega), hxe]
 simp
theorem app_tkN (a b : List Tk) (B : List Blk) (K : List (Nat × Nat × Nat)) (h1 : a.length + b.length ≤ 1048576) :
   appA Tryz.prog (some (52, 3, 32)) (some (.sl (b.map Tk.enc))) (.own K.length (a.map Tk.enc)) ⟨B, K ++ [(52, 3, a.length)]⟩ = some (.own K.length ((a ++ b).map Tk.enc), ⟨B, K ++ [(52, 3, (a ++ b).length)]⟩) := by
 have hm : maxLen = 9223372036854775807 := by decide
 rw [app_own, appB, zs52, rows_tk, len_tk]
 simp only []
 rw [if_pos ⟨trivial, by decide, trivial⟩, if_pos (by rw [List.length_map, List.length_map, hm, roomB]; exact ⟨by simp, trivial, by omega, by omega⟩)]
 cases b with
 | nil => simp
 | cons t b => simp
def tkNl : Tk := ⟨5, [], 0⟩
theorem law_Rests (g : GA G) (T R : List Tk) (hT : okTs T) (hR : okTs R) (hl : T.length + R.length + 1 ≤ 1048576) (hw : Wt T + Wt R + 1000 ≤ 1099511627776) : Ans G 9 [vTl T, vTl R] (vb true) := by
 intro st
 have ca := c_awake g
 have hTl := hT.1
 have hRl := hR.1
 have p1 := k_Take g T hT (by omega)
 cases h : takeF T with
 | err r c =>
   have hc0 := take_err h
   rw [h] at p1
   simp only [takeV] at p1
   refine Acalls.body Tryz.func9 rfl Tryz.ntmps9 (by simp) ?_
   (try with_reducible refine Wk.aw fun _ hqq => ?_); (repeat' (first | ((with_reducible first | refine Wk.hd ?_ | refine Wk.i ?_); simp -implicitDefEqProofs (disch := first | omega | (simp only [go_sem]; try omega)) only [go_sem, seval]) | (refine TQ_s (fun hc => ?_) (fun hc => ?_) <;> try (exfalso; first | omega | contradiction)) | refine CQ_ok (p1 _) ?_ | refine CQ_ok (ca _) ?_ | with_reducible refine Wk.ret fun _ _ => ?_ | (refine Wk.fin (by assumption) ?_; refine ⟨?_, rfl⟩) | with_reducible first | refine Wk.o ?_ | refine Wk.q (by assumption) ?_)); all_goals (repeat subst hqq)
   all_goals first | rfl | (simp at hc)
 | ok e r =>
   obtain ⟨a, ha, hTe, h2⟩ := takeF_rest (Z := ⟨5, [], 0⟩ :: R) h (by simp [stop])
   obtain ⟨_, _, hp⟩ := (takeF_suf T).1 _ _ h
   obtain ⟨g1, _⟩ := cond_good hp hT
   have hal : 0 < a.length := List.length_pos_iff.2 ha
   have hlen : T.length = a.length + r.length := by rw [hTe, List.length_append]
   have hTk : T.take a.length = a := by rw [hTe]; simp
   have hn1 : T.length - r.length = a.length := by omega
   have hn2 : (a ++ ⟨5, [], 0⟩ :: R).length - (⟨5, [], 0⟩ :: R : List Tk).length = a.length := by simp only [List.length_append]; omega
   have hW : Wt (a ++ ⟨5, [], 0⟩ :: R) ≤ 1099511627776 := by
     rw [hTe, Wt_app] at hw
     rw [Wt_app]; simp only [Wt, List.length_nil]; omega
   have hO : okTs (a ++ ⟨5, [], 0⟩ :: R) := by
     refine ⟨by simp; omega, fun t ht => ?_⟩
     rcases List.mem_append.1 ht with ht | ht
     · exact hT.2 t (by rw [hTe]; exact List.mem_append_left _ ht)
     · rcases List.mem_cons.1 ht with rfl | ht
       · simp
       · exact hR.2 t ht
   have p2 := k_Take g (a ++ ⟨5, [], 0⟩ :: R) hO hW
   rw [h] at p1
   rw [h2] at p2
   have q := c_par_Equal (G := G) e e g1.1 g1.1
   rw [eEq_self] at q
   simp only [takeV, hn1, hn2] at p1 p2
   refine Acalls.body Tryz.func9 rfl Tryz.ntmps9 (by simp) ?_
   have hTk' : List.take a.length (List.map Tk.enc T) = List.map Tk.enc a := by rw [← List.map_take, hTk]
   have hNl : [[Abs.D.int .i64 5, Abs.D.str [], Abs.D.int .i64 0]] = [tkNl.enc] := rfl
   have hl1 : a.length + [tkNl].length ≤ 1048576 := by simp; omega
   have hl2 : (a ++ [tkNl]).length + R.length ≤ 1048576 := by simp; omega
   have f1 := fun B K => app_tkN a [tkNl] B K hl1
   have f2 := fun B K => app_tkN (a ++ [tkNl]) R B K hl2
   have hM : a ++ [tkNl] ++ R = a ++ ⟨5, [], 0⟩ :: R := by simp [tkNl]
   rw [← hM] at p2
   simp only [List.map_cons, List.map_nil] at f1
   generalize a ++ [tkNl] = L at f1 f2 p2
   generalize L ++ R = M at f2 p2
   (try with_reducible refine Wk.aw fun _ hqq => ?_); (repeat' (first | ((with_reducible first | refine Wk.hd ?_ | refine Wk.i ?_); simp -implicitDefEqProofs (disch := first | omega | (simp only [go_sem]; try omega)) only [go_sem, seval, hTk', app_tk0 a _ _ hal (by omega), hNl, f1, f2]) | (refine TQ_s (fun hc => ?_) (fun hc => ?_) <;> try (exfalso; first | omega | contradiction)) | refine CQ_ok ((by first | exact p1 _ | exact p2 _)) ?_ | refine CQ_ok (q _) ?_ | refine CQ_ok (ca _) ?_ | with_reducible refine Wk.ret fun _ _ => ?_ | (refine Wk.fin (by assumption) ?_; refine ⟨?_, rfl⟩) | with_reducible first | refine Wk.o ?_ | refine Wk.q (by assumption) ?_)); all_goals (repeat subst hqq)
   all_goals rfl
end Go.Proofs.YtofbdmdigopaoaaGreatDoor
