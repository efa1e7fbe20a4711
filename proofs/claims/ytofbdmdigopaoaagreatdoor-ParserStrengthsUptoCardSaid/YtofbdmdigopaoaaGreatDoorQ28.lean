/- A step of the proofs of the seat's theorems. -/
import Derived.Test.YtofbdmdigopaoaaGreatDoorQ13
import Derived.Test.YtofbdmdigopaoaaGreatDoorQ16
import Derived.Test.YtofbdmdigopaoaaGreatDoorQ17
import Derived.Test.YtofbdmdigopaoaaGreatDoorQ19
import Derived.Test.YtofbdmdigopaoaaGreatDoorQ27
import Derived.Laws.RangeString
import Derived.Laws.RangeAny
import Derived.Lib.DecodeN
set_option linter.unusedSimpArgs false
set_option linter.unusedVariables false
section
set_option maxHeartbeats 8000000
set_option maxRecDepth 20000
namespace Go.Proofs.YtofbdmdigopaoaaGreatDoor
open Go.Abs
attribute [local irreducible] AW OX condQ GQ bodyQ RoundsA thenQ blockQ Acalls
variable {G : World → Nat → Prop}
theorem c_read (hg : GV G) {T : List Tk} (hT : T.length ≤ 1048576) (hx : ∀ t ∈ T, t.text.length ≤ 1048576) (r : Res Ex) (h : pF (pFuel T) .cond T = some r) :
   Ans G 29 [vTl T] (takeV T r) := by
 rintro ⟨B, K⟩
 have c0 := (rd_ih (G := G) hg hT hx (pFuel T)).cond 0 (by omega) r (by rw [List.drop_zero]; exact h)
 refine Acalls.bodyD Tryz.func29 rfl Tryz.ntmps29 (by simp) rfl rfl rfl (by decide) rfl rfl rfl Tryz.call48 ?_
 (try refine Wk.aw fun _ hqq => ?_); (repeat' (first | ((refine Wk.i ?_); simp -implicitDefEqProofs only [go_sem, seval]) | first | refine Wk.o ?_ | refine Wk.q (by assumption) ?_)); all_goals (repeat subst hqq)
 refine ⟨rfl, ?_⟩
 (try refine Wk.aw fun _ hqq => ?_); (repeat' (first | ((refine Wk.i ?_); simp -implicitDefEqProofs only [go_sem, seval]) | first | refine Wk.o ?_ | refine Wk.q (by assumption) ?_)); all_goals (repeat subst hqq)
 refine ⟨rfl, [.ptr B.length 0, .ptr (B.length + 1) 0, .ptr (B.length + 2) 0], rfl, fun ds => ?_⟩
 have hG : ∀ (m : List Blk) (k : Nat), (B ++ m)[B.length + k]? = m[k]? := fun m k => by rw [List.getElem?_append_right (by simp)]; simp
 have hG0 : ∀ (m : List Blk), (B ++ m)[B.length]? = m[0]? := fun m => by rw [List.getElem?_append_right (by simp)]; simp
 have hS : ∀ (y : Blk) (m : List Blk) (k : Nat), (B ++ m).set (B.length + k) y = B ++ m.set k y := fun y m k => by rw [List.set_append_right _ _ (by simp)]; simp
 have hS0 : ∀ (y : Blk) (m : List Blk), (B ++ m).set B.length y = B ++ m.set 0 y := fun y m => by rw [List.set_append_right _ _ (by simp)]; simp
 have c1 := c0 (B ++ [.cells zEn, .cells [vint 0], .cells [vint 0], rdB T 0]) K (B.length + 3) (by rw [hG]; rfl)
 rw [hS] at c1
 cases r with
 | ok e rest =>
   simp only [rdO, resRest] at c1
   (try refine Wk.aw fun _ hqq => ?_); (repeat' (first | ((refine Wk.atX 4 ?_); refine AW.regY (P := Tryz.prog) mx [(4, 7)] (by kernel_rfl) (by simp -implicitDefEqProofs only [go_sem, seval, hG, hG0, hS, hS0]; first | done | exact rfl) ?_; refine OX.nil ?_; refine ⟨by simp [exB2, exP, exS, wrt, stQuiet, upd, List.zipIdx_cons, List.findIdx?_cons, entryFr] <;> omega, ?_⟩) | (first | refine Wk.th ?_ | refine Wk.bl ?_) | ((first | refine Wk.hd ?_ | refine Wk.i ?_); simp -implicitDefEqProofs only [go_sem, seval, hG, hG0, hS, hS0]) | refine CQ_st (c1) ?_ | first | refine Wk.o ?_ | refine Wk.q (by assumption) ?_)); all_goals (repeat subst hqq)
   refine DQ_ret ((c_read1_n B K (e.enc.map V.d) (vint ↑(T.length - rest.length)) (vint 0) (rdB T (T.length - rest.length))).mono ?_)
   rintro o s ⟨rfl, rfl⟩
   refine ⟨⟨_, rfl⟩, ?_⟩
   skip; (repeat' (first | ((refine Wk.i ?_); simp -implicitDefEqProofs only [go_sem, seval, hG, hG0, hS, hS0]) | refine Wk.ret fun _ _ => ?_ | (refine Wk.fin (by assumption) ?_; refine ⟨?_, rfl⟩))); all_goals (repeat subst hqq)
   all_goals rfl
 | err rest c =>
   simp only [rdO, resRest] at c1
   (try refine Wk.aw fun _ hqq => ?_); (repeat' (first | ((first | refine Wk.hd ?_ | refine Wk.i ?_); simp -implicitDefEqProofs only [go_sem, seval, hG, hG0, hS, hS0]) | refine CQ_pan (c1) ?_ | first | refine Wk.o ?_ | refine Wk.q (by assumption) ?_)); all_goals (repeat subst hqq)
   refine DQ_pan ((c_read1_p B K zEn rfl (vint 0) (vint 0) (rdB T (T.length - rest.length)) (T.length - rest.length) c).mono ?_)
   rintro o s ⟨rfl, rfl⟩
   refine ⟨⟨_, rfl⟩, ?_⟩
   skip; (repeat' (first | ((refine Wk.i ?_); simp -implicitDefEqProofs only [go_sem, seval, hG, hG0, hS, hS0]) | refine Wk.ret fun _ _ => ?_ | (refine Wk.fin (by assumption) ?_; refine ⟨?_, rfl⟩))); all_goals (repeat subst hqq)
   all_goals rfl
end Go.Proofs.YtofbdmdigopaoaaGreatDoor
end
section
set_option maxHeartbeats 8000000
set_option maxRecDepth 20000
namespace Go.Proofs.YtofbdmdigopaoaaGreatDoor
open Go.Abs
attribute [local irreducible] AW OX condQ GQ bodyQ RoundsA thenQ blockQ Acalls
variable {G : World → Nat → Prop}
abbrev parV : ParR → V
 | .ok e => .tup [vE e, vint 0, vint 0]
 | .err a c => .tup [vE ex0, vint a, vint c]
end Go.Proofs.YtofbdmdigopaoaaGreatDoor
end
section
set_option maxHeartbeats 8000000
set_option maxRecDepth 20000
namespace Go.Proofs.YtofbdmdigopaoaaGreatDoor
open Go.Abs
attribute [local irreducible] AW OX condQ GQ bodyQ RoundsA thenQ blockQ Acalls
variable {G : World → Nat → Prop}
theorem c_escaped (s : Str) (i : Nat) (hs : s.length ≤ 1048576) (hi : i < s.length) : Ans G 111 [vs s, vint i] (escV (escF (s.drop (i + 1)))) := by
 intro st
 have h3 := sdrop_get s (i + 1)
 have hd := sdrop_len s (i + 1)
 have hx2 := hexV_lo (s.getD (i + 2) 0)
 have hx3 := hexV_lo (s.getD (i + 3) 0)
 refine Acalls.body Tryz.func111 rfl Tryz.ntmps111 (by simp) ?_
 (try refine Wk.aw fun _ hqq => ?_); (repeat' (first | ((first | refine Wk.hd ?_ | refine Wk.i ?_); simp -implicitDefEqProofs (disch := omega) only [go_sem, seval]) | (refine TQ_s (fun hc => ?_) (fun hc => ?_) <;> try omega) | refine CQ_ok (c_lexer_hex _ _) ?_ | refine Wk.drawn mx (by kernel_rfl) ?_ | refine Wk.ret fun _ _ => ?_ | (refine Wk.fin (by assumption) ?_; refine ⟨?_, rfl⟩) | first | refine Wk.o ?_ | refine Wk.q (by assumption) ?_)); all_goals (repeat subst hqq)
 all_goals (try simp -implicitDefEqProofs (disch := first | assumption | omega) only [escF, hd, h3, show i + 1 + 0 = i + 1 from rfl, show i + 1 + 1 = i + 2 from rfl, show i + 1 + 2 = i + 3 from rfl, if_pos, if_neg]); all_goals first | rfl | ((repeat' split) <;> first | rfl | (exfalso; omega) | grind | skip)
 all_goals (simp only [escV]; rw [vc, ofNat_u8 (by omega) (by omega)]; rfl)
end Go.Proofs.YtofbdmdigopaoaaGreatDoor
end
section
set_option maxHeartbeats 8000000
set_option maxRecDepth 20000
namespace Go.Proofs.YtofbdmdigopaoaaGreatDoor
open Go.Abs
attribute [local irreducible] AW OX condQ GQ bodyQ RoundsA thenQ blockQ Acalls
variable {G : World → Nat → Prop}
def isOpS (s : Str) : Bool := decide (s = [124, 124] ∨ s = [38, 38] ∨ s = [61, 61] ∨ s = [33, 61] ∨ s = [60, 61] ∨ s = [62, 61] ∨ s = [60] ∨ s = [62] ∨ s = [43] ∨ s = [45] ∨ s = [42] ∨ s = [47] ∨ s = [37] ∨ s = [33] ∨ s = [63] ∨ s = [58] ∨ s = [46] ∨ s = [44] ∨ s = [61] ∨ s = [40] ∨ s = [41] ∨ s = [91] ∨ s = [93] ∨ s = [123] ∨ s = [125])
theorem opF_two {s L : Str} {i : Nat} (hc : (s.take (i + 2)).drop i = L) (h : isOp2 L = true) : opF (s.drop i) = .ok 4 L 2 := by
 have hl : (s.drop i).take 2 = L := by rw [← hc, List.drop_take, show i + 2 - i = 2 by omega]
 rw [opF.eq_def, hl, if_pos h]
theorem take_one {s : Str} {i : Nat} (hi : i < s.length) : (s.take (i + 1)).drop i = [s.getD i 0] := by
 rw [List.drop_take, show i + 1 - i = 1 by omega, drop_cons hi]; rfl
theorem opF_one {s : Str} {i : Nat} {x : UInt8} (hi : i < s.length) (hno : isOp2 ((s.drop i).take 2) = false) (hc : (s.take (i + 1)).drop i = [x]) (h : ops1.contains x = true) : opF (s.drop i) = .ok 4 [x] 1 := by
 rw [take_one hi] at hc
 have hx : s.getD i 0 = x := by simpa using hc
 rw [drop_cons hi] at hno ⊢
 rw [opF, hno, hx]
 simp only [Bool.false_eq_true, if_false, h, if_true]
theorem opF_none {s : Str} {i : Nat} (hi : i < s.length) (hno : isOp2 ((s.drop i).take 2) = false) (h : ops1.contains (s.getD i 0) = false) : opF (s.drop i) = .err 5 := by
 rw [drop_cons hi] at hno ⊢
 rw [opF, hno]
 simp only [Bool.false_eq_true, if_false, h]
theorem no2 {s : Str} {i : Nat} (h : ¬ i + 2 ≤ s.length ∨ (¬ (s.take (i + 2)).drop i = [124, 124] ∧ ¬ (s.take (i + 2)).drop i = [38, 38] ∧ ¬ (s.take (i + 2)).drop i = [61, 61] ∧ ¬ (s.take (i + 2)).drop i = [33, 61] ∧ ¬ (s.take (i + 2)).drop i = [60, 61] ∧ ¬ (s.take (i + 2)).drop i = [62, 61])) : isOp2 ((s.drop i).take 2) = false := by
 have hl : (s.drop i).take 2 = (s.take (i + 2)).drop i := by rw [List.drop_take, show i + 2 - i = 2 by omega]
 rw [hl, isOp2, decide_eq_false_iff_not]
 rcases h with h | ⟨h1, h2, h3, h4, h5, h6⟩
 · intro h'
   have : ((s.take (i + 2)).drop i).length < 2 := by simp only [List.length_drop, List.length_take]; omega
   rcases h' with h | h | h | h | h | h <;> rw [h] at this <;> exact absurd this (by decide)
 · simp only [not_or]; exact ⟨h1, h2, h3, h4, h5, h6⟩
theorem c_operator (s : Str) (i : Nat) (hs : s.length ≤ 1048576) (hi : i < s.length) : Ans G 71 [vs s, vint i] (lexV i (opF (s.drop i))) := by
 intro st
 refine Acalls.body Tryz.func71 rfl Tryz.ntmps71 (by simp) ?_
 repeat' (first
   | (with_reducible refine AW.atL ?_; refine AW.rounds 3 ?_)
   | (with_reducible refine AW.atB 2 ?_; refine AW.cutB 2 [(0, vs s), (1, vint i), (4, .ptr st.blks.length 0), (8, vint 2), (9, vs ((s.take (i + 2)).drop i)), (10, .d (.sl [[int 2], [int 1]])), (11, vint 2), (12, vint 0), (29, vb (isOpS ((s.take (i + 2)).drop i)))] ⟨st.blks ++ [.cells [.d (.int .i64 0), .d (.str []), .d (.int .i64 0)]], st.toks⟩ ?_ ?_)
   | with_reducible refine AW.seq ?_
   | with_reducible refine RoundsA_succ ?_
   | with_reducible refine AW.block ?_
   | with_reducible refine AW.scope ?_
   | with_reducible refine AW.skip ?_
   | with_reducible refine AW.label ?_
   | with_reducible refine AW.exit ?_
   | with_reducible refine AW.ret ?_
   | with_reducible refine OX.nil ?_
   | with_reducible refine thenQ_n ?_
   | with_reducible refine thenQ_r ?_
   | with_reducible refine thenQ_e ?_
   | with_reducible refine thenQ_p ?_
   | with_reducible refine blockQ_n ?_
   | with_reducible refine blockQ_r ?_
   | with_reducible refine blockQ_p ?_
   | with_reducible refine blockQ_e ?_
   | with_reducible refine condQ_t ?_
   | with_reducible refine condQ_f ?_
   | refine blockQ_x (by decide) ?_
   | ((first | refine GQ_und ?_ | refine GQ_t ?_ | refine GQ_f ?_); refine OX.run (by simp -implicitDefEqProofs (disch := omega) only [go_sem, seval]; first | done | exact rfl) ?_)
   | (with_reducible refine condQ_dT ?_ ?_; (focus (first | assumption | omega)))
   | (with_reducible refine condQ_dF ?_ ?_; (focus (first | assumption | omega)))
   | (with_reducible refine condQ_bT ?_ ?_; (focus assumption))
   | (with_reducible refine condQ_bF ?_ ?_; (focus assumption))
   | with_reducible refine condQ_d (fun hc => ?_) (fun hc => ?_)
   | with_reducible refine condQ_nb (fun hc => ?_) (fun hc => ?_)
   | with_reducible refine condQ_b (fun hc => ?_) (fun hc => ?_)
   | (refine GQ_dT ?_ ?_; (focus (first | assumption | omega)); refine OX.run (by simp -implicitDefEqProofs (disch := omega) only [go_sem, seval]; first | done | exact rfl) ?_)
   | (refine GQ_dF ?_ ?_; (focus (first | assumption | omega)); refine OX.run (by simp -implicitDefEqProofs (disch := omega) only [go_sem, seval]; first | done | exact rfl) ?_)
   | (refine GQ_d (fun hc => ?_) (fun hc => ?_) <;> refine OX.run (by simp -implicitDefEqProofs (disch := omega) only [go_sem, seval]; first | done | exact rfl) ?_)
   | (refine GQ_b (fun hc => ?_) (fun hc => ?_) <;> refine OX.run (by simp -implicitDefEqProofs (disch := omega) only [go_sem, seval]; first | done | exact rfl) ?_)
   | refine AW.condB (by simp -implicitDefEqProofs (disch := omega) only [go_sem, seval]; first | done | exact rfl) ?_
   | refine AW.regN (by simp -implicitDefEqProofs (disch := omega) only [go_sem, seval]; first | done | exact rfl) ?_
   | refine AW.regD (P := Tryz.prog) mx (by kernel_rfl) (by simp -implicitDefEqProofs (disch := omega) only [go_sem, seval]; first | done | exact rfl) ?_
   | refine OX.gd rfl rfl (by simp -implicitDefEqProofs (disch := omega) only [go_sem, seval]; first | done | exact rfl) ?_
   | refine bodyQ_ret (by simp -implicitDefEqProofs (disch := omega) only [go_sem, seval]) (by simp -implicitDefEqProofs (disch := omega) only [go_sem, seval]) (by simp -implicitDefEqProofs (disch := omega) only [go_sem, seval]; first | done | exact rfl) (by simp -implicitDefEqProofs (disch := omega) only [go_sem, seval]; first | done | exact rfl) (by simp -implicitDefEqProofs (disch := omega) only [go_sem, seval]) ⟨?_, rfl⟩)
 all_goals first
   | (exfalso; have h := congrArg List.length hc; simp only [List.length_drop, List.length_take, List.length_cons, List.length_nil] at h; omega)
   | (rw [opF_two hc (by decide), hc]; rfl)
   | (have hno := no2 (s := s) (i := i) (by first | exact .inl (by omega) | exact .inr ⟨by assumption, by assumption, by assumption, by assumption, by assumption, by assumption⟩)
      first
        | (rw [opF_one hi hno hc (by decide), hc]; rfl)
        | (rw [opF_none hi hno (by
             rw [Bool.eq_false_iff, Ne, List.contains_iff_mem]
             intro h
             have h1 := take_one hi
             simp only [ops1, List.mem_cons, List.not_mem_nil, or_false] at h
             rcases h with h | h | h | h | h | h | h | h | h | h | h | h | h | h | h | h | h | h | h <;> (rw [h] at h1; contradiction))]; rfl))
end Go.Proofs.YtofbdmdigopaoaaGreatDoor
end
section
set_option maxHeartbeats 8000000
set_option maxRecDepth 20000
namespace Go.Proofs.YtofbdmdigopaoaaGreatDoor
open Go.Abs
attribute [local irreducible] AW OX condQ GQ bodyQ RoundsA thenQ blockQ Acalls
variable {G : World → Nat → Prop}
abbrev zT : List V := [.d (.int .i64 0), .d (.str []), .d (.int .i64 0)]
def blkOf (b id : Nat) : Str → Blk
 | [] => .tc bT [.d .nilp, .nils]
 | c :: r => .tc bT [.ptr b 0, .own id (byteRows (c :: r))]
def tokOf : Str → List (Nat × Nat × Nat)
 | [] => []
 | c :: r => [(bE, 1, r.length + 1)]
theorem chF_plain {s : Str} {j : Nat} (hj : j < s.length) (h1 : ¬ (s.getD j 0).toNat < 32) (h2 : (s.getD j 0).toNat ≠ 92) : chF (s.drop j) = .ok (s.getD j 0) 1 := by
 have : (s.drop j).getD 0 0 = s.getD j 0 := by simp [List.getD_eq_getElem?_getD]
 rw [chF, this, if_neg h1, if_pos h2]
theorem chF_esc {s : Str} {j : Nat} (hj : j < s.length) (h2 : (s.getD j 0).toNat = 92) : chF (s.drop j) = escF (s.drop (j + 1)) := by
 have : (s.drop j).getD 0 0 = s.getD j 0 := by simp [List.getD_eq_getElem?_getD]
 rw [chF, this, if_neg (by omega), if_neg (by omega), List.drop_drop]
theorem chF_low {s : Str} {j : Nat} (hj : j < s.length) (h1 : (s.getD j 0).toNat < 32) : chF (s.drop j) = .err 5 := by
 have : (s.drop j).getD 0 0 = s.getD j 0 := by simp [List.getD_eq_getElem?_getD]
 rw [chF, this, if_pos h1]
theorem lexV_ok {i j : Nat} {a : Str} (h : i ≤ j) : lexV i (.ok 3 a (j - i + 1)) = .tup [vT ⟨3, a, i⟩, vint ↑(j + 1), vint 0] := by
 simp only [lexV, lexT, lexN, lexE, show i + (j - i + 1) = j + 1 by omega]
theorem c_text (s : Str) (i : Nat) (hs : s.length ≤ 1048576) (hi : i < s.length) : Ans G 70 [vs s, vint i] (lexV i (strR (s.drop (i + 1)) [] 1)) := by
 intro st
 refine Acalls.body Tryz.func70 rfl Tryz.ntmps70 (by simp) ?_
 (try refine Wk.aw fun _ hqq => ?_); (repeat' (first | ((refine Wk.i ?_); simp -implicitDefEqProofs (disch := omega) only [go_sem, seval]) | refine Wk.o ?_)); all_goals (repeat subst hqq)
 refine AW.loopS (fun x : Str × Nat => [(0, vs s), (1, vint ↑i), (4, .ptr st.blks.length 0), (7, .ptr (st.blks.length + 1) 0), (8, vint ↑x.2)]) (fun x => [.cells zT, blkOf (st.blks.length + 1) st.toks.length x.1]) (fun x => tokOf x.1)
   (fun x => i < x.2 ∧ x.2 ≤ s.length ∧ x.1.length ≤ x.2 ∧ strR (s.drop x.2) x.1 (x.2 - i) = strR (s.drop (i + 1)) [] 1) (fun x => s.length - x.2) ([], i + 1) (by simp -implicitDefEqProofs (disch := omega) only [go_sem, seval, blkOf, tokOf]; first | done | exact rfl) (by simp -implicitDefEqProofs (disch := omega) only [go_sem, seval] <;> first | rfl | exact ⟨rfl, rfl⟩ | skip) ⟨by simp, by simp; omega, by simp, by simp⟩ ?_
 rintro ⟨acc, j⟩ ⟨h1, h2, h3, h4⟩
 simp only at h1 h2 h3 h4
 by_cases hj : j < s.length
 · have hcons := drop_cons hj
   have hr := strR_cons (s.getD j 0) (s.drop (j + 1)) acc (j - i)
   rw [← hcons, h4] at hr
   have key : ∀ (b : UInt8) (k : Nat) (fr' : Fr), 1 ≤ k → j + k ≤ s.length → strR (s.drop (j + k)) (acc ++ [b]) (j + k - i) = strR (s.drop (i + 1)) [] 1 →
       okF fr' [(0, vs s), (1, vint ↑i), (4, .ptr st.blks.length 0), (7, .ptr (st.blks.length + 1) 0), (8, vint ↑(j + k))] → ∀ (B : Blk) (T : List (Nat × Nat × Nat)), B = blkOf (st.blks.length + 1) st.toks.length (acc ++ [b]) → T = tokOf (acc ++ [b]) →
       ∃ x', Nxt st (fun x : Str × Nat => [(0, vs s), (1, vint ↑i), (4, .ptr st.blks.length 0), (7, .ptr (st.blks.length + 1) 0), (8, vint ↑x.2)]) (fun x => [.cells zT, blkOf (st.blks.length + 1) st.toks.length x.1]) (fun x => tokOf x.1)
         (fun x => i < x.2 ∧ x.2 ≤ s.length ∧ x.1.length ≤ x.2 ∧ strR (s.drop x.2) x.1 (x.2 - i) = strR (s.drop (i + 1)) [] 1) (fun x => s.length - x.2) (acc, j) fr' ⟨st.blks ++ [.cells zT, B], st.toks ++ T⟩ x' := by
     rintro b k fr' q1 q2 q3 q4 B T rfl rfl
     refine ⟨(acc ++ [b], j + k), ⟨q4, ⟨by simp only; omega, q2, by simp only [List.length_append, List.length_singleton]; omega, q3⟩, by simp only; omega, List.take_of_length_le (by simp), List.take_of_length_le (by simp), ?_, ?_⟩⟩
     · simp [okW, V.within]
     · cases acc <;> simp [blkOf, tokOf, Blk.within, V.within, V.within.all]
   by_cases hq : (s.getD j 0).toNat = 34
   · rw [if_pos hq] at hr
     rw [hr]
     have hq' : ((s.getD j 0).toNat : Int) = 34 := by omega
     cases acc with
     | nil =>
       (try refine Wk.aw fun _ hqq => ?_); (repeat' (first | ((first | refine Wk.hd ?_ | refine Wk.i ?_); simp -implicitDefEqProofs (disch := omega) only [go_sem, seval, blkOf, tokOf, hq']) | (refine TQ_s (fun hc => ?_) (fun hc => ?_) <;> try omega) | refine CQ_ok (c_bLen0 _ (st.blks.length + 1) (.d .nilp) (by simp)) ?_ | refine CQ_ok (c_bString_nil _ (st.blks.length + 1) (.d .nilp) (by simp)) ?_ | refine Wk.ret fun _ _ => ?_ | (refine Wk.fin (by assumption) ?_; refine ⟨?_, rfl⟩) | first | refine Wk.o ?_ | refine Wk.q (by assumption) ?_)); all_goals (repeat subst hqq)
       all_goals first | (exfalso; omega) | (rw [if_neg (by simp), lexV_ok (by omega)]; rfl)
     | cons a r =>
       (try refine Wk.aw fun _ hqq => ?_); (repeat' (first | ((first | refine Wk.hd ?_ | refine Wk.i ?_); simp -implicitDefEqProofs (disch := omega) only [go_sem, seval, blkOf, tokOf, hq']) | (refine TQ_s (fun hc => ?_) (fun hc => ?_) <;> try omega) | refine CQ_ok (c_bLen1 _ (st.blks.length + 1) st.toks.length (a :: r) (by simp)) ?_ | refine CQ_st (c_bString_row _ (st.blks.length + 1) st.toks.length (.ptr (st.blks.length + 1) 0) (a :: r) (by simp) (by simp) (by simp)) ?_ | refine Wk.ret fun _ _ => ?_ | (refine Wk.fin (by assumption) ?_; refine ⟨?_, rfl⟩) | first | refine Wk.o ?_ | refine Wk.q (by assumption) ?_)); all_goals (repeat subst hqq)
       all_goals first | (rw [if_pos (by simp only [List.length_cons]; omega)]; rfl) | (rw [if_neg (by simp only [List.length_cons]; omega), lexV_ok (by omega)]; rfl)
   · rw [if_neg hq] at hr
     have hq' : ¬ ((s.getD j 0).toNat : Int) = 34 := by omega
     by_cases hlow : (s.getD j 0).toNat < 32
     · rw [chF_low hj hlow] at hr
       simp only at hr
       rw [hr]
       (try refine Wk.aw fun _ hqq => ?_); (repeat' (first | ((refine Wk.i ?_); simp -implicitDefEqProofs (disch := omega) only [go_sem, seval]) | (refine TQ_s (fun hc => ?_) (fun hc => ?_) <;> try omega) | refine Wk.ret fun _ _ => ?_ | (refine Wk.fin (by assumption) ?_; refine ⟨?_, rfl⟩) | first | refine Wk.o ?_ | refine Wk.q (by assumption) ?_)); all_goals (repeat subst hqq)
       all_goals first | rfl | (exfalso; omega)
     · by_cases hb : (s.getD j 0).toNat = 92
       · rw [chF_esc hj hb] at hr
         have hes := c_escaped (G := G) s j hs hj
         have hsh := c_short (G := G) s j hs hj
         rcases he : escF (s.drop (j + 1)) with ⟨b, k⟩ | e
         · rw [he] at hr hes
           have hk := chF_ok ((chF_esc hj hb).trans he) (by simp; omega)
           simp only [List.length_drop] at hk
           simp only [List.drop_drop] at hr
           cases acc with
           | nil =>
             (try refine Wk.aw fun _ hqq => ?_); (repeat' (first | ((first | refine Wk.hd ?_ | refine Wk.i ?_); simp -implicitDefEqProofs (disch := omega) only [go_sem, seval, blkOf, tokOf, escV]) | (refine TQ_s (fun hc => ?_) (fun hc => ?_) <;> try omega) | refine CQ_ok (hes _) ?_ | refine CQ_st (c_WB0 _ (st.blks.length + 1) _ (by simp)) ?_ | first | refine Wk.o ?_ | refine Wk.q (by assumption) ?_)); all_goals (repeat subst hqq)
             all_goals first | (exfalso; omega) | skip
             all_goals refine key b k _ (by omega) (by omega) (by rw [hr, show j + k - i = j - i + k by omega]) (by simp -implicitDefEqProofs (disch := omega) only [go_sem, seval]) _ _ rfl rfl
           | cons a r =>
             (try refine Wk.aw fun _ hqq => ?_); (repeat' (first | ((first | refine Wk.hd ?_ | refine Wk.i ?_); simp -implicitDefEqProofs (disch := omega) only [go_sem, seval, blkOf, tokOf, escV]) | (refine TQ_s (fun hc => ?_) (fun hc => ?_) <;> try omega) | refine CQ_ok (hes _) ?_ | refine CQ_st (c_WB1 _ (st.blks.length + 1) st.toks.length (a :: r) _ (by simp) (by simp) (by simp only [List.length_cons] at *; omega)) ?_ | first | refine Wk.o ?_ | refine Wk.q (by assumption) ?_)); all_goals (repeat subst hqq)
             all_goals first | (exfalso; omega) | skip
             all_goals refine key b k _ (by omega) (by omega) (by rw [hr, show j + k - i = j - i + k by omega]) (by simp -implicitDefEqProofs (disch := omega) only [go_sem, seval]) _ _ rfl (by simp [tokOf])
         · rw [he] at hr hes
           simp only at hr
           rw [hr]
           rcases shortF_err he with ⟨rfl, hsf⟩ | ⟨rfl, hsf⟩
           · rw [hsf] at hsh
             (try refine Wk.aw fun _ hqq => ?_); (repeat' (first | ((first | refine Wk.hd ?_ | refine Wk.i ?_); simp -implicitDefEqProofs (disch := omega) only [go_sem, seval, escV]) | (refine TQ_s (fun hc => ?_) (fun hc => ?_) <;> try omega) | refine CQ_ok (hes _) ?_ | refine CQ_ok (hsh _) ?_ | refine Wk.ret fun _ _ => ?_ | (refine Wk.fin (by assumption) ?_; refine ⟨?_, rfl⟩) | first | refine Wk.o ?_ | refine Wk.q (by assumption) ?_)); all_goals (repeat subst hqq)
             all_goals first | rfl | (exfalso; omega)
           · rw [hsf] at hsh
             (try refine Wk.aw fun _ hqq => ?_); (repeat' (first | ((first | refine Wk.hd ?_ | refine Wk.i ?_); simp -implicitDefEqProofs (disch := omega) only [go_sem, seval, escV]) | (refine TQ_s (fun hc => ?_) (fun hc => ?_) <;> try omega) | refine CQ_ok (hes _) ?_ | refine CQ_ok (hsh _) ?_ | refine Wk.ret fun _ _ => ?_ | (refine Wk.fin (by assumption) ?_; refine ⟨?_, rfl⟩) | first | refine Wk.o ?_ | refine Wk.q (by assumption) ?_)); all_goals (repeat subst hqq)
             all_goals first | rfl | (exfalso; omega)
       · rw [chF_plain hj hlow hb] at hr
         simp only [List.drop_drop] at hr
         cases acc with
         | nil =>
           (try refine Wk.aw fun _ hqq => ?_); (repeat' (first | ((first | refine Wk.hd ?_ | refine Wk.i ?_); simp -implicitDefEqProofs (disch := omega) only [go_sem, seval, blkOf, tokOf]) | (refine TQ_s (fun hc => ?_) (fun hc => ?_) <;> try omega) | refine CQ_st (c_WB0 _ (st.blks.length + 1) _ (by simp)) ?_ | first | refine Wk.o ?_ | refine Wk.q (by assumption) ?_)); all_goals (repeat subst hqq)
           all_goals first | (exfalso; omega) | skip
           all_goals refine key (s.getD j 0) 1 _ (by omega) (by omega) (by rw [hr, show j + 1 - i = j - i + 1 by omega]) (by simp -implicitDefEqProofs (disch := omega) only [go_sem, seval]) _ _ rfl rfl
         | cons a r =>
           (try refine Wk.aw fun _ hqq => ?_); (repeat' (first | ((first | refine Wk.hd ?_ | refine Wk.i ?_); simp -implicitDefEqProofs (disch := omega) only [go_sem, seval, blkOf, tokOf]) | (refine TQ_s (fun hc => ?_) (fun hc => ?_) <;> try omega) | refine CQ_st (c_WB1 _ (st.blks.length + 1) st.toks.length (a :: r) _ (by simp) (by simp) (by simp only [List.length_cons] at *; omega)) ?_ | first | refine Wk.o ?_ | refine Wk.q (by assumption) ?_)); all_goals (repeat subst hqq)
           all_goals first | (exfalso; omega) | skip
           all_goals refine key (s.getD j 0) 1 _ (by omega) (by omega) (by rw [hr, show j + 1 - i = j - i + 1 by omega]) (by simp -implicitDefEqProofs (disch := omega) only [go_sem, seval]) _ _ rfl (by simp [tokOf])
 · have : s.drop j = [] := List.drop_of_length_le (by omega)
   rw [this, strR_nil] at h4
   rw [← h4]
   (try refine Wk.aw fun _ hqq => ?_); (repeat' (first | ((refine Wk.i ?_); simp -implicitDefEqProofs (disch := omega) only [go_sem, seval]) | (refine TQ_s (fun hc => ?_) (fun hc => ?_) <;> try omega) | refine Wk.ret fun _ _ => ?_ | (refine Wk.fin (by assumption) ?_; refine ⟨?_, rfl⟩) | first | refine Wk.o ?_ | refine Wk.q (by assumption) ?_ | refine Wk.sw fun _ hqq => ?_)); all_goals (repeat subst hqq)
   all_goals rfl
end Go.Proofs.YtofbdmdigopaoaaGreatDoor
end
section
set_option maxHeartbeats 8000000
set_option maxRecDepth 20000
namespace Go.Proofs.YtofbdmdigopaoaaGreatDoor
open Go.Abs
attribute [local irreducible] AW OX condQ GQ bodyQ RoundsA thenQ blockQ Acalls
variable {G : World → Nat → Prop}
theorem c_token (s : Str) (i : Nat) (hs : s.length ≤ 1048576) (hi : i < s.length) : Ans G 42 [vs s, vint i] (lexV i (tokF (s.drop i))) := by
 intro st
 have hn := tokF_at hi
 rw [hn]
 by_cases hl : isLetter (s.getD i 0) = true
 · rw [if_pos hl]
   refine Acalls.body Tryz.func42 rfl Tryz.ntmps42 (by simp) ?_
   (try with_reducible refine Wk.aw fun _ hqq => ?_); (repeat' (first | ((with_reducible first | refine Wk.hd ?_ | refine Wk.i ?_); simp -implicitDefEqProofs (disch := first | omega | (simp only [go_sem, List.length_take, List.length_drop]; try omega)) only [go_sem, seval]) | (refine TQ_s (fun hc => ?_) (fun hc => ?_) <;> try (exfalso; first | omega | contradiction | exact nob hc ‹_› | exact nob ‹_› hc)) | refine CQ_ok (c_lexer_letter _ _) ?_ | refine CQ_ok (c_lexer_name s i hs (by omega) _) ?_ | with_reducible refine Wk.ret fun _ _ => ?_ | (refine Wk.fin (by assumption) ?_; refine ⟨?_, rfl⟩) | with_reducible first | refine Wk.o ?_ | refine Wk.q (by assumption) ?_)); all_goals (repeat subst hqq)
   all_goals rfl
 · rw [if_neg hl]
   have hl' := Bool.eq_false_iff.2 hl
   by_cases hdg : isDigit (s.getD i 0) = true
   · rw [if_pos hdg]
     refine Acalls.body Tryz.func42 rfl Tryz.ntmps42 (by simp) ?_
     (try with_reducible refine Wk.aw fun _ hqq => ?_); (repeat' (first | ((with_reducible first | refine Wk.hd ?_ | refine Wk.i ?_); simp -implicitDefEqProofs (disch := first | omega | (simp only [go_sem, List.length_take, List.length_drop]; try omega)) only [go_sem, seval]) | (refine TQ_s (fun hc => ?_) (fun hc => ?_) <;> try (exfalso; first | omega | contradiction | exact nob hc ‹_› | exact nob ‹_› hc)) | refine CQ_ok (c_lexer_letter _ _) ?_ | refine CQ_ok (c_lexer_digit _ _) ?_ | refine CQ_ok (c_lexer_number s i hs (by omega) _) ?_ | with_reducible refine Wk.ret fun _ _ => ?_ | (refine Wk.fin (by assumption) ?_; refine ⟨?_, rfl⟩) | with_reducible first | refine Wk.o ?_ | refine Wk.q (by assumption) ?_)); all_goals (repeat subst hqq)
     all_goals rfl
   · rw [if_neg hdg]
     have hdg' := Bool.eq_false_iff.2 hdg
     by_cases h34 : (s.getD i 0).toNat = 34
     · rw [if_pos h34]
       refine Acalls.body Tryz.func42 rfl Tryz.ntmps42 (by simp) ?_
       (try with_reducible refine Wk.aw fun _ hqq => ?_); (repeat' (first | ((with_reducible first | refine Wk.hd ?_ | refine Wk.i ?_); simp -implicitDefEqProofs (disch := first | omega | (simp only [go_sem, List.length_take, List.length_drop]; try omega)) only [go_sem, seval]) | (refine TQ_s (fun hc => ?_) (fun hc => ?_) <;> try (exfalso; first | omega | contradiction | exact nob hc ‹_› | exact nob ‹_› hc)) | refine CQ_ok (c_lexer_letter _ _) ?_ | refine CQ_ok (c_lexer_digit _ _) ?_ | refine CQ_ok (c_text s i hs hi _) ?_ | with_reducible refine Wk.ret fun _ _ => ?_ | (refine Wk.fin (by assumption) ?_; refine ⟨?_, rfl⟩) | with_reducible first | refine Wk.o ?_ | refine Wk.q (by assumption) ?_)); all_goals (repeat subst hqq)
       all_goals rfl
     · rw [if_neg h34]
       refine Acalls.body Tryz.func42 rfl Tryz.ntmps42 (by simp) ?_
       (try with_reducible refine Wk.aw fun _ hqq => ?_); (repeat' (first | ((with_reducible first | refine Wk.hd ?_ | refine Wk.i ?_); simp -implicitDefEqProofs (disch := first | omega | (simp only [go_sem, List.length_take, List.length_drop]; try omega)) only [go_sem, seval]) | (refine TQ_s (fun hc => ?_) (fun hc => ?_) <;> try (exfalso; first | omega | contradiction | exact nob hc ‹_› | exact nob ‹_› hc)) | refine CQ_ok (c_lexer_letter _ _) ?_ | refine CQ_ok (c_lexer_digit _ _) ?_ | refine CQ_ok (c_operator s i hs hi _) ?_ | with_reducible refine Wk.ret fun _ _ => ?_ | (refine Wk.fin (by assumption) ?_; refine ⟨?_, rfl⟩) | with_reducible first | refine Wk.o ?_ | refine Wk.q (by assumption) ?_)); all_goals (repeat subst hqq)
       all_goals rfl
theorem openF_o {t : Str} {op : Nat} (h : t = [40] ∨ t = [91]) : openF t op = op + 1 := if_pos h
theorem openF_c {t : Str} {op : Nat} (h : t = [41] ∨ t = [93]) : openF t op = op - 1 := by
 rcases h with rfl | rfl <;> rfl
theorem openF_n {t : Str} {op : Nat} (h1 : ¬ t = [40]) (h2 : ¬ t = [91]) (h3 : ¬ t = [41]) (h4 : ¬ t = [93]) : openF t op = op := by
 rw [openF, if_neg (by rintro (h | h) <;> contradiction), if_neg (by rintro (h | h) <;> contradiction)]
theorem c_brackets (t : Str) (op : Nat) (ho : op ≤ 1048576) : Ans G 43 [vs t, vint op] (vint ↑(openF t op)) := by
 intro st
 refine Acalls.body Tryz.func43 rfl Tryz.ntmps43 (by simp) ?_
 (try with_reducible refine Wk.aw fun _ hqq => ?_); (repeat' (first | ((with_reducible refine Wk.i ?_); simp -implicitDefEqProofs (disch := first | omega | (simp only [go_sem]; try omega)) only [go_sem, seval]) | (refine TQ_s (fun hc => ?_) (fun hc => ?_) <;> try (exfalso; first | omega | contradiction)) | with_reducible refine Wk.ret fun _ _ => ?_ | (refine Wk.fin (by assumption) ?_; refine ⟨?_, rfl⟩) | with_reducible first | refine Wk.o ?_ | refine Wk.q (by assumption) ?_)); all_goals (repeat subst hqq)
 all_goals refine ret_int ?_
 all_goals first
   | (rw [openF_o (by first | exact .inl ‹_› | exact .inr ‹_›)])
   | (rw [openF_c (by first | exact .inl ‹_› | exact .inr ‹_›)]; split <;> omega)
   | (rw [openF_n ‹¬ t = [40]› ‹¬ t = [91]› ‹¬ t = [41]› ‹¬ t = [93]›])
theorem isCls_notNl : IsCls G 41 notNl := by
 refine ⟨Tryz.call41, fun c st => ?_⟩
 refine Acalls.body Tryz.func41 rfl Tryz.ntmps41 (by simp) ?_
 (try refine Wk.aw fun _ hqq => ?_); (repeat' (first | ((refine Wk.i ?_); simp -implicitDefEqProofs only [go_sem, seval]) | refine Wk.ret fun _ _ => ?_ | (refine Wk.fin (by assumption) ?_; refine ⟨?_, rfl⟩) | first | refine Wk.o ?_ | refine Wk.q (by assumption) ?_)); all_goals (repeat subst hqq)
 all_goals (refine ret_bool ?_; simp only [notNl, decide_eq_true_eq]; omega)
theorem c_blank (r : Nat) (h : r ≤ 2147483647) : Ans G 39 [.d (.int .i32 ↑r)] (vb (decide (r = 32 ∨ r = 9))) := by
 intro st
 refine Acalls.body Tryz.func39 rfl Tryz.ntmps39 (by simp) ?_
 (try refine Wk.aw fun _ hqq => ?_); (repeat' (first | ((first | refine Wk.hd ?_ | refine Wk.i ?_); simp -implicitDefEqProofs only [go_sem, seval]) | (refine TQ_s (fun hc => ?_) (fun hc => ?_) <;> try omega) | refine Wk.ret fun _ _ => ?_ | (refine Wk.fin (by assumption) ?_; refine ⟨?_, rfl⟩) | first | refine Wk.o ?_ | refine Wk.q (by assumption) ?_)); all_goals (repeat subst hqq)
 all_goals (refine ret_bool ?_; simp only [decide_eq_true_eq, reduceCtorEq, iff_false, false_iff, iff_true, true_iff]; omega)
def BA (s : Str) : ByteArray := ⟨s.toArray⟩
theorem BA_size (s : Str) : (BA s).size = s.length := by simp [BA, ByteArray.size]
theorem BA_get (s : Str) (p : Nat) (h : p < (BA s).size) : (BA s)[p] = s.getD p 0 := by
 rw [BA_size] at h
 simp [BA, List.getD_eq_getElem?_getD, h, ByteArray.getElem_eq_getElem_data]
theorem BA_get! (s : Str) (p : Nat) : (BA s).get! p = s.getD p 0 := by
 simp only [BA, ByteArray.get!, List.getD_eq_getElem?_getD]
 by_cases h : p < s.length
 · simp [getElem!_pos, h]
 · rw [getElem!_neg _ _ (by simpa using h)]; simp [h]; rfl
theorem dec_ascii {s : Str} {p : Nat} (h : p < s.length) (ha : (s.getD p 0).toNat < 128) : Utf8.decode (BA s) p = ((s.getD p 0).toNat, 1) := by
 have hs : p < (BA s).size := by rw [BA_size]; exact h
 have := decode_ascii (BA s) p hs (by rw [BA_get]; exact ha)
 rw [this, BA_get]
theorem dec_high {s : Str} {p : Nat} (h : p < s.length) (ha : 128 ≤ (s.getD p 0).toNat) : 128 ≤ (Utf8.decode (BA s) p).1 ∧ 1 ≤ (Utf8.decode (BA s) p).2 := by
 have hs : p < (BA s).size := by rw [BA_size]; exact h
 exact decode_high (BA s) p hs (by rw [BA_get]; exact ha)
theorem dec_le (s : Str) (p : Nat) : (Utf8.decode (BA s) p).1 ≤ 2147483647 := decode_le (BA s) p
theorem dec_cont {s : Str} {p j : Nat} (h0 : 0 < j) (h1 : j < (Utf8.decode (BA s) p).2) : p + j < s.length ∧ 128 ≤ (s.getD (p + j) 0).toNat ∧ 128 ≤ (s.getD p 0).toNat := by
 rw [Lib.decode_at] at h1
 simp only [BA_get!, BA_size] at h1
 unfold Lib.decodeN at h1
 repeat' split at h1
 all_goals (simp only at h1; first | omega | skip)
 all_goals (have hj : j = 1 ∨ j = 2 ∨ j = 3 := by omega)
 all_goals (rcases hj with rfl | rfl | rfl)
 all_goals omega
theorem bnd {s : Str} {q : Nat} (hq : q ≤ s.length) (h : q = s.length ∨ (s.getD q 0).toNat < 128 ∨ (0 < q ∧ (s.getD (q - 1) 0).toNat < 128)) : ∀ p, p < q → p + (Utf8.decode (BA s) p).2 ≤ q := by
 intro p hp
 refine Nat.le_of_not_lt fun hlt => ?_
 have h1 := dec_cont (s := s) (p := p) (j := q - p) (by omega) (by omega)
 rw [show p + (q - p) = q by omega] at h1
 rcases h with h | h | ⟨h0, h⟩
 · omega
 · omega
 · by_cases hpq : p = q - 1
   · rw [← hpq] at h; omega
   · have h2 := dec_cont (s := s) (p := p) (j := q - p - 1) (by omega) (by omega)
     rw [show p + (q - p - 1) = q - 1 by omega] at h2; omega
end Go.Proofs.YtofbdmdigopaoaaGreatDoor
end
