/- A step of the proofs of the seat's theorems. -/
import Derived.Test.YtofbdmdigopaoaaGreatDoorM1
import Derived.Test.YtofbdmdigopaoaaGreatDoorM5
import Derived.Test.YtofbdmdigopaoaaGreatDoorM14
import Derived.Test.YtofbdmdigopaoaaGreatDoorM21
set_option linter.unusedSimpArgs false
set_option linter.unusedVariables false
section
set_option maxHeartbeats 8000000
set_option maxRecDepth 20000
namespace Go.Proofs.YtofbdmdigopaoaaGreatDoor
open Go.Abs
attribute [local irreducible] AW OX condQ GQ bodyQ RoundsA thenQ blockQ Acalls
variable {G : World → Nat → Prop}
theorem byte1 (n : Int) : bytesOf [[.int .u8 n]] = some [UInt8.ofNat n.toNat] := rfl
theorem u8wrap {n : Int} (h1 : 0 ≤ n) (h2 : n ≤ 255) : IntKind.u8.wrap n = n := Go.IntWalk.u8_in n ⟨h1, h2⟩
theorem tdivN {n : Nat} : (n : Int).tdiv 10 = ((n / 10 : Nat) : Int) := rfl
theorem tmodN {n : Nat} : (n : Int).tmod 10 = ((n % 10 : Nat) : Int) := rfl
theorem tdivI (n : Nat) : (-(n : Int)).tdiv 10 = -((n / 10 : Nat) : Int) := by rw [Int.neg_tdiv]; rfl
theorem tmodI (n : Nat) : (-(n : Int)).tmod 10 = -((n % 10 : Nat) : Int) := by rw [Int.neg_tmod]; rfl
theorem c_Decimal (f : Nat) : ∀ n : Int, n.natAbs < f → -9223372036854775808 ≤ n → n ≤ 9223372036854775807 → Ans G 138 [vint n] (vs (decI n)) := by
 induction f with
 | zero => intro n h; omega
 | succ f ih =>
   intro n hf h1 h2 st
   rcases Int.lt_or_le n 0 with hn | hn
   · obtain ⟨m, rfl⟩ : ∃ m : Nat, n = -(m : Int) := ⟨n.natAbs, by omega⟩
     have hm : ((-(m : Int)).natAbs) = m := by omega
     rw [decI, if_pos hn, hm]
     by_cases h10 : m < 10
     · rw [decN_small h10]
       refine Acalls.body Tryz.func138 rfl Tryz.ntmps138 (by simp) ?_
       (try with_reducible refine Wk.aw fun _ hqq => ?_); (repeat' (first | ((with_reducible refine Wk.i ?_); simp -implicitDefEqProofs (disch := first | omega | (simp only [go_sem]; try omega)) only [go_sem, seval, byte1, u8wrap]) | (refine TQ_s (fun hc => ?_) (fun hc => ?_) <;> try (exfalso; first | omega | contradiction)) | with_reducible refine Wk.ret fun _ _ => ?_ | (refine Wk.fin (by assumption) ?_; refine ⟨?_, rfl⟩) | with_reducible first | refine Wk.o ?_ | refine Wk.q (by assumption) ?_)); all_goals (repeat subst hqq)
       all_goals (refine congrArg (fun b => Out.ret (.d (.str b))) ?_; first | (congr 2; congr 1; omega) | skip)
     · rw [decN_step h10]
       have hl := decI_len (n := -((m / 10 : Nat) : Int)) (by omega) (by omega)
       have hrc := ih (-((m / 10 : Nat) : Int)) (by omega) (by omega) (by omega)
       have hd : decI (-((m / 10 : Nat) : Int)) = 45 :: decN (m / 10) := by rw [decI, if_pos (by omega), show (-((m / 10 : Nat) : Int)).natAbs = m / 10 by omega]
       refine Acalls.body Tryz.func138 rfl Tryz.ntmps138 (by simp) ?_
       (try with_reducible refine Wk.aw fun _ hqq => ?_); (repeat' (first | ((with_reducible first | refine Wk.hd ?_ | refine Wk.i ?_); simp -implicitDefEqProofs (disch := first | omega | (simp only [go_sem]; try omega)) only [go_sem, seval, byte1, u8wrap, tdivI, tmodI]) | (refine TQ_s (fun hc => ?_) (fun hc => ?_) <;> try (exfalso; first | omega | contradiction)) | refine CQ_ok (hrc _) ?_ | refine Wk.drawn mx (by kernel_rfl) ?_ | with_reducible refine Wk.ret fun _ _ => ?_ | (refine Wk.fin (by assumption) ?_; refine ⟨?_, rfl⟩) | with_reducible first | refine Wk.o ?_ | refine Wk.q (by assumption) ?_)); all_goals (repeat subst hqq)
       all_goals first
         | (rw [hd]; refine congrArg (fun b => Out.ret (.d (.str b))) ?_; rw [List.cons_append]; congr 4; omega)
         | skip
   · obtain ⟨m, rfl⟩ : ∃ m : Nat, n = (m : Int) := ⟨n.toNat, by omega⟩
     rw [decI, if_neg (by omega), show ((m : Int).natAbs) = m by omega]
     by_cases h10 : m < 10
     · rw [decN_small h10]
       refine Acalls.body Tryz.func138 rfl Tryz.ntmps138 (by simp) ?_
       (try with_reducible refine Wk.aw fun _ hqq => ?_); (repeat' (first | ((with_reducible refine Wk.i ?_); simp -implicitDefEqProofs (disch := first | omega | (simp only [go_sem]; try omega)) only [go_sem, seval, byte1, u8wrap]) | (refine TQ_s (fun hc => ?_) (fun hc => ?_) <;> try (exfalso; first | omega | contradiction)) | with_reducible refine Wk.ret fun _ _ => ?_ | (refine Wk.fin (by assumption) ?_; refine ⟨?_, rfl⟩) | with_reducible first | refine Wk.o ?_ | refine Wk.q (by assumption) ?_)); all_goals (repeat subst hqq)
       all_goals (refine congrArg (fun b => Out.ret (.d (.str b))) ?_; first | rfl | (congr 2; omega) | skip)
     · rw [decN_step h10]
       have hl := decI_len (n := ((m / 10 : Nat) : Int)) (by omega) (by omega)
       have hrc := ih ((m / 10 : Nat) : Int) (by omega) (by omega) (by omega)
       have hd : decI ((m / 10 : Nat) : Int) = decN (m / 10) := by rw [decI, if_neg (by omega), show (((m / 10 : Nat) : Int)).natAbs = m / 10 by omega]
       refine Acalls.body Tryz.func138 rfl Tryz.ntmps138 (by simp) ?_
       (try with_reducible refine Wk.aw fun _ hqq => ?_); (repeat' (first | ((with_reducible first | refine Wk.hd ?_ | refine Wk.i ?_); simp -implicitDefEqProofs (disch := first | omega | (simp only [go_sem]; try omega)) only [go_sem, seval, byte1, u8wrap, tdivN, tmodN]) | (refine TQ_s (fun hc => ?_) (fun hc => ?_) <;> try (exfalso; first | omega | contradiction)) | refine CQ_ok (hrc _) ?_ | refine Wk.drawn mx (by kernel_rfl) ?_ | with_reducible refine Wk.ret fun _ _ => ?_ | (refine Wk.fin (by assumption) ?_; refine ⟨?_, rfl⟩) | with_reducible first | refine Wk.o ?_ | refine Wk.q (by assumption) ?_)); all_goals (repeat subst hqq)
       all_goals first
         | (rw [hd]; rfl)
         | (rw [hd]; refine congrArg (fun b => Out.ret (.d (.str b))) ?_; congr 2; omega)
         | skip
theorem hexD_at : ∀ n : Fin 16, ("0123456789abcdef".toUTF8.data.toList.getD n.val 0) = hexD n.val := by decide
theorem hexD_get {i : Nat} (h : i < 16) : ([48, 49, 50, 51, 52, 53, 54, 55, 56, 57, 97, 98, 99, 100, 101, 102] : List UInt8).getD i 0 = hexD i := hexD_at ⟨i, h⟩
theorem tdiv16 (n : Nat) : (n : Int).tdiv 16 = ((n / 16 : Nat) : Int) := rfl
theorem tmod16 (n : Nat) : (n : Int).tmod 16 = ((n % 16 : Nat) : Int) := rfl
theorem ofNat_toNat (c : UInt8) : UInt8.ofNat c.toNat = c := by simp
theorem c_character (c : UInt8) : Ans G 139 [vc c] (vs (quoteC c)) := by
 intro st
 have hc := c.toNat_lt
 refine Acalls.body Tryz.func139 rfl Tryz.ntmps139 (by simp) ?_
 (try with_reducible refine Wk.aw fun _ hqq => ?_); (repeat' (first | ((with_reducible first | refine Wk.hd ?_ | refine Wk.i ?_); simp -implicitDefEqProofs (disch := first | omega | (simp only [go_sem]; try omega)) only [go_sem, seval, u8wrap, tdiv16, tmod16]) | (refine TQ_s (fun hc => ?_) (fun hc => ?_) <;> try (exfalso; first | omega | contradiction)) | refine Wk.drawn mx (by kernel_rfl) ?_ | with_reducible refine Wk.ret fun _ _ => ?_ | (refine Wk.fin (by assumption) ?_; refine ⟨?_, rfl⟩) | with_reducible first | refine Wk.o ?_ | refine Wk.q (by assumption) ?_)); all_goals (repeat subst hqq)
 all_goals (refine congrArg (fun b => Out.ret (.d (.str b))) ?_; rw [quoteC])
 all_goals (try simp (disch := first | assumption | omega) only [if_pos, if_neg, hexD_get, ofNat_toNat])
 all_goals rfl
theorem flat_snoc {s : Str} {i : Nat} (h : i < s.length) : (s.take (i + 1)).flatMap quoteC = (s.take i).flatMap quoteC ++ quoteC (s.getD i 0) := by
 rw [show s.getD i 0 = s.getD i default from rfl, take_snoc h]; simp
theorem c_Quote (s : Str) (hs : s.length ≤ 1099511627776) : Ans G 100 [vs s] (vs (quoteF s)) := by
 intro st
 refine Acalls.body Tryz.func100 rfl Tryz.ntmps100 (by simp) ?_
 (try with_reducible refine Wk.aw fun _ hqq => ?_); (repeat' (first | ((with_reducible refine Wk.i ?_); simp -implicitDefEqProofs (disch := first | omega | (simp only [go_sem]; try omega)) only [go_sem, seval, byte1]) | with_reducible refine Wk.o ?_)); all_goals (repeat subst hqq)
 refine AW.loopS (fun i : Nat => [(0, vs s), (3, vs ([34] ++ (s.take i).flatMap quoteC)), (4, vint ↑i)]) (fun _ => []) (fun _ => []) (fun i => i ≤ s.length) (fun i => s.length - i) 0 (by simp -implicitDefEqProofs (disch := first | omega | (simp only [go_sem]; try omega)) only [go_sem, seval] <;> first | rfl | exact ⟨rfl, rfl⟩ | skip) (by simp -implicitDefEqProofs (disch := first | omega | (simp only [go_sem]; try omega)) only [go_sem, seval] <;> first | rfl | exact ⟨rfl, rfl⟩ | skip) (by omega) ?_
 intro i hi
 have h1 := flat_len (s.take i)
 have h2 := quoteC_len (s.getD i 0)
 rw [List.length_take] at h1
 by_cases hlt : i < s.length
 · (try with_reducible refine Wk.aw fun _ hqq => ?_); (repeat' (first | ((with_reducible first | refine Wk.hd ?_ | refine Wk.i ?_); simp -implicitDefEqProofs (disch := first | omega | (simp only [go_sem]; try omega)) only [go_sem, seval]) | (refine TQ_s (fun hc => ?_) (fun hc => ?_) <;> try (exfalso; first | omega | contradiction)) | refine CQ_ok (c_character _ _) ?_ | with_reducible first | refine Wk.o ?_ | refine Wk.q (by assumption) ?_)); all_goals (repeat subst hqq)
   · (refine ⟨i + 1, Nxt.mk ?_ ?_ ?_ (by simp -implicitDefEqProofs (disch := first | omega | (simp only [go_sem]; try omega)) only [go_sem, seval]) (by simp -implicitDefEqProofs (disch := first | omega | (simp only [go_sem]; try omega)) only [go_sem, seval]) (by first | rfl | (simp -implicitDefEqProofs (disch := first | omega | (simp only [go_sem]; try omega)) only [go_sem, seval]; all_goals omega)) (by first | rfl | (simp -implicitDefEqProofs (disch := first | omega | (simp only [go_sem]; try omega)) only [go_sem, seval]; all_goals omega))⟩; focus (try (simp -implicitDefEqProofs (disch := first | omega | (simp only [go_sem]; try omega)) only [go_sem, seval]); try ((repeat' apply And.intro) <;> first | rfl | trivial | refine vi_congr ?_ | refine vs_congr ?_ | refine vown_congr ?_ | skip)))
     · rw [flat_snoc hlt] <;> simp
     · omega
     · omega
 · (try with_reducible refine Wk.aw fun _ hqq => ?_); (repeat' (first | ((with_reducible refine Wk.i ?_); simp -implicitDefEqProofs (disch := first | omega | (simp only [go_sem]; try omega)) only [go_sem, seval, byte1]) | (refine TQ_s (fun hc => ?_) (fun hc => ?_) <;> try (exfalso; first | omega | contradiction)) | with_reducible refine Wk.ret fun _ _ => ?_ | (refine Wk.fin (by assumption) ?_; refine ⟨?_, rfl⟩) | with_reducible first | refine Wk.o ?_ | refine Wk.q (by assumption) ?_ | refine Wk.sw fun _ hqq => ?_)); all_goals (repeat subst hqq)
   all_goals (refine congrArg (fun b => Out.ret (.d (.str b))) ?_; rw [List.take_of_length_le (by omega)]; simp [quoteF])
def partsV (v : Val) : List Str := if v.kind = 5 then litV.litM v.list v.keys else v.list.map litV
theorem partsV_len (v : Val) : (partsV v).length = v.list.length := by
 unfold partsV; split
 · exact litM_len _ _
 · simp
theorem lens_parts {v : Val} (hv : vInt v) : lens (partsV v) + 32 ≤ vBulk v := by
 have h3 := ((vInt_iff v).1 hv).2
 have hl := lens_lit (l := v.list) fun x hx => litV_len x (h3 x hx)
 have hm := lens_litM (l := v.list) (ks := v.keys) fun x hx => litV_len x (h3 x hx)
 rw [vBulk_eq]
 unfold partsV
 split <;> omega
theorem vCheck0 {level : Nat} {v : Val} (h : vCheck level v = 0) : vNode v level = 0 ∧ ∀ x ∈ v.list, vCheck (level + 1) x = 0 := by
 rw [vCheck_eq] at h
 by_cases hn : vNode v level = 0
 · rw [if_neg (by simp [hn])] at h
   refine ⟨hn, ?_⟩
   generalize v.list = l at h
   induction l with
   | nil => intro x hx; simp at hx
   | cons a r ih =>
     rw [vCheck.vCheckL] at h
     by_cases ha : vCheck (level + 1) a = 0
     · rw [if_neg (by simp [ha])] at h
       intro x hx
       rcases List.mem_cons.1 hx with rfl | hx
       · exact ha
       · exact ih h x hx
     · rw [if_pos ha] at h; exact absurd h ha
 · rw [if_pos hn] at h; exact absurd h hn
theorem vNode0 {level : Nat} {v : Val} (h : vNode v level = 0) : 0 ≤ v.kind ∧ v.kind ≤ 5 ∧ -9007199254740992 ≤ v.int ∧ v.int ≤ 9007199254740992 ∧ v.str.length ≤ 4096 ∧ v.list.length ≤ 1024 ∧ (v.kind = 5 → v.keys.length = v.list.length) := by
 rw [vNode] at h
 repeat' split at h
 all_goals first | omega | skip
theorem c_literal07 : ∀ v : Val, ∀ level, vCheck level v = 0 → vFit v → vInt v → vBulk v ≤ 1099511627776 → Ans G 98 [vV v] (vs (litV v)) := by
 intro v
 induction v using Val.ind with
 | h v ih =>
   intro level hck fv iv hb st
   obtain ⟨a1, a2, a3, a4, a5⟩ := (vFit_iff v).1 fv
   obtain ⟨⟨i1, i2⟩, i3⟩ := (vInt_iff v).1 iv
   obtain ⟨hnode, hcl⟩ := vCheck0 hck
   obtain ⟨k1, k2, n1, n2, n3, n4, n5⟩ := vNode0 hnode
   have hq := c_Quote (G := G) v.str (by omega)
   have hd := c_Decimal (G := G) (v.int.natAbs + 1) v.int (by omega) (by omega) (by omega)
   rw [litV_eq]
   by_cases hk : v.kind = 4 ∨ v.kind = 5
   · have hparts : (if v.kind = 4 then [91] ++ joinF [44, 32] (v.list.map litV) ++ [93] else if v.kind = 5 then [123] ++ joinF [44, 32] (litV.litM v.list v.keys) ++ [125] else sNull) = if v.kind = 4 then 91 :: (joinF [44, 32] (partsV v) ++ [93]) else 123 :: (joinF [44, 32] (partsV v) ++ [125]) := by
       rcases hk with hk | hk
       · simp [hk, partsV]
       · simp [hk, partsV]
     rw [if_neg (by omega), if_neg (by omega), if_neg (by omega), hparts]
     have hpl := lens_parts iv
     have hlen := partsV_len v
     have hj := joinF_len (sep := [44, 32]) (by simp) (partsV v)
     have hbl := fun x (hx : x ∈ v.list) => vBulkL_mem hx
     have hb' := hb
     rw [vBulk_eq] at hb'
     refine Acalls.body Tryz.func98 rfl Tryz.ntmps98 (by simp) ?_
     (try with_reducible refine Wk.aw fun _ hqq => ?_); (repeat' (first | ((with_reducible refine Wk.i ?_); simp -implicitDefEqProofs (disch := first | omega | (simp only [go_sem]; try omega)) only [go_sem, seval]) | (refine TQ_s (fun hc => ?_) (fun hc => ?_) <;> try (exfalso; first | omega | contradiction)) | with_reducible refine Wk.o ?_)); all_goals (repeat subst hqq)
     all_goals first
       | (exfalso; omega)
       | skip
     refine AW.loopS (fun i : Nat => [(1, .ptr st.blks.length 0), (3, vs (joinF [44, 32] ((partsV v).take i))), (4, vint ↑i)]) (fun _ => [.cells (v.enc.map .d)]) (fun _ => []) (fun i => i ≤ v.list.length) (fun i => v.list.length - i) 0 (by simp -implicitDefEqProofs (disch := first | omega | (simp only [go_sem]; try omega)) only [go_sem, seval] <;> first | rfl | exact ⟨rfl, rfl⟩ | skip) (by simp -implicitDefEqProofs (disch := first | omega | (simp only [go_sem]; try omega)) only [go_sem, seval] <;> first | rfl | exact ⟨rfl, rfl⟩ | skip) (by omega) ?_
     intro i hi
     have hji := joinF_len (sep := [44, 32]) (by simp) ((partsV v).take i)
     have hti := lens_take (partsV v) i
     by_cases hlt : i < v.list.length
     · have hx := getD_mem hlt
       have hgi := lens_get (l := partsV v) (i := i) (by omega)
       have hst := joinF_step (sep := [44, 32]) (l := partsV v) (i := i) (by omega)
       have hlx := litV_len _ (i3 _ hx)
       have hcx := ih _ hx (level + 1) (hcl _ hx) (a5 _ hx) (i3 _ hx) (by have := hbl _ hx; omega)
       by_cases hk5 : v.kind = 5
       · have hki : i < v.keys.length := by have := n5 hk5; omega
         have hqk := c_Quote (G := G) (v.keys.getD i default) (by have := a4 _ (getD_mem hki); omega)
         have hqkl := quoteF_len (v.keys.getD i default)
         have hkk := a4 _ (getD_mem hki)
         have hpg : (partsV v).getD i default = quoteF (v.keys.getD i default) ++ [58, 32] ++ litV (v.list.getD i default) := by
           rw [partsV, if_pos hk5, litM_get _ _ _ hlt]; rfl
         rw [hpg] at hst hgi
         simp only [List.length_append, List.length_cons, List.length_nil] at hgi
         by_cases hi0 : i = 0
         · rw [if_pos hi0] at hst
           subst hi0
           (try with_reducible refine Wk.aw fun _ hqq => ?_); (repeat' (first | ((with_reducible first | refine Wk.hd ?_ | refine Wk.i ?_); simp -implicitDefEqProofs (disch := first | omega | (simp only [go_sem]; try omega)) only [go_sem, seval, hk5, joinF]) | (refine TQ_s (fun hc => ?_) (fun hc => ?_) <;> try (exfalso; first | omega | contradiction)) | refine CQ_ok (hqk _) ?_ | refine CQ_ok (hcx _) ?_ | with_reducible first | refine Wk.o ?_ | refine Wk.q (by assumption) ?_)); all_goals (repeat subst hqq)
           · (refine ⟨0 + 1, Nxt.mk ?_ ?_ ?_ (by simp -implicitDefEqProofs (disch := first | omega | (simp only [go_sem]; try omega)) only [go_sem, seval]) (by simp -implicitDefEqProofs (disch := first | omega | (simp only [go_sem]; try omega)) only [go_sem, seval]) (by first | rfl | (simp -implicitDefEqProofs (disch := first | omega | (simp only [go_sem]; try omega)) only [go_sem, seval]; all_goals omega)) (by first | rfl | (simp -implicitDefEqProofs (disch := first | omega | (simp only [go_sem]; try omega)) only [go_sem, seval]; all_goals omega))⟩; focus (try (simp -implicitDefEqProofs (disch := first | omega | (simp only [go_sem]; try omega)) only [go_sem, seval]); try ((repeat' apply And.intro) <;> first | rfl | trivial | refine vi_congr ?_ | refine vs_congr ?_ | refine vown_congr ?_ | skip)))
             · first | (rw [hst]; done) | (rw [hst]; simp [joinF])
             · omega
             · omega
         · rw [if_neg hi0] at hst
           (try with_reducible refine Wk.aw fun _ hqq => ?_); (repeat' (first | ((with_reducible first | refine Wk.hd ?_ | refine Wk.i ?_); simp -implicitDefEqProofs (disch := first | omega | (simp only [go_sem]; try omega)) only [go_sem, seval, hk5]) | (refine TQ_s (fun hc => ?_) (fun hc => ?_) <;> try (exfalso; first | omega | contradiction)) | refine CQ_ok (hqk _) ?_ | refine CQ_ok (hcx _) ?_ | with_reducible first | refine Wk.o ?_ | refine Wk.q (by assumption) ?_)); all_goals (repeat subst hqq)
           · (refine ⟨i + 1, Nxt.mk ?_ ?_ ?_ (by simp -implicitDefEqProofs (disch := first | omega | (simp only [go_sem]; try omega)) only [go_sem, seval]) (by simp -implicitDefEqProofs (disch := first | omega | (simp only [go_sem]; try omega)) only [go_sem, seval]) (by first | rfl | (simp -implicitDefEqProofs (disch := first | omega | (simp only [go_sem]; try omega)) only [go_sem, seval]; all_goals omega)) (by first | rfl | (simp -implicitDefEqProofs (disch := first | omega | (simp only [go_sem]; try omega)) only [go_sem, seval]; all_goals omega))⟩; focus (try (simp -implicitDefEqProofs (disch := first | omega | (simp only [go_sem]; try omega)) only [go_sem, seval]); try ((repeat' apply And.intro) <;> first | rfl | trivial | refine vi_congr ?_ | refine vs_congr ?_ | refine vown_congr ?_ | skip)))
             · rw [hst] <;> simp
             · omega
             · omega
       · have hpg : (partsV v).getD i default = litV (v.list.getD i default) := by
           rw [partsV, if_neg hk5]; simp [List.getD_eq_getElem?_getD, hlt]
         rw [hpg] at hst hgi
         by_cases hi0 : i = 0
         · rw [if_pos hi0] at hst
           subst hi0
           (try with_reducible refine Wk.aw fun _ hqq => ?_); (repeat' (first | ((with_reducible first | refine Wk.hd ?_ | refine Wk.i ?_); simp -implicitDefEqProofs (disch := first | omega | (simp only [go_sem]; try omega)) only [go_sem, seval, joinF]) | (refine TQ_s (fun hc => ?_) (fun hc => ?_) <;> try (exfalso; first | omega | contradiction)) | refine CQ_ok (hcx _) ?_ | with_reducible first | refine Wk.o ?_ | refine Wk.q (by assumption) ?_)); all_goals (repeat subst hqq)
           · (refine ⟨0 + 1, Nxt.mk ?_ ?_ ?_ (by simp -implicitDefEqProofs (disch := first | omega | (simp only [go_sem]; try omega)) only [go_sem, seval]) (by simp -implicitDefEqProofs (disch := first | omega | (simp only [go_sem]; try omega)) only [go_sem, seval]) (by first | rfl | (simp -implicitDefEqProofs (disch := first | omega | (simp only [go_sem]; try omega)) only [go_sem, seval]; all_goals omega)) (by first | rfl | (simp -implicitDefEqProofs (disch := first | omega | (simp only [go_sem]; try omega)) only [go_sem, seval]; all_goals omega))⟩; focus (try (simp -implicitDefEqProofs (disch := first | omega | (simp only [go_sem]; try omega)) only [go_sem, seval]); try ((repeat' apply And.intro) <;> first | rfl | trivial | refine vi_congr ?_ | refine vs_congr ?_ | refine vown_congr ?_ | skip)))
             · first | (rw [hst]; done) | (rw [hst]; simp [joinF])
             · omega
             · omega
         · rw [if_neg hi0] at hst
           (try with_reducible refine Wk.aw fun _ hqq => ?_); (repeat' (first | ((with_reducible first | refine Wk.hd ?_ | refine Wk.i ?_); simp -implicitDefEqProofs (disch := first | omega | (simp only [go_sem]; try omega)) only [go_sem, seval]) | (refine TQ_s (fun hc => ?_) (fun hc => ?_) <;> try (exfalso; first | omega | contradiction)) | refine CQ_ok (hcx _) ?_ | with_reducible first | refine Wk.o ?_ | refine Wk.q (by assumption) ?_)); all_goals (repeat subst hqq)
           · (refine ⟨i + 1, Nxt.mk ?_ ?_ ?_ (by simp -implicitDefEqProofs (disch := first | omega | (simp only [go_sem]; try omega)) only [go_sem, seval]) (by simp -implicitDefEqProofs (disch := first | omega | (simp only [go_sem]; try omega)) only [go_sem, seval]) (by first | rfl | (simp -implicitDefEqProofs (disch := first | omega | (simp only [go_sem]; try omega)) only [go_sem, seval]; all_goals omega)) (by first | rfl | (simp -implicitDefEqProofs (disch := first | omega | (simp only [go_sem]; try omega)) only [go_sem, seval]; all_goals omega))⟩; focus (try (simp -implicitDefEqProofs (disch := first | omega | (simp only [go_sem]; try omega)) only [go_sem, seval]); try ((repeat' apply And.intro) <;> first | rfl | trivial | refine vi_congr ?_ | refine vs_congr ?_ | refine vown_congr ?_ | skip)))
             · rw [hst] <;> simp
             · omega
             · omega
     · have : (partsV v).take i = partsV v := List.take_of_length_le (by omega)
       rw [this] at hji ⊢
       (try with_reducible refine Wk.aw fun _ hqq => ?_); (repeat' (first | ((with_reducible refine Wk.i ?_); simp -implicitDefEqProofs (disch := first | omega | (simp only [go_sem]; try omega)) only [go_sem, seval]) | (refine TQ_s (fun hc => ?_) (fun hc => ?_) <;> try (exfalso; first | omega | contradiction)) | with_reducible refine Wk.ret fun _ _ => ?_ | (refine Wk.fin (by assumption) ?_; refine ⟨?_, rfl⟩) | with_reducible first | refine Wk.o ?_ | refine Wk.q (by assumption) ?_ | refine Wk.sw fun _ hqq => ?_)); all_goals (repeat subst hqq)
       all_goals (refine congrArg (fun b => Out.ret (.d (.str b))) ?_)
       all_goals first
         | (rw [if_neg (by omega)])
         | (rw [if_pos (by omega)])
   · refine Acalls.body Tryz.func98 rfl Tryz.ntmps98 (by simp) ?_
     (try with_reducible refine Wk.aw fun _ hqq => ?_); (repeat' (first | ((with_reducible first | refine Wk.hd ?_ | refine Wk.i ?_); simp -implicitDefEqProofs (disch := first | omega | (simp only [go_sem]; try omega)) only [go_sem, seval]) | (refine TQ_s (fun hc => ?_) (fun hc => ?_) <;> try (exfalso; first | omega | contradiction)) | refine CQ_ok (hq _) ?_ | refine CQ_ok (hd _) ?_ | with_reducible refine Wk.ret fun _ _ => ?_ | (refine Wk.fin (by assumption) ?_; refine ⟨?_, rfl⟩) | with_reducible first | refine Wk.o ?_ | refine Wk.q (by assumption) ?_)); all_goals (repeat subst hqq)
     all_goals first
       | (exfalso; omega)
       | skip
     all_goals (refine congrArg (fun b => Out.ret (.d (.str b))) ?_)
     all_goals (try simp (disch := first | assumption | omega) only [if_pos, if_neg])
     all_goals first
       | rfl
       | (rw [‹v.bool = true›]; rfl)
       | (rw [‹v.bool = false›]; rfl)
       | skip
theorem c_val07_of {v : Val} {r : Int} (h : Ans G 93 [vV v, vint (1 : Nat)] (vint r)) : Ans G 55 [vV v] (vint r) := by
 intro st
 refine Acalls.body Tryz.func55 rfl Tryz.ntmps55 (by simp) ?_
 (try refine Wk.aw fun _ hqq => ?_); (repeat' (first | ((first | refine Wk.hd ?_ | refine Wk.i ?_); simp -implicitDefEqProofs only [go_sem, seval]) | refine CQ_ok (h _) ?_ | refine Wk.ret fun _ _ => ?_ | (refine Wk.fin (by assumption) ?_; refine ⟨?_, rfl⟩) | first | refine Wk.o ?_ | refine Wk.q (by assumption) ?_)); all_goals (repeat subst hqq)
 all_goals rfl
theorem c_ref07_Show (v : Val) (fv : vFit v) (iv : vInt v) (hb : vBulk v ≤ 1099511627776) : Ans G 61 [vV v] (vs (showV v)) := by
 intro st
 have h := c_check07 (G := G) v fv 1 (by omega)
 have hl := c_literal07 (G := G) v 1
 rw [showV]
 by_cases h0 : vValid v = 0
 · rw [if_neg (by simp [h0])]
   have hl := hl h0 fv iv hb
   rw [show vCheck 1 v = 0 from h0] at h
   refine Acalls.body Tryz.func61 rfl Tryz.ntmps61 (by simp) ?_
   (try refine Wk.aw fun _ hqq => ?_); (repeat' (first | ((first | refine Wk.hd ?_ | refine Wk.i ?_); simp -implicitDefEqProofs only [go_sem, seval]) | refine CQ_ok ((c_val07_of h) _) ?_ | refine CQ_ok (hl _) ?_ | refine Wk.ret fun _ _ => ?_ | (refine Wk.fin (by assumption) ?_; refine ⟨?_, rfl⟩) | first | refine Wk.o ?_ | refine Wk.q (by assumption) ?_)); all_goals (repeat subst hqq)
   all_goals rfl
 · rw [if_pos h0]
   have h0' : vCheck 1 v ≠ 0 := h0
   refine Acalls.body Tryz.func61 rfl Tryz.ntmps61 (by simp) ?_
   (try refine Wk.aw fun _ hqq => ?_); (repeat' (first | ((first | refine Wk.hd ?_ | refine Wk.i ?_); simp -implicitDefEqProofs only [go_sem, seval]) | (refine TQ_s (fun hc => ?_) (fun hc => ?_) <;> try omega) | refine CQ_ok ((c_val07_of h) _) ?_ | refine Wk.ret fun _ _ => ?_ | (refine Wk.fin (by assumption) ?_; refine ⟨?_, rfl⟩) | first | refine Wk.o ?_ | refine Wk.q (by assumption) ?_)); all_goals (repeat subst hqq)
   all_goals rfl
end Go.Proofs.YtofbdmdigopaoaaGreatDoor
end
section
set_option maxHeartbeats 8000000
set_option maxRecDepth 20000
namespace Go.Proofs.YtofbdmdigopaoaaGreatDoor
open Go.Abs
attribute [local irreducible] AW OX condQ GQ bodyQ RoundsA thenQ blockQ Acalls
variable {G : World → Nat → Prop}
theorem tok_set0 (l r : List (Nat × Nat × Nat)) (x : Nat × Nat × Nat) : (l ++ r).set l.length x = l ++ r.set 0 x := by
 rw [List.set_append_right _ _ (by omega)]; simp
attribute [go_sem] tok_set0
abbrev bldS (B : List Blk) (T : List (Nat × Nat × Nat)) (s : Str) (n : Nat) : St := ⟨B ++ [.tc bT [.ptr B.length 0, .own T.length (byteRows s)]], T ++ [(bE, 1, n)]⟩
theorem c_WBs (B : List Blk) (T : List (Nat × Nat × Nat)) (s : Str) (n : Nat) (ch : UInt8) (hn : n = s.length) (hs : s.length ≤ 4398046511104) :
   Acalls Tryz.prog G 113 [.ptr B.length 0, vc ch] (bldS B T s n) (fun o s' => o = .ret (.d .nili) ∧ s' = bldS B T (s ++ [ch]) (n + 1)) := by
 subst hn
 refine (c_WB1 (bldS B T s s.length) B.length T.length s ch (by simp) (by simp) hs).mono ?_
 rintro o s' ⟨rfl, rfl⟩
 exact ⟨rfl, by simp [bldS]⟩
theorem c_WSs (B : List Blk) (T : List (Nat × Nat × Nat)) (s x : Str) (n : Nat) (hn : n = s.length) (hs : s.length ≤ 4398046511104) (hx : x ≠ []) (hx2 : x.length ≤ 4398046511104) :
   Acalls Tryz.prog G 136 [.ptr B.length 0, vs x] (bldS B T s n) (fun o s' => o = .ret (.tup [vint ↑x.length, .d .nili]) ∧ s' = bldS B T (s ++ x) (n + x.length)) := by
 subst hn
 refine (c_WS1 (bldS B T s s.length) B.length T.length s x (by simp) (by simp) hs hx hx2).mono ?_
 rintro o s' ⟨rfl, rfl⟩
 exact ⟨rfl, by simp [bldS]⟩
theorem c_WBf (B : List Blk) (T : List (Nat × Nat × Nat)) (ch : UInt8) :
   Acalls Tryz.prog G 113 [.ptr B.length 0, vc ch] ⟨B ++ [.tc bT [.d .nilp, .nils]], T⟩ (fun o s' => o = .ret (.d .nili) ∧ s' = bldS B T [ch] 1) := by
 refine (c_WB0 ⟨B ++ [.tc bT [.d .nilp, .nils]], T⟩ B.length ch (by simp)).mono ?_
 rintro o s' ⟨rfl, rfl⟩
 exact ⟨rfl, by simp [bldS]⟩
theorem c_bStr (B : List Blk) (T : List (Nat × Nat × Nat)) (s : Str) (n : Nat) (hn : n = s.length) (hs : s ≠ []) :
   Acalls Tryz.prog G 110 [.ptr B.length 0] (bldS B T s n) (fun o s' => o = .ret (vs s) ∧ s' = ⟨B ++ [.tc bT [.ptr B.length 0, .own T.length (byteRows s)]], T ++ [(bE, 1, maxLen + 1)]⟩) := by
 subst hn
 refine (c_bString_row (bldS B T s s.length) B.length T.length (.ptr B.length 0) s (by simp) (by simp) hs).mono ?_
 rintro o s' ⟨rfl, rfl⟩
 exact ⟨rfl, by simp [bldS]⟩
theorem u8_of {c : UInt8} (k : UInt8) (h : (c.toNat : Int) = (k.toNat : Nat)) : c = k := UInt8.toNat_inj.1 (by omega)
theorem c_quote (s : Str) (hs : s.length ≤ 1048576) : Ans G 135 [vs s] (vs (quoteF s)) := by
 intro st
 have w34 := c_WBf (G := G) st.blks st.toks 34
 refine Acalls.body Tryz.func135 rfl Tryz.ntmps135 (by simp) ?_
 (try with_reducible refine Wk.aw fun _ hqq => ?_); (repeat' (first | ((with_reducible first | refine Wk.hd ?_ | refine Wk.i ?_); simp -implicitDefEqProofs (disch := first | omega | (simp only [go_sem]; try omega)) only [go_sem, seval]) | refine CQ_st (w34) ?_ | with_reducible refine Wk.o ?_)); all_goals (repeat subst hqq)
 refine AW.loopS (fun i : Nat => [(0, vs s), (3, .ptr st.blks.length 0), (4, vint ↑i)]) (fun i => [.tc bT [.ptr st.blks.length 0, .own st.toks.length (byteRows (34 :: (s.take i).flatMap quoteC))]]) (fun i => [(bE, 1, 1 + ((s.take i).flatMap quoteC).length)]) (fun i => i ≤ s.length) (fun i => s.length - i) 0 (by simp -implicitDefEqProofs (disch := first | omega | (simp only [go_sem]; try omega)) only [go_sem, seval] <;> first | rfl | exact ⟨rfl, rfl⟩ | skip) (by simp -implicitDefEqProofs (disch := first | omega | (simp only [go_sem]; try omega)) only [go_sem, seval] <;> first | rfl | exact ⟨rfl, rfl⟩ | skip) (by omega) ?_
 intro i hi
 have h1 := flat_len (s.take i)
 have h2 := quoteC_len (s.getD i 0)
 rw [List.length_take] at h1
 have hfl := flat_snoc (s := s) (i := i)
 by_cases hlt : i < s.length
 · have hfl := hfl hlt
   have hcn := (s.getD i 0).toNat_lt
   have hsl : (s.take i).length ≤ 1048576 := by rw [List.length_take]; omega
   have key : ∀ (a : Str) (n : Nat), a = 34 :: ((s.take i).flatMap quoteC ++ quoteC (s.getD i 0)) → n = a.length → ∀ fr' : Fr, okF fr' [(0, vs s), (3, .ptr st.blks.length 0), (4, vint ↑(i + 1))] →
       ∃ x', Nxt st (fun i : Nat => [(0, vs s), (3, V.ptr st.blks.length 0), (4, vint ↑i)]) (fun i => [.tc bT [.ptr st.blks.length 0, .own st.toks.length (byteRows (34 :: (s.take i).flatMap quoteC))]]) (fun i => [(bE, 1, 1 + ((s.take i).flatMap quoteC).length)]) (fun i => i ≤ s.length) (fun i => s.length - i) i fr' (bldS st.blks st.toks a n) x' := by
     rintro a n rfl rfl fr' h
     refine ⟨i + 1, ⟨h, hlt, by omega, ?_, ?_, ?_, ?_⟩⟩
     · rw [hfl]; exact List.take_of_length_le (by simp)
     · rw [hfl]; refine (List.take_of_length_le (by simp)).trans ?_; simp [bldS]; omega
     · simp [okW, V.within]
     · simp [Blk.within, V.within, V.within.all]
   (try with_reducible refine Wk.aw fun _ hqq => ?_); (repeat' (first | ((with_reducible first | refine Wk.hd ?_ | refine Wk.i ?_); simp -implicitDefEqProofs (disch := first | omega | (simp only [go_sem]; try omega)) only [go_sem, seval, u8wrap, tdiv16, tmod16, hexD_get]) | (refine TQ_s (fun hc => ?_) (fun hc => ?_) <;> try (exfalso; first | omega | contradiction)) | refine CQ_st ((by first | exact c_WBs _ _ _ _ _ (by simp only [List.length_cons, List.length_append, List.length_nil]; omega) (by simp only [List.length_cons, List.length_append, List.length_nil]; omega) | exact c_WBs _ _ _ _ 92 (by simp only [List.length_cons, List.length_append, List.length_nil]; omega) (by simp only [List.length_cons, List.length_append, List.length_nil]; omega))) ?_ | refine CQ_st (c_WSs _ _ _ _ _ (by simp only [List.length_cons, List.length_append, List.length_nil]; omega) (by simp only [List.length_cons, List.length_append, List.length_nil]; omega) (by simp) (by simp)) ?_ | with_reducible first | refine Wk.o ?_ | refine Wk.q (by assumption) ?_)); all_goals (repeat subst hqq)
   all_goals first | refine key _ _ ?_ (by simp only [List.length_cons, List.length_append, List.length_nil]; first | rfl | omega) _ (by simp -implicitDefEqProofs (disch := first | omega | (simp only [go_sem]; try omega)) only [go_sem, seval]; try simp) | skip
   all_goals rw [quoteC]
   all_goals (try simp (disch := first | assumption | omega) only [if_pos, if_neg])
   all_goals first
     | (simp only [List.append_assoc, List.cons_append, List.nil_append]; done)
     | rfl
     | (rw [show s.getD i 0 = 34 from u8_of 34 (show ((s.getD i 0).toNat : Int) = 34 from by assumption)] <;> simp)
     | (rw [show s.getD i 0 = 92 from u8_of 92 (show ((s.getD i 0).toNat : Int) = 92 from by assumption)] <;> simp)
 · (try with_reducible refine Wk.aw fun _ hqq => ?_); (repeat' (first | ((with_reducible first | refine Wk.hd ?_ | refine Wk.i ?_); simp -implicitDefEqProofs (disch := first | omega | (simp only [go_sem]; try omega)) only [go_sem, seval]) | (refine TQ_s (fun hc => ?_) (fun hc => ?_) <;> try (exfalso; first | omega | contradiction)) | refine CQ_st (c_WBs _ _ _ _ 34 (by simp only [List.length_cons, List.length_append, List.length_nil]; omega) (by simp only [List.length_cons, List.length_append, List.length_nil]; omega)) ?_ | refine CQ_st (c_bStr _ _ _ _ (by simp only [List.length_cons, List.length_append, List.length_nil]; omega) (by simp)) ?_ | with_reducible refine Wk.ret fun _ _ => ?_ | (refine Wk.fin (by assumption) ?_; refine ⟨?_, rfl⟩) | with_reducible first | refine Wk.o ?_ | refine Wk.q (by assumption) ?_ | refine Wk.sw fun _ hqq => ?_)); all_goals (repeat subst hqq)
   all_goals (refine congrArg (fun b => Out.ret (.d (.str b))) ?_; rw [List.take_of_length_le (by omega)]; simp [quoteF])
theorem ch_sl {s : Str} {i : Nat} (h : i < s.length) : (s.take (i + 1)).drop i = [s.getD i 0] := by
 rw [show s.getD i 0 = s.getD i default from rfl, take_snoc h, List.drop_left' (by simp; omega)]
theorem sliceS_one {s : Str} {i : Nat} (h : i < s.length) : sliceS true (some i) (some (i + 1)) s = some (.d (.str [s.getD i 0])) := by
 rw [sliceS_in (by omega) (by omega), ch_sl h]
def hexS : Str := [48, 49, 50, 51, 52, 53, 54, 55, 56, 57, 97, 98, 99, 100, 101, 102]
theorem hexS_eq : ([48, 49, 50, 51, 52, 53, 54, 55, 56, 57, 97, 98, 99, 100, 101, 102] : Str) = hexS := rfl
theorem hexS_len : hexS.length = 16 := rfl
theorem hexS_get {i : Nat} (h : i < 16) : hexS.getD i 0 = hexD i := hexD_get h
attribute [local go_sem] hexS_len
theorem c_Quote_lex (s : Str) (hs : s.length ≤ 1048576) : Ans G 96 [vs s] (vs (quoteF s)) := by
 intro st
 have w34 := c_WBf (G := G) st.blks st.toks 34
 refine Acalls.body Tryz.func96 rfl Tryz.ntmps96 (by simp) ?_
 (try with_reducible refine Wk.aw fun _ hqq => ?_); (repeat' (first | ((with_reducible first | refine Wk.hd ?_ | refine Wk.i ?_); simp -implicitDefEqProofs (disch := first | omega | (simp only [go_sem]; try omega)) only [go_sem, seval]) | refine CQ_st (w34) ?_ | with_reducible refine Wk.o ?_)); all_goals (repeat subst hqq)
 refine AW.loopS (fun i : Nat => [(0, vs s), (3, .ptr st.blks.length 0), (4, vint ↑i)]) (fun i => [.tc bT [.ptr st.blks.length 0, .own st.toks.length (byteRows (34 :: (s.take i).flatMap quoteC))]]) (fun i => [(bE, 1, 1 + ((s.take i).flatMap quoteC).length)]) (fun i => i ≤ s.length) (fun i => s.length - i) 0 (by simp -implicitDefEqProofs (disch := first | omega | (simp only [go_sem]; try omega)) only [go_sem, seval] <;> first | rfl | exact ⟨rfl, rfl⟩ | skip) (by simp -implicitDefEqProofs (disch := first | omega | (simp only [go_sem]; try omega)) only [go_sem, seval] <;> first | rfl | exact ⟨rfl, rfl⟩ | skip) (by omega) ?_
 intro i hi
 have h1 := flat_len (s.take i)
 have h2 := quoteC_len (s.getD i 0)
 rw [List.length_take] at h1
 have hfl := flat_snoc (s := s) (i := i)
 by_cases hlt : i < s.length
 · have hfl := hfl hlt
   have hcn := (s.getD i 0).toNat_lt
   have hsl : (s.take i).length ≤ 1048576 := by rw [List.length_take]; omega
   have key : ∀ (a : Str) (n : Nat), a = 34 :: ((s.take i).flatMap quoteC ++ quoteC (s.getD i 0)) → n = a.length → ∀ fr' : Fr, okF fr' [(0, vs s), (3, .ptr st.blks.length 0), (4, vint ↑(i + 1))] →
       ∃ x', Nxt st (fun i : Nat => [(0, vs s), (3, V.ptr st.blks.length 0), (4, vint ↑i)]) (fun i => [.tc bT [.ptr st.blks.length 0, .own st.toks.length (byteRows (34 :: (s.take i).flatMap quoteC))]]) (fun i => [(bE, 1, 1 + ((s.take i).flatMap quoteC).length)]) (fun i => i ≤ s.length) (fun i => s.length - i) i fr' (bldS st.blks st.toks a n) x' := by
     rintro a n rfl rfl fr' h
     refine ⟨i + 1, ⟨h, hlt, by omega, ?_, ?_, ?_, ?_⟩⟩
     · rw [hfl]; exact List.take_of_length_le (by simp)
     · rw [hfl]; refine (List.take_of_length_le (by simp)).trans ?_; simp [bldS]; omega
     · simp [okW, V.within]
     · simp [Blk.within, V.within, V.within.all]
   (try with_reducible refine Wk.aw fun _ hqq => ?_); (repeat' (first | ((with_reducible refine Wk.atX 15 ?_); refine AW.regM (P := Tryz.prog) mx 14 [] (by kernel_rfl) (by kernel_rfl) (by simp -implicitDefEqProofs (disch := first | omega | (simp only [go_sem]; try omega)) only [go_sem, seval, u8wrap, tdiv16, tmod16, hexS_eq, hexS_len, hexS_get, ch_sl]; first | done | exact rfl) (by kernel_rfl) Tryz.call136 rfl rfl (by simp -implicitDefEqProofs (disch := first | omega | (simp only [go_sem]; try omega)) only [go_sem, seval, u8wrap, tdiv16, tmod16, hexS_eq, hexS_len, hexS_get, ch_sl]; first | done | exact rfl) (c_WSs _ _ _ _ _ (by simp only [List.length_cons, List.length_append, List.length_nil]; omega) (by simp only [List.length_cons, List.length_append, List.length_nil]; omega) (by simp) (by simp)) (by simp -implicitDefEqProofs (disch := first | omega | (simp only [go_sem]; try omega)) only [go_sem, seval, u8wrap, tdiv16, tmod16, hexS_eq, hexS_len, hexS_get, ch_sl]; first | done | exact rfl) (exM_nil) ?_) | (with_reducible first | refine Wk.ox ?_ | refine Wk.th ?_ | refine Wk.bl ?_) | ((with_reducible first | refine Wk.hd ?_ | refine Wk.i ?_); simp -implicitDefEqProofs (disch := first | omega | (simp only [go_sem]; try omega)) only [go_sem, seval, u8wrap, tdiv16, tmod16, hexS_eq, hexS_len, hexS_get, ch_sl]) | (refine TQ_s (fun hc => ?_) (fun hc => ?_) <;> try (exfalso; first | omega | contradiction)) | refine CQ_st (c_WBs _ _ _ _ _ (by simp only [List.length_cons, List.length_append, List.length_nil]; omega) (by simp only [List.length_cons, List.length_append, List.length_nil]; omega)) ?_ | refine CQ_st (c_WSs _ _ _ _ _ (by simp only [List.length_cons, List.length_append, List.length_nil]; omega) (by simp only [List.length_cons, List.length_append, List.length_nil]; omega) (by simp) (by simp)) ?_ | with_reducible first | refine Wk.o ?_ | refine Wk.q (by assumption) ?_)); all_goals (repeat subst hqq)
   all_goals first | refine key _ _ ?_ (by simp only [List.length_cons, List.length_append, List.length_nil]; first | rfl | omega) _ (by simp -implicitDefEqProofs (disch := first | omega | (simp only [go_sem]; try omega)) only [go_sem, seval]; try simp) | skip
   all_goals rw [quoteC]
   all_goals (try simp (disch := first | assumption | omega) only [if_pos, if_neg])
   all_goals first
     | (simp only [List.append_assoc, List.cons_append, List.nil_append]; done)
     | rfl
     | (rw [show s.getD i 0 = 34 from u8_of 34 (show ((s.getD i 0).toNat : Int) = 34 from by assumption)] <;> simp)
     | (rw [show s.getD i 0 = 92 from u8_of 92 (show ((s.getD i 0).toNat : Int) = 92 from by assumption)] <;> simp)
 · (try with_reducible refine Wk.aw fun _ hqq => ?_); (repeat' (first | ((with_reducible first | refine Wk.hd ?_ | refine Wk.i ?_); simp -implicitDefEqProofs (disch := first | omega | (simp only [go_sem]; try omega)) only [go_sem, seval]) | (refine TQ_s (fun hc => ?_) (fun hc => ?_) <;> try (exfalso; first | omega | contradiction)) | refine CQ_st (c_WBs _ _ _ _ 34 (by simp only [List.length_cons, List.length_append, List.length_nil]; omega) (by simp only [List.length_cons, List.length_append, List.length_nil]; omega)) ?_ | refine CQ_st (c_bStr _ _ _ _ (by simp only [List.length_cons, List.length_append, List.length_nil]; omega) (by simp)) ?_ | with_reducible refine Wk.ret fun _ _ => ?_ | (refine Wk.fin (by assumption) ?_; refine ⟨?_, rfl⟩) | with_reducible first | refine Wk.o ?_ | refine Wk.q (by assumption) ?_ | refine Wk.sw fun _ hqq => ?_)); all_goals (repeat subst hqq)
   all_goals (refine congrArg (fun b => Out.ret (.d (.str b))) ?_; rw [List.take_of_length_le (by omega)]; simp [quoteF])
end Go.Proofs.YtofbdmdigopaoaaGreatDoor
end
section
set_option maxHeartbeats 8000000
set_option maxRecDepth 20000
namespace Go.Proofs.YtofbdmdigopaoaaGreatDoor
open Go.Abs
variable {G : World → Nat → Prop}
def Ctx.grow0 (c : Ctx) (g n : Nat) : Ctx := { c with tok := c.tok ++ [⟨.slice (some ⟨g, 0, none⟩) 0 n, bE, 1, 0⟩] }
theorem Ext.grow0 (c : Ctx) (g n : Nat) : Ext c (Ctx.grow0 c g n) := ⟨fun _ _ _ h => h, fun _ _ h => h, fun _ t h => ⟨t, getElem?_snoc_left h, rfl, Nat.le_refl _, fun _ => rfl⟩, rfl, rfl⟩
theorem Conf.grow0 {c : Ctx} {w : World} {st : St} (h : Conf c w st) (cs : Array Value) (hm : cs.size ≤ maxLen) : Conf (Ctx.grow0 c w.heap.size cs.size) (w.alloc (.cells cs bE)) { st with toks := st.toks ++ [(bE, 1, 0)] } where
 mulen := h.mulen
 muinj := h.muinj
 mubase := h.mubase
 muH := h.muH
 blk := fun b k B hk hB => let ⟨o, ho, hr⟩ := h.blk b k B hk hB; ⟨o, by rw [heap_alloc_old w _ (h.mult hk)]; exact ho, hr.mono (Ext.grow0 c _ _)⟩
 toklen := by simp [Ctx.grow0, h.toklen]
 tokown := by
   intro id t ht
   rcases getElem?_snoc_cases ht with ht | ⟨_, rfl⟩
   · obtain ⟨h0, hd | ⟨xs, ho, hg⟩⟩ := h.tokown id t ht
     · exact ⟨h0, .inl hd⟩
     · exact ⟨h0, .inr ⟨xs, ho.alloc _, hg⟩⟩
   · refine ⟨by simp, .inr ⟨[], ⟨rfl, .inr ⟨w.heap.size, cs.size, cs, rfl, h.basele, heap_alloc_new w _, Nat.zero_le _, hm, by simp, by simp⟩⟩, fun g hg => ?_⟩⟩
     simp only [Value.ownBlock, Option.some.injEq] at hg
     subst hg
     refine ⟨fun o ho => by simp at ho, fun o _ => h.fresh (Nat.le_refl _) o, fun hmem => ?_⟩
     obtain ⟨i, hi, hk⟩ := List.mem_iff_getElem.1 (show w.heap.size ∈ c.mu from hmem)
     have := h.mult (i := i) (k := w.heap.size) (by rw [List.getElem?_eq_getElem hi]; exact congrArg some hk)
     omega
 tokinj := by
   intro i j s t g hi hj hs ht
   rcases getElem?_snoc_cases hi with hi | ⟨hi', rfl⟩
   · rcases getElem?_snoc_cases hj with hj | ⟨hj', rfl⟩
     · exact h.tokinj i j s t g hi hj hs ht
     · simp only [Value.ownBlock, Option.some.injEq] at ht
       have := (h.tokblk hi hs).2
       omega
   · rcases getElem?_snoc_cases hj with hj | ⟨hj', rfl⟩
     · simp only [Value.ownBlock, Option.some.injEq] at hs
       have := (h.tokblk hj ht).2
       omega
     · omega
 sealed := by
   intro k o' v hv
   have := h.sealed k o' v hv
   rw [World.cell?_alloc_lt w _ _ (World.block_lt_of_cell? w _ this)]
   exact this
 below := h.below.alloc h.basele _
 basele := by
   have := h.basele
   simp only [World.size_alloc, Ctx.grow0]
   omega
theorem c_Grow (st : St) (b n : Nat) (hb : st.blks[b]? = some (.tc bT [.d .nilp, .nils])) (h0 : 0 < n) (hn : n ≤ 281474976710656) : Acalls Tryz.prog G 137 [.ptr b 0, vint ↑n] st
   (fun o s => o = .ret (.tup []) ∧ s = ⟨st.blks.set b (.tc bT [.ptr b 0, .own st.toks.length (byteRows [])]), st.toks ++ [(bE, 1, 0)]⟩) := by
 intro c w cargs hc hG hs hr
 obtain ⟨k, pv, xv, hk, hh, hp, hx⟩ := bld_at hc hb
 have hpv : pv = .pointer none := by
   cases hp with | d _ _ h => ?_
   cases h; rfl
 have hxv : xv = .slice none 0 0 := by cases hx; rfl
 subst hpv hxv
 have ha : cargs = #[.pointer (some ⟨k, 0, none⟩), .int .i64 n] := by
   have r0 := hr 0 (by simp)
   have r1 := hr 1 (by simp)
   simp only [List.getD_cons_zero, List.getD_cons_succ] at r0 r1
   generalize hq : cargs.getD 0 undef = q at r0
   generalize hq1 : cargs.getD 1 undef = q1 at r1
   cases r0 with | ptr _ k' _ hk' => ?_
   rw [hk] at hk'; cases hk'
   cases r1 with | d _ _ r1 => ?_
   cases r1
   have hs2 : cargs.size = 2 := by simpa using hs
   apply Array.ext
   · simpa using hs
   · intro i hi hi2
     match i with
     | 0 => simpa [Array.getD_eq_getD_getElem?, hi] using hq
     | 1 => simpa [Array.getD_eq_getD_getElem?, hi] using hq1
     | i + 2 => omega
 subst ha
 refine (Gr_fresh k n w hh hn h0).mono ?_
 rintro e w' ⟨rfl, cs, hcs, rfl⟩
 have hbk1 : (w.setRow k #[.pointer (some ⟨k, 0, none⟩), .slice none 0 0]).heap[k]? = some (.cells #[.pointer (some ⟨k, 0, none⟩), .slice none 0 0] bT (0, 0)) := setRow_heap w k _ _ _ _ hh
 have hc1 : Conf c (w.setRow k #[.pointer (some ⟨k, 0, none⟩), .slice none 0 0]) (setBlk st b (.tc bT [.ptr b 0, .nils])) :=
   hc.setRow hk hb hh (cs' := [.ptr b 0, .nils]) (by simp) (fun i hi => by
     match i with
     | 0 => exact .ptr _ _ _ hk
     | 1 => exact .nils
     | i + 2 => simp at hi; omega) (.inr rfl)
 rw [show w.setCell ⟨k, 0, none⟩ (.pointer (some ⟨k, 0, none⟩)) = w.setRow k #[.pointer (some ⟨k, 0, none⟩), .slice none 0 0] from setCell_row hh 0 _]
 generalize hw1 : w.setRow k #[.pointer (some ⟨k, 0, none⟩), .slice none 0 0] = w1 at hbk1 hc1
 have hb1 : (setBlk st b (.tc bT [.ptr b 0, .nils])).blks[b]? = some (.tc bT [.ptr b 0, .nils]) := List.getElem?_set_self (List.getElem?_eq_some_iff.1 hb).1
 have hc2 := Conf.grow0 hc1.drew cs hcs
 have hlt : k < w1.drew.heap.size := hc1.drew.mult hk
 have hbk2 : (w1.drew.alloc (.cells cs bE)).heap[k]? = some (.cells #[.pointer (some ⟨k, 0, none⟩), .slice none 0 0] bT (0, 0)) := (heap_alloc_old w1.drew _ hlt).trans hbk1
 have hc3 := hc2.setRow (b := b) (k := k) (B := .tc bT [.ptr b 0, .nils]) (B2 := .tc bT [.ptr b 0, .own st.toks.length (byteRows [])]) (cs' := [.ptr b 0, .own st.toks.length (byteRows [])]) (arr' := #[.pointer (some ⟨k, 0, none⟩), .slice (some ⟨w1.drew.heap.size, 0, none⟩) 0 cs.size]) hk hb1 hbk2 (by simp) (fun i hi => by
     match i with
     | 0 => exact .ptr _ _ _ hk
     | 1 =>
       refine .own _ _ _ ⟨.slice (some ⟨w1.drew.heap.size, 0, none⟩) 0 cs.size, bE, 1, 0⟩ (.sl _ 0 0 cs.size 1 (fun _ _ => undef) [] rfl (Nat.zero_le _) (by simp) (by simp) (by simp)) ?_ (by simp [byteRows]) (by simp [byteRows]) (fun _ => rfl)
       have : st.toks.length = c.tok.length := by rw [← hc.toklen]; simp
       simp only [Ctx.grow0, this]
       simp
     | i + 2 => simp at hi; omega) (.inr rfl)
 have hweq : grownW w1.drew k cs = ((w1.drew.alloc (.cells cs bE)).setRow k #[.pointer (some ⟨k, 0, none⟩), .slice (some ⟨w1.drew.heap.size, 0, none⟩) 0 cs.size]).drew.drew.drew := by
   unfold grownW
   congr 3
   rw [show (w1.drew.alloc (.cells cs bE)).setRow k #[.pointer (some ⟨k, 0, none⟩), .slice (some ⟨w1.drew.heap.size, 0, none⟩) 0 cs.size] = (w1.drew.alloc (.cells cs bE)).setCell ⟨k, 1, none⟩ (.slice (some ⟨w1.drew.heap.size, 0, none⟩) 0 cs.size) from (setCell_row hbk2 1 _).symm]
   have : ((w1.drew.setCell ⟨k, 1, none⟩ (.slice (some ⟨w1.drew.heap.size, 0, none⟩) 0 cs.size)).alloc (.cells cs bE)).heap = ((w1.drew.alloc (.cells cs bE)).setCell ⟨k, 1, none⟩ (.slice (some ⟨w1.drew.heap.size, 0, none⟩) 0 cs.size)).heap := by
     apply Array.ext_getElem?
     intro j
     simp only [World.alloc, World.setCell, Array.getElem?_push, Array.getElem?_modify, Array.size_modify]
     by_cases hj : j = w1.drew.heap.size
     · subst hj; rw [if_pos rfl, if_neg (by omega), if_pos rfl]
     · rw [if_neg hj]
       by_cases hjk : k = j
       · subst hjk; rw [if_pos rfl, if_pos rfl, if_neg hj]
       · rw [if_neg hjk, if_neg hjk, if_neg hj]
   simp only [World.alloc, World.setCell] at this ⊢
   rw [this]
 rw [hweq]
 refine ⟨.ret (.tup []), _, Ctx.grow0 c w1.drew.heap.size cs.size, ⟨rfl, rfl⟩, Ext.grow0 c _ _, ?_, .tup _ _ rfl (by simp)⟩
 have := hc3.drew.drew.drew
 simpa [setBlk, List.set_set] using this
end Go.Proofs.YtofbdmdigopaoaaGreatDoor
end
