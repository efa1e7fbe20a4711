import Derived.Test.YtbcillkajdnljaaGreatDoorV20
set_option linter.all false
section
set_option maxHeartbeats 8000000
set_option maxRecDepth 20000
namespace Go.Proofs.YtbcillkajdnljaaGreatDoor
open Tryz
open Go.Abs
attribute [local irreducible] AW OX GQ bK bO bz aY aA
variable {G:World→Nat→Prop}
def rf_Num (n:Int):b8 G 77 [ai n] (vFld (fInt n)):=by
 intro st;refine aA.start func77 rfl ntmps77 (by simp) fun _ ag=>?_;simp (disch:=omega) only [go_sem,seval,cX ag];(repeat' first|apply cq.l|refine aQ.i ⟨?_,rfl⟩)<;>try subst ag
 rfl
def rf_Str (s:aF):b8 G 80 [vs s] (vFld (fStr s)):=by
 intro st;refine aA.start func80 rfl ntmps80 (by simp) fun _ ag=>?_;simp (disch:=omega) only [go_sem,seval,cX ag];(repeat' first|apply cq.l|refine aQ.i ⟨?_,rfl⟩)<;>try subst ag
 rfl
def rf_Seq (l:List wB):b8 G 76 [vFl l] (vFld (fList l)):=by
 intro st;refine aA.start func76 rfl ntmps76 (by simp) fun _ ag=>?_;simp (disch:=omega) only [go_sem,seval,cX ag];(repeat' first|apply cq.l|refine aQ.i ⟨?_,rfl⟩)<;>try subst ag
 simp only [vFld,wB.aP];rfl
def app_fd (f:wB) (x:List wB) (B:List ec) (K:List (Nat×Nat×Nat)) (h:x.length≤1048576):
  jt (some 4) true true 118 4 56 [f.enc] (lz K.length (x.map wB.enc)) ⟨B,K++k9 118 4 (x.map wB.enc)⟩=some (lz K.length ((x++[f]).map wB.enc),⟨B,K++k9 118 4 ((x++[f]).map wB.enc)⟩):=by
 rw [CZ _ _ _ _ _ _ _ (by omega) (by simp [wB.aP,D.one]) (by simp;omega) (by simp;omega),aaQ];rfl
def rf_Outputs (l:List Otp) (hl:l.length≤1048576):b8 G 78 [.d (.sl (l.map Otp.enc))] (vFld (fList (l.map frOtp))):=by
 intro st;refine aA.start func78 rfl ntmps78 (by simp) fun _ ag=>?_;simp (disch:=omega) only [go_sem,seval,cX ag];all_goals (try subst ag)
 refine AW.zU (fun i:Nat=>[(0,.d (.sl (l.map Otp.enc))),(2,.ptr st.aj.length 0),(3,lz st.toks.length (((l.take i).map frOtp).map wB.enc)),(4,ai ↑i)]) (fun _=>[.cells [ai 0,ai 0,.d (.str []),.bh]]) (fun i=>k9 118 4 (((l.take i).map frOtp).map wB.enc))
  (fun i=>i≤l.length) (fun i=>l.length - i) 0 (by simp (disch:=omega) only [go_sem,seval,List.take_zero,aaI]<;>omega) (by simp) ?_
 intro i hi;by_cases hil:i<l.length
 ·have h1:=fun s=>rf_Str (G:=G) (l.getD i default).name s;have h2:=fun n s=>rf_Num (G:=G) n s;have h3:=fun s=>rf_Seq (G:=G) [fStr (l.getD i default).name,fInt (IntKind.i64.wrap (l.getD i default).digest),fInt (l.getD i default).size] s;simp only [vFl,aaB,aaI] at h3;have hs:(l.take (i+1)).map frOtp=(l.take i).map frOtp++[fList [fStr (l.getD i default).name,fInt (IntKind.i64.wrap (l.getD i default).digest),fInt (l.getD i default).size]]:=by rw [take_sn l i hil,aaQ];rfl
  have ha:=fun f B=>app_fd f ((l.take i).map frOtp) B st.toks (by simp;omega);refine Wk.go fun _ ag=>?_;simp (disch:=first|omega|exact ⟨by kernel_rfl⟩|(simp only [go_sem,aan];try omega)) only [go_sem,seval,cX ag,wd,ha,fld_one,bC (h1 _),bC (h2 _ _),bC (h3 _)];(repeat' first|apply cq.l|refine cE.i fun hc=>?_)<;>try subst ag
  refine cB.i ⟨i+1,⟨by simp (disch:=omega) only [go_sem,seval,hs]<;>omega,?_,?_⟩⟩
  all_goals omega
 ·have he:l.take i=l:=aaO (by omega);have h3:=fun s=>rf_Seq (G:=G) (l.map frOtp) s;rw [he];refine Wk.go fun _ ag=>?_;simp (disch:=omega) only [go_sem,seval,cX ag,bC (h3 _)];(repeat' first|apply cq.l|refine cE.i fun hc=>?_|refine aQ.i ⟨?_,rfl⟩)<;>try subst ag
  rfl
def rf_Tests (l:List Tsr) (hl:l.length≤1048576):b8 G 79 [.d (.sl (l.map Tsr.enc))] (vFld (fList (l.map frTsr))):=by
 intro st;refine aA.start func79 rfl ntmps79 (by simp) fun _ ag=>?_;simp (disch:=omega) only [go_sem,seval,cX ag];all_goals (try subst ag)
 refine AW.zU (fun i:Nat=>[(0,.d (.sl (l.map Tsr.enc))),(2,.ptr st.aj.length 0),(3,lz st.toks.length (((l.take i).map frTsr).map wB.enc)),(4,ai ↑i)]) (fun _=>[.cells [ai 0,ai 0,.d (.str []),.bh]]) (fun i=>k9 118 4 (((l.take i).map frTsr).map wB.enc))
  (fun i=>i≤l.length) (fun i=>l.length - i) 0 (by simp (disch:=omega) only [go_sem,seval,List.take_zero,aaI]<;>omega) (by simp) ?_
 intro i hi;by_cases hil:i<l.length
 ·have h1:=fun s=>rf_Str (G:=G) (l.getD i default).name s;have h2:=fun n s=>rf_Num (G:=G) n s;have h3:=fun s=>rf_Seq (G:=G) [fStr (l.getD i default).name,fInt (l.getD i default).status,fInt (l.getD i default).time] s;simp only [vFl,aaB,aaI] at h3;have hs:(l.take (i+1)).map frTsr=(l.take i).map frTsr++[fList [fStr (l.getD i default).name,fInt (l.getD i default).status,fInt (l.getD i default).time]]:=by rw [take_sn l i hil,aaQ];rfl
  have ha:=fun f B=>app_fd f ((l.take i).map frTsr) B st.toks (by simp;omega);refine Wk.go fun _ ag=>?_;simp (disch:=first|omega|exact ⟨by kernel_rfl⟩|(simp only [go_sem,aan];try omega)) only [go_sem,seval,cX ag,wd,ha,fld_one,bC (h1 _),bC (h2 _ _),bC (h3 _)];(repeat' first|apply cq.l|refine cE.i fun hc=>?_)<;>try subst ag
  refine cB.i ⟨i+1,⟨by simp (disch:=omega) only [go_sem,seval,hs]<;>omega,?_,?_⟩⟩
  all_goals omega
 ·have he:l.take i=l:=aaO (by omega);have h3:=fun s=>rf_Seq (G:=G) (l.map frTsr) s;rw [he];refine Wk.go fun _ ag=>?_;simp (disch:=omega) only [go_sem,seval,cX ag,bC (h3 _)];(repeat' first|apply cq.l|refine cE.i fun hc=>?_|refine aQ.i ⟨?_,rfl⟩)<;>try subst ag
  rfl
def rf_Result (x:Rsl) (g:gRsl x):b8 G 43 [vRsl x] (vFld (frRsl x)):=by
 intro st;have h1:=fun s t=>rf_Str (G:=G) s t;have h2:=fun n s=>rf_Num (G:=G) n s;have h3:=fun s=>rf_Seq (G:=G) [fInt x.status,fInt x.class_,fList (x.gP.map frOtp),fList (x.e6.map frOtp),fList (x.tests.map frTsr),fStr x.child] s;simp only [vFl,aaB,aaI] at h3;have h4:=fun s=>rf_Outputs (G:=G) x.gP g.gP.1 s;have h5:=fun s=>rf_Outputs (G:=G) x.e6 g.e6.1 s;have h6:=fun s=>rf_Tests (G:=G) x.tests g.tests.1 s;refine aA.start func43 rfl ntmps43 (by simp) fun _ ag=>?_;simp (disch:=first|omega|exact ⟨by kernel_rfl⟩|(simp only [go_sem,aan];try omega)) only [go_sem,seval,cX ag,wd,fld_one,bC (h1 _ _),bC (h2 _ _),bC (h3 _),bC (h4 _),bC (h5 _),bC (h6 _)];(repeat' first|apply cq.l|refine aQ.i ⟨?_,rfl⟩)<;>try subst ag
 rfl
def rf_Same (n : Nat) : ∀ a b : List wB, SizeOf.sizeOf a < n → a.length ≤ 1048576 → (∀ x ∈ a, fOk x) → b.length ≤ 1048576 → (∀ x ∈ b, fOk x) → b8 G 75 [vFl a, vFl b] (vb (aN fldEq a b)) := by
  induction n with
  | zero => intro a b h; omega
  | succ n ih =>
    intro a b hn ha ga hb gb st
    refine aA.start func75 rfl ntmps75 (by simp) fun _ ag => ?_
    simp (disch := omega) only [go_sem, seval, cX ag]; (repeat' first | apply cq.l | apply bg.i | refine cE.i fun hc => ?_ | refine aQ.i ⟨?_, rfl⟩) <;> try subst ag
    · refine pI ?_
      cases h : aN fldEq a b
      · rfl
      · exact absurd (listEq_len h) (by omega)
    refine AW.lp (fun i : Nat => [(0, vFl a), (1, vFl b), (5, ai ↑i)]) (fun i => i ≤ a.length ∧ aN fldEq (a.take i) (b.take i) = true) (fun i => a.length - i) 0 (by simp (disch := omega) only [go_sem, seval] <;> omega) (by simp [aN]) ?_
    intro i ⟨hi, he⟩
    by_cases hil : i < a.length
    · have hil2 : i < b.length := by omega
      have m1 := aB hil
      have m2 := aB hil2
      obtain ⟨a1, a2⟩ := (fOk_iff _).1 (ga _ m1)
      obtain ⟨b1, b2⟩ := (fOk_iff _).1 (gb _ m2)
      have hr := fun s => ih (a.getD i default).list (b.getD i default).list (by have := sizeOf_lmem m1; have := sizeOf_fl (a.getD i default); omega) a1 a2 b1 b2 s
      have hq := fldEq_eq (a.getD i default) (b.getD i default)
      refine Wk.go fun _ ag => ?_; simp (disch := first | omega | exact ⟨by kernel_rfl⟩ | (simp only [go_sem, aan]; try omega)) only [go_sem, seval, cX ag, wd, bC (hr _)]; (repeat' first | apply cq.l | apply bg.i | refine cE.i fun hc => ?_ | refine aQ.i ⟨?_, rfl⟩) <;> try subst ag
      all_goals first
        | (refine pI ?_
           cases h : aN fldEq a b
           · rfl
           · have := listEq_not h i hil
             grind)
        | skip
      refine cB.i ⟨i + 1, ⟨by simp (disch := omega) only [go_sem, seval] <;> omega, ?_, ?_⟩⟩
      · refine ⟨by omega, ?_⟩
        rw [listEq_take fldEq a b (by omega) i hil, he]
        grind
      · omega
    · refine Wk.go fun _ ag => ?_; simp (disch := omega) only [go_sem, seval, cX ag]; (repeat' first | apply cq.l | refine cE.i fun hc => ?_ | refine aQ.i ⟨?_, rfl⟩) <;> try subst ag
      refine pI ?_
      obtain rfl : i = a.length := by omega
      rw [aaD, aaO (by omega)] at he
      exact he.symm
def rf_SameResult (a b:Rsl) (ga:gRsl a) (gb:gRsl b):b8 G 20 [vRsl a,vRsl b] (vb (rslEq a b)):=by
 intro st;have h1:=fun s=>rf_Result (G:=G) a ga s;have h2:=fun s=>rf_Result (G:=G) b gb s;have hs:b8 G 42 [vFld (frRsl a),vFld (frRsl b)] (vb (rslEq a b)):=by
  intro st;have h:=fun s=>rf_Same (G:=G) _ [frRsl a] [frRsl b] (Nat.lt_succ_self _) (by simp) (by simp [fOk_Rsl a ga]) (by simp) (by simp [fOk_Rsl b gb]) s;have e:aN fldEq [frRsl a] [frRsl b]=rslEq a b:=by simp [aN,fldEq_Rsl a b ga gb]
  rw [e] at h;simp only [vFl,aaB,aaI] at h;refine aA.start func42 rfl ntmps42 (by simp) fun _ ag=>?_;simp (disch:=omega) only [go_sem,seval,cX ag,fld_one,bC (h _)];(repeat' first|apply cq.l|refine aQ.i ⟨?_,rfl⟩)<;>try subst ag
  rfl
 refine aA.start func20 rfl ntmps20 (by simp) fun _ ag=>?_;simp (disch:=first|omega|exact ⟨by kernel_rfl⟩|(simp only [go_sem,aan];try omega)) only [go_sem,seval,cX ag,wd,bC (h1 _),bC (h2 _),bC (hs _)];(repeat' first|apply cq.l|refine aQ.i ⟨?_,rfl⟩)<;>try subst ag
 rfl
def rf_Same50 (a b : Fnl) (ga : gFnl a) (gb : gFnl b) : b8 G 8 [vFnl a, vFnl b] (vb (fnlEq a b)) := by
  intro st;have ha := ga.jobs.1;have hb := gb.jobs.1;refine aA.start func8 rfl ntmps8 (by simp) fun _ ag => ?_;simp (disch := omega) only [go_sem, seval, cX ag]; (repeat' first | apply cq.l | apply bg.i | refine cE.i fun hc => ?_ | refine aQ.i ⟨?_, rfl⟩) <;> try subst ag
  all_goals first
    | (refine pI ?_
       rw [fnlEq]
       cases h : aN jrsEq a.jobs b.jobs
       · simp
       · have := listEq_len h
         grind)
    | skip
  refine AW.zU (fun i : Nat => [(2, .ptr st.aj.length 0), (3, .ptr (st.aj.length + 1) 0), (5, ai ↑i)]) (fun _ => [.cells (a.enc.map .d), .cells (b.enc.map .d)]) (fun _ => []) (fun i => i ≤ a.jobs.length ∧ aN jrsEq (a.jobs.take i) (b.jobs.take i) = true) (fun i => a.jobs.length - i) 0 ⟨by simp, by simp (disch := first | omega | (simp only [go_sem, aan, aar]; try omega)) only [go_sem, seval]⟩ (by simp [aN]) ?_;intro i ⟨hi, he⟩;by_cases hil : i < a.jobs.length
  · have hil2 : i < b.jobs.length := by omega
    have g1 := ga.jobs.2 _ (aB hil);have g2 := gb.jobs.2 _ (aB hil2);have hr := fun s => rf_SameResult (G := G) _ _ g1.result g2.result s;refine Wk.go fun _ ag => ?_; simp (disch := first | omega | exact ⟨by kernel_rfl⟩ | (simp only [go_sem, aan]; try omega)) only [go_sem, seval, cX ag, wd, bC (hr _)]; (repeat' first | apply cq.l | apply bg.i | refine cE.i fun hc => ?_ | refine aQ.i ⟨?_, rfl⟩) <;> try subst ag
    all_goals first
      | (refine pI ?_
         rw [fnlEq]
         cases h : aN jrsEq a.jobs b.jobs
         · simp
         · have := listEq_not h i hil
           rw [jrsEq] at this
           grind)
      | skip
    refine cB.i ⟨i + 1, ⟨by simp (disch := omega) only [go_sem, seval] <;> omega, ?_, ?_⟩⟩
    · refine ⟨by omega, ?_⟩;rw [listEq_take jrsEq _ _ (by omega) i hil, he, jrsEq];grind
    · omega
  · refine Wk.go fun _ ag => ?_; simp (disch := omega) only [go_sem, seval, cX ag]; (repeat' first | apply cq.l | refine cE.i fun hc => ?_ | refine aQ.i ⟨?_, rfl⟩) <;> try subst ag
    refine pI ?_;obtain rfl : i = a.jobs.length := by omega
    rw [aaD, aaO (by omega)] at he;rw [fnlEq, he];grind
def eq3_Otp0 (s s':aF) (d d' z z':Int):eq3 prog 125 [.d (.str s),.d (.int .u64 d),.d (int z)] [.d (.str s'),.d (.int .u64 d'),.d (int z')]=some (s==s'&&d==d'&&z==z'):=by kernel_rfl
def eq3_Tsr0 (s s':aF) (d d' z z':Int):eq3 prog 128 [.d (.str s),.d (int d),.d (int z)] [.d (.str s'),.d (int d'),.d (int z')]=some (s==s'&&d==d'&&z==z'):=by kernel_rfl
def bin_Otp (op:BinOp) (t:TypeId) (a b:Otp):evalBin prog op t (vOtp a) (vOtp b)=none:=(rfl)
def bin_Tsr (op:BinOp) (t:TypeId) (a b:Tsr):evalBin prog op t (vTsr a) (vTsr b)=none:=(rfl)
def nil_Otp (k:Bool) (a b:Otp):kZ prog .neq 125 k (vOtp a) (vOtp b)=some (.d (.bool (!otpEq a b))):=by
 show (eq3 prog 125 (a.enc.map .d) (b.enc.map .d)).map _=_;rw [Otp.aP,Otp.aP];exact (congrArg _ (eq3_Otp0 ..)).trans rfl
def nil_Tsr (k:Bool) (a b:Tsr):kZ prog .neq 128 k (vTsr a) (vTsr b)=some (.d (.bool (!tsrEq a b))):=by
 show (eq3 prog 128 (a.enc.map .d) (b.enc.map .d)).map _=_;rw [Tsr.aP,Tsr.aP];exact (congrArg _ (eq3_Tsr0 ..)).trans rfl
def sl_EqO (a b:List Otp) (ha:a.length≤1048576) (hb:b.length≤1048576):b8 G 51 [.d (.sl (a.map Otp.enc)),.d (.sl (b.map Otp.enc))] (vb (aN otpEq a b)):=by
 intro st;refine aA.start func51 rfl ntmps51 (by simp) fun _ ag=>?_;simp (disch:=omega) only [go_sem,seval,cX ag];(repeat' first|apply cq.l|apply bg.i|refine cE.i fun hc=>?_|refine aQ.i ⟨?_,rfl⟩)<;>try subst ag
 ·refine pI ?_;cases h:aN otpEq a b
  ·rfl
  ·exact absurd (listEq_len h) (by omega)
 refine AW.lp (fun i:Nat=>[(0,.d (.sl (a.map Otp.enc))),(1,.d (.sl (b.map Otp.enc))),(12,ai ↑a.length),(13,ai ↑i)]) (fun i=>i≤a.length∧aN otpEq (a.take i) (b.take i)=true) (fun i=>a.length - i) 0 (by simp (disch:=omega) only [go_sem,seval]<;>omega) (by simp [aN]) ?_;intro i ⟨hi,he⟩;by_cases hil:i<a.length
 ·have hil2:i<b.length:=by omega
  refine Wk.go fun _ ag=>?_;simp (disch:=first|omega|exact ⟨by kernel_rfl⟩|(simp only [go_sem,aan];try omega)) only [go_sem,seval,cX ag,wd,bin_Otp,nil_Otp];(repeat' first|apply cq.l|apply bg.i|refine cE.i fun hc=>?_|refine aQ.i ⟨?_,rfl⟩)<;>try subst ag
  ·refine pI ?_;cases h:aN otpEq a b
   ·rfl
   ·have:=listEq_not h i hil;grind
  ·refine cB.i ⟨i+1,⟨by simp (disch:=omega) only [go_sem,seval]<;>omega,?_,?_⟩⟩
   ·refine ⟨by omega,?_⟩;rw [listEq_take otpEq a b (by omega) i hil,he];grind
   ·omega
 ·refine Wk.go fun _ ag=>?_;simp (disch:=omega) only [go_sem,seval,cX ag];(repeat' first|apply cq.l|refine cE.i fun hc=>?_|refine aQ.i ⟨?_,rfl⟩)<;>try subst ag
  refine pI ?_;obtain rfl:i=a.length:=by omega
  rw [aaD,aaO (by omega)] at he;exact he.symm
def sl_EqT (a b:List Tsr) (ha:a.length≤1048576) (hb:b.length≤1048576):b8 G 52 [.d (.sl (a.map Tsr.enc)),.d (.sl (b.map Tsr.enc))] (vb (aN tsrEq a b)):=by
 intro st;refine aA.start func52 rfl ntmps52 (by simp) fun _ ag=>?_;simp (disch:=omega) only [go_sem,seval,cX ag];(repeat' first|apply cq.l|apply bg.i|refine cE.i fun hc=>?_|refine aQ.i ⟨?_,rfl⟩)<;>try subst ag
 ·refine pI ?_;cases h:aN tsrEq a b
  ·rfl
  ·exact absurd (listEq_len h) (by omega)
 refine AW.lp (fun i:Nat=>[(0,.d (.sl (a.map Tsr.enc))),(1,.d (.sl (b.map Tsr.enc))),(12,ai ↑a.length),(13,ai ↑i)]) (fun i=>i≤a.length∧aN tsrEq (a.take i) (b.take i)=true) (fun i=>a.length - i) 0 (by simp (disch:=omega) only [go_sem,seval]<;>omega) (by simp [aN]) ?_;intro i ⟨hi,he⟩;by_cases hil:i<a.length
 ·have hil2:i<b.length:=by omega
  refine Wk.go fun _ ag=>?_;simp (disch:=first|omega|exact ⟨by kernel_rfl⟩|(simp only [go_sem,aan];try omega)) only [go_sem,seval,cX ag,wd,bin_Tsr,nil_Tsr];(repeat' first|apply cq.l|apply bg.i|refine cE.i fun hc=>?_|refine aQ.i ⟨?_,rfl⟩)<;>try subst ag
  ·refine pI ?_;cases h:aN tsrEq a b
   ·rfl
   ·have:=listEq_not h i hil;grind
  ·refine cB.i ⟨i+1,⟨by simp (disch:=omega) only [go_sem,seval]<;>omega,?_,?_⟩⟩
   ·refine ⟨by omega,?_⟩;rw [listEq_take tsrEq a b (by omega) i hil,he];grind
   ·omega
 ·refine Wk.go fun _ ag=>?_;simp (disch:=omega) only [go_sem,seval,cX ag];(repeat' first|apply cq.l|refine cE.i fun hc=>?_|refine aQ.i ⟨?_,rfl⟩)<;>try subst ag
  refine pI ?_;obtain rfl:i=a.length:=by omega
  rw [aaD,aaO (by omega)] at he;exact he.symm
def o_same (a b:Rsl) (ga:gRsl a) (gb:gRsl b):b8 G 31 [vRsl a,vRsl b] (vb (rslEq a b)):=by
 intro st;have h1:=fun s=>sl_EqO (G:=G) a.gP b.gP ga.gP.1 gb.gP.1 s;have h2:=fun s=>sl_EqO (G:=G) a.e6 b.e6 ga.e6.1 gb.e6.1 s;have h3:=fun s=>sl_EqT (G:=G) a.tests b.tests ga.tests.1 gb.tests.1 s;refine aA.start func31 rfl ntmps31 (by simp) fun _ ag=>?_;simp (disch:=omega) only [go_sem,seval,cX ag,bC (h1 _),bC (h2 _),bC (h3 _)];(repeat' first|apply cq.l|apply bg.i|refine cE.i fun hc=>?_|refine aQ.i ⟨?_,rfl⟩)<;>try subst ag
 all_goals
  refine pI ?_
  rw [rslEq]
  grind
def o_Same1 (a b:Jrs) (ga:gJrs a) (gb:gJrs b):b8 G 30 [vJrs a,vJrs b] (vb (jrsEq a b)):=by
 intro st;have h1:=fun s=>o_same (G:=G) a.result b.result ga.result gb.result s;refine aA.start func30 rfl ntmps30 (by simp) fun _ ag=>?_;simp (disch:=omega) only [go_sem,seval,cX ag,bC (h1 _)];(repeat' first|apply cq.l|apply bg.i|refine cE.i fun hc=>?_|refine aQ.i ⟨?_,rfl⟩)<;>try subst ag
 all_goals
  refine pI ?_
  rw [jrsEq]
  grind
def sl_EqJ (a b:List Jrs) (ha:a.length≤1048576∧∀ y∈a,gJrs y) (hb:b.length≤1048576∧∀ y∈b,gJrs y):
  b8 G 29 [.d (.sl (a.map Jrs.enc)),.d (.sl (b.map Jrs.enc)),.jE 30 []] (vb (aN jrsEq a b)):=by
 intro st
 have h1:=ha.1
 have h2:=hb.1
 refine aA.start func29 rfl ntmps29 (by simp) fun _ ag=>?_
 simp (disch:=omega) only [go_sem,seval,cX ag];(repeat' first|apply cq.l|apply bg.i|refine cE.i fun hc=>?_|refine aQ.i ⟨?_,rfl⟩)<;>try subst ag
 ·refine pI ?_
  cases h:aN jrsEq a b
  ·rfl
  ·exact absurd (listEq_len h) (by omega)
 refine AW.lp (fun i:Nat=>[(1,.d (.sl (b.map Jrs.enc))),(2,.jE 30 []),(15,.d (.sl (a.map Jrs.enc))),(16,ai ↑a.length),(17,ai ↑i)]) (fun i=>i≤a.length∧aN jrsEq (a.take i) (b.take i)=true) (fun i=>a.length - i) 0 (by simp (disch:=omega) only [go_sem,seval]<;>omega) (by simp [aN]) ?_
 intro i ⟨hi,he⟩
 by_cases hil:i<a.length
 ·have hil2:i<b.length:=by omega
  have hv:=fun s=>o_Same1 (G:=G) _ _ (ha.2 _ (aB hil)) (hb.2 _ (aB hil2)) s
  refine Wk.go fun _ ag=>?_;simp (disch:=omega) only [go_sem,seval,cX ag,bC (hv _)];(repeat' first|apply cq.l|apply bg.i|refine cE.i fun hc=>?_|refine aQ.i ⟨?_,rfl⟩)<;>try subst ag
  ·refine pI ?_
   cases h:aN jrsEq a b
   ·rfl
   ·have:=listEq_not h i hil
    grind
  ·refine cB.i ⟨i+1,⟨by simp (disch:=omega) only [go_sem,seval]<;>omega,?_,?_⟩⟩
   ·refine ⟨by omega,?_⟩
    rw [listEq_take jrsEq a b (by omega) i hil,he]
    grind
   ·omega
 ·refine Wk.go fun _ ag=>?_;simp (disch:=omega) only [go_sem,seval,cX ag];(repeat' first|apply cq.l|refine cE.i fun hc=>?_|refine aQ.i ⟨?_,rfl⟩)<;>try subst ag
  refine pI ?_
  obtain rfl:i=a.length:=by omega
  rw [aaD,aaO (by omega)] at he
  exact he.symm
def o_Same (a b:Fnl) (ga:gFnl a) (gb:gFnl b):b8 G 11 [vFnl a,vFnl b] (vb (fnlEq a b)):=by
 intro st;have h1:=fun s=>sl_EqJ (G:=G) a.jobs b.jobs ga.jobs gb.jobs s;refine aA.start func11 rfl ntmps11 (by simp) fun _ ag=>?_;simp (disch:=omega) only [go_sem,seval,cX ag,bC (h1 _)];(repeat' first|apply cq.l|apply bg.i|refine cE.i fun hc=>?_|refine aQ.i ⟨?_,rfl⟩)<;>try subst ag
 all_goals
  refine pI ?_
  rw [fnlEq]
  grind
section
variable (e sz by_:Nat) (B:List ec) (K U:List (Nat×Nat×Nat)) (a:Nat×Nat×Nat) (x y:List D) (es fs:List (List D))
def ap3a (h0:0<sz) (h1:(es.length+1)*by_≤140737488355328) (h2:es.length+1≤9223372036854775807):
  jt (some sz) true true e sz by_ [x] (.own K.length es) ⟨B,K++((e,sz,es.length)::U)⟩=some (.own K.length (es++[x]),⟨B,K++((e,sz,es.length+1)::U)⟩):=by
 have hm:maxLen=9223372036854775807:=by decide
 simp [jt,rS,hm,h0,h1,h2]
def ap3b (h0:0<sz) (h1:(es.length+1)*by_≤140737488355328) (h2:es.length+1≤9223372036854775807) (hl:es.length=fs.length):
  jt (some sz) true true e sz by_ [x] (lz (K.length+1) es) ⟨B,K++(a::(k9 e sz es++k9 e sz fs))⟩=some (lz (K.length+1) (es++[x]),⟨B,K++(a::(k9 e sz (es++[x])++k9 e sz fs))⟩):=by
 have hm:maxLen=9223372036854775807:=by decide
 cases es with
 |nil=>
  obtain rfl:fs=[]:=by cases fs<;>simp_all
  simp only [aaA,aaL,Nat.one_mul] at h1 h2
  simp [jt,lz,k9,rS,hm,h0,h1]
 |cons r es=>
  cases fs with
  |nil=>simp at hl
  |cons s fs=>
   simp only [aav] at h1 h2
   simp [jt,lz,k9,rS,hm,h0,h1,h2]
def ap3c (h0:0<sz) (h1:(fs.length+1)*by_≤140737488355328) (h2:fs.length+1≤9223372036854775807):
  jt (some sz) true true e sz by_ [y] (lz (K.length+2) fs) ⟨B,K++(a::(k9 e sz (es++[x])++k9 e sz fs))⟩=some (lz (K.length+2) (fs++[y]),⟨B,K++(a::(k9 e sz (es++[x])++k9 e sz (fs++[y])))⟩):=by
 have hm:maxLen=9223372036854775807:=by decide
 have he:∃ t,k9 e sz (es++[x])=[t]:=by cases es<;>exact ⟨_,rfl⟩
 obtain ⟨t,ht⟩:=he
 rw [ht]
 cases fs with
 |nil=>
  simp only [aaA,aaL,Nat.one_mul] at h1 h2
  simp [jt,lz,k9,rS,hm,h0,h1]
 |cons r fs=>
  simp only [aav] at h1 h2
  simp [jt,lz,k9,rS,hm,h0,h1,h2,List.set_append]
end
def lz_w {N M id:Nat} (es:List (List D)) (h:id<M):(lz id es).within N M=true:=by cases es<;>simp [lz,V.within,h]
def lzT_1 (e sz:Nat) (es:List (List D)) (x:List D):(k9 e sz (es++[x])).length=1:=by cases es<;>rfl
def zip_sn (ps:List Jb) (ss:List PC) (i:Nat) (h1:i<ps.length) (h2:i<ss.length):(ps.zip ss).take (i+1)=(ps.zip ss).take i++[(ps.getD i default,ss.getD i default)]:=by
 have hz:i< (ps.zip ss).length:=by rw [List.length_zip];omega
 rw [take_sn _ i hz,getD_eq hz,getD_eq h1,getD_eq h2,List.getElem_zip]
def ofJ (z:Jb×PC):Jrs:=⟨z.1.id,z.2.result⟩
def ofS (z:Jb×PC):Int:=z.2.result.status
def ofE (z:Jb×PC):Int:=effF z.1 z.2.result.status
def encIs_snoc (l:List Int) (n:Int):n7 (l++[n])=n7 l++[[int n]]:=by simp [n7]
def o_Of (r:Rn) (g:gRn r):b8 G 9 [vRn r] (vFnl (ofF r)):=by
 intro st;have hj:=g.jobs.1;have hp:=g.plan.jobs.1;have hO:=sl_ContJ (G:=G) r.jobs hj;rw [ofF];by_cases ho:opnF r.jobs=true
 ·rw [if_pos ho];rw [ho] at hO;refine aA.start func9 rfl ntmps9 (by simp) fun _ ag=>?_;simp (disch:=omega) only [go_sem,seval,cX ag,bC (hO _)];(repeat' first|apply cq.l|refine aQ.i ⟨?_,rfl⟩)<;>try subst ag
  rfl
 rw [if_neg ho];rw [Bool.not_eq_true] at ho;rw [ho] at hO;generalize hz:r.plan.jobs.zip r.jobs=zs;have hzl:zs.length≤r.plan.jobs.length∧zs.length≤r.jobs.length∧(zs.length=r.plan.jobs.length∨zs.length=r.jobs.length):=by rw [←hz,List.length_zip];omega
 refine aA.start func9 rfl ntmps9 (by simp) fun _ ag=>?_;simp (disch:=omega) only [go_sem,seval,cX ag,bC (hO _)];(repeat' apply cq.l)<;>try subst ag
 refine AW.token' (st.aj.length+2) 1 56 7 (cs:=[ai 0,.bh]) (by simp) rfl (by omega) (st':=⟨st.aj++[.cells (r.enc.map .d),.cells [ai 0,.bh],.cells [ai 0,.own st.toks.length []]],st.toks++[(56,7,0)]⟩) (by simp) ?_;refine AW.zU (fun i:Nat=>[(1,.ptr st.aj.length 0),(2,.ptr (st.aj.length+1) 0),(3,.ptr (st.aj.length+2) 0),(4,lz (st.toks.length+1) (n7 ((zs.take i).map ofS))),(5,lz (st.toks.length+2) (n7 ((zs.take i).map ofE))),
   (15,.d (.sl (r.plan.jobs.map Jb.enc))),(16,ai ↑r.plan.jobs.length),(17,ai ↑i)])
  (fun i=>[.cells (r.enc.map .d),.cells [ai 0,.bh],.cells [ai 0,.own st.toks.length (((zs.take i).map ofJ).map Jrs.enc)]])
  (fun i=>(56,7,i)::(k9 3 1 (n7 ((zs.take i).map ofS))++k9 3 1 (n7 ((zs.take i).map ofE)))) (fun i=>i≤zs.length) (fun i=>zs.length - i) 0 ⟨by simp [lz,k9,n7],by simp (disch:=first|omega|(simp only [go_sem,aan,aar];try omega)) only [go_sem,seval];exact ⟨rfl,rfl⟩⟩ (by simp) ?_
 intro i hi;by_cases hil:i<zs.length
 ·have h1:i<r.plan.jobs.length:=by omega
  have h2:i<r.jobs.length:=by omega
  have g1:=g.jobs.2 _ (aB h2);have hc:=fun s=>o_copied (G:=G) _ g1.result s;have he:=fun s=>o_effective (G:=G) (r.plan.jobs.getD i default) (r.jobs.getD i default).result.status s;have hs:=zip_sn r.plan.jobs r.jobs i h1 h2;rw [hz] at hs;have hlen:(zs.take i).length=i:=by rw [aan];omega
  have hrow:(D.str (r.plan.jobs.getD i default).id::(r.jobs.getD i default).result.enc)=(ofJ (r.plan.jobs.getD i default,r.jobs.getD i default)).enc:=rfl;have eS:n7 ((zs.take (i+1)).map ofS)=n7 ((zs.take i).map ofS)++[[int (r.jobs.getD i default).result.status]]:=by rw [hs,aaQ,←encIs_snoc];rfl
  have eE:n7 ((zs.take (i+1)).map ofE)=n7 ((zs.take i).map ofE)++[[int (effF (r.plan.jobs.getD i default) (r.jobs.getD i default).result.status)]]:=by rw [hs,aaQ,←encIs_snoc];rfl
  have eJ:((zs.take (i+1)).map ofJ).map Jrs.enc=((zs.take i).map ofJ).map Jrs.enc++[D.str (r.plan.jobs.getD i default).id::(r.jobs.getD i default).result.enc]:=by rw [hs,aaQ,aaQ];rfl
  have aJ:∀ B U,Bt prog (some (56,7,120)) (some (D.sl [D.str (r.plan.jobs.getD i default).id::(r.jobs.getD i default).result.enc])) (V.own st.toks.length (((zs.take i).map ofJ).map Jrs.enc)) ⟨B,st.toks++(56,7,i)::U⟩=
    some (V.own st.toks.length (((zs.take (i+1)).map ofJ).map Jrs.enc),⟨B,st.toks++(56,7,i+1)::U⟩):=fun B U=>by
   have h:=ap3a 56 7 120 B st.toks U (D.str (r.plan.jobs.getD i default).id::(r.jobs.getD i default).result.enc) (((zs.take i).map ofJ).map Jrs.enc) (by omega) (by simp only [aaC,hlen];omega) (by simp only [aaC,hlen];omega)
   simp only [aaC,hlen] at h
   rw [eJ,mV,(by kernel_rfl:dy prog 56=some 7),rowsLen_Jrs,hrow,show dA 7 [(ofJ (r.plan.jobs.getD i default,r.jobs.getD i default)).enc]=true by rw [Jrs.aP];rfl,←hrow]
   exact h
  have aS:∀ B a,jt (some 1) true true 3 1 8 [[int (r.jobs.getD i default).result.status]] (lz (st.toks.length+1) (n7 ((zs.take i).map ofS))) ⟨B,st.toks++a::(k9 3 1 (n7 ((zs.take i).map ofS))++k9 3 1 (n7 ((zs.take i).map ofE)))⟩=
    some (lz (st.toks.length+1) (n7 ((zs.take (i+1)).map ofS)),⟨B,st.toks++a::(k9 3 1 (n7 ((zs.take (i+1)).map ofS))++k9 3 1 (n7 ((zs.take i).map ofE)))⟩):=fun B a=>by
   rw [eS]
   exact ap3b _ _ _ _ _ _ _ _ _ (by omega) (by rw [encIs_len,aaC,hlen];omega) (by rw [encIs_len,aaC,hlen];omega) (by rw [encIs_len,encIs_len,aaC,aaC])
  have aE:∀ B a,jt (some 1) true true 3 1 8 [[int (effF (r.plan.jobs.getD i default) (r.jobs.getD i default).result.status)]] (lz (st.toks.length+2) (n7 ((zs.take i).map ofE))) ⟨B,st.toks++a::(k9 3 1 (n7 ((zs.take (i+1)).map ofS))++k9 3 1 (n7 ((zs.take i).map ofE)))⟩=
    some (lz (st.toks.length+2) (n7 ((zs.take (i+1)).map ofE)),⟨B,st.toks++a::(k9 3 1 (n7 ((zs.take (i+1)).map ofS))++k9 3 1 (n7 ((zs.take (i+1)).map ofE)))⟩):=fun B a=>by
   rw [eS,eE]
   exact ap3c _ _ _ _ _ _ _ _ _ _ (by omega) (by rw [encIs_len,aaC,hlen];omega) (by rw [encIs_len,aaC,hlen];omega)
  refine Wk.go fun _ ag=>?_;simp (disch:=omega) only [go_sem,seval,cX ag,bC (hc _),bC (he _),aJ,aS,aE];(repeat' first|apply cq.l|refine cE.i fun hc=>?_)<;>try subst ag
  have wS:(k9 3 1 (n7 ((zs.take (i+1)).map ofS))).length=1:=by rw [eS];exact lzT_1 ..
  have wE:(k9 3 1 (n7 ((zs.take (i+1)).map ofE))).length=1:=by rw [eE];exact lzT_1 ..
  have wT:List.take 2 (k9 3 1 (n7 ((zs.take (i+1)).map ofS))++k9 3 1 (n7 ((zs.take (i+1)).map ofE)))=k9 3 1 (n7 ((zs.take (i+1)).map ofS))++k9 3 1 (n7 ((zs.take (i+1)).map ofE)):=
   aaO (by rw [aax,wS,wE];omega)
  refine cB.i ⟨i+1,⟨by simp (disch:=first|omega|(simp only [go_sem,aan,aar];try omega)) only [go_sem,seval,hlen,wS,wE,lz_w,wT];omega,?_,?_⟩⟩
  all_goals omega
 ·have hx:zs.take i=zs:=aaO (by omega);obtain rfl:i=zs.length:=by omega
  rw [hx];have ht:=o_total (G:=G) (zs.map ofS) (zs.map ofE) (by rw [aaC];omega) (by rw [aaC];omega);refine Wk.go fun _ ag=>?_;simp (disch:=omega) only [go_sem,seval,cX ag,bC (ht _)];(repeat' first|apply cq.l|apply bg.i|refine cE.i fun hc=>?_|refine aQ.i ⟨?_,rfl⟩)<;>try subst ag
  all_goals rfl
def app_jr (f:Jrs) (x:List Jrs) (B:List ec) (K:List (Nat×Nat×Nat)) (h:x.length≤1048576):
  jt (some 7) true true 56 7 120 [f.enc] (lz K.length (x.map Jrs.enc)) ⟨B,K++k9 56 7 (x.map Jrs.enc)⟩=some (lz K.length ((x++[f]).map Jrs.enc),⟨B,K++k9 56 7 ((x++[f]).map Jrs.enc)⟩):=by
 rw [CZ _ _ _ _ _ _ _ (by omega) (by simp) (by simp;omega) (by simp;omega),aaQ];rfl
def rowsOK_Jrs (f:Jrs):dA 7 [f.enc]=true:=by rw [Jrs.aP];rfl
def stJ (l:List PC) (j:Jb):Option Jrs:=(stF l j.id).map fun s=>⟨s.id,s.result⟩
def rf_Of (r:Rn) (g:gRn r):b8 G 10 [vRn r] (vFnl (refOfF r)):=by
 intro st;have hj:=g.jobs.1;have hp:=g.plan.jobs.1;have hD:=rf_Done (G:=G) r hj;rw [refOfF];by_cases ho:opnF r.jobs=true
 ·rw [if_pos ho];rw [ho] at hD;refine aA.start func10 rfl ntmps10 (by simp) fun _ ag=>?_;simp (disch:=omega) only [go_sem,seval,cX ag,bC (hD _)];(repeat' first|apply cq.l|refine aQ.i ⟨?_,rfl⟩)<;>try subst ag
  rfl
 rw [if_neg ho];rw [Bool.not_eq_true] at ho;rw [ho] at hD;have hO:outF r=r.plan.jobs.filterMap (stJ r.jobs):=rfl;rw [hO];refine aA.start func10 rfl ntmps10 (by simp) fun _ ag=>?_;simp (disch:=omega) only [go_sem,seval,cX ag,bC (hD _)];(repeat' apply cq.l)<;>try subst ag
 refine AW.zU (fun i:Nat=>[(1,.ptr st.aj.length 0),(2,.ptr (st.aj.length+1) 0),(3,lz st.toks.length (((r.plan.jobs.take i).filterMap (stJ r.jobs)).map Jrs.enc)),(4,ai ↑i)]) (fun _=>[.cells (r.enc.map .d),.cells [ai 0,.bh]])
  (fun i=>k9 56 7 (((r.plan.jobs.take i).filterMap (stJ r.jobs)).map Jrs.enc)) (fun i=>i≤r.plan.jobs.length) (fun i=>r.plan.jobs.length - i) 0 (by simp (disch:=omega) only [go_sem,seval,List.take_zero,List.filterMap_nil,aaI]<;>omega) (by simp) ?_
 intro i hi;by_cases hil:i<r.plan.jobs.length
 ·have hx:=rf_Find (G:=G) r hj (r.plan.jobs.getD i default).id;have hn:=take_sn r.plan.jobs i hil;have hlen:((r.plan.jobs.take i).filterMap (stJ r.jobs)).length≤1048576:=abj (List.length_filterMap_le _ _) (by rw [aan];omega);have ha:=fun f B=>app_jr f ((r.plan.jobs.take i).filterMap (stJ r.jobs)) B st.toks hlen;refine Wk.go fun _ ag=>?_;simp (disch:=omega) only [go_sem,seval,cX ag];(repeat' refine cE.i fun hc=>?_)<;>try subst ag
  refine AW.regE (P:=prog) mx [(0,13),(3,13),(7,13),(8,13)] (by kernel_rfl) fun _ ag=>?_;simp (disch:=omega) only [go_sem,seval,cX ag,bC (hx _)];(repeat' apply cq.l)<;>try subst ag
  refine qc.i (QE.i (exE_l (by rfl) (exE_l (by rfl) (exE_l (by rfl) (exE_c (yN.i hx (by rfl) call27 (by rfl) (by rfl) (by simp (disch:=first|omega|(simp only [go_sem,aan,aar];try omega)) only [go_sem,seval];try exact rfl) (by simp (disch:=first|omega|(simp only [go_sem,aan,aar];try omega)) only [go_sem,seval];try exact rfl)) exE_nil)))) ?_);refine kQ fun _ ag=>?_;cases hf:stF r.jobs (r.plan.jobs.getD i default).id with
  |none=>
   have hs:(r.plan.jobs.take (i+1)).filterMap (stJ r.jobs)=(r.plan.jobs.take i).filterMap (stJ r.jobs):=by
    rw [hn,List.filterMap_append];simp only [List.filterMap_cons,stJ,hf,Option.map_none,List.filterMap_nil,aaM]
   simp (disch:=omega) only [go_sem,seval,cX ag,hf,Option.getD_none,Option.isSome_none];(repeat' first|apply cq.l|apply cB.o)<;>try subst ag
   refine cB.i ⟨i+1,⟨by simp (disch:=omega) only [go_sem,seval,hs]<;>omega,?_,?_⟩⟩
   all_goals omega
  |some s=>
   have hs:(r.plan.jobs.take (i+1)).filterMap (stJ r.jobs)=(r.plan.jobs.take i).filterMap (stJ r.jobs)++[⟨s.id,s.result⟩]:=by
    rw [hn,List.filterMap_append];simp only [List.filterMap_cons,stJ,hf,aaJ,List.filterMap_nil]
   have ha:=fun B=>ha ⟨s.id,s.result⟩ B
   rw [show (⟨s.id,s.result⟩:Jrs).enc=D.str s.id::s.result.enc from rfl] at ha
   have ro:=rowsOK_Jrs ⟨s.id,s.result⟩
   rw [show (⟨s.id,s.result⟩:Jrs).enc=D.str s.id::s.result.enc from rfl] at ro
   simp (disch:=omega) only [go_sem,seval,cX ag,hf,aaS,Option.isSome_some,ha,ro];(repeat' first|apply cq.l|apply cB.o)<;>try subst ag
   refine cB.i ⟨i+1,⟨by simp (disch:=omega) only [go_sem,seval,hs]<;>omega,?_,?_⟩⟩
   all_goals omega
 ·have hx:r.plan.jobs.take i=r.plan.jobs:=aaO (by omega);rw [hx];have hl:(r.plan.jobs.filterMap (stJ r.jobs)).length≤1048576:=abj (List.length_filterMap_le _ _) hp;have hs:=rf_Status (G:=G) r.plan hp _ hl;refine Wk.go fun _ ag=>?_;simp (disch:=omega) only [go_sem,seval,cX ag,bC (hs _)];(repeat' first|apply cq.l|refine cE.i fun hc=>?_|refine aQ.i ⟨?_,rfl⟩)<;>try subst ag
  rfl
def l_Great49 (r:Rn) (g:gRn r) (st:St):Ly prog G 4 [vRn r] st vb:=by
 have h1:=g.jobs.1;have h2:=g.times.1;have hg:=fun s=>l_Great19 (G:=G) r.plan g.plan s;unfold Ly;refine aA.start func4 rfl ntmps4 (by simp) fun _ ag=>?_;simp (disch:=omega) only [go_sem,seval,cX ag,wr,yT (hg _)];(repeat' first|apply cq.l|apply bg.i|refine cE.i fun hc=>?_|refine aQ.i ⟨?_,rfl⟩|refine fB.i fun j=>?_)<;>try subst ag
 all_goals first|exact ⟨_,rfl⟩|skip
 all_goals
  refine AW.zU (fun i:Nat=>[(1,.ptr st.aj.length 0),(3,ai ↑i)]) (fun _=>[.cells (r.enc.map .d)]) (fun _=>[]) (fun i=>i≤r.jobs.length) (fun i=>r.jobs.length - i) 0 ⟨by simp,by simp (disch:=first|omega|(simp only [go_sem,aan,aar];try omega)) only [go_sem,seval]⟩ (by simp) ?_
  intro i hi
  by_cases hil:i<r.jobs.length
 ·have hj:=g.jobs.2 _ (aB hil);generalize r.jobs.getD i default=j at hj;have j1:=hj.attempts.1;have j2:=hj.gate.yes.1;have j3:=hj.gate.spec.xF.1;have j4:=hj.result.e6.1;have j5:=hj.result.gP.1;have j6:=hj.result.tests.1;refine Wk.go fun _ ag=>?_;simp (disch:=omega) only [go_sem,seval,cX ag];(repeat' first|apply cq.l|apply bg.i|refine cE.i fun hc=>?_|refine aQ.i ⟨?_,rfl⟩)<;>try subst ag
  all_goals first|exact ⟨_,rfl⟩|skip
  refine cB.i ⟨i+1,⟨by simp (disch:=omega) only [go_sem,seval]<;>omega,?_,?_⟩⟩
  all_goals omega
 ·refine Wk.go fun _ ag=>?_;simp (disch:=omega) only [go_sem,seval,cX ag];(repeat' first|apply cq.l|refine cE.i fun hc=>?_|refine aQ.i ⟨?_,rfl⟩)<;>try subst ag
  all_goals exact ⟨_,rfl⟩
def gFnl_of (r:Rn) (g:gRn r):gFnl (ofF r):=by
 rw [ofF];split
 ·exact ⟨by simp [iI],by simp,by simp⟩
 refine ⟨?_,?_,fun y hy=>?_⟩
 ·simp only [totF,iI];split
  ·omega
  ·split<;>omega
 ·have:=g.jobs.1;simp only [aaC,List.length_zip];omega
 ·obtain ⟨z,hz,rfl⟩:=abm.1 hy;have hm:=List.of_mem_zip hz;exact ⟨(g.plan.jobs.2 _ hm.1).id,(g.jobs.2 _ hm.2).result⟩
def l_OutcomeOf (hlv:b8 G 7 [] (vb true)) (ga:GA G) (gm:GM G) (r:Rn) (g:gRn r) (sp:sPln r.plan) (a b:Fnl) (gA:gFnl a) (gB:gFnl b):
  b8 G 3 [vRn r,vFnl a,vFnl b] (vb true):=by
 intro st
 have hg:=fun s=>l_Great49 (G:=G) r g s
 have h1:=fun s=>l_great50 (G:=G) a.jobs gA.jobs s
 have h2:=fun s=>l_great50 (G:=G) b.jobs gB.jobs s
 have h3:=fun s=>r_Valid (G:=G) ga gm r g sp s
 have h4:=o_Of (G:=G) r g
 have h5:=rf_Of (G:=G) r g
 have h6:=rf_Same50 (G:=G) (ofF r) (ofF r) (gFnl_of r g) (gFnl_of r g)
 have h7:=rf_Same50 (G:=G) a b gA gB
 have h8:=o_Same (G:=G) a b gA gB
 have h9:=o_Same (G:=G) a a gA gA
 rw [fnlEq_self] at h6 h9
 by_cases hv:r.jobs.map PC.id=r.plan.jobs.map Jb.id∧(r.plan.jobs.map Jb.id).Nodup
 ·rw [of_eq r hv.1 hv.2] at h5
  refine aA.start func3 rfl ntmps3 (by simp) fun _ ag=>?_
  simp (disch:=omega) only [go_sem,seval,cX ag,wr,yT (hg _),yT (h1 _),yT (h2 _),yT (h3 _),bC (hlv _)];(repeat' first|apply cq.l|apply bg.i|refine cE.i fun hc=>?_|refine aQ.i ⟨?_,rfl⟩|refine fB.i fun j=>?_)<;>try subst ag
  all_goals first|rfl|skip
  clear hg h1 h2 h3
  refine Wk.go fun _ ag=>?_;simp (disch:=first|exact ⟨by kernel_rfl⟩|omega) only [go_sem,seval,cX ag,wd,bC (h4 _),bC (h5 _),bC (h6 _),bC (h7 _),bC (h8 _),bC (h9 _),bC (hlv _)];(repeat' first|apply cq.l|apply bg.i|refine cE.i fun hc=>?_|refine aQ.i ⟨?_,rfl⟩)<;>try subst ag
  all_goals first|rfl|(simp at hc)
 ·refine aA.start func3 rfl ntmps3 (by simp) fun _ ag=>?_
  simp (disch:=omega) only [go_sem,seval,cX ag,wr,yT (hg _),yT (h1 _),yT (h2 _),yT (h3 _),bC (hlv _)];(repeat' first|apply cq.l|apply bg.i|refine cE.i fun hc=>?_|refine aQ.i ⟨?_,rfl⟩|refine fB.i fun j=>?_)<;>try subst ag
  all_goals first|rfl|(exact absurd (j.2 (by omega)) hv)
end Go.Proofs.YtbcillkajdnljaaGreatDoor
end
section
namespace Go.En
open Go.Abs (ef dx zeroOf dy k8 mU Uh isStr isBool ud isIface isBytes Ta shlI shrI isStruct rS KK mM)
inductive V where
 |aU
 |bool (b:Bool)
 |int (k:IntKind) (n:Int)
 |str (s:List UInt8)
 |eX|Am|fD|An|bh
 |ptr (b off:Nat)
 |sl (b off n es:Nat) (cap:Option Nat)
 |mp (b:Nat)
 |iface (t:TypeId) (v:V)
 |jE (f:FuncId) (cap:List V)
 |agg (cs:List V)
 |cF (vs:List V)
 deriving Inhabited
inductive Tr (α:Type) where
 |nil
 |node (v:Option α) (l r:Tr α)
 deriving Inhabited
namespace Tr
variable {α:Type}
def get:Tr α→Nat→Option α
 | .nil,_=>none
 | .node v l r,n=>match n with
  |0=>v
  |m+1=>match m % 2 with
   |0=>l.get (m / 2)
   |_+1=>r.get (m / 2)
def val:Tr α→Option α
 | .nil=>none
 | .node v _ _=>v
def left:Tr α→Tr α
 | .nil=> .nil
 | .node _ l _=>l
def right:Tr α→Tr α
 | .nil=> .nil
 | .node _ _ r=>r
def setF (x:Option α):Nat→Tr α→Nat→Tr α
 |0,t,_=> .node x t.left t.right
 |f+1,t,n=>match n with
  |0=> .node x t.left t.right
  |m+1=>match m % 2 with
   |0=> .node t.val (setF x f t.left (m / 2)) t.right
   |_+1=> .node t.val t.left (setF x f t.right (m / 2))
def set (t:Tr α) (n:Nat) (x:Option α):Tr α:=setF x n t n
end Tr
inductive B where
 |cells (e:TypeId) (z:Bool) (row:List V)
 |ro (row:List V)
 |iter (s:List UInt8) (pos:Nat)
 |map (es:List (V×V))
 deriving Inhabited
structure S where
 nx:Nat
 h:Tr B
 deriving Inhabited
abbrev Fr:=Tr V
def S.put (s:S) (b:Nat) (x:B):S:=⟨s.nx,s.h.set b (some x)⟩
def S.kill (s:S) (b:Nat):S:=⟨s.nx,s.h.set b none⟩
def S.row (s:S) (b:Nat):Option (List V):=match s.h.get b with
 |some (.cells _ _ r)=>some r
 |some (.ro r)=>some r
 |_=>none
def tJ:Value→V
 | .bool b=> .bool b
 | .int k n=> .int k n
 | .string s=> .str s.data.toList
 | .pointer none=> .eX
 | .slice none 0 0=> .bh
 | .nilFunc=> .Am
 | .nilIface=> .fD
 | .map none=> .An
 |_=> .aU
def ofConst:Value→V
 | .agg cs=> .agg (cs.toList.map tJ)
 |v=>tJ v
def ev (fr:Fr):Operand→V
 | .tmp t=>(fr.get t).getD .aU
 | .const v=>ofConst v
 | .func f=> .jE f []
 | .global _=> .aU
def evs (fr:Fr):List Operand→List V
 |[]=>[]
 |x::r=>ev fr x::evs fr r
def eU (P:Program) (t:TypeId):Option (List V):=(zeroOf P t).map fun z=>z.cells.toList.map tJ
def V.cells:V→Option (List V)
 | .agg cs=>some cs
 | .aU| .cF _=>none
 |v=>some [v]
def V.one:V→Bool
 | .aU| .agg _| .cF _=>false
 |_=>true
def splice (l:List V) (off:Nat) (x:List V):List V:=l.take off++(x++l.drop (off+x.length))
def rep (n:Nat) (l:List V):List V:=match n with
 |0=>[]
 |n+1=>l++rep n l
def loadR (b:Bool) (cs:List V) (off sz:Nat):Option V:=
 match b with
 |true=>if off+sz≤cs.length then some (.agg ((cs.drop off).take sz)) else none
 |false=>cs[off]?
def bn (P:Program) (t:TypeId) (a:V) (s:S):Option V:=
 match dx P t,ef P t,a with
 |some g,some sz,.ptr b off=>match s.row b with
  |some cs=>loadR g cs off sz
  |none=>none
 |_,_,_=>none
def store (b off:Nat) (l:List V) (s:S):Option S:=
 match s.h.get b with
 |some (.cells e z cs)=>if off+l.length≤cs.length∧l.all V.one=true then some (s.put b (.cells e z (splice cs off l))) else none
 |_=>none
def iJ (P:Program) (t:TypeId) (a x:V) (s:S):Option S:=
 match a,ef P t,x.cells with
 | .ptr b off,some sz,some l=>if l.length=sz then store b off l s else none
 |_,_,_=>none
def fill (place:Nat→Option (Nat×Nat)) (fr:Fr):List V→List (Nat×Operand)→Option (List V)
 |cs,[]=>some cs
 |cs,(i,x)::r=>match place i,(ev fr x).cells with
  |some (off,sz),some l=>if l.length=sz∧off+l.length≤cs.length then fill place fr (splice cs off l) r else none
  |_,_=>none
def jF (P:Program) (t:TypeId) (fr:Fr) (parts:List (Nat×Operand)):Option V:=
 if isStruct P t then match eU P t with
  |some cs=>(fill (fun i=>(k8 P t i).map fun g=>(g.1,g.2.1)) fr cs parts).map .agg
  |none=>none
 else match Uh P t,eU P t with
  |some (_,sz,_),some cs=>(fill (fun i=>some (i*sz,sz)) fr cs parts).map .agg
  |_,_=>none
def eW (P:Program) (t:TypeId) (n:Nat) (fr:Fr) (parts:List (Nat×Operand)) (s:S) (id:Nat):Option (V×S):=
 match mU P t with
 |some (e,sz,_)=>match eU P e with
  |some z=>if n*sz≤16777216∧0<sz∧z.length=sz then match fill (fun i=>some (i*sz,sz)) fr (rep n z) parts with
    |some row=>some (.sl id 0 n sz (some n),s.put id (.cells e true row))
    |none=>none
   else none
  |none=>none
 |none=>none
def boolV:Bool→Option V:=fun b=>some (.bool b)
def evalCmpI (op:BinOp) (a b:Int):Option V:=
 match op with
 | .eql=>boolV (a==b)
 | .neq=>boolV (!(a==b))
 | .lss=>boolV (decide (a<b))
 | .leq=>boolV (decide (a≤b))
 | .gtr=>boolV (decide (b<a))
 | .geq=>boolV (decide (b≤a))
 |_=>none
def evalInt (op:BinOp) (k:IntKind) (a b:Int):Option V:=
 match op with
 | .add=>some (.int k (k.wrap (a+b)))
 | .sub=>some (.int k (k.wrap (a - b)))
 | .mul=>some (.int k (k.wrap (a*b)))
 | .quo=>if b=0 then none else some (.int k (k.wrap (a.tdiv b)))
 | .rem=>if b=0 then none else some (.int k (a.tmod b))
 | .and=>some (.int k (Ta .and k a b))
 | .or=>some (.int k (Ta .or k a b))
 | .xor=>some (.int k (Ta .xor k a b))
 | .andNot=>some (.int k (Ta .andNot k a b))
 |op=>evalCmpI op a b
def evalStr (op:BinOp) (a b:List UInt8):Option V:=
 match op with
 | .add=>if a.length+b.length≤9223372036854775807 then some (.str (a++b)) else none
 | .eql=>boolV (a==b)
 | .neq=>boolV (!(a==b))
 | .lss=>boolV (Op.bytesLess a b)
 | .leq=>boolV (Op.bytesLess a b||a==b)
 | .gtr=>boolV (!(Op.bytesLess a b||a==b))
 | .geq=>boolV (!(Op.bytesLess a b))
 |_=>none
def eqOp (op:BinOp) (b:Bool):Option V:=
 match op with
 | .eql=>boolV b
 | .neq=>boolV (!b)
 |_=>none
def eqE (P:Program) (t:TypeId) (k:Bool) (a b:V):Option Bool:=
 match P.underlying t with
 |some .bool=>(match a,b with
  | .bool x,.bool y=>some (x==y)
  |_,_=>none)
 |some (.pointer _)=>(match a,b with
  | .eX,.eX=>some true
  | .eX,.ptr _ _=>some false
  | .ptr _ _,.eX=>some false
  |_,_=>none)
 |some (.slice _)=>(match a,b with
  | .bh,.bh=>some true
  | .bh,.sl _ _ _ _ _=>some false
  | .sl _ _ _ _ _,.bh=>some false
  |_,_=>none)
 |some (.map _ _)=>(match a,b with
  | .An,.An=>some true
  | .An,.mp _=>some false
  | .mp _,.An=>some false
  |_,_=>none)
 |some (.func _ _ _)=>(match a,b with
  | .Am,.Am=>some true
  | .Am,.jE _ _=>some false
  | .jE _ _,.Am=>some false
  |_,_=>none)
 |some (.interface _)=>(match a,b with
  | .fD,.fD=>if k then some true else none
  | .fD,.iface _ _=>some false
  | .iface _ _,.fD=>some false
  |_,_=>none)
 |_=>none
def isC:Operand→Bool
 | .const _=>true
 |_=>false
def evalBin (P:Program) (t:TypeId) (op:BinOp) (k:Bool) (a b:V):Option V:=
 match a,b with
 | .int k a,.int k' b=>match op with
  | .shl=>if b<0 then none else some (.int k (shlI k a b))
  | .shr=>if b<0 then none else some (.int k (shrI k a b))
  |op=>if k=k' then evalInt op k a b else none
 | .str a,.str b=>evalStr op a b
 |a,b=>match eqE P t k a b with
  |some q=>eqOp op q
  |none=>none
def evalUn (op:UnOp) (x:V):Option V:=
 match op,x with
 | .not,.bool b=>boolV (!b)
 | .neg,.int k n=>some (.int k (k.wrap (0 - n)))
 | .xor,.int k n=>some (.int k (Ta .xor k (if k.signed then -1 else k.max) n))
 |_,_=>none
def byteOf:V→Option UInt8
 | .int .u8 n=>some (UInt8.ofNat n.toNat)
 |_=>none
def bytesOf:List V→Option (List UInt8)
 |[]=>some []
 |r::rs=>match byteOf r,bytesOf rs with
  |some b,some l=>some (b::l)
  |_,_=>none
def byteVs (l:List UInt8):List V:=l.map fun b=> .int .u8 b.toNat
def elems (s:S):V→Option (List V)
 | .bh=>some []
 | .sl b off n es _=>if n=0 then some [] else match s.row b with
  |some cs=>if off+n*es≤cs.length then some ((cs.drop off).take (n*es)) else none
  |none=>none
 |_=>none
def esOne:V→Bool
 | .sl _ _ _ es _=>es==1
 |_=>true
def evalConv (P:Program) (src dst:TypeId) (x:V) (s:S) (id:Nat):Option (V×S):=
 match x with
 | .int _ n=>match ud P src,ud P dst with
  |some _,some k=>some (.int k (k.wrap n),s)
  |_,_=>none
 | .str l=>if isStr P src then (if isStr P dst then some (.str l,s)
   else if isBytes P dst∧l.length≤maxLen then some (.sl id 0 l.length 1 none,s.put id (.ro (byteVs l))) else none) else none
 |x=>if isBytes P src&&isStr P dst then match elems s x with
   |some cs=>if esOne x=true then (bytesOf cs).map fun l=>(.str l,s) else none
   |none=>none
  else none
def bound (fr:Fr) (dflt:Nat):Option Operand→Option Nat
 |none=>some dflt
 |some x=>match ev fr x with
  | .int _ n=>if 0≤n then some n.toNat else none
  |_=>none
def Lx (P:Program) (t:TypeId) (x:V) (fr:Fr) (lo hi:Option Operand):Option V:=
 match x with
 | .str s=>if isStr P t then match bound fr 0 lo,bound fr s.length hi with
   |some l,some h=>if l≤h∧h≤s.length then some (.str ((s.take h).drop l)) else none
   |_,_=>none
  else none
 | .bh=>match mU P t,bound fr 0 lo,bound fr 0 hi with
  |some _,some 0,some 0=>some .bh
  |_,_,_=>none
 | .sl b off n es cap=>match mU P t,bound fr 0 lo,bound fr n hi with
  |some (_,sz,_),some l,some h=>if sz=es∧l≤h∧h≤cap.getD n then some (.sl b (off+l*es) (h - l) es (cap.map (· - l))) else none
  |_,_,_=>none
 |_=>none
def evalSlice3 (P:Program) (t:TypeId) (x:V) (fr:Fr) (lo hi mx:Option Operand):Option V:=
 match x with
 | .bh=>match mU P t,bound fr 0 lo,bound fr 0 hi,bound fr 0 mx with
  |some _,some 0,some 0,some 0=>some .bh
  |_,_,_,_=>none
 | .sl b off n es cap=>match mU P t,bound fr 0 lo,bound fr n hi,bound fr n mx with
  |some (_,sz,_),some l,some h,some m=>if sz=es∧l≤h∧h≤m∧m≤cap.getD n then some (.sl b (off+l*es) (h - l) es (some (m - l))) else none
  |_,_,_,_=>none
 |_=>none
def xT (P:Program) (t:TypeId) (x:V) (f:Nat):Option V:=
 match k8 P t f,x with
 |some (off,sz,_),.ptr b o=>if sz=0 then none else some (.ptr b (o+off))
 |_,_=>none
def iK (P:Program) (t:TypeId) (x:V) (f:Nat):Option V:=
 match k8 P t f,x with
 |some (off,sz,b),.agg cs=>loadR b cs off sz
 |_,_=>none
def aI (P:Program) (t:TypeId) (x i:V):Option V:=
 match i,x with
 | .int _ n,.sl b off m es _=>match mU P t with
  |some (_,sz,_)=>if 0≤n∧n<m∧sz=es then some (.ptr b (off+n.toNat*es)) else none
  |none=>none
 | .int _ n,.ptr b off=>match Uh P t with
  |some (m,sz,_)=>if 0≤n∧n<m then some (.ptr b (off+n.toNat*sz)) else none
  |none=>none
 |_,_=>none
def kC (P:Program) (t:TypeId) (x i:V):Option V:=
 match i,x with
 | .int _ n,.str s=>if isStr P t&&decide (0≤n) then (s[n.toNat]?).map fun b=> .int .u8 b.toNat else none
 | .int _ n,.agg cs=>match Uh P t with
  |some (m,sz,b)=>if 0≤n∧n<m then loadR b cs (n.toNat*sz) sz else none
  |none=>none
 |_,_=>none
def ji (x:V) (i:Nat):Option V:=
 match x with
 | .cF vs=>vs[i]?
 |_=>none
def gN (P:Program) (t:TypeId) (s:S):V→Option V
 | .str l=>if isStr P t=true then some (.int .i64 l.length) else none
 | .bh=>if (mU P t).isSome=true then some (.int .i64 0) else none
 | .sl _ _ n _ _=>if (mU P t).isSome=true then some (.int .i64 n) else none
 | .An=>(match mM P t with
  |some _=>some (.int .i64 0)
  |none=>none)
 | .mp b=>(match mM P t with
  |some _=>(match s.h.get b with
   |some (.map es)=>some (.int .i64 es.length)
   |_=>none)
  |none=>none)
 |_=>none
def evalCap (P:Program) (t:TypeId) (x:V):Option V:=
 match mU P t with
 |some _=>(match x with
  | .bh=>some (.int .i64 0)
  | .sl _ _ _ _ (some c)=>some (.int .i64 c)
  |_=>none)
 |none=>none
def news (P:Program) (u:TypeId) (es:Nat) (s:S):V→Option (List V)
 | .str l=>if isStr P u=true∧es=1 then some (byteVs l) else none
 | .bh=>if (mU P u).isSome=true then some [] else none
 | .sl b off n es' co=>if es'=es∧(mU P u).isSome=true then elems s (.sl b off n es' co) else none
 |_=>none
def growV (P:Program) (e:TypeId) (z:Bool) (es n m by_:Nat) (row:List V) (s:S) (id:Nat):Option (V×S):=
 if (n+m)*by_≤rS∧(n+m)≤maxLen∧dy P e=some es then some (.sl id 0 (n+m) es none,s.put id (.cells e z row)) else none
def appendL (P:Program) (e:TypeId) (es by_ m:Nat) (l:List V) (x:V) (s:S) (id:Nat):Option (V×S):=
 if m=0 then (match x with| .bh=>some (.bh,s)| .sl b off n es' cap=>some (.sl b off n es' cap,s)|_=>none)
 else if es=0∨l.all V.one=false∨l.length≠m*es then none
 else match x with
  | .bh=>growV P e true es 0 m by_ l s id
  | .sl b off n es' cap=>
   if es'=es then match elems s (.sl b off n es' cap) with
    |some old=>(match cap with
     |some c=>if n+m≤c then (store b (off+n*es) l s).map fun s'=>(.sl b off (n+m) es (some c),s')
      else growV P e true es n m by_ (old++l) s id
     |none=>(match s.h.get b with
      |some (.cells e' z _)=>if e'=e then growV P e (z&& (off==0)) es n m by_ (old++l) (s.kill b) id else none
      |_=>none))
    |none=>none
   else none
  |_=>none
def fu (P:Program) (t u:TypeId) (x y:V) (s:S) (id:Nat):Option (V×S):=
 match mU P t with
 |some (e,es,by_)=>(match y with
  | .int _ n=>if (ud P u).isSome=true∧0≤n∧n≤16777216∧n.toNat*by_≤rS∧0<es∧dy P e=some es then (match eU P e with
    |some z=>appendL P e es by_ n.toNat (rep n.toNat z) x s id
    |none=>none)
   else none
  |y=>match news P u es s y with
   |some l=>if 0<es∧l.all V.one=true then appendL P e es by_ (l.length / es) l x s id else none
   |none=>none)
 |none=>none
def evalCopy (P:Program) (t u:TypeId) (x y:V) (s:S):Option (V×S):=
 match mU P t with
 |some (_,es,_)=>(match x with
  | .bh=>(match news P u es s y with
   |some l=>if 0<es∧l.all V.one=true then some (.int .i64 0,s) else none
   |none=>none)
  | .sl b off n es' _=>(match news P u es s y with
   |some l=>if es'=es∧0<es∧l.all V.one=true∧l.length=(l.length / es)*es then
     (if min n (l.length / es)=0 then some (.int .i64 0,s)
     else (store b off (l.take (min n (l.length / es)*es)) s).map fun s'=>(.int .i64 (min n (l.length / es):Nat),s'))
    else none
   |none=>none)
  |_=>none)
 |none=>none
def evalClear (P:Program) (t:TypeId) (x:V) (s:S):Option (V×S):=
 match x with
 | .bh=>if (mU P t).isSome=true then some (.aU,s) else none
 | .sl b off n es _=>match mU P t with
  |some (e,sz,_)=>if sz=es then match eU P e with
    |some z=>if n=0 then some (.aU,s) else if z.length=es then (store b off (rep n z) s).map fun s'=>(.aU,s') else none
    |none=>none
   else none
  |none=>none
 |_=>none
def evalMinMax (mx:Bool) (x y:V):Option V:=
 match x,y with
 | .int k a,.int k' b=>if k=k' then some (.int k (if (if mx then decide (b>a) else decide (b<a)) then b else a)) else none
 |_,_=>none
def mT (P:Program) (t:TypeId) (x:V) (s:S) (id:Nat):Option (V×S):=
 match x with
 | .str l=>if isStr P t then some (.ptr id 0,s.put id (.iter l 0)) else none
 |_=>none
def evalNext (x:V) (s:S):Option (V×S):=
 match x with
 | .ptr k 0=>match s.h.get k with
  |some (.iter l pos)=>
   if pos<l.length then
    some (.cF [.bool true,.int .i64 pos,.int .i32 (Utf8.decode ⟨l.toArray⟩ pos).1],s.put k (.iter l (pos+(Utf8.decode ⟨l.toArray⟩ pos).2)))
   else some (.cF [.bool false],s)
  |_=>none
 |_=>none
def yI (P:Program) (x:V) (asT:TypeId) (ok:Bool):Option V:=
 match x,isIface P asT with
 | .fD,some false=>if ok then (zeroOf P asT).map fun z=> .cF [ofConst z,.bool false] else none
 | .iface t v,some false=>if t=asT then (if ok then some (.cF [v,.bool true]) else some v)
  else if ok then (zeroOf P asT).map fun z=> .cF [ofConst z,.bool false] else none
 |_,_=>none
def vr:V→V→Option Bool
 | .str a,.str b=>some (a==b)
 | .int k n,.int k' m=>if k=k' then some (n==m) else none
 | .bool a,.bool b=>some (a==b)
 |_,_=>none
def findI (y:V):List (V×V)→Nat→Option (Option (Nat×V))
 |[],_=>some none
 |(k,v)::r,i=>match vr y k with
  |some true=>some (some (i,v))
  |some false=>findI y r (i+1)
  |none=>none
def keyOK:KK→V→Bool
 | .str,.str l=>decide (l.length≤maxLen)
 | .int q,.int k n=>decide (k=q)&& (Lit.int k n).wf
 | .bool,.bool _=>true
 |_,_=>false
def iU (P:Program) (t:TypeId) (m y:V) (ok:Bool) (s:S):Option V:=
 match mM P t with
 |some (kd,e)=>if keyOK kd y=true then match (match m with
   | .An=>some none
   | .mp b=>(match s.h.get b with
    |some (.map es)=>findI y es 0
    |_=>none)
   |_=>none),zeroOf P e with
  |some (some (_,v)),_=>some (if ok then .cF [v,.bool true] else v)
  |some none,some z=>some (if ok then .cF [ofConst z,.bool false] else ofConst z)
  |_,_=>none
  else none
 |none=>none
def iV (P:Program) (t:TypeId) (m y v:V) (s:S):Option S:=
 match mM P t,m with
 |some (kd,_),.mp b=>if keyOK kd y=true then match s.h.get b with
  |some (.map es)=>(match findI y es 0 with
   |some (some (i,_))=>some (s.put b (.map (es.set i (y,v))))
   |some none=>some (s.put b (.map (es++[(y,v)])))
   |none=>none)
  |_=>none
  else none
 |_,_=>none
def evalMake (P:Program) (t:TypeId) (l c:V) (s:S) (id:Nat):Option (V×S):=
 match mU P t,l,c with
 |some (e,sz,by_),.int _ n,.int _ m=>match eU P e with
  |some z=>if 0≤n∧n≤m∧m.toNat*by_≤rS∧m.toNat*sz≤16777216∧0<sz∧z.length=sz then some (.sl id 0 n.toNat sz (some m.toNat),s.put id (.cells e true (rep m.toNat z))) else none
  |none=>none
 |_,_,_=>none
def evalUStr (P:Program) (pt:TypeId) (x n:V) (s:S):Option (V×S):=
 match P.underlying pt with
 |some (.pointer e)=>(match x,n with
  | .ptr b 0,.int .i64 m=>(match s.h.get b with
   |some (.cells e' true cs)=>if e'=e∧P.cellsOf e=1∧0<m∧m.toNat≤cs.length∧m≤9223372036854775807 then (match bytesOf (cs.take m.toNat) with
     |some l=>some (.str l,s.kill b)
     |none=>none)
    else none
   |_=>none)
  | .eX,.int .i64 0=>some (.str [],s)
  |_,_=>none)
 |_=>none
def dP (P:Program) (b:Builtin) (ts:List TypeId) (args:List V) (s:S) (id:Nat):Option (V×S):=
 match b,ts,args with
 | .len,[t],[x]=>(gN P t s x).map (·,s)
 | .cap,[t],[x]=>(evalCap P t x).map (·,s)
 | .append,[t,u],[x,y]=>fu P t u x y s id
 | .copy,[t,u],[x,y]=>evalCopy P t u x y s
 | .clear,[t],[x]=>evalClear P t x s
 | .max,_,[x,y]=>(evalMinMax true x y).map (·,s)
 | .min,_,[x,y]=>(evalMinMax false x y).map (·,s)
 | .unsafeSliceData,[_],[x]=>(match x with| .bh=>some (.eX,s)| .sl b off (_+1) _ _=>some (.ptr b off,s)|_=>none)
 | .unsafeString,[pt,_],[x,n]=>evalUStr P pt x n s
 |_,_,_=>none
def evalOp (P:Program) (o:Op) (fr:Fr) (s:S) (id:Nat):Option (V×S):=
 match o with
 | .move x| .assign x=>some (ev fr x,s)
 | .pick c a b=>match ev fr c with
  | .bool t=>some (if t then ev fr a else ev fr b,s)
  |_=>none
 | .alloc e=>match eU P e with
  |some cs=>some (.ptr id 0,s.put id (.cells e true cs))
  |none=>none
 | .box e x=>match (ev fr x).cells with
  |some cs=>some (.ptr id 0,s.put id (.cells e true cs))
  |none=>none
 | .build t parts=>(jF P t fr parts.toList).map (·,s)
 | .buildSlice t n parts=>eW P t n fr parts.toList s id
 | .load t a=>(bn P t (ev fr a) s).map (·,s)
 | .store t a x=>(iJ P t (ev fr a) (ev fr x) s).map fun s'=>(.aU,s')
 | .nilCheck x=>match ev fr x with
  | .ptr b off=>some (.ptr b off,s)
  | .jE f cap=>some (.jE f cap,s)
  |_=>none
 | .binOp op t x y _=>(evalBin P t op (isC x||isC y) (ev fr x) (ev fr y)).map (·,s)
 | .unOp op _ x=>(evalUn op (ev fr x)).map (·,s)
 | .convert a b x=>evalConv P a b (ev fr x) s id
 | .makeInterface t x=>if isIface P t=some false then some (.iface t (ev fr x),s) else none
 | .makeFunc (.func f) first captured=>if first.isEmpty then some (.jE f (evs fr captured.toList),s) else none
 | .slice t x lo hi none=>(Lx P t (ev fr x) fr lo hi).map (·,s)
 | .slice t x lo (some hi) (some mx)=>(evalSlice3 P t (ev fr x) fr lo (some hi) (some mx)).map (·,s)
 | .fieldAddr t x f=>(xT P t (ev fr x) f).map (·,s)
 | .field t x f=>(iK P t (ev fr x) f).map (·,s)
 | .indexAddr t x i=>(aI P t (ev fr x) (ev fr i)).map (·,s)
 | .index t x i=>(kC P t (ev fr x) (ev fr i)).map (·,s)
 | .extract x i=>(ji (ev fr x) i).map (·,s)
 | .range t x=>mT P t (ev fr x) s id
 | .next x true=>evalNext (ev fr x) s
 | .makeMap t none=>match mM P t with
  |some _=>some (.mp id,s.put id (.map []))
  |none=>none
 | .lookup t m x ok=>(iU P t (ev fr m) (ev fr x) ok s).map (·,s)
 | .mapUpdate t m x v=>(iV P t (ev fr m) (ev fr x) (ev fr v) s).map fun s'=>(.aU,s')
 | .typeAssert x _ asT ok=>(yI P (ev fr x) asT ok).map (·,s)
 | .call { callee:= .builtin b,args,argTypes }=>dP P b argTypes.toList (evs fr args.toList) s id
 | .makeSlice t l c=>evalMake P t (ev fr l) (ev fr c) s id
 |_=>none
end Go.En
end
section
namespace Go.En
inductive X where
 |normal
 |exit (id:Nat)
 |ret
structure F where
 tm:Fr
 n:Nat
 ds:List (FuncId×List V)
 deriving Inhabited
def F.put (f:F) (d:Option Tmp) (v:V):Option F:=match d with
 |some i=>match f with
  |⟨tm,n,ds⟩=>match Nat.blt i n with
   |true=>some ⟨tm.set i (some v),n,ds⟩
   |false=>none
 |none=>some f
theorem F.put_eq (f:F) (d:Option Tmp) (v:V):f.put d v=match d with
 |some i=>match Nat.blt i f.n with
  |true=>some ⟨f.tm.set i (some v),f.n,f.ds⟩
  |false=>none
 |none=>some f:=by cases d<;>rfl
def goes (all:Array Oper) (o:Oper) (fr:Fr):Option Bool:=
 match o.guard with
 |none=>some true
 |some (j,b)=>match (all[j]?).bind (·.dst) with
  |some d=>match fr.get d with
   |some (.bool t)=>some (t==b)
   |some (.cF [])=>some false
   |_=>none
  |none=>none
def makes:Op→Bool
 | .alloc _| .box .. | .buildSlice .. | .makeMap .. | .makeSlice .. | .range .. | .convert .. =>true
 | .call { callee:= .builtin .append,.. }=>true
 |_=>false
def kind:Op→Nat
 | .move _| .assign _| .pick .. | .build .. | .nilCheck _| .binOp .. | .unOp .. | .makeInterface .. | .makeFunc .. | .slice .. | .fieldAddr .. | .field .. | .indexAddr .. | .index .. | .extract .. | .typeAssert .. =>0
 | .call { callee:= .builtin .cap,.. }| .call { callee:= .builtin .max,.. }| .call { callee:= .builtin .min,.. }=>0
 | .load .. | .lookup .. | .call { callee:= .builtin .len,.. }=>1
 | .alloc _| .box .. | .buildSlice .. | .makeMap .. | .makeSlice .. | .range .. =>2
 |_=>3
def entry:List V→Nat→Fr→Fr
 |[],_,fr=>fr
 |v::r,i,fr=>entry r (i+1) (fr.set i (some v))
def eT (P:Program) (fr:Fr) (s:S):List ResultVar→Option (List V)
 |[]=>some []
 | .tmp t::r=>match eT P fr s r with
  |some l=>some (((fr.get t).getD .aU)::l)
  |none=>none
 | .cell a t::r=>match bn P t ((fr.get a).getD .aU) s,eT P fr s r with
  |some v,some l=>some (v::l)
  |_,_=>none
def eD:List V→V
 |[v]=>v
 |l=> .cF l
section
variable (P:Program) (call:FuncId→List V→S→Option (V×S))
def runOps (all:Array Oper):List Oper→F→S→Option (F×S)
 |[],f,s=>some (f,s)
 |o::r,f,s=>match goes all o f.tm with
  |none=>none
  |some false=>(match f.put o.dst (.cF []) with
   |some f'=>runOps all r f' s
   |none=>none)
  |some true=>match o.op with
   | .call { callee:= .value x,args,.. }=>(match ev f.tm x with
    | .jE g cap=>(match call g (evs f.tm args.toList++cap) s with
     |some (v,s')=>(match f.put o.dst v with
      |some f'=>runOps all r f' s'
      |none=>none)
     |none=>none)
    |_=>none)
   | .defer { callee:= .value x,args,.. }=>(match ev f.tm x,o.dst with
    | .jE g cap,none=>runOps all r ⟨f.tm,f.n,(g,evs f.tm args.toList++cap)::f.ds⟩ s
    |_,_=>none)
   |op=>(match evalOp P op f.tm ⟨s.nx+1,s.h⟩ s.nx with
    |some (v,s')=>(match f.put o.dst v with
     |some f'=>runOps all r f' s'
     |none=>none)
    |none=>none)
