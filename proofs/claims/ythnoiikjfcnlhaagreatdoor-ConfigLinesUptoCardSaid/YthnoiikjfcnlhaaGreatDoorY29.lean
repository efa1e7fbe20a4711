/- A step of the proofs of the seat's theorems. -/
import Derived.Test.YthnoiikjfcnlhaaGreatDoorYA
import Derived.Test.YthnoiikjfcnlhaaGreatDoorY1
import Derived.Test.YthnoiikjfcnlhaaGreatDoorY15
import Derived.Test.YthnoiikjfcnlhaaGreatDoorY17
import Derived.Test.YthnoiikjfcnlhaaGreatDoorY18
import Derived.Test.YthnoiikjfcnlhaaGreatDoorY19
import Derived.Test.YthnoiikjfcnlhaaGreatDoorY21
import Derived.Test.YthnoiikjfcnlhaaGreatDoorY22
import Derived.Test.YthnoiikjfcnlhaaGreatDoorY23
import Derived.Test.YthnoiikjfcnlhaaGreatDoorY26
import Derived.Test.YthnoiikjfcnlhaaGreatDoorY28
import Derived.Laws.RangeString
import Derived.Laws.RangeAny
import Derived.Lib.DecodeN
set_option linter.unusedSimpArgs false
set_option linter.unusedVariables false
section
set_option maxHeartbeats 8000000
set_option maxRecDepth 20000
namespace Go.Proofs.YthnoiikjfcnlhaaGreatDoor
open Go.Abs
attribute [local irreducible] AW OX cG GQ bK bO bz aY aa
variable {G:World→Nat→Prop}
theorem L5 (hg:GV G) {T:List Tk} (hT:T.length≤1048576) (hx:∀ t∈T,t.text.length≤1048576) (f:Nat) (hf:∀ g<f,ur G T g) (s:az) (hs:s≠[44]) (i:Nat) (hi:i≤T.length) (r:dF Ex) (h:pF f (.args s) (T.drop i)=some r):
  Ny G T 237 [vs s] i r:=by
 cases f with
 |zero=>simp [pF] at h
 |succ f=>exact Pq hg hT hx (fun g hg=>hf g (by omega)) s hs i hi r h
theorem L6 (hg:GV G) {T:List Tk} (hT:T.length≤1048576) (hx:∀ t∈T,t.text.length≤1048576) (f:Nat) (hf:∀ g<f,ur G T g) (i:Nat) (hi:i≤T.length) (r:dF Ex) (h:pF f .kW (T.drop i)=some r):
  kf G T 238 [] i r:=by
 cases f with
 |zero=>simp [pF] at h
 |succ f=>exact Zv hg hT hx (fun g hg=>hf g (by omega)) i hi r h
theorem Th (hg:GV G) {T:List Tk} (hT:T.length≤1048576) (hx:∀ t∈T,t.text.length≤1048576):∀ f,ur G T f:=by
 intro f
 induction f using Nat.strongRecOn with
 |_ f hf=>
  refine ⟨?_,?_,?_,?_⟩
  ·intro i hi r h
   cases f with
   |zero=>simp [pF] at h
   |succ f=>exact Pk hg hT hx (hf f (by omega)) i hi r h
  ·intro n h1 h7 i hi r h
   cases f with
   |zero=>simp [pF] at h
   |succ f=>exact Xs hg hT hx (fun g hg=>hf g (by omega)) n h1 h7 i hi r h
  ·intro i hi r h
   cases f with
   |zero=>simp [pF] at h
   |succ f=>exact Xq hg hT hx (hf f (by omega)) i hi r h
  ·intro i hi r h
   refine L3 hg hT hx hf (fun i hi r h=>?_) i hi r h
   cases f with
   |zero=>simp [pF] at h
   |succ f=>
    exact Pt hg hT hx (fun g hg=>hf g (by omega)) (fun s hs i hi r h=>L5 hg hT hx f (fun g hg=>hf g (by omega)) s hs i hi r h)
     (fun i hi r h=>L6 hg hT hx f (fun g hg=>hf g (by omega)) i hi r h) i hi r h
end Go.Proofs.YthnoiikjfcnlhaaGreatDoor
end
section
namespace Go.Abs
open Go.RowKit
def Ti (l:List Oper) (fr:Fr) (b i:Nat):Op→Bool
 | .store _ (.tmp u) _=>(match iO l u with|some j=>decide (j<i)|none=>true)&& (match fr u with| .ptr b' _=>b' !=b|_=>false)
 | .load _ _=>true
 |o=>eu o
def T0 (l:List Oper) (fr:Fr) (b:Nat):Bool:=l.zipIdx.all fun p=>Ti l fr b p.2 p.1.op
def Jf (l:List Oper) (fr:Fr) (i:Nat):Bool:=
 match l[i]? with
 |some ⟨_,.load _ (.tmp t),_,_,_,none⟩=>(match iO l t with|some j=>decide (j<i)|none=>true)&& (match fr t with| .ep _ _=>true| .ptr b _=>T0 l fr b|_=>false)
 |_=>false
section
variable {P:Program} {G:World→Nat→Prop} {n:iw} {aC:St} {Q:AX→Fr→St→Prop}
theorem zK {t:TypeId} {b' o':Nat} {x:V} {st st':St} (h:iJ P t (.ptr b' o') x st=some st') {b:Nat} (hb:b'≠b) (ty:TypeId) (off:Nat):bn P ty (.ptr b off) st'=bn P ty (.ptr b off) st:=by
 have key:st'.aj[b]?=st.aj[b]?:=by
  unfold iJ at h
  split at h
  ·rename_i k off' sz l hk _ _
   cases hk
   split at h
   ·split at h
    ·unfold r7 at h
     split at h
     ·split at h
      ·simp only [aaf] at h
       subst h
       simp only [dY]
       rw [aaW hb]
      ·cases h
     ·cases h
    ·cases h
   ·cases h
  ·cases h
 unfold bn
 simp only [key]
theorem AW.Pv (hm:P.follows .mixedOrders=true) {id:Nat} {l rest:List Oper} (ex:List (Nat×Nat)) (hok:fM l [] ex l.length=true) {fr fr':Fr} {st st':St} (h:cJ P n l.toArray [] l fr st=some (rest,fr',st'))
  (k:OX P G n aC true [] l.toArray (fun x fr st=>(ex.all fun p=>decide (p.2≤l.length)&&Jf l fr p.1)=true∧Q x fr st) rest fr' st'):AW P G n aC (.region id l.toArray true) Q fr st:=by
 obtain ⟨vs,ss,fr'',st'',htr,hb,hQ⟩:=OT.run h k
 have hM:=htr.toM 0
 refine AW.wN hm hok hM (fun i hi hmem=>?_) hQ
 have hE:=aaz.1 hb (i,hi) hmem
 simp only [aap,aal] at hE
 obtain ⟨hhi,hE⟩:=hE
 obtain ⟨h1,h2,h3⟩:=hM.spec [] fr (fun i=>vs.getD i .aU) (fun i=>(st::ss).getD i default) rfl (fun j o d ho hd=>(ew hok ho).dst d hd) (by simp) (by simp) (by
  funext t;unfold valOf;cases iO ([]++l) t<;>simp)
 simp only [aav,aao,abd,true_implies] at h1 h2
 unfold Jf at hE
 split at hE
 ·rename_i a ty t b c d he
  simp only [aap] at hE
  obtain ⟨hE1,hE2⟩:=hE
  refine ⟨_,t,ty,he,rfl,rfl,fun j hj=>by rw [hj] at hE1;simpa using hE1,fun k hk v s hv hs=>?_⟩
  split at hE2
  ·rename_i cs off he2
   rw [he2] at hv ⊢
   unfold bn at hv ⊢
   exact hv
  ·rename_i b off he2
   have step:∀ i,i<l.length→bn P ty (.ptr b off) ((st::ss).getD (i+1) default)=bn P ty (.ptr b off) ((st::ss).getD i default):=by
    intro i hil
    obtain ⟨s1,s2⟩:=h1 i l[i] (by simp [hil])
    have hq:=aaz.1 hE2 (l[i],i) (by rw [abq];simp [hil])
    simp only at hq
    generalize ho:l[i]=o at*
    obtain ⟨dst,op,type,pos,after,guard⟩:=o
    simp only at hq
    have quiet:eu op=true→bn P ty (.ptr b off) ((st::ss).getD (i+1) default)=bn P ty (.ptr b off) ((st::ss).getD i default):=by
     intro hq
     have:=(s1.quiet hq).1
     rw [this]
    cases op with
    |store t2 x y=>
     cases x with
     |tmp u=>
      simp only [Ti,aap] at hq
      obtain ⟨q1,q2⟩:=hq
      have hfu:fr'' u=valOf l fr (fun i=>vs.getD i .aU) (fun k=>decide (k<i)) u:=by
       rw [h2];unfold valOf
       cases hw:iO l u with
       |none=>rfl
       |some j=>
        rw [hw] at q1
        have q1:j<i:=by simpa using q1
        have:j<l.length:=by omega
        simp only [decide_eq_true q1,decide_eq_true this,if_true]
      split at q2
      ·rename_i b' o' hpu
       rw [hfu] at hpu
       generalize hS:(st::ss).getD i default=S1 at s1
       generalize (st::ss).getD (i+1) default=S2 at s1
       generalize vs.getD i .aU=vv at s1
       cases s1 with
       |op _ _ g1 g2 g3=>
        simp only [evalOp,ev] at g2
        rw [hpu] at g2
        rw [aa4] at g2
        obtain ⟨s',g4,g5⟩:=g2
        cases g5
        exact zK g4 (by simpa using q2) ty off
       |skip g1 g2=>rfl
       |call _ _ g cap x args ats _ hop=>cases hop
      ·cases q2
     |const c=>exact quiet hq
     |func f=>exact quiet hq
     |global g=>exact quiet hq
    |load t2 x=>rw [s2 rfl]
    |_=>exact quiet hq
   have all:∀ k,k≤l.length→bn P ty (.ptr b off) ((st::ss).getD k default)=bn P ty (.ptr b off) st:=by
    intro k
    induction k with
    |zero=>intro _;rfl
    |succ k ih=>intro hk;rw [step k (by omega),ih (by omega)]
   have hil:i<l.length:=(aam.1 he).1
   rw [he2] at hv ⊢
   subst hs
   rw [all i (by omega)] at hv
   rw [all k (by omega)];exact hv
  ·cases hE2
 ·cases hE
end
end Go.Abs
end
section
set_option maxHeartbeats 8000000
set_option maxRecDepth 20000
namespace Go.Proofs.YthnoiikjfcnlhaaGreatDoor
open Go.Abs
attribute [local irreducible] AW OX cG GQ bK bO bz aY aa
variable {G:World→Nat→Prop}
theorem Xv:(zeroOf Tryz.prog 181).map ofConst=some (.agg [.d (.int .i64 0),.d (.int .i64 0)]):=by kernel_rfl
theorem B9 (cs:List Abs.D):(V.d (.agg cs)).cells=some (cs.map V.d):=rfl
attribute [go_sem] Xv B9
theorem zL (B:List aJ) (a b c d e:aJ) (K:List (Nat×Nat×Nat)) {N:Nat} (h:N=B.length+4):St.cut ⟨B++[a,b,c,d,e],K⟩ N K.length=⟨B++[a,b,c,d],K⟩:=by
 subst h
 simp only [St.cut,aaP]
 rw [List.take_append,aat (by omega),Nat.add_sub_cancel_left]
 rfl
theorem Fw (B:List aJ) (K:List (Nat×Nat×Nat)) (es:List V) (v1 v2:V) (X:aJ):
  fN Tryz.prog G 170 [.ptr B.length 0,.ptr (B.length+1) 0,.ptr (B.length+2) 0] none ⟨B++[.cells es,.cells [v1],.cells [v2],X],K⟩ (fun o s=>o= .ret (.cF [])∧s=⟨B++[.cells es,.cells [v1],.cells [v2],X],K⟩):=by
 refine fN.body Tryz.func170 rfl Tryz.ntmps170 (by simp) rfl rfl rfl (by decide) ?_
 (try refine Wk.ow fun _ ag=>?_);(repeat' (first|((refine Wk.i ?_);simp -implicitDefEqProofs only [go_sem,seval,Option.getD_none])|first|refine Wk.o ?_|refine Wk.q ‹_› ?_));all_goals (repeat subst ag)
 (try refine Wk.aw fun _ ag=>?_);(repeat' (first|((refine Wk.i ?_);simp -implicitDefEqProofs only [go_sem,seval])|first|refine Wk.o ?_|refine Wk.q ‹_› ?_));all_goals (repeat subst ag)
 refine kH (aV K.length (aan _) (s1:=⟨B++[.cells es,.cells [v1],.cells [v2],X],K⟩) (zL _ _ _ _ _ _ _ (by simp)) (fun _ _ h=> .inl h) rfl rfl rfl ⟨rfl,rfl⟩)
theorem Fx (B:List aJ) (K:List (Nat×Nat×Nat)) (es:List V) (hes:es.length=10) (v1 v2:V) (X:aJ) (j:Nat) (c:Int):
  fN Tryz.prog G 170 [.ptr B.length 0,.ptr (B.length+1) 0,.ptr (B.length+2) 0] (some (j4 j c)) ⟨B++[.cells es,.cells [v1],.cells [v2],X],K⟩ (fun o s=>o= .ret (.cF [])∧s=⟨B++[.cells Qi,.cells [ai j],.cells [ai c],X],K⟩):=by
 have hG:∀ (m:List aJ) (k:Nat),(B++m)[B.length+k]?=m[k]?:=fun m k=>by rw [aaq (by simp)];simp
 have hG0:∀ (m:List aJ),(B++m)[B.length]?=m[0]?:=fun m=>by rw [aaq (by simp)];simp
 have hS:∀ (y:aJ) (m:List aJ) (k:Nat),(B++m).set (B.length+k) y=B++m.set k y:=fun y m k=>by rw [aaC _ _ (by simp)];simp
 have hS0:∀ (y:aJ) (m:List aJ),(B++m).set B.length y=B++m.set 0 y:=fun y m=>by rw [aaC _ _ (by simp)];simp
 refine fN.body Tryz.func170 rfl Tryz.ntmps170 (by simp) rfl rfl rfl (by decide) ?_
 (try refine Wk.ow fun _ ag=>?_);(repeat' (first|((refine Wk.i ?_);simp -implicitDefEqProofs only [go_sem,seval,hG,hG0,hS,hS0,hes])|first|refine Wk.o ?_|refine Wk.q ‹_› ?_));all_goals (repeat subst ag)
 (try refine Wk.aw fun _ ag=>?_);(repeat' (first|((refine Wk.Au 2 ?_);refine AW.Pv (P:=Tryz.prog) mx [(2,7),(4,8)] (by kernel_rfl) (by simp -implicitDefEqProofs only [go_sem,seval,hG,hG0,hS,hS0,hes];first|done|exact rfl) ?_;refine OX.nil ?_;refine ⟨by simp [Jf,T0,Ti,iO,eu,j7,List.zipIdx_cons,List.findIdx?_cons,dr]<;>omega,?_⟩)|((refine Wk.i ?_);simp -implicitDefEqProofs only [go_sem,seval,hG,hG0,hS,hS0,hes])|refine Wk.q ‹_› ?_));all_goals (repeat subst ag)
 rw [show List.drop 10 es=[] from aaI (by omega)]
 refine kH (aV K.length (aan _) (s1:=⟨B++[.cells Qi,.cells [ai j],.cells [ai c],X],K⟩) (zL _ _ _ _ _ _ _ (by simp)) ?_ rfl rfl rfl ⟨rfl,rfl⟩)
 intro i A h
 by_cases hlt:i<B.length
 ·rw [aaw hlt] at h ⊢;exact .inl h
 ·rw [aaq (by omega)] at h ⊢
  match hd:i - B.length with
  |0=>rw [hd] at h;simp at h;subst h;exact .inr (by simp [aJ.within,V.within,V.within.all])
  |1=>rw [hd] at h;simp at h;subst h;exact .inr (by simp [aJ.within,V.within,V.within.all])
  |2=>rw [hd] at h;simp at h;subst h;exact .inr (by simp [aJ.within,V.within,V.within.all])
  |3=>rw [hd] at h;simp at h;subst h;exact .inl (by simp)
  |d+4=>rw [hd] at h;simp at h
abbrev kO (T:List Tk):dF Ex→V
 | .ok e rest=> .cF [vE e,ai ↑(T.length - rest.length),ai 0]
 | .err rest c=> .cF [vE xQ,ai ↑(T.length - rest.length),ai c]
theorem Px (hg:GV G) {T:List Tk} (hT:T.length≤1048576) (hx:∀ t∈T,t.text.length≤1048576) (r:dF Ex) (h:pF (nG T) .cond T=some r):
  b8 G 153 [jA T] (kO T r):=by
 rintro ⟨B,K⟩
 have c0:=(Th (G:=G) hg hT hx (nG T)).cond 0 (by omega) r (by rw [abc];exact h)
 refine aa.QW Tryz.func153 rfl Tryz.ntmps153 (by simp) rfl rfl rfl (by decide) rfl rfl rfl Tryz.call170 ?_
 (try refine Wk.aw fun _ ag=>?_);(repeat' (first|((refine Wk.i ?_);simp -implicitDefEqProofs only [go_sem,seval])|first|refine Wk.o ?_|refine Wk.q ‹_› ?_));all_goals (repeat subst ag)
 refine ⟨rfl,?_⟩
 (try refine Wk.aw fun _ ag=>?_);(repeat' (first|((refine Wk.i ?_);simp -implicitDefEqProofs only [go_sem,seval])|first|refine Wk.o ?_|refine Wk.q ‹_› ?_));all_goals (repeat subst ag)
 refine ⟨rfl,[.ptr B.length 0,.ptr (B.length+1) 0,.ptr (B.length+2) 0],rfl,fun ds=>?_⟩
 have hG:∀ (m:List aJ) (k:Nat),(B++m)[B.length+k]?=m[k]?:=fun m k=>by rw [aaq (by simp)];simp
 have hG0:∀ (m:List aJ),(B++m)[B.length]?=m[0]?:=fun m=>by rw [aaq (by simp)];simp
 have hS:∀ (y:aJ) (m:List aJ) (k:Nat),(B++m).set (B.length+k) y=B++m.set k y:=fun y m k=>by rw [aaC _ _ (by simp)];simp
 have hS0:∀ (y:aJ) (m:List aJ),(B++m).set B.length y=B++m.set 0 y:=fun y m=>by rw [aaC _ _ (by simp)];simp
 have c1:=c0 (B++[.cells Qi,.cells [ai 0],.cells [ai 0],bI T 0]) K (B.length+3) (by rw [hG];rfl)
 rw [hS] at c1
 cases r with
 |ok e rest=>
  simp only [fh,au] at c1
  (try refine Wk.aw fun _ ag=>?_);(repeat' (first|((refine Wk.Au 4 ?_);refine AW.Pv (P:=Tryz.prog) mx [(4,7)] (by kernel_rfl) (by simp -implicitDefEqProofs only [go_sem,seval,hG,hG0,hS,hS0];first|done|exact rfl) ?_;refine OX.nil ?_;refine ⟨by simp [Jf,T0,Ti,iO,eu,j7,List.zipIdx_cons,List.findIdx?_cons,dr]<;>omega,?_⟩)|(first|refine Wk.th ?_|refine Wk.bl ?_)|((first|refine Wk.hd ?_|refine Wk.i ?_);simp -implicitDefEqProofs only [go_sem,seval,hG,hG0,hS,hS0])|refine aW (c1) ?_|first|refine Wk.o ?_|refine Wk.q ‹_› ?_));all_goals (repeat subst ag)
  refine Ib ((Fw B K (e.enc.map V.d) (ai ↑(T.length - rest.length)) (ai 0) (bI T (T.length - rest.length))).mono ?_)
  rintro o s ⟨rfl,rfl⟩
  refine ⟨⟨_,rfl⟩,?_⟩
  skip;(repeat' (first|((refine Wk.i ?_);simp -implicitDefEqProofs only [go_sem,seval,hG,hG0,hS,hS0])|refine Wk.ret fun _ _=>?_|(refine Wk.fin ‹_› ?_;refine ⟨?_,rfl⟩)));all_goals (repeat subst ag)
  all_goals rfl
 |err rest c=>
  simp only [fh,au] at c1
  (try refine Wk.aw fun _ ag=>?_);(repeat' (first|((first|refine Wk.hd ?_|refine Wk.i ?_);simp -implicitDefEqProofs only [go_sem,seval,hG,hG0,hS,hS0])|refine cA (c1) ?_|first|refine Wk.o ?_|refine Wk.q ‹_› ?_));all_goals (repeat subst ag)
  refine Ic ((Fx B K Qi rfl (ai 0) (ai 0) (bI T (T.length - rest.length)) (T.length - rest.length) c).mono ?_)
  rintro o s ⟨rfl,rfl⟩
  refine ⟨⟨_,rfl⟩,?_⟩
  skip;(repeat' (first|((refine Wk.i ?_);simp -implicitDefEqProofs only [go_sem,seval,hG,hG0,hS,hS0])|refine Wk.ret fun _ _=>?_|(refine Wk.fin ‹_› ?_;refine ⟨?_,rfl⟩)));all_goals (repeat subst ag)
  all_goals rfl
theorem Fy (s:az) (i:Nat) (hs:s.length≤1048576) (hi:i<s.length):b8 G 98 [vs s,ai i] (EX (nQ (s.drop (i+1)))):=by
 intro st
 have h3:=fH s (i+1)
 have hd:=hU s (i+1)
 have hx2:=oO (s.getD (i+2) 0)
 have hx3:=oO (s.getD (i+3) 0)
 refine aa.body Tryz.func98 rfl Tryz.ntmps98 (by simp) ?_
 (try refine Wk.aw fun _ ag=>?_);(repeat' (first|((first|refine Wk.hd ?_|refine Wk.i ?_);simp -implicitDefEqProofs (disch:=omega) only [go_sem,seval])|(refine ay (fun hc=>?_) (fun hc=>?_)<;>try omega)|refine ah (qz _ _) ?_|refine Wk.drawn mx (by kernel_rfl) ?_|refine Wk.ret fun _ _=>?_|(refine Wk.fin ‹_› ?_;refine ⟨?_,rfl⟩)|first|refine Wk.o ?_|refine Wk.q ‹_› ?_));all_goals (repeat subst ag)
 all_goals (try simp -implicitDefEqProofs (disch:=first|assumption|omega) only [nQ,hd,h3,show i+1+0=i+1 from rfl,show i+1+1=i+2 from rfl,show i+1+2=i+3 from rfl,if_pos,if_neg]);all_goals first|rfl|((repeat' split)<;>first|rfl|(exfalso;omega)|grind|skip)
 all_goals (simp only [EX];rw [vc,yX (by omega) (by omega)];rfl)
def Tj (s:az):Bool:=decide (s=[124,124]∨s=[38,38]∨s=[61,61]∨s=[33,61]∨s=[60,61]∨s=[62,61]∨s=[60]∨s=[62]∨s=[43]∨s=[45]∨s=[42]∨s=[47]∨s=[37]∨s=[33]∨s=[63]∨s=[58]∨s=[46]∨s=[44]∨s=[61]∨s=[40]∨s=[41]∨s=[91]∨s=[93]∨s=[123]∨s=[125])
theorem L7 {s L:az} {i:Nat} (hc:(s.take (i+2)).drop i=L) (h:j5 L=true):AA (s.drop i)= .ok 4 L 2:=by
 have hl:(s.drop i).take 2=L:=by rw [←hc,List.drop_take,show i+2 - i=2 by omega]
 rw [AA.eq_def,hl,if_pos h]
theorem take_one {s:az} {i:Nat} (hi:i<s.length):(s.take (i+1)).drop i=[s.getD i 0]:=by
 rw [List.drop_take,show i+1 - i=1 by omega,drop_cons hi];rfl
theorem L8 {s:az} {i:Nat} {x:UInt8} (hi:i<s.length) (hno:j5 ((s.drop i).take 2)=false) (hc:(s.take (i+1)).drop i=[x]) (h:rJ.contains x=true):AA (s.drop i)= .ok 4 [x] 1:=by
 rw [take_one hi] at hc
 have hx:s.getD i 0=x:=by simpa using hc
 rw [drop_cons hi] at hno ⊢
 rw [AA,hno,hx]
 simp only [aay,if_false,h,if_true]
theorem Jh {s:az} {i:Nat} (hi:i<s.length) (hno:j5 ((s.drop i).take 2)=false) (h:rJ.contains (s.getD i 0)=false):AA (s.drop i)= .err 5:=by
 rw [drop_cons hi] at hno ⊢
 rw [AA,hno]
 simp only [aay,if_false,h]
theorem Zd {s:az} {i:Nat} (h:¬ i+2≤s.length∨(¬ (s.take (i+2)).drop i=[124,124]∧¬ (s.take (i+2)).drop i=[38,38]∧¬ (s.take (i+2)).drop i=[61,61]∧¬ (s.take (i+2)).drop i=[33,61]∧¬ (s.take (i+2)).drop i=[60,61]∧¬ (s.take (i+2)).drop i=[62,61])):j5 ((s.drop i).take 2)=false:=by
 have hl:(s.drop i).take 2=(s.take (i+2)).drop i:=by rw [List.drop_take,show i+2 - i=2 by omega]
 rw [hl,j5,aaG]
 rcases h with h|⟨h1,h2,h3,h4,h5,h6⟩
 ·intro h'
  have:((s.take (i+2)).drop i).length<2:=by simp only [aai,aag];omega
  rcases h' with h|h|h|h|h|h<;>rw [h] at this<;>exact absurd this (by decide)
 ·simp only [not_or];exact ⟨h1,h2,h3,h4,h5,h6⟩
theorem Cc (s : az) (i : Nat) (hs : s.length ≤ 1048576) (hi : i < s.length) : b8 G 70 [vs s, ai i] (BE i (AA (s.drop i))) := by
  intro st
  refine aa.body Tryz.func70 rfl Tryz.ntmps70 (by simp) ?_
  repeat' (first
    | (with_reducible refine AW.Ga ?_; refine AW.rounds 3 ?_)
    | (with_reducible refine AW.Gp 2 ?_; refine AW.Uv 2 [(0, vs s), (1, ai i), (4, .ptr st.aj.length 0), (8, ai 2), (9, vs ((s.take (i + 2)).drop i)), (10, .d (.sl [[int 2], [int 1]])), (11, ai 2), (12, ai 0), (29, vb (Tj ((s.take (i + 2)).drop i)))] ⟨st.aj ++ [.cells [.d (.int .i64 0), .d (.str []), .d (.int .i64 0)]], st.toks⟩ ?_ ?_)
    | with_reducible refine AW.seq ?_
    | with_reducible refine wK ?_
    | with_reducible refine AW.block ?_
    | with_reducible refine AW.scope ?_
    | with_reducible refine AW.skip ?_
    | with_reducible refine AW.label ?_
    | with_reducible refine AW.exit ?_
    | with_reducible refine AW.ret ?_
    | with_reducible refine OX.nil ?_
    | with_reducible refine KT ?_
    | with_reducible refine KU ?_
    | with_reducible refine KV ?_
    | with_reducible refine KW ?_
    | with_reducible refine Hx ?_
    | with_reducible refine Hy ?_
    | with_reducible refine Hz ?_
    | with_reducible refine HA ?_
    | with_reducible refine K3 ?_
    | with_reducible refine K4 ?_
    | refine HB (by decide) ?_
    | ((first | refine N3 ?_ | refine Ut ?_ | refine Uu ?_); refine OX.run (by simp -implicitDefEqProofs (disch := omega) only [go_sem, seval]; first | done | exact rfl) ?_)
    | (with_reducible refine yG ?_ ?_; (focus (first | assumption | omega)))
    | (with_reducible refine yH ?_ ?_; (focus (first | assumption | omega)))
    | (with_reducible refine HR ?_ ?_; (focus assumption))
    | (with_reducible refine HT ?_ ?_; (focus assumption))
    | with_reducible refine K5 (fun hc => ?_) (fun hc => ?_)
    | with_reducible refine HU (fun hc => ?_) (fun hc => ?_)
    | with_reducible refine K6 (fun hc => ?_) (fun hc => ?_)
    | (refine Qx ?_ ?_; (focus (first | assumption | omega)); refine OX.run (by simp -implicitDefEqProofs (disch := omega) only [go_sem, seval]; first | done | exact rfl) ?_)
    | (refine Qy ?_ ?_; (focus (first | assumption | omega)); refine OX.run (by simp -implicitDefEqProofs (disch := omega) only [go_sem, seval]; first | done | exact rfl) ?_)
    | (refine N4 (fun hc => ?_) (fun hc => ?_) <;> refine OX.run (by simp -implicitDefEqProofs (disch := omega) only [go_sem, seval]; first | done | exact rfl) ?_)
    | (refine Qw (fun hc => ?_) (fun hc => ?_) <;> refine OX.run (by simp -implicitDefEqProofs (disch := omega) only [go_sem, seval]; first | done | exact rfl) ?_)
    | refine AW.Qv (by simp -implicitDefEqProofs (disch := omega) only [go_sem, seval]; first | done | exact rfl) ?_
    | refine AW.Uo (by simp -implicitDefEqProofs (disch := omega) only [go_sem, seval]; first | done | exact rfl) ?_
    | refine AW.Up (P := Tryz.prog) mx (by kernel_rfl) (by simp -implicitDefEqProofs (disch := omega) only [go_sem, seval]; first | done | exact rfl) ?_
    | refine OX.gd rfl rfl (by simp -implicitDefEqProofs (disch := omega) only [go_sem, seval]; first | done | exact rfl) ?_
    | refine uT (by simp -implicitDefEqProofs (disch := omega) only [go_sem, seval]) (by simp -implicitDefEqProofs (disch := omega) only [go_sem, seval]) (by simp -implicitDefEqProofs (disch := omega) only [go_sem, seval]; first | done | exact rfl) (by simp -implicitDefEqProofs (disch := omega) only [go_sem, seval]; first | done | exact rfl) (by simp -implicitDefEqProofs (disch := omega) only [go_sem, seval]) ⟨?_, rfl⟩)
  all_goals first
    | (exfalso; have h := congrArg List.length hc; simp only [aai, aag, aah, aao] at h; omega)
    | (rw [L7 hc (by decide), hc]; rfl)
    | (have hno := Zd (s := s) (i := i) (by first | exact .inl (by omega) | exact .inr ⟨by assumption, by assumption, by assumption, by assumption, by assumption, by assumption⟩)
       first
         | (rw [L8 hi hno hc (by decide), hc]; rfl)
         | (rw [Jh hi hno (by
              rw [aaM, Ne, List.contains_iff_mem]
              intro h
              have h1 := take_one hi
              simp only [rJ, aaY, List.not_mem_nil, or_false] at h
              rcases h with h | h | h | h | h | h | h | h | h | h | h | h | h | h | h | h | h | h | h <;> (rw [h] at h1; contradiction))]; rfl))
abbrev zT:List V:=[.d (.int .i64 0),.d (.str []),.d (.int .i64 0)]
def mH (b id:Nat):az→aJ
 |[]=> .tc bT [.d .eX,.bh]
 |c::r=> .tc bT [.ptr b 0,.own id (aH (c::r))]
def kP:az→List (Nat×Nat×Nat)
 |[]=>[]
 |c::r=>[(bE,1,r.length+1)]
theorem Fz {s:az} {j:Nat} (hj:j<s.length) (h1:¬ (s.getD j 0).toNat<32) (h2:(s.getD j 0).toNat≠92):tW (s.drop j)= .ok (s.getD j 0) 1:=by
 have:(s.drop j).getD 0 0=s.getD j 0:=by simp [aaj]
 rw [tW,this,if_neg h1,if_pos h2]
theorem Du {s:az} {j:Nat} (hj:j<s.length) (h2:(s.getD j 0).toNat=92):tW (s.drop j)=nQ (s.drop (j+1)):=by
 have:(s.drop j).getD 0 0=s.getD j 0:=by simp [aaj]
 rw [tW,this,if_neg (by omega),if_neg (by omega),List.drop_drop]
theorem L9 {s:az} {j:Nat} (hj:j<s.length) (h1:(s.getD j 0).toNat<32):tW (s.drop j)= .err 5:=by
 have:(s.drop j).getD 0 0=s.getD j 0:=by simp [aaj]
 rw [tW,this,if_pos h1]
theorem Dv {i j:Nat} {a:az} (h:i≤j):BE i (.ok 3 a (j - i+1))= .cF [vT ⟨3,a,i⟩,ai ↑(j+1),ai 0]:=by
 simp only [BE,Lq,Lr,BD,show i+(j - i+1)=j+1 by omega]
theorem Py (s:az) (i:Nat) (hs:s.length≤1048576) (hi:i<s.length):b8 G 69 [vs s,ai i] (BE i (lq (s.drop (i+1)) [] 1)):=by
 intro st
 refine aa.body Tryz.func69 rfl Tryz.ntmps69 (by simp) ?_
 (try refine Wk.aw fun _ ag=>?_);(repeat' (first|((refine Wk.i ?_);simp -implicitDefEqProofs (disch:=omega) only [go_sem,seval])|refine Wk.o ?_));all_goals (repeat subst ag)
 refine AW.cD (fun x:az×Nat=>[(0,vs s),(1,ai ↑i),(4,.ptr st.aj.length 0),(7,.ptr (st.aj.length+1) 0),(8,ai ↑x.2)]) (fun x=>[.cells zT,mH (st.aj.length+1) st.toks.length x.1]) (fun x=>kP x.1)
  (fun x=>i<x.2∧x.2≤s.length∧x.1.length≤x.2∧lq (s.drop x.2) x.1 (x.2 - i)=lq (s.drop (i+1)) [] 1) (fun x=>s.length - x.2) ([],i+1) (by simp -implicitDefEqProofs (disch:=omega) only [go_sem,seval,mH,kP];first|done|exact rfl) (by simp -implicitDefEqProofs (disch:=omega) only [go_sem,seval]<;>first|rfl|exact ⟨rfl,rfl⟩|skip) ⟨by simp,by simp;omega,by simp,by simp⟩ ?_
 rintro ⟨acc,j⟩ ⟨h1,h2,h3,h4⟩
 simp only at h1 h2 h3 h4
 by_cases hj:j<s.length
 ·have hcons:=drop_cons hj
  have hr:=kL (s.getD j 0) (s.drop (j+1)) acc (j - i)
  rw [←hcons,h4] at hr
  have key:∀ (b:UInt8) (k:Nat) (fr':Fr),1≤k→j+k≤s.length→lq (s.drop (j+k)) (acc++[b]) (j+k - i)=lq (s.drop (i+1)) [] 1→
    okF fr' [(0,vs s),(1,ai ↑i),(4,.ptr st.aj.length 0),(7,.ptr (st.aj.length+1) 0),(8,ai ↑(j+k))]→∀ (B:aJ) (T:List (Nat×Nat×Nat)),B=mH (st.aj.length+1) st.toks.length (acc++[b])→T=kP (acc++[b])→
    ∃ x',gk st (fun x:az×Nat=>[(0,vs s),(1,ai ↑i),(4,.ptr st.aj.length 0),(7,.ptr (st.aj.length+1) 0),(8,ai ↑x.2)]) (fun x=>[.cells zT,mH (st.aj.length+1) st.toks.length x.1]) (fun x=>kP x.1)
     (fun x=>i<x.2∧x.2≤s.length∧x.1.length≤x.2∧lq (s.drop x.2) x.1 (x.2 - i)=lq (s.drop (i+1)) [] 1) (fun x=>s.length - x.2) (acc,j) fr' ⟨st.aj++[.cells zT,B],st.toks++T⟩ x':=by
   rintro b k fr' q1 q2 q3 q4 B T rfl rfl
   refine ⟨(acc++[b],j+k),⟨q4,⟨by simp only;omega,q2,by simp only [aak,aaH];omega,q3⟩,by simp only;omega,aat (by simp),aat (by simp),?_,?_⟩⟩
   ·simp [okW,V.within]
   ·cases acc<;>simp [mH,kP,aJ.within,V.within,V.within.all]
  by_cases hq:(s.getD j 0).toNat=34
  ·rw [if_pos hq] at hr
   rw [hr]
   have hq':((s.getD j 0).toNat:Int)=34:=by omega
   cases acc with
   |nil=>
    (try refine Wk.aw fun _ ag=>?_);(repeat' (first|((first|refine Wk.hd ?_|refine Wk.i ?_);simp -implicitDefEqProofs (disch:=omega) only [go_sem,seval,mH,kP,hq'])|(refine ay (fun hc=>?_) (fun hc=>?_)<;>try omega)|refine ah (LK _ (st.aj.length+1) (.d .eX) (by simp)) ?_|refine ah (nL _ (st.aj.length+1) (.d .eX) (by simp)) ?_|refine Wk.ret fun _ _=>?_|(refine Wk.fin ‹_› ?_;refine ⟨?_,rfl⟩)|first|refine Wk.o ?_|refine Wk.q ‹_› ?_));all_goals (repeat subst ag)
    all_goals first|(exfalso;omega)|(rw [if_neg (by simp),Dv (by omega)];rfl)
   |cons a r=>
    (try refine Wk.aw fun _ ag=>?_);(repeat' (first|((first|refine Wk.hd ?_|refine Wk.i ?_);simp -implicitDefEqProofs (disch:=omega) only [go_sem,seval,mH,kP,hq'])|(refine ay (fun hc=>?_) (fun hc=>?_)<;>try omega)|refine ah (LJ _ (st.aj.length+1) st.toks.length (a::r) (by simp)) ?_|refine aW (ku _ (st.aj.length+1) st.toks.length (.ptr (st.aj.length+1) 0) (a::r) (by simp) (by simp) (by simp)) ?_|refine Wk.ret fun _ _=>?_|(refine Wk.fin ‹_› ?_;refine ⟨?_,rfl⟩)|first|refine Wk.o ?_|refine Wk.q ‹_› ?_));all_goals (repeat subst ag)
    all_goals first|(rw [if_pos (by simp only [aah];omega)];rfl)|(rw [if_neg (by simp only [aah];omega),Dv (by omega)];rfl)
  ·rw [if_neg hq] at hr
   have hq':¬ ((s.getD j 0).toNat:Int)=34:=by omega
   by_cases hlow:(s.getD j 0).toNat<32
   ·rw [L9 hj hlow] at hr
    simp only at hr
    rw [hr]
    (try refine Wk.aw fun _ ag=>?_);(repeat' (first|((refine Wk.i ?_);simp -implicitDefEqProofs (disch:=omega) only [go_sem,seval])|(refine ay (fun hc=>?_) (fun hc=>?_)<;>try omega)|refine Wk.ret fun _ _=>?_|(refine Wk.fin ‹_› ?_;refine ⟨?_,rfl⟩)|first|refine Wk.o ?_|refine Wk.q ‹_› ?_));all_goals (repeat subst ag)
    all_goals first|rfl|(exfalso;omega)
   ·by_cases hb:(s.getD j 0).toNat=92
    ·rw [Du hj hb] at hr
     have hes:=Fy (G:=G) s j hs hj
     have hsh:=Lu (G:=G) s j hs hj
     rcases he:nQ (s.drop (j+1)) with ⟨b,k⟩|e
     ·rw [he] at hr hes
      have hk:=ob ((Du hj hb).trans he) (by simp;omega)
      simp only [aai] at hk
      simp only [List.drop_drop] at hr
      cases acc with
      |nil=>
       (try refine Wk.aw fun _ ag=>?_);(repeat' (first|((first|refine Wk.hd ?_|refine Wk.i ?_);simp -implicitDefEqProofs (disch:=omega) only [go_sem,seval,mH,kP,EX])|(refine ay (fun hc=>?_) (fun hc=>?_)<;>try omega)|refine ah (hes _) ?_|refine aW (IQ _ (st.aj.length+1) _ (by simp)) ?_|first|refine Wk.o ?_|refine Wk.q ‹_› ?_));all_goals (repeat subst ag)
       all_goals first|(exfalso;omega)|skip
       all_goals refine key b k _ (by omega) (by omega) (by rw [hr,show j+k - i=j - i+k by omega]) (by simp -implicitDefEqProofs (disch:=omega) only [go_sem,seval]) _ _ rfl rfl
      |cons a r=>
       (try refine Wk.aw fun _ ag=>?_);(repeat' (first|((first|refine Wk.hd ?_|refine Wk.i ?_);simp -implicitDefEqProofs (disch:=omega) only [go_sem,seval,mH,kP,EX])|(refine ay (fun hc=>?_) (fun hc=>?_)<;>try omega)|refine ah (hes _) ?_|refine aW (IP _ (st.aj.length+1) st.toks.length (a::r) _ (by simp) (by simp) (by simp only [aah] at*;omega)) ?_|first|refine Wk.o ?_|refine Wk.q ‹_› ?_));all_goals (repeat subst ag)
       all_goals first|(exfalso;omega)|skip
       all_goals refine key b k _ (by omega) (by omega) (by rw [hr,show j+k - i=j - i+k by omega]) (by simp -implicitDefEqProofs (disch:=omega) only [go_sem,seval]) _ _ rfl (by simp [kP])
     ·rw [he] at hr hes
      simp only at hr
      rw [hr]
      rcases BF he with ⟨rfl,hsf⟩|⟨rfl,hsf⟩
      ·rw [hsf] at hsh
       (try refine Wk.aw fun _ ag=>?_);(repeat' (first|((first|refine Wk.hd ?_|refine Wk.i ?_);simp -implicitDefEqProofs (disch:=omega) only [go_sem,seval,EX])|(refine ay (fun hc=>?_) (fun hc=>?_)<;>try omega)|refine ah (hes _) ?_|refine ah (hsh _) ?_|refine Wk.ret fun _ _=>?_|(refine Wk.fin ‹_› ?_;refine ⟨?_,rfl⟩)|first|refine Wk.o ?_|refine Wk.q ‹_› ?_));all_goals (repeat subst ag)
       all_goals first|rfl|(exfalso;omega)
      ·rw [hsf] at hsh
       (try refine Wk.aw fun _ ag=>?_);(repeat' (first|((first|refine Wk.hd ?_|refine Wk.i ?_);simp -implicitDefEqProofs (disch:=omega) only [go_sem,seval,EX])|(refine ay (fun hc=>?_) (fun hc=>?_)<;>try omega)|refine ah (hes _) ?_|refine ah (hsh _) ?_|refine Wk.ret fun _ _=>?_|(refine Wk.fin ‹_› ?_;refine ⟨?_,rfl⟩)|first|refine Wk.o ?_|refine Wk.q ‹_› ?_));all_goals (repeat subst ag)
       all_goals first|rfl|(exfalso;omega)
    ·rw [Fz hj hlow hb] at hr
     simp only [List.drop_drop] at hr
     cases acc with
     |nil=>
      (try refine Wk.aw fun _ ag=>?_);(repeat' (first|((first|refine Wk.hd ?_|refine Wk.i ?_);simp -implicitDefEqProofs (disch:=omega) only [go_sem,seval,mH,kP])|(refine ay (fun hc=>?_) (fun hc=>?_)<;>try omega)|refine aW (IQ _ (st.aj.length+1) _ (by simp)) ?_|first|refine Wk.o ?_|refine Wk.q ‹_› ?_));all_goals (repeat subst ag)
      all_goals first|(exfalso;omega)|skip
      all_goals refine key (s.getD j 0) 1 _ (by omega) (by omega) (by rw [hr,show j+1 - i=j - i+1 by omega]) (by simp -implicitDefEqProofs (disch:=omega) only [go_sem,seval]) _ _ rfl rfl
     |cons a r=>
      (try refine Wk.aw fun _ ag=>?_);(repeat' (first|((first|refine Wk.hd ?_|refine Wk.i ?_);simp -implicitDefEqProofs (disch:=omega) only [go_sem,seval,mH,kP])|(refine ay (fun hc=>?_) (fun hc=>?_)<;>try omega)|refine aW (IP _ (st.aj.length+1) st.toks.length (a::r) _ (by simp) (by simp) (by simp only [aah] at*;omega)) ?_|first|refine Wk.o ?_|refine Wk.q ‹_› ?_));all_goals (repeat subst ag)
      all_goals first|(exfalso;omega)|skip
      all_goals refine key (s.getD j 0) 1 _ (by omega) (by omega) (by rw [hr,show j+1 - i=j - i+1 by omega]) (by simp -implicitDefEqProofs (disch:=omega) only [go_sem,seval]) _ _ rfl (by simp [kP])
 ·have:s.drop j=[]:=aaI (by omega)
  rw [this,jk] at h4
  rw [←h4]
  (try refine Wk.aw fun _ ag=>?_);(repeat' (first|((refine Wk.i ?_);simp -implicitDefEqProofs (disch:=omega) only [go_sem,seval])|(refine ay (fun hc=>?_) (fun hc=>?_)<;>try omega)|refine Wk.ret fun _ _=>?_|(refine Wk.fin ‹_› ?_;refine ⟨?_,rfl⟩)|first|refine Wk.o ?_|refine Wk.q ‹_› ?_|refine Wk.sw fun _ ag=>?_));all_goals (repeat subst ag)
  all_goals rfl
theorem Mc (s:az) (i:Nat) (hs:s.length≤1048576) (hi:i<s.length):b8 G 42 [vs s,ai i] (BE i (jy (s.drop i))):=by
 intro st
 have hn:=C9 hi
 rw [hn]
 by_cases hl:bN (s.getD i 0)=true
 ·rw [if_pos hl]
  refine aa.body Tryz.func42 rfl Tryz.ntmps42 (by simp) ?_
  (try with_reducible refine Wk.aw fun _ ag=>?_);(repeat' (first|((with_reducible first|refine Wk.hd ?_|refine Wk.i ?_);simp -implicitDefEqProofs (disch:=first|omega|(simp only [go_sem,aag,aai];try omega)) only [go_sem,seval])|(refine ay (fun hc=>?_) (fun hc=>?_)<;>try (exfalso;first|omega|contradiction|exact fQ hc ‹_› |exact fQ ‹_› hc))|refine ah (eY _ _) ?_|refine ah (wW s i hs (by omega) _) ?_|with_reducible refine Wk.ret fun _ _=>?_|(refine Wk.fin ‹_› ?_;refine ⟨?_,rfl⟩)|with_reducible first|refine Wk.o ?_|refine Wk.q ‹_› ?_));all_goals (repeat subst ag)
  all_goals rfl
 ·rw [if_neg hl]
  have hl':=aaM.2 hl
  by_cases hdg:isDigit (s.getD i 0)=true
  ·rw [if_pos hdg]
   refine aa.body Tryz.func42 rfl Tryz.ntmps42 (by simp) ?_
   (try with_reducible refine Wk.aw fun _ ag=>?_);(repeat' (first|((with_reducible first|refine Wk.hd ?_|refine Wk.i ?_);simp -implicitDefEqProofs (disch:=first|omega|(simp only [go_sem,aag,aai];try omega)) only [go_sem,seval])|(refine ay (fun hc=>?_) (fun hc=>?_)<;>try (exfalso;first|omega|contradiction|exact fQ hc ‹_› |exact fQ ‹_› hc))|refine ah (eY _ _) ?_|refine ah (fG _ _) ?_|refine ah (sr s i hs (by omega) _) ?_|with_reducible refine Wk.ret fun _ _=>?_|(refine Wk.fin ‹_› ?_;refine ⟨?_,rfl⟩)|with_reducible first|refine Wk.o ?_|refine Wk.q ‹_› ?_));all_goals (repeat subst ag)
   all_goals rfl
  ·rw [if_neg hdg]
   have hdg':=aaM.2 hdg
   by_cases h34:(s.getD i 0).toNat=34
   ·rw [if_pos h34]
    refine aa.body Tryz.func42 rfl Tryz.ntmps42 (by simp) ?_
    (try with_reducible refine Wk.aw fun _ ag=>?_);(repeat' (first|((with_reducible first|refine Wk.hd ?_|refine Wk.i ?_);simp -implicitDefEqProofs (disch:=first|omega|(simp only [go_sem,aag,aai];try omega)) only [go_sem,seval])|(refine ay (fun hc=>?_) (fun hc=>?_)<;>try (exfalso;first|omega|contradiction|exact fQ hc ‹_› |exact fQ ‹_› hc))|refine ah (eY _ _) ?_|refine ah (fG _ _) ?_|refine ah (Py s i hs hi _) ?_|with_reducible refine Wk.ret fun _ _=>?_|(refine Wk.fin ‹_› ?_;refine ⟨?_,rfl⟩)|with_reducible first|refine Wk.o ?_|refine Wk.q ‹_› ?_));all_goals (repeat subst ag)
    all_goals rfl
   ·rw [if_neg h34]
    refine aa.body Tryz.func42 rfl Tryz.ntmps42 (by simp) ?_
    (try with_reducible refine Wk.aw fun _ ag=>?_);(repeat' (first|((with_reducible first|refine Wk.hd ?_|refine Wk.i ?_);simp -implicitDefEqProofs (disch:=first|omega|(simp only [go_sem,aag,aai];try omega)) only [go_sem,seval])|(refine ay (fun hc=>?_) (fun hc=>?_)<;>try (exfalso;first|omega|contradiction|exact fQ hc ‹_› |exact fQ ‹_› hc))|refine ah (eY _ _) ?_|refine ah (fG _ _) ?_|refine ah (Cc s i hs hi _) ?_|with_reducible refine Wk.ret fun _ _=>?_|(refine Wk.fin ‹_› ?_;refine ⟨?_,rfl⟩)|with_reducible first|refine Wk.o ?_|refine Wk.q ‹_› ?_));all_goals (repeat subst ag)
    all_goals rfl
theorem Md {t:az} {op:Nat} (h:t=[40]∨t=[91]):jI t op=op+1:=if_pos h
theorem Me {t:az} {op:Nat} (h:t=[41]∨t=[93]):jI t op=op - 1:=by
 rcases h with rfl|rfl<;>rfl
theorem Mf {t:az} {op:Nat} (h1:¬ t=[40]) (h2:¬ t=[91]) (h3:¬ t=[41]) (h4:¬ t=[93]):jI t op=op:=by
 rw [jI,if_neg (by rintro (h|h)<;>contradiction),if_neg (by rintro (h|h)<;>contradiction)]
theorem Ce (t:az) (op:Nat) (ho:op≤1048576):b8 G 43 [vs t,ai op] (ai ↑(jI t op)):=by
 intro st
 refine aa.body Tryz.func43 rfl Tryz.ntmps43 (by simp) ?_
 (try with_reducible refine Wk.aw fun _ ag=>?_);(repeat' (first|((with_reducible refine Wk.i ?_);simp -implicitDefEqProofs (disch:=first|omega|(simp only [go_sem];try omega)) only [go_sem,seval])|(refine ay (fun hc=>?_) (fun hc=>?_)<;>try (exfalso;first|omega|contradiction))|with_reducible refine Wk.ret fun _ _=>?_|(refine Wk.fin ‹_› ?_;refine ⟨?_,rfl⟩)|with_reducible first|refine Wk.o ?_|refine Wk.q ‹_› ?_));all_goals (repeat subst ag)
 all_goals refine bA ?_
 all_goals first
  |(rw [Md (by first|exact .inl ‹_› |exact .inr ‹_›)])
  |(rw [Me (by first|exact .inl ‹_› |exact .inr ‹_›)];split<;>omega)
  |(rw [Mf ‹¬ t=[40]› ‹¬ t=[91]› ‹¬ t=[41]› ‹¬ t=[93]›])
theorem zO:yR G 41 fO:=by
 refine ⟨Tryz.call41,fun c st=>?_⟩
 refine aa.body Tryz.func41 rfl Tryz.ntmps41 (by simp) ?_
 (try refine Wk.aw fun _ ag=>?_);(repeat' (first|((refine Wk.i ?_);simp -implicitDefEqProofs only [go_sem,seval])|refine Wk.ret fun _ _=>?_|(refine Wk.fin ‹_› ?_;refine ⟨?_,rfl⟩)|first|refine Wk.o ?_|refine Wk.q ‹_› ?_));all_goals (repeat subst ag)
 all_goals (refine aO ?_;simp only [fO,aal];omega)
theorem o4 (r:Nat) (h:r≤2147483647):b8 G 39 [.d (.int .i32 ↑r)] (vb (decide (r=32∨r=9))):=by
 intro st
 refine aa.body Tryz.func39 rfl Tryz.ntmps39 (by simp) ?_
 (try refine Wk.aw fun _ ag=>?_);(repeat' (first|((first|refine Wk.hd ?_|refine Wk.i ?_);simp -implicitDefEqProofs only [go_sem,seval])|(refine ay (fun hc=>?_) (fun hc=>?_)<;>try omega)|refine Wk.ret fun _ _=>?_|(refine Wk.fin ‹_› ?_;refine ⟨?_,rfl⟩)|first|refine Wk.o ?_|refine Wk.q ‹_› ?_));all_goals (repeat subst ag)
 all_goals (refine aO ?_;simp only [aal,reduceCtorEq,iff_false,false_iff,iff_true,true_iff];omega)
def BA (s:az):ByteArray:=⟨s.toArray⟩
theorem rG (s:az):(BA s).size=s.length:=by simp [BA,ByteArray.size]
theorem Cf (s:az) (p:Nat) (h:p< (BA s).size):(BA s)[p]=s.getD p 0:=by
 rw [rG] at h
 simp [BA,aaj,h,ByteArray.getElem_eq_getElem_data]
theorem Mg (s:az) (p:Nat):(BA s).get! p=s.getD p 0:=by
 simp only [BA,ByteArray.get!,aaj]
 by_cases h:p<s.length
 ·simp [getElem!_pos,h]
 ·rw [getElem!_neg _ _ (by simpa using h)];simp [h];rfl
theorem FD {s:az} {p:Nat} (h:p<s.length) (ha:(s.getD p 0).toNat<128):Utf8.decode (BA s) p=((s.getD p 0).toNat,1):=by
 have hs:p< (BA s).size:=by rw [rG];exact h
 have:=decode_ascii (BA s) p hs (by rw [Cf];exact ha)
 rw [this,Cf]
theorem Jk {s:az} {p:Nat} (h:p<s.length) (ha:128≤(s.getD p 0).toNat):128≤(Utf8.decode (BA s) p).1∧1≤(Utf8.decode (BA s) p).2:=by
 have hs:p< (BA s).size:=by rw [rG];exact h
 exact decode_high (BA s) p hs (by rw [Cf];exact ha)
theorem PA (s:az) (p:Nat):(Utf8.decode (BA s) p).1≤2147483647:=decode_le (BA s) p
theorem zP {s:az} {p j:Nat} (h0:0<j) (h1:j< (Utf8.decode (BA s) p).2):p+j<s.length∧128≤(s.getD (p+j) 0).toNat∧128≤(s.getD p 0).toNat:=by
 rw [Lib.decode_at] at h1
 simp only [Mg,rG] at h1
 unfold Lib.decodeN at h1
 repeat' split at h1
 all_goals (simp only at h1;first|omega|skip)
 all_goals (have hj:j=1∨j=2∨j=3:=by omega)
 all_goals (rcases hj with rfl|rfl|rfl)
 all_goals omega
theorem T3 {s:az} {q:Nat} (hq:q≤s.length) (h:q=s.length∨(s.getD q 0).toNat<128∨(0<q∧(s.getD (q - 1) 0).toNat<128)):∀ p,p<q→p+(Utf8.decode (BA s) p).2≤q:=by
 intro p hp
 refine Nat.le_of_not_lt fun hlt=>?_
 have h1:=zP (s:=s) (p:=p) (j:=q - p) (by omega) (by omega)
 rw [show p+(q - p)=q by omega] at h1
 rcases h with h|h|⟨h0,h⟩
 ·omega
 ·omega
 ·by_cases hpq:p=q - 1
  ·rw [←hpq] at h;omega
  ·have h2:=zP (s:=s) (p:=p) (j:=q - p - 1) (by omega) (by omega)
   rw [show p+(q - p - 1)=q - 1 by omega] at h2;omega
end Go.Proofs.YthnoiikjfcnlhaaGreatDoor
end
