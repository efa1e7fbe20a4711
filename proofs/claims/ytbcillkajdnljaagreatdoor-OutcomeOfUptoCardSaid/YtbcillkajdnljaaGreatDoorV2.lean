import Derived.Test.YtbcillkajdnljaaGreatDoorV1
import Derived.RangeFuncNested
import Derived.RangeFuncBound
import Derived.RangeFuncCalls
import Derived.RangeFuncLeaves
import Derived.Shelf.Abstract
import Derived.Shelf.RegionOpen
import Derived.WalkKit
import Derived.OwnWalkIn
import Derived.TacticsInMore
import Derived.LoopNIn
import Derived.LoopIn
import Derived.Test.YtbcillkajdnljaaGreatDoorChecked
set_option linter.all false
section
namespace Go.Proofs.YtbcillkajdnljaaGreatDoor
open Tryz
open Go Go.Proofs Go.RowKit Go.Shelf
attribute [local go_sem] Oper.semAt_some
def xp {F:Fence} (hd:F.depth=none) (k:Nat):F.room k:=fun d h=>by rw [hd] at h;cases h
def RoundIn.s6 {F:Fence} (hd:F.depth=none) {m m':Nat} {P:Program} {l:Nat} {f:FuncId} {tmps:Array Value} {assign body:Code} {w:World} {R:Ending→World→Prop}
  (h:RoundIn F m P l f tmps assign body w R):RoundIn F m' P l f tmps assign body w R:=⟨h.1,fun c cs _=>h.2 c cs (xp hd _)⟩
def YieldAt.s6 {F:Fence} (hd:F.depth=none) {m:Nat} (m':Nat) {P:Program} {l:Nat} {args:Array Value} {W:World} {R:Ending→World→Prop} (h:YieldAt F m P l args W R):YieldAt F m' P l args W R:=by
 obtain ⟨fn,tmps,assign,body,hy,hR⟩:=h;exact ⟨fn,tmps,assign,body,hy,RoundIn.s6 hd hR⟩
def gW (level:Nat):aX→List (Nat×aX)
 | .mk k b i s l ks=>(level,.mk k b i s l ks)::Ma (level+1) l
where Ma (level:Nat):List aX→List (Nat×aX)
 |[]=>[]
 |v::r=>gW level v++Ma level r
def Mb (level:Nat) (l:List aX):gW.Ma level l=l.flatMap (gW level):=by
 induction l with
 |nil=>rfl
 |cons a r ih=>rw [gW.Ma,ih];rfl
def lG (level:Nat) (v:aX):gW level v=(level,v)::v.list.flatMap (gW (level+1)):=by
 cases v;rw [gW,Mb];rfl
abbrev Cd (vs:Nat→Nat→Value) (i:Nat):Value:= .agg #[vs i 0,vs i 1,vs i 2,vs i 3,vs i 4,vs i 5]
structure LY (n₀:Nat) (w:World) (Rl:Value→aX→Prop):Prop where
 parts:∀ va v,Rl va v→∃ (k ii:Int) (bo:Bool) (s:ByteArray) (lp kp:Option Addr) (ln lm kn km:Nat),va= .agg #[.int .i64 k,.bool bo,.int .i64 ii,.string s,.slice lp ln lm,.slice kp kn km]∧
  ((ln=0∧v.list=[])∨∃ b off,∃ vs:Nat→Nat→Value,lp=some ⟨b,off,none⟩∧ln=v.list.length∧
   (∀ W,Below n₀ w W→∀ i j,i<v.list.length→j<6→W.cell? ⟨b,off+i*6+j,none⟩=some (vs i j))∧
   ∀ i,i<v.list.length→Rl (Cd vs i) (v.list.getD i default))
abbrev Nd (Rl:Value→aX→Prop) (Fit:Nat→aX→Prop):Type:= { x:Nat×Value×aX // Rl x.2.1 x.2.2∧Fit x.1 x.2.2 }
abbrev Nd.p {Rl:Value→aX→Prop} {Fit:Nat→aX→Prop} (x:Nd Rl Fit):Nat×aX:=(x.1.1,x.1.2.2)
def FA {Rl:Value→aX→Prop} {Fit:Nat→aX→Prop} (x:Nd Rl Fit):Array Value:= #[.int .i64 x.1.1,x.1.2.1]
variable {Rl:Value→aX→Prop} {Fit:Nat→aX→Prop} {n₀:Nat} {w0:World}
def FB {α:Type} (f:aX→List α) {l:List aX} {j:Nat} (h:j<l.length):(l.take (j+1)).flatMap f=(l.take j).flatMap f++f (l.getD j default):=by
 rw [List.take_add_one,aam,aaw h,List.flatMap_append];simp only [Option.toList,List.flatMap_cons,List.flatMap_nil,aaM,aaS]
def zM {α:Type} (f:aX→List α) (l:List aX) (j:Nat):(l.take j).flatMap f<+:l.flatMap f:=by
 conv=>rhs;rw [←List.take_append_drop j l,List.flatMap_append]
 exact List.prefix_append _ _
def KpC (n₀:Nat) (W W':World):Prop:=Below n₀ W W'∧∀ (k:Nat) (arr:Array Value) (e:TypeId) (f:Nat×Nat),W.heap[k]?=some (Obj.cells arr e f)→W'.heap[k]?=some (Obj.cells arr e f)
def KpC.trans {n₀:Nat} {A B C:World} (h:KpC n₀ A B) (k:KpC n₀ B C):KpC n₀ A C:=⟨h.1.trans k.1,fun j arr e f hj=>k.2 j arr e f (h.2 j arr e f hj)⟩
def KpC.refl (n₀:Nat) (W:World):KpC n₀ W W:=⟨Below.refl _ _,fun _ _ _ _ h=>h⟩
def KpC.of {n₀:Nat} {W W':World} (h:Below W.heap.size W W') (hn:n₀≤W.heap.size):KpC n₀ W W':=⟨h.mono hn,fun k arr e f hk=>by rw [h.block k (aa8.1 hk).1];exact hk⟩
def zN {W W':World} (h:Below W.heap.size W W'):W.grownBy W' none:=⟨h.os,h.tape,h.output,h.size,fun k hk _=>h.block k hk⟩
def qa {W:World} (o:Obj):Below W.heap.size W (W.alloc o):=(Below.refl _ W).alloc (aat _) o
set_option maxRecDepth 100000 in
set_option maxHeartbeats 2000000 in
def Pz (hL:LY n₀ w0 Rl) (hF:∀ level v,Fit level v→level≤1152921504606846976∧v.list.length≤1048576∧∀ x∈v.list,Fit (level+1) x) (l N:Nat) (J Jx:List (Nd Rl Fit)→World→Prop)
  (hJ:∀ s W W',J s W→Below W.heap.size W W'→J s W') (hJw:∀ s W,J s W→Below n₀ w0 W) (hn0:n₀≤w0.heap.size)
  (hY:∀ m pre (x:Nd Rl Fit) W,J pre W→pre.length<N→YieldAt Fence.wide m prog l (FA x) W fun e W'=>
   (e= .returned (.bool true)∧J (pre++[x]) W'∧KpC n₀ W W')∨(e= .returned (.bool false)∧Jx (pre++[x]) W')) (v:aX):
  ∀ (n level:Nat) (va:Value) (pre:List (Nd Rl Fit)) (W:World),Rl va v→Fit level v→J pre W→pre.length+(gW level v).length≤N→
   CallsIn Fence.wide n prog 269 #[va,.int .i64 level,.func (.yield l) #[] #[]] W fun e W'=>
    (e= .returned (.bool true)∧(∃ q:List (Nd Rl Fit),q.map Nd.p=gW level v∧J (pre++q) W')∧KpC n₀ W W')∨(e= .returned (.bool false)∧∃ q:List (Nd Rl Fit),q.map Nd.p<+:gW level v∧Jx (pre++q) W'):=by
 induction v using aX.ind with
 |h v ih=>
  intro n level va pre W hR hfit hJ0 hN
  obtain ⟨f1,f2,f3⟩:=hF _ _ hfit
  obtain ⟨ck,ci,cb,cs,lp,kp,ln,lm,kn,km,rfl,hlv⟩:=hL.parts va v hR
  have hw:=hJw _ _ hJ0
  have hnW:n₀≤W.heap.size:=abj hn0 hw.size
  have hpl:(gW level v).length=1+(v.list.flatMap (gW (level+1))).length:=by rw [lG];simp;omega
  obtain ⟨x0,hx0,hx1⟩:∃ x0:Nd Rl Fit,x0.p=(level,v)∧FA x0= #[.int .i64 level,.agg #[.int .i64 ck,.bool cb,.int .i64 ci,.string cs,.slice lp ln lm,.slice kp kn km]]:=⟨⟨(level,.agg #[.int .i64 ck,.bool cb,.int .i64 ci,.string cs,.slice lp ln lm,.slice kp kn km],v),hR,hfit⟩,rfl,rfl⟩
  have hA:=qa (W:=W) (.cells #[.int .i64 ck,.bool cb,.int .i64 ci,.string cs,.slice lp ln lm,.slice kp kn km] 61)
  obtain ⟨fn,tmps,assign,body,hy,hRd⟩:=YieldAt.mono (R':=fun e W'=>(e= .returned (.bool true)∧W'.cell? ⟨W.heap.size,4,none⟩=some (.slice lp ln lm)∧J (pre++[x0]) W'∧KpC n₀ W W')∨(e= .returned (.bool false)∧Jx (pre++[x0]) W'))
   (hY (n - 1) pre x0 (W.alloc (.cells #[.int .i64 ck,.bool cb,.int .i64 ci,.string cs,.slice lp ln lm,.slice kp kn km] 61)) (hJ _ _ _ hJ0 hA) (by omega))
   (fun e W' h=>h.elim (fun ⟨he,hj,hk⟩=> .inl ⟨he,by have h':=hk.2 _ _ _ _ (World.alloc_heap_new W _);simp [World.cell?,h'],hj,(KpC.of hA hnW).trans hk⟩) .inr)
  rw [hx1] at hy
  refine callsIn_of_wp func269 rfl trivial ?_ rfl
  simp only [ntmps269,aaW,aav,aaA,Nat.reduceAdd,Nat.reduceSub,Array.replicate_succ,Array.replicate_zero,List.push_toArray,List.append_toArray,aaN,aaP]
  clear hR
  rcases hlv with ⟨rfl,hnl⟩|⟨b,off,vs,rfl,rfl,hcs,hch⟩
  ·gi_wp2
   refine ⟨fun h=>(by simp [Fence.wide] at h),?_⟩
   refine hRd.mono ?_
   rintro e W1 (⟨rfl,hc,hJ1,hk1⟩|⟨rfl,hx1⟩)
   ·gi_wp2
    gi_loopw [17] (fun i wr=>i= .int .i64 0∧wr=W1) (fun i _=>0)
    case atStart=>exact ⟨rfl,rfl⟩
    case round=>
     obtain ⟨rfl,rfl⟩:=hrel
     gi_wp2
     go_ret
     exact .inl ⟨rfl,⟨[x0],by rw [lG,hnl];simp [hx0],hJ1⟩,hk1⟩
   ·gi_wp2
    go_ret
    exact .inr ⟨rfl,[x0],by rw [lG];simp [hx0],hx1⟩
  ·gi_wp2
   refine ⟨fun h=>(by simp [Fence.wide] at h),?_⟩
   refine hRd.mono ?_
   rintro e W1 (⟨rfl,hc,hJ1,hk1⟩|⟨rfl,hx1⟩)
   ·gi_wp2
    gi_loopw [17] (fun i wr=>∃ j:Nat,j≤v.list.length∧i= .int .i64 j∧(∃ q:List (Nd Rl Fit),q.map Nd.p=(level,v)::(v.list.take j).flatMap (gW (level+1))∧J (pre++q) wr)∧KpC n₀ W wr)
     (fun i _=>v.list.length - (intOf i).toNat)
    case atStart=>exact ⟨0,aaK _,rfl,⟨[x0],by simp [hx0],hJ1⟩,hk1⟩
    case round=>
     obtain ⟨j,hj,rfl,⟨q,hq,hJq⟩,hk⟩:=hrel
     by_cases hlt:j<v.list.length
     ·have hxm:v.list.getD j default∈v.list:=by rw [aam,aaw hlt];exact aaX _
      have hbw:=hw.trans hk.1
      have d0:=hcs wr hbw j 0 hlt (by omega)
      have d1:=hcs wr hbw j 1 hlt (by omega)
      have d2:=hcs wr hbw j 2 hlt (by omega)
      have d3:=hcs wr hbw j 3 hlt (by omega)
      have d4:=hcs wr hbw j 4 hlt (by omega)
      have d5:=hcs wr hbw j 5 hlt (by omega)
      rw [abE] at d0
      obtain ⟨ck',ci',cb',cs',lp',kp',ln',lm',kn',km',hva',_⟩:=hL.parts _ _ (hch j hlt)
      simp only [Cd,Value.agg.injEq,Array.mk.injEq,List.cons.injEq,and_true] at hva'
      obtain ⟨e0,e1,e2,e3,e4,e5⟩:=hva'
      rw [e0] at d0;rw [e1] at d1;rw [e2] at d2;rw [e3] at d3;rw [e4] at d4;rw [e5] at d5
      have hft:=FB (gW (level+1)) hlt
      have hql:q.length=1+((v.list.take j).flatMap (gW (level+1))).length:=by have:=congrArg List.length hq;simpa [Nat.add_comm] using this
      have hle:((v.list.take (j+1)).flatMap (gW (level+1))).length≤(v.list.flatMap (gW (level+1))).length:=(zM _ _ _).length_le
      have hcall:∀ n W2,Below wr.heap.size wr W2→CallsIn Fence.wide n prog 269 #[.agg #[.int .i64 ck',.bool cb',.int .i64 ci',.string cs',.slice lp' ln' lm',.slice kp' kn' km'],.int .i64 ((level:Int)+1),.func (.yield l) #[] #[]] W2 fun e W'=>
        (e= .returned (.bool true)∧(∃ q:List (Nd Rl Fit),q.map Nd.p=(level,v)::(v.list.take (j+1)).flatMap (gW (level+1))∧J (pre++q) W')∧KpC n₀ W W')∨(e= .returned (.bool false)∧∃ q:List (Nd Rl Fit),q.map Nd.p<+:gW level v∧Jx (pre++q) W'):=by
       intro n W2 hb2
       refine (ih _ hxm n (level+1) _ (pre++q) W2 (by have:=hch j hlt;rw [Cd,e0,e1,e2,e3,e4,e5] at this;exact this) (f3 _ hxm) (hJ _ _ _ hJq hb2) (by rw [hft] at hle;simp only [aax] at hle ⊢;omega)).mono ?_
       rintro e W' (⟨he,⟨q2,h1,h2⟩,h3⟩|⟨he,q2,h1,h2⟩)
       ·exact .inl ⟨he,⟨q++q2,by rw [aaQ,hq,h1,hft];simp,by rw [←aaG];exact h2⟩,hk.trans ((KpC.of hb2 (abj hnW (by have:=hk.1.size;omega))).trans h3)⟩
       ·refine .inr ⟨he,q++q2,?_,by rw [←aaG];exact h2⟩
        rw [aaQ,hq,lG]
        have h4:(v.list.take j).flatMap (gW (level+1))++q2.map Nd.p<+:(v.list.take (j+1)).flatMap (gW (level+1)):=by
         rw [hft];obtain ⟨r,hr⟩:=h1;exact ⟨r,by rw [aaG,hr]⟩
        obtain ⟨r,hr⟩:=h4.trans (zM _ _ _)
        exact ⟨r,by rw [aaP,aaP,hr]⟩
      clear ih hY hcs hch hft hle hql e0 e1 e2 e3 e4 e5
      gi_wp2
      refine ⟨trivial,fun h=>(by simp [Fence.wide] at h),?_⟩
      refine (hcall _ _ (qa _)).mono ?_
      clear hcall
      rintro e W3 (⟨rfl,⟨q3,hq3,hJ3⟩,hk3⟩|⟨rfl,q3,hq3,hx3⟩)
      ·gi_wp2
       go_roundw
       case rel=>exact ⟨j+1,by omega,by go_num,⟨q3,hq3,hJ3⟩,hk3⟩
       case measure=>simp [intOf];omega
      ·gi_wp2
       go_ret
       exact .inr ⟨rfl,q3,hq3,hx3⟩
     ·have hje:v.list.take j=v.list:=aaO (by omega)
      rw [hje,←lG] at hq
      gi_wp2
      go_ret
      exact .inl ⟨rfl,⟨q,hq,hJq⟩,hk⟩
   ·gi_wp2
    go_ret
    exact .inr ⟨rfl,[x0],by rw [lG];simp [hx0],hx1⟩
end Go.Proofs.YtbcillkajdnljaaGreatDoor
end
section
namespace Go.Proofs.YtbcillkajdnljaaGreatDoor
open Tryz
open Go Go.Proofs Go.RowKit Go.Shelf
attribute [local go_sem] Oper.semAt_some
variable {Rl:Value→aX→Prop} {Fit:Nat→aX→Prop} {n₀:Nat} {w0:World}
def KpC.put {n₀:Nat} {w:World} (hn:n₀≤w.heap.size) (W:World) (l:Nat) (o o':Obj) (hl:w.heap.size≤l) (h:W.heap[l]?=some o) (hc:o.isCells=false) (hw:o.isWalk=false):KpC n₀ W (W.putObj l o'):=by
 refine ⟨belowK_b hn W l o o' hl h hc hw,fun k arr e f hk=>?_⟩;have hg:=grownBy_putObj' W l o';rw [hg.block k (aa8.1 hk).1 (fun e=>?_)]
 ·exact hk
 ·cases e;rw [h] at hk;cases hk;cases hc
set_option maxRecDepth 100000 in
set_option maxHeartbeats 2000000 in
def FC (hL:LY n₀ w0 Rl) (hF:∀ level v,Fit level v→level≤1152921504606846976∧v.list.length≤1048576∧∀ x∈v.list,Fit (level+1) x) (hn0:n₀≤w0.heap.size)
  (n l Bv Bl level N:Nat) (J Jx:List (Nd Rl Fit)→World→Prop) (v:aX) (arr:Array Value) (W:World)
  (hJ:∀ s W W',J s W→Below W.heap.size W W'→J s W')
  (hY:∀ pre (x:Nd Rl Fit) W,J pre W→pre.length<N→YieldAt Fence.wide (n - 1) prog l (FA x) W fun e W'=>
   (e= .returned (.bool true)∧J (pre++[x]) W'∧KpC n₀ W W')∨(e= .returned (.bool false)∧Jx (pre++[x]) W'))
  (hR:Rl (.agg arr) v) (hfit:Fit level v) (hJ0:J [] W) (hN:(gW level v).length≤N) (hw0:Below n₀ w0 W)
  (hbv:W.heap[Bv]?=some (.cells arr 61 (0,0))) (hbl:W.heap[Bl]?=some (.cells #[.int .i64 level] 3 (0,0))):
  CallsIn Fence.wide n prog 268 #[.func (.yield l) #[] #[],.pointer (some ⟨Bv,0,none⟩),.pointer (some ⟨Bl,0,none⟩)] W fun e W'=>(∃ v,e= .returned v)∧
   ((∃ q:List (Nd Rl Fit),q.map Nd.p=gW level v∧J q W')∨(∃ q:List (Nd Rl Fit),q.map Nd.p<+:gW level v∧Jx q W')):=by
 obtain ⟨ck,ci,cb,cs,lp,kp,ln,lm,kn,km,hva,_⟩:=hL.parts _ v hR
 simp only [Value.agg.injEq] at hva
 subst hva
 have hcall:=Pz hL hF l N (fun s W=>J s W∧Below n₀ w0 W) Jx (fun s W W' h hb=>⟨hJ s W W' h.1 hb,h.2.trans (hb.mono (abj hn0 h.2.size))⟩) (fun s W h=>h.2) hn0
  (fun m pre x W h hl=>YieldAt.s6 rfl m (YieldAt.mono (hY pre x W h.1 hl) fun e W' h'=>h'.elim (fun ⟨a,b,c⟩=> .inl ⟨a,⟨b,h.2.trans c.1⟩,c⟩) .inr)) v (n - 1) level _ [] W hR hfit ⟨hJ0,hw0⟩ (by simpa using hN)
 have d0:W.cell? ⟨Bv,0,none⟩=some (.int .i64 ck):=by simp [World.cell?,hbv]
 have d1:W.cell? ⟨Bv,1,none⟩=some (.bool cb):=by simp [World.cell?,hbv]
 have d2:W.cell? ⟨Bv,2,none⟩=some (.int .i64 ci):=by simp [World.cell?,hbv]
 have d3:W.cell? ⟨Bv,3,none⟩=some (.string cs):=by simp [World.cell?,hbv]
 have d4:W.cell? ⟨Bv,4,none⟩=some (.slice lp ln lm):=by simp [World.cell?,hbv]
 have d5:W.cell? ⟨Bv,5,none⟩=some (.slice kp kn km):=by simp [World.cell?,hbv]
 have d6:W.cell? ⟨Bl,0,none⟩=some (.int .i64 level):=by simp [World.cell?,hbl]
 clear hL hF hY hJ
 refine callsIn_of_wp func268 rfl trivial ?_ rfl
 simp only [ntmps268,aaW,aav,aaA,Nat.reduceAdd,Nat.reduceSub,Array.replicate_succ,Array.replicate_zero,List.push_toArray,List.append_toArray,aaN,aaP]
 gi_wp2
 refine ⟨trivial,fun h=>(by simp [Fence.wide] at h),?_⟩
 refine hcall.mono ?_
 rintro e W1 (⟨rfl,⟨q,hq,hJ1,_⟩,_⟩|⟨rfl,q,hq,hx⟩)
 ·gi_wp2
  go_end0
  exact ⟨⟨_,rfl⟩,.inl ⟨q,hq,by simpa using hJ1⟩⟩
 ·gi_wp2
  go_end0
  exact ⟨⟨_,rfl⟩,.inr ⟨q,hq,by simpa using hx⟩⟩
set_option maxRecDepth 100000 in
set_option maxHeartbeats 2000000 in
def Ji (n:Nat) (level:Int) (ck ci:Int) (cb:Bool) (cs:ByteArray) (lp kp:Option Addr) (ln lm kn km:Nat) (w:World):
  CallsIn Fence.wide n prog 193 #[.agg #[.int .i64 ck,.bool cb,.int .i64 ci,.string cs,.slice lp ln lm,.slice kp kn km],.int .i64 level] w fun e w'=>
   e= .returned (.func (.func 268) #[] #[.pointer (some ⟨w.heap.size,0,none⟩),.pointer (some ⟨w.heap.size+1,0,none⟩)])∧
   w'=(w.alloc (.cells #[.int .i64 ck,.bool cb,.int .i64 ci,.string cs,.slice lp ln lm,.slice kp kn km] 61)).alloc (.cells #[.int .i64 level] 3):=by
 refine callsIn_of_wp func193 rfl trivial ?_ rfl
 simp only [ntmps193,aaW,aav,aaA,Nat.reduceAdd,Nat.reduceSub,Array.replicate_succ,Array.replicate_zero,List.push_toArray,List.append_toArray,aaN,aaP]
 gi_wp2
 go_ret
 exact ⟨by simp,rfl⟩
def ey (node:Nat→aX→Int):List (Nat×aX)→Int
 |[]=>0
 |x::r=>if node x.1 x.2≠0 then node x.1 x.2 else ey node r
theorem oZ {node:Nat→aX→Int}:∀ {l:List (Nat×aX)},(∀ x∈l,node x.1 x.2=0)→ey node l=0
 |[],_=>rfl
 |x::r,h=>by rw [ey,if_neg (fun hh=>hh (h x (by simp)))];exact oZ fun y hy=>h y (by simp [hy])
theorem qL {node:Nat→aX→Int} {x:Nat×aX} (hx:node x.1 x.2≠0):∀ {q l:List (Nat×aX)},(∀ y∈q,node y.1 y.2=0)→q++[x]<+:l→ey node l=node x.1 x.2
 |[],l,_,⟨r,hr⟩=>by subst hr;simp [ey,hx]
 |y::q,l,h,⟨r,hr⟩=>by
  subst hr;simp only [aaP];rw [ey,if_neg (fun hh=>hh (h y (by simp)))];exact qL hx (fun z hz=>h z (by simp [hz])) ⟨r,rfl⟩
def Jj {B:Nat} (arr:Array Value) (e:TypeId) {β:Type} (b:Nat):OwnFrom b (fun (_:β) W=>W.heap[B]?=some (.cells arr e (0,0))):=by
 intro s X Y row h hg hr;rw [hg.block B (aa8.1 h).1 (fun e'=>?_)]
 ·exact h
 ·obtain ⟨_,o,ho,hc⟩:=hr B e'.symm;rw [h] at ho;cases ho;cases hc
set_option maxRecDepth 100000 in
set_option maxHeartbeats 2000000 in
def Valid_in (node:Nat→aX→Int) (w:World) (hL:LY w.heap.size w Rl) (hF:∀ level v,Fit level v→level≤1152921504606846976∧v.list.length≤1048576∧∀ x∈v.list,Fit (level+1) x)
  (hnode:∀ W (x:Nd Rl Fit),Below w.heap.size w W→Calls prog 194 #[x.1.2.1,.int .i64 x.1.1] W fun e W'=>e= .returned (.int .i64 (node x.1.1 x.1.2.2))∧Below W.heap.size W W')
  (va:Value) (v:aX) (hR:Rl va v) (hfit:Fit 1 v):
  Calls prog 130 #[va] w fun e W'=>e= .returned (.int .i64 (ey node (gW 1 v)))∧Below w.heap.size w W':=by
 obtain ⟨ck,ci,cb,cs,lp,kp,ln,lm,kn,km,rfl,hlv⟩:=hL.parts _ v hR
 refine (callsIn_wide (n:=6)).1 ?_
 refine callsIn_of_wp_marks func130 rfl trivial ?_ rfl
 simp only [ntmps130,aaW,aav,aaA,Nat.reduceAdd,Nat.reduceSub,Array.replicate_succ,Array.replicate_zero,List.push_toArray,List.append_toArray,aaN,aaP]
 gi_wp2
 refine ⟨trivial,?_⟩
 refine (Ji _ 1 ck ci cb cs lp kp ln lm kn km _).mono ?_
 rintro e w' ⟨rfl,rfl⟩
 gi_wp2
 have hB0:Below w.heap.size w ((((w.alloc (.cells #[.int .i64 ck,.bool cb,.int .i64 ci,.string cs,.slice lp ln lm,.slice kp kn km] 61)).alloc (.cells #[.int .i64 0] 36)).alloc (.cells #[.int .i64 ck,.bool cb,.int .i64 ci,.string cs,.slice lp ln lm,.slice kp kn km] 61)).alloc (.cells #[.int .i64 1] 3)):=
  ((((Below.refl _ w).alloc (aat _) _).alloc (by simp) _).alloc (by simp;omega) _).alloc (by simp;omega) _
 have hsz:((((w.alloc (.cells #[.int .i64 ck,.bool cb,.int .i64 ci,.string cs,.slice lp ln lm,.slice kp kn km] 61)).alloc (.cells #[.int .i64 0] 36)).alloc (.cells #[.int .i64 ck,.bool cb,.int .i64 ci,.string cs,.slice lp ln lm,.slice kp kn km] 61)).alloc (.cells #[.int .i64 1] 3)).heap.size=w.heap.size+4:=by simp
 have bR:=((Boxed.new (w.alloc (.cells #[.int .i64 ck,.bool cb,.int .i64 ci,.string cs,.slice lp ln lm,.slice kp kn km] 61)) 36 (.int .i64 0)).alloc (.cells #[.int .i64 ck,.bool cb,.int .i64 ci,.string cs,.slice lp ln lm,.slice kp kn km] 61)).alloc (.cells #[.int .i64 1] 3)
 have bL:=Boxed.new (((w.alloc (.cells #[.int .i64 ck,.bool cb,.int .i64 ci,.string cs,.slice lp ln lm,.slice kp kn km] 61)).alloc (.cells #[.int .i64 0] 36)).alloc (.cells #[.int .i64 ck,.bool cb,.int .i64 ci,.string cs,.slice lp ln lm,.slice kp kn km] 61)) 3 (.int .i64 1)
 have bV:((((w.alloc (.cells #[.int .i64 ck,.bool cb,.int .i64 ci,.string cs,.slice lp ln lm,.slice kp kn km] 61)).alloc (.cells #[.int .i64 0] 36)).alloc (.cells #[.int .i64 ck,.bool cb,.int .i64 ci,.string cs,.slice lp ln lm,.slice kp kn km] 61)).alloc (.cells #[.int .i64 1] 3)).heap[w.heap.size+1+1]?=some (.cells #[.int .i64 ck,.bool cb,.int .i64 ci,.string cs,.slice lp ln lm,.slice kp kn km] 61 (0,0)):=by
  refine (Below.heap_alloc _ _ _ (by simp)).trans ?_;have:=World.alloc_heap_new ((w.alloc (.cells #[.int .i64 ck,.bool cb,.int .i64 ci,.string cs,.slice lp ln lm,.slice kp kn km] 61)).alloc (.cells #[.int .i64 0] 36)) (.cells #[.int .i64 ck,.bool cb,.int .i64 ci,.string cs,.slice lp ln lm,.slice kp kn km] 61);simpa using this
 simp only [World.size_alloc] at bR bL
 obtain ⟨W0,hW0⟩:∃ W0,(((w.alloc (.cells #[.int .i64 ck,.bool cb,.int .i64 ci,.string cs,.slice lp ln lm,.slice kp kn km] 61)).alloc (.cells #[.int .i64 0] 36)).alloc (.cells #[.int .i64 ck,.bool cb,.int .i64 ci,.string cs,.slice lp ln lm,.slice kp kn km] 61)).alloc (.cells #[.int .i64 1] 3)=W0:=⟨_,rfl⟩
 rw [hW0] at hB0 hsz bR bL bV ⊢
 clear hW0
 have hst:SeqStopsK Fence.wide (6 - 1) prog 268 #[.pointer (some ⟨w.heap.size+1+1,0,none⟩),.pointer (some ⟨w.heap.size+1+1+1,0,none⟩)] (FA (Rl:=Rl) (Fit:=Fit)) (KpC w.heap.size) (fun q=>q.map Nd.p=gW 1 v) (fun q=>q.map Nd.p<+:gW 1 v) (gW 1 v).length W0:=by
  intro l J Jx W hW hJ hJx hY h0;have hb':∀ k,k<W0.heap.size→W.heap[k]?=W0.heap[k]?:=hW.block;exact FC hL hF (aat _) (6 - 1) l (w.heap.size+1+1) (w.heap.size+1+1+1) 1 _ J Jx v _ W (fun s A B h hb=>hJ s A B none h (zN hb) (by simp)) hY hR hfit h0 (aat _)
   (hB0.trans (hW.mono (by omega))) ((hb' _ (by omega)).trans bV) ((hb' _ (by omega)).trans bL)
 refine wpIn_rangeFunc_ownH rfl (by omega) (gf:=268) (lb:= #[.pointer (some ⟨w.heap.size+1+1,0,none⟩),.pointer (some ⟨w.heap.size+1+1+1,0,none⟩)]) rfl trivial (enters_of func268 (by kernel_rfl) rfl)
  hst KpC.trans (KpC.put (by omega)) (Below.refl _ _) (fun _=>rfl)
  (fun pre W=>((∀ x∈pre,node x.1.1 x.1.2.2=0)∧Boxed W (w.heap.size+1) 36 (.int .i64 0))∧Below w.heap.size w W)
  (fun c pre W=>(c= .ret∧∃ q x,pre=q++[x]∧(∀ y∈q,node y.1.1 y.1.2.2=0)∧node x.1.1 x.1.2.2≠0∧Boxed W (w.heap.size+1) 36 (.int .i64 (node x.1.1 x.1.2.2)))∧Below w.heap.size w W)
  (OwnFrom.and (OwnFrom.and (ownFrom_pure _ _) (Own.from (boxed_own _ _ _) _)) (ownFrom_below (aat _) (by omega)))
  (fun c=>OwnFrom.and (fun s A B row hs hg hr=>by
   obtain ⟨hc,q,x,h1,h2,h3,h4⟩:=hs;exact ⟨hc,q,x,h1,h2,h3,boxed_own (w.heap.size+1) 36 (fun (_:Unit)=>Value.int .i64 (node x.1.1 x.1.2.2)) () A B row h4 hg (fun r e=>(hr r e).2)⟩) (ownFrom_below (aat _) (by omega)))
  ⟨⟨by simp,bR⟩,hB0⟩
  (fun x a' W=>∃ Bx arr,w.heap.size+1<Bx∧x.1.2.1= .agg arr∧W.heap[Bx]?=some (.cells arr 61 (0,0))∧a'= { tmps:= #[.agg #[.int .i64 ck,.bool cb,.int .i64 ci,.string cs,.slice lp ln lm,.slice kp kn km],.pointer (some ⟨w.heap.size,0,none⟩),.pointer (some ⟨w.heap.size+1,0,none⟩),.int .i64 x.1.1,.pointer (some ⟨Bx,0,none⟩),undef,.agg #[.int .i64 ck,.bool cb,.int .i64 ci,.string cs,.slice lp ln lm,.slice kp kn km],.func (.func 268) #[] #[.pointer (some ⟨w.heap.size+1+1,0,none⟩),.pointer (some ⟨w.heap.size+1+1+1,0,none⟩)],.int .i64 x.1.1,x.1.2.1,undef,undef,undef,undef,undef,undef],defers:=[] })
  (fun x a' _ A B row hs hg hr=>by
   obtain ⟨Bx,arr,h1,h2,h3,h4⟩:=hs;exact ⟨Bx,arr,h1,h2,Jj arr 61 _ () A B row h3 hg hr,h4⟩)
  ?assign ?body ?done ?stop
 case assign=>
  rintro l pre x W K ⟨⟨hz,bR1⟩,hB1⟩ hK
  obtain ⟨k',i',b',s',p1,p2,n1,m1,n2,m2,hx,_⟩:=hL.parts _ _ x.2.1
  have hxe:FA x= #[.int .i64 x.1.1,.agg #[.int .i64 k',.bool b',.int .i64 i',.string s',.slice p1 n1 m1,.slice p2 n2 m2]]:=by rw [FA,hx]
  rw [hxe]
  gi_wp2
  refine hK _ _ ((KeepsOthers.alloc _ _).from _) (KpC.of (qa _) (by have:=hB1.size;omega)) ⟨⟨hz,bR1.alloc _⟩,hB1.alloc hB1.size _⟩ ⟨W.heap.size,_,bR1.lt,hx,World.alloc_heap_new W _,?_⟩
  rw [hx]
 case body=>
  rintro l pre x a' W hl ⟨r,hr⟩ ⟨⟨hz,bR1⟩,hB1⟩ ⟨Bx,arr,hBx,hxa,bX,rfl⟩ hlt
  obtain ⟨k',i',b',s',p1,p2,n1,m1,n2,m2,hx,_⟩:=hL.parts _ _ x.2.1
  have hn:=hnode W x hB1
  rw [hx] at hxa hn ⊢
  cases hxa
  have d0:W.cell? ⟨Bx,0,none⟩=some (.int .i64 k'):=by simp [World.cell?,bX]
  have d1:W.cell? ⟨Bx,1,none⟩=some (.bool b'):=by simp [World.cell?,bX]
  have d2:W.cell? ⟨Bx,2,none⟩=some (.int .i64 i'):=by simp [World.cell?,bX]
  have d3:W.cell? ⟨Bx,3,none⟩=some (.string s'):=by simp [World.cell?,bX]
  have d4:W.cell? ⟨Bx,4,none⟩=some (.slice p1 n1 m1):=by simp [World.cell?,bX]
  have d5:W.cell? ⟨Bx,5,none⟩=some (.slice p2 n2 m2):=by simp [World.cell?,bX]
  gi_wp2
  refine ⟨trivial,?_⟩
  refine (CallsIn.inRound l (callsIn_wide.2 hn)).mono ?_
  rintro e W1 ⟨rfl,hb⟩
  have bR2:Boxed W1 (w.heap.size+1) 36 (.int .i64 0):=(hb.block _ bR1.lt).trans bR1
  have cR:=bR2.cell
  have fR:=bR2.frozen
  have hB2:=hB1.trans (hb.mono hB1.size)
  have hKF:KeepsFrom W0.heap.size W W1:=KeepsFrom.of_grownBy (zN hb) (by simp)
  gi_wp2
  ·rename_i hx0
   refine ⟨hKF.trans ((KeepsOthers.setCell _ _ _).from _),⟨rfl,pre,x,rfl,hz,?_,bR2.set _⟩,hB2.setCell (p:=⟨w.heap.size+1,0,none⟩) (by simp) _⟩
   first|exact hx0|simpa using hx0
  ·rename_i hx0
   refine ⟨hKF,KpC.of hb hB1.size,⟨⟨fun y hy=>?_,bR2⟩,hB2⟩⟩
   rcases abo.1 hy with hy|hy
   ·exact hz y hy
   ·rw [abg.1 hy]
    first|exact hx0|simpa using hx0
 case done=>
  rintro D ys W hD hS ⟨⟨hz,bR1⟩,hB1⟩ hK
  have cR:=bR1.cell
  have fR:=bR1.frozen
  gi_wp2
  have hK':=(KeepsOthers.setCell W ⟨w.heap.size+1,0,none⟩ (.int .i64 0)).same D _ hK rfl
  refine ⟨by simp,.inl ⟨_,_,rfl,run_takeDeferred hK',?_⟩⟩
  have hc5:=cell_kept (World.cell?_setCell_same' W ⟨w.heap.size+1,0,none⟩ (.int .i64 0) (by rw [cR];rfl)) (grownBy_putObj' _ D (.deferred none)) (fun r e=>by cases e;exact ⟨_,hK',rfl⟩)
  have hz0:ey node (gW 1 v)=0:=by
   rw [←hS];exact oZ fun y hy=>by obtain ⟨z,hz1,rfl⟩:=abm.1 hy;exact hz z hz1
  refine ⟨.int .i64 0,?_,by rw [hz0],(hB1.setCell (p:=⟨w.heap.size+1,0,none⟩) (by simp) _).trans (belowK_b (w:=w) (aat _) _ D _ _ (by omega) hK' rfl rfl)⟩
  simp [results,Tryz.f130,go_sem,hc5]
 case stop=>
  rintro D c pre W hD hpre ⟨⟨rfl,q,x,rfl,hz,hnz,bR1⟩,hB1⟩ hK
  have cR:=bR1.cell
  have fR:=bR1.frozen
  gi_wp2
  refine ⟨by simp,.inl ⟨_,_,rfl,run_takeDeferred hK,?_⟩⟩
  have hc5:=cell_kept cR (grownBy_putObj' _ D (.deferred none)) (fun r e=>by cases e;exact ⟨_,hK,rfl⟩)
  have hz0:ey node (gW 1 v)=node x.1.1 x.1.2.2:=by
   refine qL (x:=x.p) hnz (q:=q.map Nd.p) (fun y hy=>by obtain ⟨z,hz1,rfl⟩:=abm.1 hy;exact hz z hz1) ?_;rw [aaQ] at hpre;exact hpre
  refine ⟨.int .i64 (node x.1.1 x.1.2.2),?_,by rw [hz0],hB1.trans (belowK_b (w:=w) (aat _) W D _ _ (by omega) hK rfl rfl)⟩
  simp [results,Tryz.f130,go_sem,hc5]
