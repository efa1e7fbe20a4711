import Derived.Test.YtbcillkajdnljaaGreatDoorV13
import Derived.Test.YtbcillkajdnljaaGreatDoorVXJ0
import Derived.Deep.Slices
import Derived.ChangeBook
set_option linter.all false
set_option maxRecDepth 20000
namespace Go.Proofs.YtbcillkajdnljaaGreatDoor
open _root_.Go.Proofs.Tryz
open Go.Abs Go.Deep Go.ChangeShapes Go.WideShapes Go.ChangeAt Go.RowKit
def gh (W:World):Ctx:=⟨fun k o=>if k<W.heap.size then W.cell? ⟨k,o,none⟩ else none,[],[],W.heap.size,W⟩
def confH (W:World):bf (gh W) W ⟨[],[]⟩ where
 cN:=rfl
 dH:=by intro i j k h;simp [gh] at h
 cI:=by intro i k h;simp [gh] at h
 mS:=by intro i k o h;simp [gh] at h
 blk:=by intro b k B h;simp [gh] at h
 cu:=rfl
 cz:=by intro i t h;simp [gh] at h
 cK:=by intro i j s t g h;simp [gh] at h
 cy:=by
  intro k o v h;simp only [gh] at h;split at h
  ·exact h
  ·cases h
 below:=Below.refl _ _
 cw:=aat _
def gh_at {W:World} {b o:Nat} {v:Value} (h:W.cell? ⟨b,o,none⟩=some v):(gh W).H b o=some v:=by
 simp only [gh];rw [if_pos (World.block_lt_of_cell? W _ h)];exact h
def add_none (k off m:Nat):(⟨k,off,none⟩:Addr).add m=⟨k,off+m,none⟩:=by
 unfold Addr.add;split<;>simp_all
def bulkAll_sum {H:Type} (l:List (DataW H)):Rows.uptoBulkAll l=(l.map Rows.uptoBulk).sum:=by
 induction l with
 |nil=>rfl
 |cons a r ih=>simp only [Rows.uptoBulkAll,aaB,List.sum_cons,ih]
theorem Z7 {α:Type} (f:α→Nat) (c:Nat):∀ p:List (α×Nat),(∀ z∈p,f z.1≤c*z.2)→((p.map (·.1)).map f).sum≤c*(p.map (·.2)).sum
 |[],_=>by simp
 |z::p,h=>by
  have h1:=h z (by simp);have h2:=Z7 f c p fun y hy=>h y (by simp [hy]);simp only [aaB,List.sum_cons,Nat.mul_add];omega
theorem ZW {α:Type}:∀ {p:List (α×Nat)} {z:α×Nat},z∈p→z.2≤(p.map (·.2)).sum
 |y::p,z,h=>by
  simp only [aaB,List.sum_cons];rcases abc.1 h with rfl|h
  ·omega
  ·have:=ZW h;omega
theorem ZV {α:Type}:∀ p:List (α×Nat),(∀ z∈p,1≤z.2)→p.length≤(p.map (·.2)).sum
 |[],_=>by simp
 |z::p,h=>by
  have h1:=h z (by simp);have h2:=ZV p fun y hy=>h y (by simp [hy]);simp only [aaB,List.sum_cons,aav];omega
def vBulkL_sum (l:List aX):cj.jr l=(l.map cj).sum:=by
 induction l with
 |nil=>rfl
 |cons a r ih=>simp only [cj.jr,aaB,List.sum_cons,ih]
def kBulk_sum (l:List aF):cj.dm l=(l.map fun k=>4*k.length+8).sum:=by
 induction l with
 |nil=>rfl
 |cons a r ih=>simp only [cj.dm,aaB,List.sum_cons,ih]
def eBulkL_sum (l:List Ex):bq.ic l=(l.map bq).sum:=by
 induction l with
 |nil=>rfl
 |cons a r ih=>simp only [bq.ic,aaB,List.sum_cons,ih]
section
variable {H:Type} {enc:TypeId×Value→H} {W:World}
def ZP {α:Type} [Inhabited α] {E:α→List D} {Q:α→Nat→Prop} {t e sz fuel:Nat} {cs:List Value} {x:DataW H×List MemPlace} (ht:Tryz.prog.underlying t=some (.slice e)) (hc:Tryz.prog.cellsOf e=sz) (hz:0<sz)
  (hE:∀ a,(E a).length=sz)
  (one:∀ n,fuel=n+1→∀ cs x,DataW.trod enc prog W 0 (fun _=>true) true n e cs=some x→∃ a,(∀ j,j<sz→de (gh W).H (cs.getD j undef) ((E a).getD j .eX))∧Q a (Rows.uptoBulk x.1))
  (h:DataW.trod enc prog W 0 (fun _=>true) true fuel t cs=some x):
  ∃ (v:Value) (p:List (α×Nat)),cs=[v]∧de (gh W).H v (.sl ((p.map (·.1)).map E))∧(∀ z∈p,Q z.1 z.2)∧(p.map (·.2)).sum+1≤Rows.uptoBulk x.1:=by
 rcases DataW.trod_slice ht h with ⟨rfl,rfl⟩|⟨a,len,cap,elems,rest,n,hn,rfl,rfl,_,hl,_,hlen,hel,hsp,_⟩
 ·exact ⟨_,[],rfl,.slnil,by simp,by simp [Rows.uptoBulk]⟩
 rw [hc] at hel hsp
 have key:∀ i,i<len→∃ z:List Value×α,W.cells? 0 (a.add (i*sz)) sz=some z.1∧(∀ j,j<sz→de (gh W).H (z.1.getD j undef) ((E z.2).getD j .eX))∧Q z.2 (Rows.uptoBulk ((elems.getD i (.nil,[])).1)):=by
  intro i hi;have h1:=hel i hi;rw [aaw (by omega)] at h1;obtain ⟨cs',h2,h3⟩:=abM.1 h1;obtain ⟨z,h4,h5⟩:=one n hn _ _ h3;exact ⟨(cs',z),h2,h4,by simpa [List.getD,aaw (show i<elems.length by omega)] using h5⟩
 obtain ⟨F,hF⟩:=choose_lt key
 refine ⟨_,(List.range len).map fun i=>((F i).2,Rows.uptoBulk ((elems.getD i (.nil,[])).1)),rfl,?_,?_,?_⟩
 ·by_cases h0:cap=0
  ·subst h0
   obtain rfl:len=0:=by omega
   exact .uV a
  ·have hspot:a.spot=none:=by
    have one:∀ cs' m,W.cells? 0 (a.add (m*sz)) sz=some cs'→m=0→a.spot=none:=by
     intro cs' m h1 hm;subst hm;obtain ⟨_,h2,h3⟩:=World.cells?_some h1;have h4:=h3 0 hz;rw [aaw (by omega)] at h4;simpa [Addr.add] using World.cell?_spot h4
    by_cases hl0:len=0
    ·obtain ⟨hr,hr2⟩:=hsp rfl;have h1:=hr2 0 (by omega);rw [aaw (by omega)] at h1;obtain ⟨cs',h2,_⟩:=abM.1 h1;exact one cs' _ h2 (by omega)
    ·exact one _ 0 (hF 0 (by omega)).1 rfl
   obtain ⟨k,off,spot⟩:=a
   subst hspot
   refine .sl k off len cap sz (fun i j=>(F i).1.getD j undef) _ (by simp) hl ?_ ?_ ?_
   ·intro r hr
    simp only [abm] at hr
    obtain ⟨a,_,rfl⟩:=hr
    exact hE a
   ·intro i j hi hj
    obtain ⟨_,h2,h3⟩:=World.cells?_some (hF i hi).1
    have h4:=h3 j hj
    rw [add_none,add_none,aaw (by omega)] at h4
    rw [gh_at h4]
    simp [aam,show j< (F i).1.length by omega]
   ·intro i j hi hj
    have:=(hF i hi).2.1 j hj
    have e1:((((List.range len).map fun i=>((F i).2,Rows.uptoBulk ((elems.getD i (.nil,[])).1))).map (·.1)).map E).getD i []=E (F i).2:=by
     simp [aam,hi]
    rw [e1]
    exact this
 ·intro z hz'
  obtain ⟨i,hi,rfl⟩:=abm.1 hz'
  exact (hF i (List.mem_range.1 hi)).2.2
 ·have e1:(((List.range len).map fun i=>((F i).2,Rows.uptoBulk ((elems.getD i (.nil,[])).1))).map (·.2))=(elems.map (·.1)).map Rows.uptoBulk:=by
   rw [List.map_map,List.map_map,map_by_index elems (.nil,[]) _,hlen];rfl
  rw [e1]
  simp only [Rows.uptoBulk,bulkAll_sum]
  omega
def k8 {fs:Array Field} {n:Nat} {cs:List Value} {xs:List (DataW H×List MemPlace)} (hf:∀ (i:Nat) (f:Field),fs[i]?=some f→DataW.trod enc prog W 0 (fun _=>true) true n f.type ((cs.drop f.offset).take (Tryz.prog.cellsOf f.type))=xs[i]?)
  (i:Nat) {f:Field} (h:fs[i]?=some f) (o t:Nat) {c:Nat} (ho:f.offset=o) (ht:f.type=t) (hc:Tryz.prog.cellsOf t=c):DataW.trod enc prog W 0 (fun _=>true) true n t ((cs.drop o).take c)=xs[i]?:=by
 subst ho ht hc
 exact hf i f h
def ZO {fuel:Nat} {cs:List Value} {x:DataW H×List MemPlace} (h:DataW.trod enc prog W 0 (fun _=>true) true fuel 9 cs=some x):
  ∃ (c:Value) (s:aF),cs=[c]∧de (gh W).H c (.str s)∧s.length+1=Rows.uptoBulk x.1:=by
 obtain ⟨s,rfl,rfl,_⟩:=DataW.trod_string underlying9 h
 exact ⟨_,_,rfl,.str _ _ rfl,rfl⟩
def c9:Tryz.prog.cellsOf 9=1:=by kernel_rfl
def c3:Tryz.prog.cellsOf 3=1:=by kernel_rfl
def c4:Tryz.prog.cellsOf 4=1:=by kernel_rfl
def c23:Tryz.prog.cellsOf 59=1:=by kernel_rfl
def c24:Tryz.prog.cellsOf 44=1:=by kernel_rfl
def c26:Tryz.prog.cellsOf 61=6:=by kernel_rfl
def c27:Tryz.prog.cellsOf 62=1:=by kernel_rfl
def c29:Tryz.prog.cellsOf 64=10:=by kernel_rfl
def open_keys {fuel:Nat} {cs:List Value} {x:DataW H×List MemPlace} (h:DataW.trod enc prog W 0 (fun _=>true) true fuel 44 cs=some x):
  ∃ (c:Value) (ks:List aF),cs=[c]∧de (gh W).H c (.sl (bt ks))∧ks.length+1≤Rows.uptoBulk x.1∧(∀ k∈ks,k.length≤Rows.uptoBulk x.1)∧cj.dm ks≤40*(Rows.uptoBulk x.1 - 1):=by
 obtain ⟨v,p,e,r,q,s⟩:=ZP (E:=fun k:aF=>[D.str k]) (Q:=fun k b=>k.length+1≤b) underlying44 c9 (by omega) (fun _=>rfl) (fun n _ cs x h=>by
  obtain ⟨c,s,rfl,r,e⟩:=ZO h;refine ⟨s,fun j hj=>?_,by omega⟩;obtain rfl:j=0:=by omega
  exact r) h
 have s1:=Z7 (fun k:aF=>4*k.length+8) 8 p fun z hz=>by have:=q z hz;omega
 have s2:=ZV p fun z hz=>by have:=q z hz;omega
 refine ⟨v,(p.map fun z:aF×Nat=>z.1),e,r,by rw [aaC];omega,?_,by rw [kBulk_sum];omega⟩
 intro k hk
 obtain ⟨z,hz,rfl⟩:=abm.1 hk
 have:=q z hz
 have:=ZW hz
 omega
def vOk (v:aX) (b:Nat):Prop:=1≤b∧lX v∧cj v≤40*b∧(b≤1048576→gU v)
def open_val:∀ (fuel:Nat) (cs:List Value) (x:DataW H×List MemPlace),DataW.trod enc prog W 0 (fun _=>true) true fuel 61 cs=some x→
  ∃ v:aX,cs.length=6∧(∀ j,j<6→de (gh W).H (cs.getD j undef) (v.enc.getD j .eX))∧vOk v (Rows.uptoBulk x.1):=by
 intro fuel
 induction fuel using Nat.strongRecOn with|_ fuel ih=>?_
 intro cs x h
 obtain ⟨xs,n,rfl,rfl,hl,hxl,hf⟩:=DataW.trod_struct underlying61 h
 rw [c26] at hl
 match cs,hl with
 |[a0,a1,a2,a3,a4,a5],_=>
 match xs,hxl with
 |[x0,x1,x2,x3,x4,x5],_=>
 have h0:=k8 hf 0 rfl 0 3 rfl rfl c3
 have h1:=k8 hf 1 rfl 1 4 rfl rfl c4
 have h2:=k8 hf 2 rfl 2 3 rfl rfl c3
 have h3:=k8 hf 3 rfl 3 9 rfl rfl c9
 have h4:=k8 hf 4 rfl 4 59 rfl rfl c23
 have h5:=k8 hf 5 rfl 5 44 rfl rfl c24
 simp only [aa5,List.drop_succ_cons,List.take_succ_cons,List.take_zero,abw,List.getElem?_cons_succ] at h0 h1 h2 h3 h4 h5
 obtain ⟨k,e0,rfl,w0⟩:=DataW.trod_int underlying3 h0
 obtain ⟨b,e1,rfl⟩:=DataW.trod_bool underlying4 h1
 obtain ⟨i,e2,rfl,w2⟩:=DataW.trod_int underlying3 h2
 obtain ⟨q3,s,e3,r3,l3⟩:=ZO h3
 obtain ⟨q4,p4,e4,r4,g4,s4⟩:=ZP (E:=aX.enc) (Q:=vOk) underlying59 c26 (by omega) aX.dN (fun m hm cs x h=>by
  obtain ⟨a,_,h2,h3⟩:=ih m (by omega) cs x h;exact ⟨a,h2,h3⟩) h4
 obtain ⟨q5,ks,e5,r5,l5,m5,b5⟩:=open_keys h5
 simp only [List.cons.injEq,and_true] at e0 e1 e2 e3 e4 e5
 subst e0 e1 e2 e3 e4 e5
 refine ⟨.mk k b i s (p4.map (·.1)) ks,rfl,?_,?_⟩
 ·intro j hj
  rw [aX.aP]
  match j,hj with
  |0,_=>exact .int _ _
  |1,_=>exact .bool _
  |2,_=>exact .int _ _
  |3,_=>exact r3
  |4,_=>exact r4
  |5,_=>exact r5
 ·have t1:=Z7 cj 40 p4 fun z hz=>(g4 z hz).2.2.1
  have t2:=ZV p4 fun z hz=>(g4 z hz).1
  obtain ⟨i1,i2⟩:=bounds_i64 w2
  simp only [vOk,Rows.uptoBulk,Rows.uptoBulkAll,aaB,aaI]
  refine ⟨by omega,(l6 _).2 ⟨⟨i1,i2⟩,fun y hy=>?_⟩,?_,fun hb=>(dX _).2 ⟨?_,?_,?_,fun k hk=>?_,fun y hy=>?_⟩⟩
  ·obtain ⟨z,hz,rfl⟩:=abm.1 hy
   exact (g4 z hz).2.1
  ·rw [jK]
   simp only [aX.str,aX.keys,aX.list,vBulkL_sum]
   omega
  ·simp only [aX.str];omega
  ·simp only [aX.list,aaC];omega
  ·simp only [aX.keys];omega
  ·have:=m5 k hk;omega
  ·obtain ⟨z,hz,rfl⟩:=abm.1 hy
   exact (g4 z hz).2.2.2 (by have:=ZW hz;omega)
def eOk (e:Ex) (b:Nat):Prop:=1≤b∧ot e∧bq e≤40*b∧(b≤1048576→j0 e)
def open_ex:∀ (fuel:Nat) (cs:List Value) (x:DataW H×List MemPlace),DataW.trod enc prog W 0 (fun _=>true) true fuel 64 cs=some x→
  ∃ e:Ex,cs.length=10∧(∀ j,j<10→de (gh W).H (cs.getD j undef) (e.enc.getD j .eX))∧eOk e (Rows.uptoBulk x.1):=by
 intro fuel
 induction fuel using Nat.strongRecOn with|_ fuel ih=>?_
 intro cs x h
 obtain ⟨xs,n,rfl,rfl,hl,hxl,hf⟩:=DataW.trod_struct underlying64 h
 rw [c29] at hl
 match cs,hl with
 |[a0,a1,a2,a3,a4,a5,a6,a7,a8,a9],_=>
 match xs,hxl with
 |[x0,x1,x2,x3,x4],_=>
 have h0:=k8 hf 0 rfl 0 3 rfl rfl c3
 have h1:=k8 hf 1 rfl 1 9 rfl rfl c9
 have h2:=k8 hf 2 rfl 2 61 rfl rfl c26
 have h3:=k8 hf 3 rfl 8 62 rfl rfl c27
 have h4:=k8 hf 4 rfl 9 44 rfl rfl c24
 simp only [aa5,List.drop_succ_cons,List.take_succ_cons,List.take_zero,abw,List.getElem?_cons_succ] at h0 h1 h2 h3 h4
 obtain ⟨k,e0,rfl,w0⟩:=DataW.trod_int underlying3 h0
 obtain ⟨q1,s,e1,r1,l1⟩:=ZO h1
 obtain ⟨v,_,r2,g2⟩:=open_val _ _ _ h2
 obtain ⟨q3,p3,e3,r3,g3,s3⟩:=ZP (E:=Ex.enc) (Q:=eOk) underlying62 c29 (by omega) Ex.dN (fun m hm cs x h=>by
  obtain ⟨a,_,h2,h3⟩:=ih m (by omega) cs x h;exact ⟨a,h2,h3⟩) h3
 obtain ⟨q4,ks,e4,r4,l4,m4,b4⟩:=open_keys h4
 simp only [List.cons.injEq,and_true] at e0 e1 e3 e4
 subst e0 e1 e3 e4
 refine ⟨.mk k s v (p3.map (·.1)) ks,rfl,?_,?_⟩
 ·intro j hj
  rw [Ex.aP]
  have:=r2 (j - 2)
  rw [aX.aP] at this ⊢
  match j,hj with
  |0,_=>exact .int _ _
  |1,_=>exact r1
  |2,_=>exact this (by omega)
  |3,_=>exact this (by omega)
  |4,_=>exact this (by omega)
  |5,_=>exact this (by omega)
  |6,_=>exact this (by omega)
  |7,_=>exact this (by omega)
  |8,_=>exact r3
  |9,_=>exact r4
 ·have t1:=Z7 bq 40 p3 fun z hz=>(g3 z hz).2.2.1
  have t2:=ZV p3 fun z hz=>(g3 z hz).1
  obtain ⟨v1,v2,v3,v4⟩:=g2
  simp only [eOk,Rows.uptoBulk,Rows.uptoBulkAll,aaB,aaI]
  refine ⟨by omega,(l8 _).2 ⟨v2,fun y hy=>?_⟩,?_,fun hb=>(gq _).2 ⟨?_,v4 (by omega),?_,?_,fun k hk=>?_,fun y hy=>?_⟩⟩
  ·obtain ⟨z,hz,rfl⟩:=abm.1 hy
   exact (g3 z hz).2.1
  ·rw [iq]
   simp only [Ex.name,Ex.value,Ex.keys,Ex.args,eBulkL_sum]
   omega
  ·simp only [Ex.name];omega
  ·simp only [Ex.args,aaC];omega
  ·simp only [Ex.keys];omega
  ·have:=m4 k hk;omega
  ·obtain ⟨z,hz,rfl⟩:=abm.1 hy
   exact (g3 z hz).2.2.2 (by have:=ZW hz;omega)
def laidOut:laidOutB prog=true:=by kernel_rfl
def stays {W':World} {t n:Nat} {cs:List Value} {x:DataW H×List MemPlace} (hr:Tryz.prog.readableRec t=true) (hrow:t<Tryz.prog.types.size) (h:DataW.trod enc prog W 0 (fun _=>true) true n t cs=some x)
  (hb:Below W.heap.size W W'):DataW.trod enc prog W' 0 (fun b=>decide (b<W.heap.size)) true n t cs=some x:=by
 have hin:InBook prog t t:=⟨hrow,book_self t⟩
 have good:=DataW.trod_good (kids_book laidOut hr) (fun h=>by cases h) n t cs x hin h
 have lt:∀ p∈x.2,p.block<W.heap.size:=by
  intro p hp;have:=good p hp;cases p with
  |cell b off=>
   obtain ⟨v,hv,_⟩:=this
   exact World.block_lt_of_cell? W _ hv
  |map b=>
   obtain ⟨es,cl,hv⟩:=this
   exact (aa8.1 hv).1
 refine DataW.trod_stays (kids_book laidOut hr) (book_sized hr) (fun h=>by cases h) hin h (fun p hp=>?_) (fun p hp=>decide_eq_true (lt p hp))
 have:=lt p hp
 cases p with
 |cell b off=>simp only [World.sameAt,World.cell?,hb.block b this]
 |map b=>exact hb.block b this
