/- A step of the proofs of the seat's theorems. -/
import Derived.Test.YtgclflkhpkdecaaGreatDoorV10
import Derived.Test.YtgclflkhpkdecaaGreatDoorVXJ0
import Derived.Deep.Slices
import Derived.ChangeBook
set_option linter.unusedSimpArgs false
set_option linter.unusedVariables false
set_option maxRecDepth 20000
namespace Go.Proofs.YtgclflkhpkdecaaGreatDoor
open _root_.Go.Proofs.Tryz
open Go.Abs Go.Deep Go.ChangeShapes Go.WideShapes Go.ChangeAt Go.RowKit
def gh (W:World):Ctx:=⟨fun k o=>if k<W.heap.size then W.cell? ⟨k,o,none⟩ else none,[],[],W.heap.size,W⟩
theorem confH (W:World):bf (gh W) W ⟨[],[]⟩ where
 cN:=rfl
 dH:=by intro i j k h;simp [gh] at h
 cI:=by intro i k h;simp [gh] at h
 mS:=by intro i k o h;simp [gh] at h
 blk:=by intro b k B h;simp [gh] at h
 cu:=rfl
 cz:=by intro i t h;simp [gh] at h
 cK:=by intro i j s t g h;simp [gh] at h
 cy:=by
  intro k o v h
  simp only [gh] at h
  split at h
  ·exact h
  ·cases h
 below:=Below.refl _ _
 cw:=aax _
theorem gh_at {W:World} {b o:Nat} {v:Value} (h:W.cell? ⟨b,o,none⟩=some v):(gh W).H b o=some v:=by
 simp only [gh]
 rw [if_pos (World.block_lt_of_cell? W _ h)]
 exact h
theorem add_none (k off m:Nat):(⟨k,off,none⟩:Addr).add m=⟨k,off+m,none⟩:=by
 unfold Addr.add
 split<;>simp_all
theorem bulkAll_sum {H:Type} (l:List (DataW H)):Rows.uptoBulkAll l=(l.map Rows.uptoBulk).sum:=by
 induction l with
 |nil=>rfl
 |cons a r ih=>simp only [Rows.uptoBulkAll,aaK,List.sum_cons,ih]
theorem Z7 {α:Type} (f:α→Nat) (c:Nat):∀ p:List (α×Nat),(∀ z∈p,f z.1≤c*z.2)→((p.map (·.1)).map f).sum≤c*(p.map (·.2)).sum
 |[],_=>by simp
 |z::p,h=>by
  have h1:=h z (by simp)
  have h2:=Z7 f c p fun y hy=>h y (by simp [hy])
  simp only [aaK,List.sum_cons,Nat.mul_add]
  omega
theorem ZW {α:Type}:∀ {p:List (α×Nat)} {z:α×Nat},z∈p→z.2≤(p.map (·.2)).sum
 |y::p,z,h=>by
  simp only [aaK,List.sum_cons]
  rcases List.mem_cons.1 h with rfl|h
  ·omega
  ·have:=ZW h;omega
theorem ZV {α:Type}:∀ p:List (α×Nat),(∀ z∈p,1≤z.2)→p.length≤(p.map (·.2)).sum
 |[],_=>by simp
 |z::p,h=>by
  have h1:=h z (by simp)
  have h2:=ZV p fun y hy=>h y (by simp [hy])
  simp only [aaK,List.sum_cons,aaF]
  omega
theorem vBulkL_sum (l:List aX):cj.jr l=(l.map cj).sum:=by
 induction l with
 |nil=>rfl
 |cons a r ih=>simp only [cj.jr,aaK,List.sum_cons,ih]
theorem eBulkL_sum (l:List Ex):bq.er l=(l.map bq).sum:=by
 induction l with
 |nil=>rfl
 |cons a r ih=>simp only [bq.er,aaK,List.sum_cons,ih]
section
variable {H:Type} {enc:TypeId×Value→H} {W:World}
theorem ZP {α:Type} [Inhabited α] {E:α→List D} {Q:α→Nat→Prop} {t e sz fuel:Nat} {cs:List Value} {x:DataW H×List MemPlace} (ht:Tryz.prog.underlying t=some (.slice e)) (hc:Tryz.prog.cellsOf e=sz) (hz:0<sz)
  (hE:∀ a,(E a).length=sz)
  (one:∀ n,fuel=n+1→∀ cs x,DataW.trod enc prog W 0 (fun _=>true) true n e cs=some x→∃ a,(∀ j,j<sz→de (gh W).H (cs.getD j undef) ((E a).getD j .eX))∧Q a (Rows.uptoBulk x.1))
  (h:DataW.trod enc prog W 0 (fun _=>true) true fuel t cs=some x):
  ∃ (v:Value) (p:List (α×Nat)),cs=[v]∧de (gh W).H v (.sl ((p.map (·.1)).map E))∧(∀ z∈p,Q z.1 z.2)∧(p.map (·.2)).sum+1≤Rows.uptoBulk x.1:=by
 rcases DataW.trod_slice ht h with ⟨rfl,rfl⟩|⟨a,len,cap,elems,rest,n,hn,rfl,rfl,_,hl,_,hlen,hel,hsp,_⟩
 ·exact ⟨_,[],rfl,.slnil,by simp,by simp [Rows.uptoBulk]⟩
 rw [hc] at hel hsp
 have key:∀ i,i<len→∃ z:List Value×α,W.cells? 0 (a.add (i*sz)) sz=some z.1∧(∀ j,j<sz→de (gh W).H (z.1.getD j undef) ((E z.2).getD j .eX))∧Q z.2 (Rows.uptoBulk ((elems.getD i (.nil,[])).1)):=by
  intro i hi
  have h1:=hel i hi
  rw [aay (by omega)] at h1
  obtain ⟨cs',h2,h3⟩:=Option.bind_eq_some_iff.1 h1
  obtain ⟨z,h4,h5⟩:=one n hn _ _ h3
  exact ⟨(cs',z),h2,h4,by simpa [List.getD,aay (show i<elems.length by omega)] using h5⟩
 obtain ⟨F,hF⟩:=choose_lt key
 refine ⟨_,(List.range len).map fun i=>((F i).2,Rows.uptoBulk ((elems.getD i (.nil,[])).1)),rfl,?_,?_,?_⟩
 ·by_cases h0:cap=0
  ·subst h0
   obtain rfl:len=0:=by omega
   exact .uV a
  ·have hspot:a.spot=none:=by
    have one:∀ cs' m,W.cells? 0 (a.add (m*sz)) sz=some cs'→m=0→a.spot=none:=by
     intro cs' m h1 hm
     subst hm
     obtain ⟨_,h2,h3⟩:=World.cells?_some h1
     have h4:=h3 0 hz
     rw [aay (by omega)] at h4
     simpa [Addr.add] using World.cell?_spot h4
    by_cases hl0:len=0
    ·obtain ⟨hr,hr2⟩:=hsp rfl
     have h1:=hr2 0 (by omega)
     rw [aay (by omega)] at h1
     obtain ⟨cs',h2,_⟩:=Option.bind_eq_some_iff.1 h1
     exact one cs' _ h2 (by omega)
    ·exact one _ 0 (hF 0 (by omega)).1 rfl
   obtain ⟨k,off,spot⟩:=a
   subst hspot
   refine .sl k off len cap sz (fun i j=>(F i).1.getD j undef) _ (by simp) hl ?_ ?_ ?_
   ·intro r hr
    simp only [List.mem_map] at hr
    obtain ⟨a,_,rfl⟩:=hr
    exact hE a
   ·intro i j hi hj
    obtain ⟨_,h2,h3⟩:=World.cells?_some (hF i hi).1
    have h4:=h3 j hj
    rw [add_none,add_none,aay (by omega)] at h4
    rw [gh_at h4]
    simp [aat,show j< (F i).1.length by omega]
   ·intro i j hi hj
    have:=(hF i hi).2.1 j hj
    have e1:((((List.range len).map fun i=>((F i).2,Rows.uptoBulk ((elems.getD i (.nil,[])).1))).map (·.1)).map E).getD i []=E (F i).2:=by
     simp [aat,hi]
    rw [e1]
    exact this
 ·intro z hz'
  obtain ⟨i,hi,rfl⟩:=List.mem_map.1 hz'
  exact (hF i (List.mem_range.1 hi)).2.2
 ·have e1:(((List.range len).map fun i=>((F i).2,Rows.uptoBulk ((elems.getD i (.nil,[])).1))).map (·.2))=(elems.map (·.1)).map Rows.uptoBulk:=by
   rw [List.map_map,List.map_map,map_by_index elems (.nil,[]) _,hlen]
   rfl
  rw [e1]
  simp only [Rows.uptoBulk,bulkAll_sum]
  omega
theorem k8 {fs:Array Field} {n:Nat} {cs:List Value} {xs:List (DataW H×List MemPlace)} (hf:∀ (i:Nat) (f:Field),fs[i]?=some f→DataW.trod enc prog W 0 (fun _=>true) true n f.type ((cs.drop f.offset).take (Tryz.prog.cellsOf f.type))=xs[i]?)
  (i:Nat) {f:Field} (h:fs[i]?=some f) (o t:Nat) {c:Nat} (ho:f.offset=o) (ht:f.type=t) (hc:Tryz.prog.cellsOf t=c):DataW.trod enc prog W 0 (fun _=>true) true n t ((cs.drop o).take c)=xs[i]?:=by
 subst ho ht hc
 exact hf i f h
theorem ZO {fuel:Nat} {cs:List Value} {x:DataW H×List MemPlace} (h:DataW.trod enc prog W 0 (fun _=>true) true fuel 9 cs=some x):
  ∃ (c:Value) (s:az),cs=[c]∧de (gh W).H c (.str s)∧s.length+1=Rows.uptoBulk x.1:=by
 obtain ⟨s,rfl,rfl,_⟩:=DataW.trod_string underlying9 h
 exact ⟨_,_,rfl,.str _ _ rfl,rfl⟩
theorem c9:Tryz.prog.cellsOf 9=1:=by kernel_rfl
theorem c3:Tryz.prog.cellsOf 3=1:=by kernel_rfl
theorem laidOut:laidOutB prog=true:=by kernel_rfl
theorem stays {W':World} {t n:Nat} {cs:List Value} {x:DataW H×List MemPlace} (hr:Tryz.prog.readableRec t=true) (hrow:t<Tryz.prog.types.size) (h:DataW.trod enc prog W 0 (fun _=>true) true n t cs=some x)
  (hb:Below W.heap.size W W'):DataW.trod enc prog W' 0 (fun b=>decide (b<W.heap.size)) true n t cs=some x:=by
 have hin:InBook prog t t:=⟨hrow,book_self t⟩
 have good:=DataW.trod_good (kids_book laidOut hr) (fun h=>by cases h) n t cs x hin h
 have lt:∀ p∈x.2,p.block<W.heap.size:=by
  intro p hp
  have:=good p hp
  cases p with
  |cell b off=>
   obtain ⟨v,hv,_⟩:=this
   exact World.block_lt_of_cell? W _ hv
  |map b=>
   obtain ⟨es,cl,hv⟩:=this
   exact (aaV.1 hv).1
 refine DataW.trod_stays (kids_book laidOut hr) (book_sized hr) (fun h=>by cases h) hin h (fun p hp=>?_) (fun p hp=>decide_eq_true (lt p hp))
 have:=lt p hp
 cases p with
 |cell b off=>simp only [World.sameAt,World.cell?,hb.block b this]
 |map b=>exact hb.block b this
end
end Go.Proofs.YtgclflkhpkdecaaGreatDoor
