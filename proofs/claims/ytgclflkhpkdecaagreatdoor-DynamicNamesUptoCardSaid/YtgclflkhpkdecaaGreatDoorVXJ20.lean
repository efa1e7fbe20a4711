/- A step of the proofs of the seat's theorems. -/
import Derived.Test.YtgclflkhpkdecaaGreatDoorVXJ3
set_option linter.unusedSimpArgs false
set_option linter.unusedVariables false
set_option maxRecDepth 20000
namespace Go.Proofs.YtgclflkhpkdecaaGreatDoor
open _root_.Go.Proofs.Tryz
open Go.Abs Go.Deep Go.ChangeShapes Go.WideShapes Go.ChangeAt Go.RowKit
theorem fIL_l (l:List e8):fI (e7 l)↔fI.fIL l:=by
 rw [fIL_iff,fI_iff]
 simp [e7,e8.kind,e8.int,e8.list]
theorem fI_str (s:az):fI (aag s):=by simp [aag,fI,fI.fIL]
theorem fI_int {n:Int} (h:iI n):fI (p4 n):=(fI_iff _).2 ⟨.inl rfl,h,by simp [p4,e8.list]⟩
theorem fI_flag (b:Bool):fI (fFlag b):=fI_int (by cases b<;>exact ⟨by decide,by decide⟩)
theorem fI_map {α:Type} {fr:α→e8} {l:List α} (h:∀ x∈l,fI (fr x)):fI (e7 (l.map fr)):=by
 rw [fIL_l,fIL_iff]
 intro f hf
 obtain ⟨x,hx,rfl⟩:=List.mem_map.1 hf
 exact h x hx
theorem fe (l:List e8):aN (e7 l)=64+aN.e6 l:=by simp [fBulk_eq,e7,e8.str,e8.list]
theorem fB_str (s:az):aN (aag s)=64+s.length:=by simp [fBulk_eq,aag,e8.str,e8.list,aN.e6]
theorem fB_int (n:Int):aN (p4 n)=64:=by simp [fBulk_eq,p4,e8.str,e8.list,aN.e6]
theorem fBL_map {α:Type} (fr:α→e8) (l:List α):aN.e6 (l.map fr)=(l.map fun a=>aN (fr a)).sum:=by
 induction l with
 |nil=>rfl
 |cons a r ih=>simp only [aaK,aN.e6,List.sum_cons,ih]
theorem fBL_64:∀ l:List e8,64*l.length≤aN.e6 l
 |[]=>by simp
 |f::r=>by have:=fBL_64 r;have:=fBulk_eq f;simp only [aN.e6,aaF];omega
theorem kB_of (l:List az):cj.dm l≤4*aN (o3 l):=by
 rw [o3,fe,fBL_map]
 induction l with
 |nil=>simp [cj.dm]
 |cons a r ih=>simp only [cj.dm,aaK,List.sum_cons,fB_str] at ih ⊢;omega
theorem sum_le4 {α:Type} (f g:α→Nat):∀ l:List α,(∀ x∈l,f x≤4*g x)→(l.map f).sum≤4*(l.map g).sum
 |[],_=>by simp
 |a::r,h=>by
  have h1:=h a (by simp)
  have h2:=sum_le4 f g r fun x hx=>h x (by simp [hx])
  simp only [aaK,List.sum_cons];omega
theorem vBulk_of (v:aX):cj v≤4*aN (vj v):=by
 induction v using aX.ind with
 |h v ih=>
  have h1:=sum_le4 cj (fun a=>aN (vj a)) v.list ih
  have h2:=kB_of v.keys
  rw [jK,frVal_eq,fe,vBulkL_sum]
  simp only [aN.e6,fFlag,fB_int,fB_str,fe,fBL_map]
  omega
theorem eBulk_of (e:Ex):bq e≤4*aN (frEx e):=by
 induction e using Ex.ind with
 |h e ih=>
  have h1:=sum_le4 bq (fun a=>aN (frEx a)) e.args ih
  have h2:=kB_of e.keys
  have h3:=vBulk_of e.value
  rw [iq,frEx_eq,fe,eBulkL_sum]
  simp only [aN.e6,fFlag,fB_int,fB_str,fe,fBL_map]
  omega
theorem fI_mem {l:List e8} (h:fI (e7 l)):∀ f∈l,fI f:=(fIL_iff l).1 ((fIL_l l).1 h)
theorem iI_of {n:Int} (h:fI (p4 n)):iI n:=((fI_iff _).1 h).2.1
theorem vInt_of (v:aX):fI (vj v)→lX v:=by
 induction v using aX.ind with
 |h v ih=>
  intro h
  rw [frVal_eq] at h
  have h2:=fI_mem h
  refine (l6 v).2 ⟨iI_of (h2 _ (by simp)),fun x hx=>ih x hx ?_⟩
  exact fI_mem (h2 (e7 (v.list.map vj)) (by simp)) _ (List.mem_map_of_mem hx)
theorem eInt_of (e:Ex):fI (frEx e)→ot e:=by
 induction e using Ex.ind with
 |h e ih=>
  intro h
  rw [frEx_eq] at h
  have h2:=fI_mem h
  refine (l8 e).2 ⟨vInt_of _ (h2 _ (by simp)),fun x hx=>ih x hx ?_⟩
  exact fI_mem (h2 (e7 (e.args.map frEx)) (by simp)) _ (List.mem_map_of_mem hx)
theorem allN_of:∀ l:List Jb,64*(allN l).length≤aN.e6 (l.map frJb)
 |[]=>by simp [allN]
 |j::r=>by
  have h1:=allN_of r
  have h2:64*j.Ta.length≤aN (frJb j):=by
   have e:aN (o3 j.Ta)≤aN.e6 (frJb j).list:=fBulkL_mem (by simp [frJb,e7,e8.list])
   have e2:=fBL_64 (j.Ta.map aag)
   rw [o3,fe] at e
   rw [aaO] at e2
   have:=fBulk_eq (frJb j)
   omega
  simp only [allN,List.flatMap_cons,aaB,aaK,aN.e6] at h1 ⊢
  omega
def RL (W:World) (cs:List Value) (es:List D):Prop:=cs.length=es.length∧∀ j,j<es.length→de (gh W).H (cs.getD j undef) (es.getD j .eX)
theorem RL.nil (W:World):RL W [] []:=⟨rfl,fun _ h=>nomatch h⟩
theorem RL.one {W:World} {c:Value} {e:D} (h:de (gh W).H c e):RL W [c] [e]:=by
 refine ⟨rfl,fun j hj=>?_⟩
 obtain rfl:j=0:=by simpa using hj
 exact h
theorem RL.app {W:World} {a b:List Value} {x y:List D} (h1:RL W a x) (h2:RL W b y):RL W (a++b) (x++y):=by
 refine ⟨by rw [aaB,aaB,h1.1,h2.1],fun j hj=>?_⟩
 by_cases hx:j<x.length
 ·rw [aat,aat,aaC hx,aaC (by have:=h1.1;omega),←aat,←aat]
  exact h1.2 j hx
 ·rw [aat,aat,aaz (by have:=h1.1;omega),aaz (by have:=h1.1;omega),h1.1,←aat,←aat]
  exact h2.2 _ (by rw [aaB] at hj;omega)
theorem RL.step {W:World} {cs:List Value} {o m o':Nat} {x y:List D} (h1:RL W ((cs.drop o).take m) x) (ho:o'=o+m) (h2:RL W (cs.drop o') y):RL W (cs.drop o) (x++y):=by
 have:=h1.app h2
 rwa [ho,←List.drop_drop,List.take_append_drop] at this
theorem RL.fin {W:World} {cs:List Value} {o:Nat} (h:cs.length=o):RL W (cs.drop o) []:=by rw [List.drop_of_length_le (by omega)];exact RL.nil W
structure QF {α:Type} (fr:α→e8) (g:α→Prop) (a:α) (b:Nat):Prop where
 pos:1≤b
 cx:aN (fr a)≤64*b
 int:fI (fr a)
 g:b≤1048576→g a
section
variable {H:Type} {enc:TypeId×Value→H} {W:World}
def OP (enc:TypeId×Value→H) (W:World) (t:TypeId) {α:Type} (E:α→List D) (Q:α→Nat→Prop):Prop:=∀ fuel cs x,DataW.trod enc prog W 0 (fun _=>true) true fuel t cs=some x→∃ a,RL W cs (E a)∧Q a (Rows.uptoBulk x.1)
theorem n5:OP enc W 3 (fun n:Int=>[int n]) (QF p4 iI):=by
 intro fuel cs x h
 obtain ⟨k,e,rfl,w⟩:=DataW.trod_int underlying3 h
 obtain ⟨i1,i2⟩:=bounds_i64 w
 subst e
 exact ⟨k,RL.one (.int _ _),⟨aax _,by rw [fB_int];exact aax _,fI_int ⟨i1,i2⟩,fun _=>⟨i1,i2⟩⟩⟩
theorem op_bool:OP enc W 4 (fun b:Bool=>[.bool b]) (QF fFlag fun _=>True):=by
 intro fuel cs x h
 obtain ⟨b,e,rfl⟩:=DataW.trod_bool underlying4 h
 subst e
 exact ⟨b,RL.one (.bool _),⟨aax _,by rw [fFlag,fB_int];exact aax _,fI_flag b,fun _=>trivial⟩⟩
theorem yS:OP enc W 9 (fun s:az=>[.str s]) (QF aag fun s=>s.length≤1048576):=by
 intro fuel cs x h
 obtain ⟨c,s,rfl,r,e⟩:=ZO h
 exact ⟨s,RL.one r,⟨by omega,by rw [fB_str];omega,fI_str s,fun _=>by omega⟩⟩
theorem op_listF {α:Type} [Inhabited α] {E:α→List D} {fr:α→e8} {g:α→Prop} {t e sz fuel:Nat} (ht:Tryz.prog.underlying t=some (.slice e)) (hc:Tryz.prog.cellsOf e=sz) (hz:0<sz) (hE:∀ a,(E a).length=sz)
  (one:∀ n,fuel=n+1→∀ cs x,DataW.trod enc prog W 0 (fun _=>true) true n e cs=some x→∃ a,RL W cs (E a)∧QF fr g a (Rows.uptoBulk x.1)) {cs:List Value} {x:DataW H×List MemPlace} (h:DataW.trod enc prog W 0 (fun _=>true) true fuel t cs=some x):
  ∃ l:List α,RL W cs [.sl (l.map E)]∧QF (fun l=>e7 (l.map fr)) (fun l=>l.length≤1048576∧∀ y∈l,g y) l (Rows.uptoBulk x.1):=by
 obtain ⟨v,p,e,r,q,s⟩:=ZP (E:=E) (Q:=QF fr g) ht hc hz hE (fun n hn cs x h=>by
  obtain ⟨a,r,q⟩:=one n hn cs x h
  exact ⟨a,fun j hj=>r.2 j (by rw [hE];exact hj),q⟩) h
 subst e
 have t1:=Z7 (fun a=>aN (fr a)) 64 p fun z hz=>(q z hz).cx
 have t2:=ZV p fun z hz=>(q z hz).pos
 refine ⟨p.map (·.1),RL.one r,⟨by omega,?_,fI_map fun x hx=>?_,fun hb=>⟨by rw [aaO];omega,fun y hy=>?_⟩⟩⟩
 ·rw [fe,fBL_map];omega
 ·obtain ⟨z,hz,rfl⟩:=List.mem_map.1 hx
  exact (q z hz).int
 ·obtain ⟨z,hz,rfl⟩:=List.mem_map.1 hy
  exact (q z hz).g (by have:=ZW hz;omega)
theorem op_list {α:Type} [Inhabited α] {E:α→List D} {fr:α→e8} {g:α→Prop} {t e sz:Nat} (ht:Tryz.prog.underlying t=some (.slice e)) (hc:Tryz.prog.cellsOf e=sz) (hz:0<sz) (hE:∀ a,(E a).length=sz) (one:OP enc W e E (QF fr g)):
  OP enc W t (fun l:List α=>[.sl (l.map E)]) (QF (fun l=>e7 (l.map fr)) fun l=>l.length≤1048576∧∀ y∈l,g y):=
 fun _ _ _ h=>op_listF ht hc hz hE (fun n _ cs x h=>one n cs x h) h
theorem n7:OP enc W 31 (fun l:List az=>[.sl (bt l)]) (QF o3 gKs):=op_list underlying31 c9 (by omega) (fun _=>rfl) yS
theorem op_ints:OP enc W 42 (fun l:List Int=>[.sl (encIs l)]) (QF fInts gIs):=op_list underlying42 c3 (by omega) (fun _=>rfl) n5
end
end Go.Proofs.YtgclflkhpkdecaaGreatDoor
