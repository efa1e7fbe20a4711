import Derived.Test.YtbcillkajdnljaaGreatDoorV24
import Derived.Lib.Bytealg
set_option linter.all false
section
namespace Go.En
open Go.RowKit
def beqM:List (V×V)→List (V×V)→Bool
 |[],[]=>true
 |(a,b)::l,(a',b')::m=>V.beq a a'&& (V.beq b b'&&beqM l m)
 |_,_=>false
theorem eqM_of:∀ {l m:List (V×V)},beqM l m=true→l=m
 |[],[],_=>rfl
 |(a,b)::l,(a',b')::m,h=>by
  simp only [beqM,aas] at h;rw [V.eq_of h.1,V.eq_of h.2.1,eqM_of h.2.2]
 |[],_::_,h=>by simp [beqM] at h
 |_::_,[],h=>by simp [beqM] at h
def B.beq:B→B→Bool
 | .cells e z r,.cells e' z' r'=>Nat.beq e e'&& (z==z'&&beqL r r')
 | .ro r,.ro r'=>beqL r r'
 | .iter s p,.iter s' p'=>s==s'&&Nat.beq p p'
 | .map l,.map l'=>beqM l l'
 |_,_=>false
def B.eq_of {x y:B} (h:B.beq x y=true):x=y:=by
 cases x<;>cases y<;>simp only [B.beq,aas,aa3,beq_iff_eq] at h
 ·rw [abf h.1,h.2.1,eqL_of h.2.2]
 ·rw [eqL_of h]
 ·rw [h.1,abf h.2]
 ·rw [eqM_of h]
def S.has (s:S):List (Nat×B)→Bool
 |[]=>true
 |(b,x)::r=>(match s.h.get b with
  |some y=>B.beq y x
  |none=>false)&&s.has r
def S.of (nx:Nat) (l:List (Nat×B)):S:=⟨nx,l.foldr (fun p t=>t.set p.1 (some p.2)) .nil⟩
structure Sub (s t:S):Prop where
 nx:s.nx=t.nx
 h:∀ b x,s.h.get b=some x→t.h.get b=some x
def Sub.live {s t:S} (h:Sub s t) {b:Nat} (hb:s.h.get b≠none):t.h.get b≠none:=by
 cases hx:s.h.get b with
 |none=>exact absurd hx hb
 |some x=>rw [h.h b x hx];simp
def Sub.of {nx:Nat} {l:List (Nat×B)} {t:S} (hn:Nat.beq t.nx nx=true) (h:t.has l=true):Sub (S.of nx l) t:=by
 refine ⟨(abf hn).symm,?_⟩;unfold S.of;simp only;induction l with
 |nil=>intro b x hb;simp [Tr.get] at hb
 |cons p r ih=>
  obtain ⟨b0,x0⟩:=p
  simp only [S.has,aas] at h
  intro b x hb
  simp only [List.foldr_cons,Tr.get_set] at hb
  split at hb
  ·rename_i e
   subst e
   simp only [aal] at hb
   subst hb
   cases hg:t.h.get b with
   |none=>rw [hg] at h;simp at h
   |some y=>rw [hg] at h;rw [B.eq_of h.1]
  ·exact ih h.2 b x hb
variable {P:Program} {O:Orc} {c c':C} {w w':World}
def bf.weaken {s t:S} (hc:bf c w t) (h:Sub s t):bf c w s:=
 ⟨fun b k o z hb=>by rw [h.nx];exact hc.lt b k o z hb,fun b b' k o o' z z' h1 h2 h3 h4=>hc.inj b b' k o o' z z' h1 h2 (h.live h3) (h.live h4),fun b k o z x h1 h2=>hc.blk b k o z x h1 (h.h b x h2)⟩
def Step.weaken {D:Nat→Prop} {s t s' u:S} (hs:Step D c s w c' s' w') (h:Sub s t) (h':Sub u s'):Step D c t w c' u w':=
 ⟨hs.ext,hs.DS.weaken h',⟨hs.keeps.os,hs.keeps.tape,hs.keeps.output,hs.keeps.size,fun k hk hn=>hs.keeps.block k hk fun b o z hb=>by
   cases hx:s.h.get b with
   |none=>rfl
   |some x=>exact absurd (hn b o z hb) (by rw [h.h b x hx];simp)⟩,
  hs.dom,fun b k o z h1 h2=>(hs.fresh b k o z h1 h2).imp id fun ⟨b',o',z',h3,h4⟩=>⟨b',o',z',h3,h.live h4⟩,fun b h1 h2=>h.live (hs.live b h1 (h'.live h2)),by rw [←h.nx,h'.nx];exact hs.nx⟩
def CallOK.weaken {g:FuncId} {args:List V} {s t s' u:S} {v:V} (hs:CallOK P g args s v s') (h:Sub s t) (h':Sub u s'):CallOK P g args t v u:=by
 have key:∀ {c:C} {w:World} {e:Ending} {w':World},RetQ c s w v s' e w'→RetQ c t w v u e w':=fun {c} {w} {e} {w'} ⟨cv,c',h1,h2,h3⟩=>⟨cv,c',h1,h2,by
  have:=h3.weaken h h';rw [h.nx] at this;exact this⟩
 intro c w cargs hc hr;rcases hs c w cargs (hc.weaken h) hr with ⟨h1,h2⟩|⟨cv,w',h1,h2⟩
 ·exact .inl ⟨h1,h2.mono fun e w' hq=>key hq⟩
 ·exact .inr ⟨cv,w',h1,key h2⟩
structure Me where
 g:FuncId
 args:List V
 nx:Nat
 pre:List (Nat×B)
 v:V
 nx':Nat
 post:List (Nat×B)
def Me.orc (m:Me):Orc:=fun g args s=>match Nat.beq g m.g&& (Nat.beq s.nx m.nx&& (beqL args m.args&&s.has m.pre)) with
 |true=>some (m.v,S.of m.nx' m.post)
 |false=>none
def Me.run (P:Program) (O:Orc) (n:Nat) (m:Me):Bool:=match evF P O n m.g m.args (S.of m.nx m.pre) with
 |some (v,s)=>V.beq v m.v&& (Nat.beq s.nx m.nx'&&s.has m.post)
 |none=>false
def Orc.ok (P:Program) (O:Orc):Prop:=∀ g args s v s',O g args s=some (v,s')→CallOK P g args s v s'
def Orc.or (O O':Orc):Orc:=fun g args s=>match O g args s with
 |some r=>some r
 |none=>O' g args s
def Orc.or_ok {O O':Orc} (h:O.ok P) (h':O'.ok P):(O.or O').ok P:=by
 intro g args s v s' hq;unfold Orc.or at hq;split at hq
 ·rename_i r hr;simp only [aal] at hq;subst hq;exact h _ _ _ _ _ hr
 ·exact h' _ _ _ _ _ hq
def Me.ok {m:Me} {n:Nat} (hO:O.ok P) (hm:P.follows .mixedOrders=true) (hN:∀ (g:FuncId) (fn:Func) (c:Code),P.funcs[g]?=some fn→fn.body=some c→fn.name≠ "runtime.NumGoroutine") (h:m.run P O n=true):m.orc.ok P:=by
 unfold Me.run at h;split at h
 case h_2=>simp at h
 rename_i v s hs;simp only [aas] at h;have hcall:=((ev_sound hO hm hN n).2.2.1 _ _ _ _ _ hs);rw [V.eq_of h.1] at hcall;intro g args t v' s' hq;unfold Me.orc at hq;split at hq
 case h_2=>simp at hq
 rename_i hb;simp only [aas] at hb;simp only [aal,aaq] at hq;obtain ⟨rfl,rfl⟩:=hq;obtain rfl:=abf hb.1;obtain rfl:=eqL_of hb.2.2.1;exact hcall.weaken (.of hb.2.1 hb.2.2.2) (.of h.2.1 h.2.2)
end Go.En
end
section
namespace Go.En
open Go.RowKit
variable {P:Program} {c:C} {w w':World} {s:S}
def Step.below {D:Nat→Prop} (hc:bf c w s) (h:Below w.heap.size w w'):Step D c s w c s w':=by
 refine ⟨Ext.refl c,⟨fun b k o z hb=>⟨(hc.lt b k o z hb).1,Nat.lt_of_lt_of_le (hc.lt b k o z hb).2 h.size⟩,hc.inj,fun b k o z x h1 h2=>?_⟩,⟨h.os,h.tape,h.output,h.size,fun k hk _=>h.block k hk⟩,
  fun _ h h'=>absurd h h',fun _ _ _ _ h h'=>(by rw [h] at h';cases h'),fun _ _ h=>h,aat _⟩
 obtain ⟨obj,h3,h4⟩:=hc.blk b k o z x h1 h2;exact ⟨obj,by rw [h.block k (hc.lt b k o z h1).2];exact h3,h4⟩
def ctxW (w:World):Abs.Ctx:=⟨fun k o=>if k<w.heap.size then w.cell? ⟨k,o,none⟩ else none,[],[],w.heap.size,w⟩
def confW (w : World) : Abs.bf (ctxW w) w ⟨[], []⟩ :=
  { cN := rfl, dH := fun i j k h => by simp [ctxW] at h, cI := fun i k h => by simp [ctxW] at h, mS := fun i k o h => by simp [ctxW] at h, blk := fun b k B h => by simp [ctxW] at h, cu := rfl,
    cz := fun i t h => by simp [ctxW] at h, cK := fun i j s t g h => by simp [ctxW] at h, cy := fun k o v h => by
      simp only [ctxW] at h;split at h
      · exact h
      · cases h
    below := Below.refl _ _, cw := aat _ }
def ctxW_at {k o:Nat} {v:Value} (h:w.cell? ⟨k,o,none⟩=some v):(ctxW w).H k o=some v:=by
 simp only [ctxW];rw [if_pos (World.block_lt_of_cell? w _ h)];exact h
def sD:V→Option Abs.D
 | .bool b=>some (.bool b)
 | .int k n=>some (.int k n)
 | .str l=>some (.str l)
 | .bh=>some (.sl [])
 |_=>none
def sD_rel {H:Abs.GH} {v:Value} {x:V} {d:Abs.D} (h:Rel c v x) (hd:sD x=some d):Abs.de H v d:=by
 cases h<;>simp only [sD,aal,reduceCtorEq] at hd<;>subst hd
 ·exact .bool _
 ·exact .int _ _
 ·rename_i hq;exact .str _ _ hq
 ·exact .slnil
def callOK_of_acalls {g:FuncId} {fn:Func} {code:Code} (hf:P.funcs[g]?=some fn) (hb:fn.body=some code) (hn:fn.name≠ "runtime.NumGoroutine") {args:List V} {asT:List Abs.V} {r:Abs.V} {v:V}
  (hA:Abs.aA P (fun _ _=>True) g asT ⟨[],[]⟩ (fun o t=>o= .ret r∧t=⟨[],[]⟩)) {s:S} (hin:∀ (c:C) (w:World) (cargs:Array Value),bf c w s→aag c cargs args→cargs.size=asT.length∧∀ i,i<asT.length→Abs.Rel (ctxW w) (cargs.getD i undef) (asT.getD i .aU))
  (hout:∀ (x:Abs.Ctx) (c:C) (cv:Value),Abs.Rel x cv r→Rel c cv v):CallOK P g args s v s:=by
 intro c w cargs hc hr
 obtain ⟨h1,h2⟩:=hin c w cargs hc hr
 refine .inl ⟨fun w'=>by simp [callFunc,hf,hb,hn],(hA (ctxW w) w cargs (confW w) trivial h1 h2).mono ?_⟩
 rintro e w' ⟨out,st',c',⟨rfl,rfl⟩,hext,hcf,hE⟩
 cases e with
 |returned cv=>
  refine ⟨cv,c,rfl,hout c' c cv hE,Step.below hc ?_⟩
  have:=hcf.below
  rw [hext.base,hext.w0] at this
  exact this
 |panicked ch=>exact hE.elim
 |outgrown=>exact hE.elim
def extern_ok {g:FuncId} {fn:Func} {e:Array Value→Sem Value} (hf:P.funcs[g]?=some fn) (hname:(fn.name== "runtime.NumGoroutine")=false) (hb:fn.body.isNone=true) (hn:Extern.findNext fn=none) (he:Extern.find fn=some e)
  {args:List V} {v:V} (hrun:∀ (c:C) (w:World) (cargs:Array Value),aag c cargs args→∃ cv,(e cargs).run P w= .ok cv w∧Rel c cv v) (s:S):CallOK P g args s v s:=by
 intro c w cargs hc hr
 obtain ⟨cv,h1,h2⟩:=hrun c w cargs hr
 exact .inr ⟨cv,w,by rw [run_callFunc_extern hf hname hb hn he,h1];rfl,cv,c,rfl,h2,.refl hc⟩
def ixO (ib cs:FuncId):Orc:=fun g args s=>match Nat.beq g ib,Nat.beq g cs,args with
 |true,_,[.str l,.int .u8 c]=>some (.int .i64 (Lib.indexByte l c.toNat.toUInt8),s)
 |false,true,[.str l,.int .u8 c]=>some (.int .i64 (Lib.countByte l c.toNat.toUInt8),s)
 |_,_,_=>none
def two_args {c:C} {cargs:Array Value} {l:List UInt8} {k:IntKind} {n:Int} (h:aag c cargs [.str l,.int k n]):∃ q:ByteArray,cargs= #[.string q,.int k n]∧q.data.toList=l:=by
 obtain ⟨h1,h2⟩:=h;have e0:=h2 0 (by simp);have e1:=h2 1 (by simp);simp only [abi,abI] at e0 e1;generalize hq:cargs.getD 0 undef=q at e0;generalize hp:cargs.getD 1 undef=p at e1;cases e0 with|str q _ hl=>?_;cases e1;refine ⟨q,?_,hl⟩;apply Array.ext
 ·simpa using h1
 ·intro i hi hi2;have:i=0∨i=1:=by simp at hi2;omega
  rcases this with rfl|rfl
  ·simpa [aap,hi] using hq
  ·simpa [aap,hi] using hp
def ixO_ok {ib cs:FuncId} {f1 f2:Func} (h1:P.funcs[ib]?=some f1) (n1:(f1.name== "runtime.NumGoroutine")=false) (b1:f1.body.isNone=true) (x1:Extern.findNext f1=none) (e1:Extern.find f1=some Extern.BytealgIndexByte.indexByte)
  (h2:P.funcs[cs]?=some f2) (n2:(f2.name== "runtime.NumGoroutine")=false) (b2:f2.body.isNone=true) (x2:Extern.findNext f2=none) (e2:Extern.find f2=some Extern.BytealgCount.count):(ixO ib cs).ok P:=by
 intro g args s v s' h
 unfold ixO at h
 split at h<;>simp only [aal,aaq,reduceCtorEq] at h
 ·rename_i hg
  obtain ⟨rfl,rfl⟩:=h
  obtain rfl:=abf hg
  refine extern_ok h1 n1 b1 x1 e1 (fun c w cargs hr=>?_) s
  obtain ⟨q,rfl,rfl⟩:=two_args hr
  exact ⟨_,Lib.run_indexByteString q _ w,.int _ _⟩
 ·rename_i hg
  obtain ⟨rfl,rfl⟩:=h
  obtain rfl:=abf hg
  refine extern_ok h2 n2 b2 x2 e2 (fun c w cargs hr=>?_) s
  obtain ⟨q,rfl,rfl⟩:=two_args hr
  exact ⟨_,Lib.run_countString q _ w,.int _ _⟩
def acalls_of_ok {g:FuncId} {s':S} {v:V} {n:Nat} (h:CallOK P g [] ⟨n,.nil⟩ v s') (hent:∀ w,(callFunc g #[]).run P w= .ok (.enter g #[]) w) {r:Abs.V} (hout:∀ (c:C) (x:Abs.Ctx) (cv:Value),Rel c cv v→Abs.Rel x cv r)
  {G:World→Nat→Prop} (st:Abs.St):Abs.aA P G g [] st (fun o t=>o= .ret r∧t=st):=by
 intro c w cargs hc _ hs _
 have ha:cargs= #[]:=by simpa using hs
 subst ha
 have hE:bf (fun _=>none) w ⟨n,.nil⟩:=⟨fun _ _ _ _ h=>by simp at h,fun _ _ _ _ _ _ _ h=>by simp at h,fun _ _ _ _ _ h=>by simp at h⟩
 rcases h (fun _=>none) w #[] hE ⟨rfl,by simp⟩ with ⟨_,h2⟩|⟨cv,w',h1,_⟩
 ·refine h2.mono ?_
  rintro e w' ⟨cv,c',rfl,h3,h4⟩
  have hb:Below w.heap.size w w':=⟨h4.keeps.os,h4.keeps.tape,h4.keeps.output,h4.keeps.size,fun k hk=>h4.keeps.block k hk fun b o z hb=>by simp at hb⟩
  exact ⟨.ret r,st,c,⟨rfl,rfl⟩,Abs.Ext.refl c,hc.later hb,hout c' c cv h3⟩
 ·rw [hent] at h1
  simp at h1
end Go.En
end
section
namespace Go.En
open Go.Proofs Go.RowKit
theorem rowAt_mono {p:Program} {fits:TypeId→Bool}:∀ (d:Nat) {e:TypeId} {n n' off k:Nat},n≤n'→rowAt p fits d e n off k=true→rowAt p fits d e n' off k=true
 |0,_,_,_,_,_,_,h=>by simp [rowAt] at h
 |d+1,e,n,n',off,k,hn,h=>by
  unfold rowAt at h ⊢;simp only at h ⊢;split at h
  ·simp at h
  ·rename_i hs;rw [if_neg hs];simp only [aaU,aas,aau] at h ⊢;rcases h with ⟨⟨h1,h2⟩,h3⟩|⟨h1,h2⟩
   ·exact .inl ⟨⟨h1,by omega⟩,h3⟩
   ·exact .inr ⟨by omega,h2⟩
theorem liesAt_mono {p:Program}:∀ (d:Nat) {e u:TypeId} {n n' off k:Nat},n≤n'→liesAt p d e n off u k=true→liesAt p d e n' off u k=true
 |0,_,_,_,_,_,_,_,h=>by simp [liesAt] at h
 |d+1,e,u,n,n',off,k,hn,h=>by
  unfold liesAt at h ⊢;simp only [aaU] at h ⊢;rcases h with h|h
  ·exact .inl (rowAt_mono _ hn h)
  ·refine .inr ?_;split at h
   ·exact liesAt_mono d hn h
   ·simp at h
end Go.En
namespace Go.Proofs.YtbcillkajdnljaaGreatDoor
open Tryz
open Go Go.Proofs Go.RowKit
set_option maxHeartbeats 1000000 in
set_option maxRecDepth 100000 in
def ce_used (b off:Nat) (w:World) (h0:w.cell? ⟨b,off,none⟩=some (.pointer (some ⟨b,off,none⟩))):
  Calls prog 294 #[.pointer (some ⟨b,off,none⟩)] w fun e w'=>e= .returned (.tuple #[])∧w'=w:=by
 obtain ⟨j,hj,_⟩:=aaF.1 (show (Tryz.prog.info? 333).map (fun i=>i.size)=some 2 by kernel_rfl)
 have mixed:=Tryz.checked.mixed
 go_enter func294,ntmps294
 go_wp2
 rw [Lib.run_neq_ptr_same w _ underlying331 hj]
 go_wp2
 go_end0
 exact ⟨rfl,rfl⟩
set_option maxHeartbeats 1000000 in
set_option maxRecDepth 100000 in
def ce_fresh (b off m:Nat) (e:TypeId) (w:World) (h0:w.cell? ⟨b,off,none⟩=some (.pointer none)) (hsh:w.shape? b=some (e,m)) (hoff:off<m) (hfz:w.frozen? ⟨b,off,none⟩=false)
  (lies:liesAt prog Tryz.prog.depth e (m / Tryz.prog.cellsOf e) off 333 1=true):
  Calls prog 294 #[.pointer (some ⟨b,off,none⟩)] w fun e w'=>e= .returned (.tuple #[])∧w'=w.setCell ⟨b,off,none⟩ (.pointer (some ⟨b,off,none⟩)):=by
 obtain ⟨j,hj,hjs⟩:=aaF.1 (show (Tryz.prog.info? 333).map (fun i=>i.size)=some 2 by kernel_rfl)
 have mixed:=Tryz.checked.mixed
 go_enter func294,ntmps294
 go_wp2
 rw [Lib.run_to_unsafe w ⟨b,off,none⟩ underlying331 underlying483 hj (by rw [hjs];decide) hsh hoff]
 simp only [Result.andThen]
 rw [Oper.upon_value]
 go_wp2
 rw [run_callFunc_extern func378 (by kernel_rfl) (by kernel_rfl) (by kernel_rfl) (e:=Extern.AbiNoEscape.same) (by kernel_rfl)]
 rw [Lib.run_noEscape]
 simp only [Result.andThen]
 rw [Oper.upon_value]
 go_wp2
 rw [Lib.run_from_unsafe w ⟨b,off,none⟩ underlying483 underlying331 hj hsh lies]
 simp only [Result.andThen]
 rw [Oper.upon_value]
 go_wp2
 go_end0
 exact ⟨rfl,rfl⟩
open Go.En
def plB (e off:Nat):Bool:=Nat.beq e 333&&Nat.beq off 0||Nat.beq e 335&&Nat.beq off 1
def plB_lies {e off m:Nat} (h:plB e off=true) (hm:Tryz.prog.cellsOf e≤m):liesAt prog Tryz.prog.depth e (m / Tryz.prog.cellsOf e) off 333 1=true:=by
 unfold plB at h;simp only [aaU,aas] at h;rcases h with ⟨h1,h2⟩|⟨h1,h2⟩<;>obtain rfl:=abf h1<;>obtain rfl:=abf h2
 ·have hk:Tryz.prog.cellsOf 333=2:=by kernel_rfl
  have hl:liesAt prog Tryz.prog.depth 333 1 0 333 1=true:=by kernel_rfl
  rw [hk] at hm ⊢;exact liesAt_mono _ (by omega) hl
 ·have hk:Tryz.prog.cellsOf 335=3:=by kernel_rfl
  have hl:liesAt prog Tryz.prog.depth 335 1 1 333 1=true:=by kernel_rfl
  rw [hk] at hm ⊢;exact liesAt_mono _ (by omega) hl
noncomputable def ccO:Orc:=fun g args s=>match Nat.beq g 294,args with
 |true,[.ptr b off]=>(match s.h.get b with
  |some (.cells e true row)=>(match plB e off&&Nat.ble (Tryz.prog.cellsOf e) row.length,row[off]? with
   |true,some .eX=>(match En.store b off [.ptr b off] s with
    |some s'=>some (.cF [],s')
    |none=>none)
   |true,some (.ptr b' off')=>(match Nat.beq b' b&&Nat.beq off' off with
    |true=>some (.cF [],s)
    |false=>none)
   |_,_=>none)
  |_=>none)
 |_,_=>none
def ccO_ok:ccO.ok prog:=by
 intro g args s v s' h;unfold ccO at h;split at h
 case h_2=>simp at h
 rename_i b off hg;obtain rfl:=abf hg;split at h
 case h_2=>simp at h
 rename_i e row hB;have hent:∀ (x:Array Value) (w:World),(callFunc 294 x).run prog w= .ok (.enter 294 x) w:=by
  intro x w;have hnm:(Tryz.f294).name≠ "runtime.NumGoroutine" :=by
   have:((Tryz.f294).name== "runtime.NumGoroutine")=false:=by kernel_rfl
   simpa using this
  have hbd:(Tryz.f294).body≠none:=by
   have:(Tryz.f294).body.isNone=false:=by kernel_rfl
   intro h;rw [h] at this;cases this
  simp [callFunc,func294,hnm,hbd]
 have one:∀ {c:C} {cargs:Array Value},aag c cargs [.ptr b off]→∃ k o z,c b=some (k,o,z)∧cargs= #[.pointer (some ⟨k,o+off,none⟩)]:=by
  intro c cargs ⟨h1,h2⟩;have e0:=h2 0 (by simp);simp only [abi] at e0;generalize hq:cargs.getD 0 undef=q at e0;cases e0 with|ptr _ k o z _ hk=>?_
  refine ⟨k,o,z,hk,?_⟩;apply Array.ext
  ·simpa using h1
  ·intro i hi hi2;have:i=0:=by simp at hi2;omega
   subst this;simpa [aap,hi] using hq
 split at h
 ·rename_i hpl hrow;simp only [aas,Nat.ble_eq] at hpl;split at h
  case h_2=>simp at h
  rename_i s1 hst;simp only [aal,aaq] at h;obtain ⟨rfl,rfl⟩:=h;intro c w cargs hc hr;obtain ⟨k,o,z,hk,rfl⟩:=one hr;obtain ⟨arr,hh,hq,hsz,hoz,hrr⟩:=hc.rowGet hk hB;obtain rfl:=hq rfl;have hlt:off<row.length:=(aao.1 hrow).1;have hcell:=hrr off hlt;rw [aam,hrow,aaS,aaL] at hcell;generalize hcv:arr.getD off undef=cv at hcell;cases hcell;have hw0:w.cell? ⟨k,off,none⟩=some (.pointer none):=by
   rw [aap,aaZ (by omega),aaS] at hcv;simp [World.cell?,hh,aaZ (show off<arr.size by omega),hcv]
  have hfz:w.frozen? ⟨k,off,none⟩=false:=by simp [World.frozen?,hh]
  obtain ⟨w',hw,hstep⟩:=store_sound (P:=prog) (D:=fun b=>s.nx≤b) hc hk (vs:= #[.pointer (some ⟨k,0+off,none⟩)]) (l:=[.ptr b off]) ⟨rfl,fun i hi=>by
   match i,hi with
   |0,_=>exact .ptr b k 0 z off hk⟩ hst
  rw [aaL] at hw;have hw':w'=w.setCell ⟨k,off,none⟩ (.pointer (some ⟨k,off,none⟩)):=by
   have ha:((⟨k,off,none⟩:Addr).add 0)=⟨k,off,none⟩:=rfl;simp only [storeCells,Sem.run_bind,ha] at hw;rw [run_store _ _ _ _ _ rfl,hw0] at hw;simp only [hfz,aa3,if_false,Result.andThen_ok,Sem.run_pure,Result.ok.injEq,true_and] at hw;exact hw.symm
  rw [aaL];refine .inl ⟨hent _,(ce_fresh k off arr.size e w hw0 (by simp [World.shape?,hh]) (by omega) hfz (plB_lies hpl.1 (by omega))).mono ?_⟩;rintro e w2 ⟨rfl,rfl⟩;rw [←hw'];exact ⟨_,c,rfl,.cF _ _ rfl (by simp),hstep⟩
 ·rename_i b' off' hpl hrow;split at h
  case h_2=>simp at h
  rename_i hbb;simp only [aas] at hbb;have q1:=abf hbb.1;have q2:=abf hbb.2;rw [q1,q2] at hrow;simp only [aal,aaq] at h;obtain ⟨rfl,rfl⟩:=h;intro c w cargs hc hr;obtain ⟨k,o,z,hk,rfl⟩:=one hr;obtain ⟨arr,hh,hq,hsz,hoz,hrr⟩:=hc.rowGet hk hB;obtain rfl:=hq rfl;have hlt:off<row.length:=(aao.1 hrow).1;have hcell:=hrr off hlt;rw [aam,hrow,aaS,aaL] at hcell;generalize hcv:arr.getD off undef=cv at hcell;cases hcell with|ptr _ k2 o2 z2 _ hk2=>?_
  rw [hk] at hk2;simp only [aal,aaq] at hk2;obtain ⟨rfl,rfl,rfl⟩:=hk2;rw [aaL] at hcv ⊢;have hw0:w.cell? ⟨k,off,none⟩=some (.pointer (some ⟨k,off,none⟩)):=by
   rw [aap,aaZ (by omega),aaS] at hcv;simp [World.cell?,hh,aaZ (show off<arr.size by omega),hcv]
  refine .inl ⟨hent _,(ce_used k off w hw0).mono ?_⟩;rintro e w2 ⟨rfl,rfl⟩;exact ⟨_,c,rfl,.cF _ _ rfl (by simp),.refl hc⟩
 ·simp at h
noncomputable def vvO:Orc:=fun g args s=>match Nat.beq g 130,args with
 |true,[.agg [.int .i64 k,.bool b,.int .i64 n,.str l,.bh,.bh]]=>(match Nat.ble l.length 1048576 with
  |true=>some (.int .i64 (fk (.mk k b n l [] [])),s)
  |false=>none)
 |true,[.agg [.int .i64 k,.bool b,.int .i64 n,.str l,.sl bl off 1 6 _,.bh]]=>(match s.row bl with
  |some row=>(match (row.drop off).take 6 with
   |[.int .i64 k',.bool b',.int .i64 n',.str l',.bh,.bh]=>(match Nat.ble l.length 1048576&&Nat.ble l'.length 1048576 with
    |true=>some (.int .i64 (fk (.mk k b n l [.mk k' b' n' l' [] []] [])),s)
    |false=>none)
   |_=>none)
  |none=>none)
 |_,_=>none
def vv_arg {c:C} {x:Abs.Ctx} {cargs:Array Value} {cs:List En.V} (hr:aag c cargs [.agg cs]) {ds:List Abs.D} (h:∀ (arr:Array Value),arr.size=cs.length→(∀ i,i<cs.length→En.Rel c (arr.getD i undef) (cs.getD i .aU))→arr.size=ds.length∧∀ i,i<ds.length→Abs.de x.H (arr.getD i undef) (ds.getD i .eX)):
  cargs.size=1∧∀ i,i<1→Abs.Rel x (cargs.getD i undef) ([Abs.V.agg (ds.map .d)].getD i .aU):=by
 obtain ⟨h1,h2⟩:=hr
 refine ⟨h1,fun i hi=>?_⟩
 obtain rfl:i=0:=by omega
 have e0:=h2 0 (by simp)
 simp only [abi] at e0 ⊢
 generalize cargs.getD 0 undef=q at e0
 cases e0 with|agg arr _ h3 h4=>?_
 obtain ⟨h5,h6⟩:=h arr h3 h4
 refine .agg _ _ (by simpa using h5) fun i hi=>?_
 rw [aaC] at hi
 have e:(ds.map Abs.V.d).getD i .aU= .d (ds.getD i .eX):=by simp [aam,hi]
 rw [e]
 exact .d _ _ (h6 i hi)
def vvO_ok:vvO.ok prog:=by
 have hname:(Tryz.f130).name≠ "runtime.NumGoroutine" :=by
  have:((Tryz.f130).name== "runtime.NumGoroutine")=false:=by kernel_rfl
  simpa using this
 obtain ⟨code,hb⟩:∃ code,(Tryz.f130).body=some code:=by
  have:(Tryz.f130).body.isSome=true:=by kernel_rfl
  exact abq.1 this
 intro g args s v s' h;unfold vvO at h;split at h
 ·rename_i k b n l hg;obtain rfl:=abf hg;split at h
  case h_2=>simp at h
  rename_i hl;have hl':=Nat.le_of_ble_eq_true hl;simp only [aal,aaq] at h;obtain ⟨rfl,rfl⟩:=h;have hfit:gU (.mk k b n l [] []):=(dX _).2 ⟨hl',by simp [aX.list],by simp [aX.keys],by simp [aX.keys],by simp [aX.list]⟩;have hV:=qJ (G:=fun _ _=>True) (.mk k b n l [] []) hfit (by rw [jK];simp [aX.str,aX.list,aX.keys,cj.dm,cj.jr];omega) ⟨[],[]⟩;refine callOK_of_acalls func130 hb hname hV (fun c w cargs hc hr=>?_) (fun x c cv h=>?_)
  ·rw [vV,aX.aP];refine vv_arg hr fun arr h3 h4=>⟨h3,fun i hi=>?_⟩;simp only [aav,aaA] at hi;have:=h4 i (by simpa using hi)
   match i,hi with
   |0,_=>exact sD_rel this rfl
   |1,_=>exact sD_rel this rfl
   |2,_=>exact sD_rel this rfl
   |3,_=>exact sD_rel this rfl
   |4,_=>exact sD_rel this rfl
   |5,_=>exact sD_rel this rfl
  ·cases h with|d _ _ h=>?_
   cases h;exact .int _ _
 ·rename_i k b n l bl off co hg;obtain rfl:=abf hg;split at h
  case h_2=>simp at h
  rename_i row hrow;split at h
  case h_2=>simp at h
  rename_i k' b' n' l' htk;split at h
  case h_2=>simp at h
  rename_i hl;simp only [aas,Nat.ble_eq] at hl;simp only [aal,aaq] at h;obtain ⟨rfl,rfl⟩:=h;have hfit0:gU (.mk k' b' n' l' [] []):=(dX _).2 ⟨hl.2,by simp [aX.list],by simp [aX.keys],by simp [aX.keys],by simp [aX.list]⟩;have hfit:gU (.mk k b n l [.mk k' b' n' l' [] []] []):=(dX _).2 ⟨hl.1,by simp [aX.list],by simp [aX.keys],by simp [aX.keys],by simpa [aX.list] using hfit0⟩;have hV:=qJ (G:=fun _ _=>True) (.mk k b n l [.mk k' b' n' l' [] []] []) hfit (by rw [jK];simp [aX.str,aX.list,aX.keys,cj.dm,cj.jr,jK];omega) ⟨[],[]⟩;have hlen:off+6≤row.length:=by
   have:=congrArg List.length htk;simp only [aan,aar,aav,aaA] at this;omega
  have hget:∀ j,j<6→row.getD (off+j) .aU=[En.V.int .i64 k',.bool b',.int .i64 n',.str l',.bh,.bh].getD j .aU:=by
   intro j hj;rw [←htk];simp [aam,abl,hj]
  refine callOK_of_acalls func130 hb hname hV (fun c w cargs hc hr=>?_) (fun x c cv h=>?_)
  ·rw [vV,aX.aP];refine vv_arg hr fun arr h3 h4=>⟨h3,fun i hi=>?_⟩;simp only [aav,aaA] at hi;have:=h4 i (by simpa using hi)
   match i,hi with
   |0,_=>exact sD_rel this rfl
   |1,_=>exact sD_rel this rfl
   |2,_=>exact sD_rel this rfl
   |3,_=>exact sD_rel this rfl
   |4,_=>
    simp only [abi,abI] at this ⊢
    generalize arr.getD 4 undef=u at this
    cases this with|sl a _ _ _ _ cap _ hn hcap _ hlies=>?_
    obtain ⟨kb,o,z,hk,rfl,hz⟩:=hlies (by omega)
    obtain ⟨f,hf⟩:=hc.cell hk hrow
    refine .sl kb (o+off) 1 cap 6 (fun _ j=>f (off+j)) _ rfl hn (by simp [aX.list,aX.aP]) (fun i j hi hj=>?_) fun i j hi hj=>?_
    ·obtain rfl:i=0:=by omega
     exact ctxW_at (by rw [Nat.zero_mul,abE,abt];exact (hf (off+j) (by omega)).1)
    ·obtain rfl:i=0:=by omega
     have hr:=(hf (off+j) (by omega)).2
     rw [hget j hj] at hr
     simp only [aX.list,aaB,aaI,abi,aX.aP]
     match j,hj with
     |0,_=>exact sD_rel hr rfl
     |1,_=>exact sD_rel hr rfl
     |2,_=>exact sD_rel hr rfl
     |3,_=>exact sD_rel hr rfl
     |4,_=>exact sD_rel hr rfl
     |5,_=>exact sD_rel hr rfl
   |5,_=>exact sD_rel this rfl
  ·cases h with|d _ _ h=>?_
   cases h;exact .int _ _
 ·simp at h
end Go.Proofs.YtbcillkajdnljaaGreatDoor
end
section
namespace Go.Proofs.YtbcillkajdnljaaGreatDoor
open Tryz
open Go Go.Proofs Go.En
set_option maxRecDepth 100000
def eo_hm:Tryz.prog.follows .mixedOrders=true:=Tryz.checked.mixed
def eo_all:(Tryz.prog.funcs.toList.all fun f=>f.name != "runtime.NumGoroutine")=true:=by kernel_rfl
def eo_hN:∀ (g:FuncId) (fn:Func) (c:Code),Tryz.prog.funcs[g]?=some fn→fn.body=some c→fn.name≠ "runtime.NumGoroutine" :=by
 intro g fn c h _;have:=aaE.1 eo_all fn (by
  rw [←aby] at h;exact aaR h)
 simpa using this
noncomputable def oBase:Orc:=(ixO 451 346).or (ccO.or vvO)
def oBase_ok:oBase.ok prog:=Orc.or_ok (ixO_ok func451 (by kernel_rfl) (by kernel_rfl) (by kernel_rfl) (by kernel_rfl) func346 (by kernel_rfl) (by kernel_rfl) (by kernel_rfl) (by kernel_rfl)) (Orc.or_ok ccO_ok vvO_ok)
def mo0:Me:=⟨38,[.str [112,105,112,101,108,105,110,101,32,34,112,34,32,123,10,125,10,106,111,98,32,34,97,34,32,123,10,125,10,106,111,98,32,34,98,34,32,123,10,32,32,110,101,101,100,115,32,61,32,91,34,97,34,93,10,125,10]],14,[(10,.cells 26 true [.str [],.bh])],.cF [.agg [.sl 6351 0 3 4 none],.int .i64 0,.int .i64 0],12254,[(10,.cells 26 true [.str [],.bh]),(6351,.cells 205 true [.str [112,105,112,101,108,105,110,101],.str [112],.bh,.bh,.str [106,111,98],.str [97],.bh,.bh,.str [106,111,98],.str [98],.sl 10244 0 1 11 none,.bh]),(9218,.cells 64 true [.int .i64 1,.str [],.int .i64 3,.bool false,.int .i64 0,.str [97],.bh,.bh,.bh,.bh]),(10244,.cells 354 true [.str [110,101,101,100,115],.int .i64 9,.str [],.int .i64 0,.bool false,.int .i64 0,.str [],.bh,.bh,.sl 9218 0 1 10 none,.bh])]⟩
def mo1:Me:=⟨39,[.agg [.sl 6351 0 3 4 none],.bh],12266,[(10,.cells 26 true [.str [],.bh]),(6351,.cells 205 true [.str [112,105,112,101,108,105,110,101],.str [112],.bh,.bh,.str [106,111,98],.str [97],.bh,.bh,.str [106,111,98],.str [98],.sl 10244 0 1 11 none,.bh]),(9218,.cells 64 true [.int .i64 1,.str [],.int .i64 3,.bool false,.int .i64 0,.str [97],.bh,.bh,.bh,.bh]),(10244,.cells 354 true [.str [110,101,101,100,115],.int .i64 9,.str [],.int .i64 0,.bool false,.int .i64 0,.str [],.bh,.bh,.sl 9218 0 1 10 none,.bh])],.cF [.agg [.str [112],.sl 23304 0 2 39 none],.int .i64 0],32220,[(10,.cells 26 true [.str [],.bh]),(20077,.cells 3 true [.int .i64 4,.int .i64 5]),(20312,.cells 3 true [.int .i64 4,.int .i64 5]),(21461,.cells 9 true [.str [97]]),(23304,.cells 72 true [.str [97],.bh,.int .i64 2,.str [115,117,99,99,101,115,115],.int .i64 0,.bool false,.int .i64 0,.str [],.bh,.bh,.bh,.bh,.bh,.bh,.bh,.str [],.int .i64 0,.int .i64 5,.int .i64 1,.int .i64 3600000,.int .i64 0,.sl 20077 0 2 1 (some 2),.int .i64 1000,.int .i64 60000,.bh,.bh,.bh,.bh,.bh,.str [],.bool false,.int .i64 0,.bh,.int .i64 0,.bh,.int .i64 0,.int .i64 0,.bool false,.bool false,.str [98],.sl 21461 0 1 1 (some 1),.int .i64 2,.str [115,117,99,99,101,115,115],.int .i64 0,.bool false,.int .i64 0,.str [],.bh,.bh,.bh,.bh,.bh,.bh,.bh,.str [],.int .i64 0,.int .i64 5,.int .i64 1,.int .i64 3600000,.int .i64 0,.sl 20312 0 2 1 (some 2),.int .i64 1000,.int .i64 60000,.bh,.bh,.bh,.bh,.bh,.str [],.bool false,.int .i64 0,.bh,.int .i64 0,.bh,.int .i64 0,.int .i64 0,.bool false,.bool false])]⟩
def mo2:Me:=⟨18,[.agg [.str [112],.sl 23304 0 2 39 none],.sl 32242 0 1 7 (some 1)],32243,[(20077,.cells 3 true [.int .i64 4,.int .i64 5]),(20312,.cells 3 true [.int .i64 4,.int .i64 5]),(21461,.cells 9 true [.str [97]]),(23304,.cells 72 true [.str [97],.bh,.int .i64 2,.str [115,117,99,99,101,115,115],.int .i64 0,.bool false,.int .i64 0,.str [],.bh,.bh,.bh,.bh,.bh,.bh,.bh,.str [],.int .i64 0,.int .i64 5,.int .i64 1,.int .i64 3600000,.int .i64 0,.sl 20077 0 2 1 (some 2),.int .i64 1000,.int .i64 60000,.bh,.bh,.bh,.bh,.bh,.str [],.bool false,.int .i64 0,.bh,.int .i64 0,.bh,.int .i64 0,.int .i64 0,.bool false,.bool false,.str [98],.sl 21461 0 1 1 (some 1),.int .i64 2,.str [115,117,99,99,101,115,115],.int .i64 0,.bool false,.int .i64 0,.str [],.bh,.bh,.bh,.bh,.bh,.bh,.bh,.str [],.int .i64 0,.int .i64 5,.int .i64 1,.int .i64 3600000,.int .i64 0,.sl 20312 0 2 1 (some 2),.int .i64 1000,.int .i64 60000,.bh,.bh,.bh,.bh,.bh,.str [],.bool false,.int .i64 0,.bh,.int .i64 0,.bh,.int .i64 0,.int .i64 0,.bool false,.bool false]),(32235,.cells 26 true [.str [112],.sl 23304 0 2 39 none]),(32242,.cells 56 true [.str [97],.int .i64 2,.int .i64 1,.bh,.bh,.bh,.str []])],.cF [.agg [.int .i64 2,.sl 44439 0 2 7 none],.int .i64 0],44491,[(20077,.cells 3 true [.int .i64 4,.int .i64 5]),(20312,.cells 3 true [.int .i64 4,.int .i64 5]),(21461,.cells 9 true [.str [97]]),(23304,.cells 72 true [.str [97],.bh,.int .i64 2,.str [115,117,99,99,101,115,115],.int .i64 0,.bool false,.int .i64 0,.str [],.bh,.bh,.bh,.bh,.bh,.bh,.bh,.str [],.int .i64 0,.int .i64 5,.int .i64 1,.int .i64 3600000,.int .i64 0,.sl 20077 0 2 1 (some 2),.int .i64 1000,.int .i64 60000,.bh,.bh,.bh,.bh,.bh,.str [],.bool false,.int .i64 0,.bh,.int .i64 0,.bh,.int .i64 0,.int .i64 0,.bool false,.bool false,.str [98],.sl 21461 0 1 1 (some 1),.int .i64 2,.str [115,117,99,99,101,115,115],.int .i64 0,.bool false,.int .i64 0,.str [],.bh,.bh,.bh,.bh,.bh,.bh,.bh,.str [],.int .i64 0,.int .i64 5,.int .i64 1,.int .i64 3600000,.int .i64 0,.sl 20312 0 2 1 (some 2),.int .i64 1000,.int .i64 60000,.bh,.bh,.bh,.bh,.bh,.str [],.bool false,.int .i64 0,.bh,.int .i64 0,.bh,.int .i64 0,.int .i64 0,.bool false,.bool false]),(32235,.cells 26 true [.str [112],.sl 23304 0 2 39 none]),(44439,.cells 56 true [.str [97],.int .i64 2,.int .i64 1,.bh,.bh,.bh,.str [],.str [98],.int .i64 3,.int .i64 0,.bh,.bh,.bh,.str []])]⟩
def mo3:Me:=⟨18,[.agg [.str [112],.sl 23304 0 2 39 none],.bh],44498,[(20077,.cells 3 true [.int .i64 4,.int .i64 5]),(20312,.cells 3 true [.int .i64 4,.int .i64 5]),(21461,.cells 9 true [.str [97]]),(23304,.cells 72 true [.str [97],.bh,.int .i64 2,.str [115,117,99,99,101,115,115],.int .i64 0,.bool false,.int .i64 0,.str [],.bh,.bh,.bh,.bh,.bh,.bh,.bh,.str [],.int .i64 0,.int .i64 5,.int .i64 1,.int .i64 3600000,.int .i64 0,.sl 20077 0 2 1 (some 2),.int .i64 1000,.int .i64 60000,.bh,.bh,.bh,.bh,.bh,.str [],.bool false,.int .i64 0,.bh,.int .i64 0,.bh,.int .i64 0,.int .i64 0,.bool false,.bool false,.str [98],.sl 21461 0 1 1 (some 1),.int .i64 2,.str [115,117,99,99,101,115,115],.int .i64 0,.bool false,.int .i64 0,.str [],.bh,.bh,.bh,.bh,.bh,.bh,.bh,.str [],.int .i64 0,.int .i64 5,.int .i64 1,.int .i64 3600000,.int .i64 0,.sl 20312 0 2 1 (some 2),.int .i64 1000,.int .i64 60000,.bh,.bh,.bh,.bh,.bh,.str [],.bool false,.int .i64 0,.bh,.int .i64 0,.bh,.int .i64 0,.int .i64 0,.bool false,.bool false]),(32235,.cells 26 true [.str [112],.sl 23304 0 2 39 none]),(44439,.cells 56 true [.str [97],.int .i64 2,.int .i64 1,.bh,.bh,.bh,.str [],.str [98],.int .i64 3,.int .i64 0,.bh,.bh,.bh,.str []]),(44494,.cells 33 true [.int .i64 2,.sl 44439 0 2 7 none])],.cF [.agg [.int .i64 0,.bh],.int .i64 16],56488,[(20077,.cells 3 true [.int .i64 4,.int .i64 5]),(20312,.cells 3 true [.int .i64 4,.int .i64 5]),(21461,.cells 9 true [.str [97]]),(23304,.cells 72 true [.str [97],.bh,.int .i64 2,.str [115,117,99,99,101,115,115],.int .i64 0,.bool false,.int .i64 0,.str [],.bh,.bh,.bh,.bh,.bh,.bh,.bh,.str [],.int .i64 0,.int .i64 5,.int .i64 1,.int .i64 3600000,.int .i64 0,.sl 20077 0 2 1 (some 2),.int .i64 1000,.int .i64 60000,.bh,.bh,.bh,.bh,.bh,.str [],.bool false,.int .i64 0,.bh,.int .i64 0,.bh,.int .i64 0,.int .i64 0,.bool false,.bool false,.str [98],.sl 21461 0 1 1 (some 1),.int .i64 2,.str [115,117,99,99,101,115,115],.int .i64 0,.bool false,.int .i64 0,.str [],.bh,.bh,.bh,.bh,.bh,.bh,.bh,.str [],.int .i64 0,.int .i64 5,.int .i64 1,.int .i64 3600000,.int .i64 0,.sl 20312 0 2 1 (some 2),.int .i64 1000,.int .i64 60000,.bh,.bh,.bh,.bh,.bh,.str [],.bool false,.int .i64 0,.bh,.int .i64 0,.bh,.int .i64 0,.int .i64 0,.bool false,.bool false]),(32235,.cells 26 true [.str [112],.sl 23304 0 2 39 none]),(44439,.cells 56 true [.str [97],.int .i64 2,.int .i64 1,.bh,.bh,.bh,.str [],.str [98],.int .i64 3,.int .i64 0,.bh,.bh,.bh,.str []]),(44494,.cells 33 true [.int .i64 2,.sl 44439 0 2 7 none])]⟩
def mo4:Me:=⟨19,[.agg [.str [112],.sl 23304 0 2 39 none],.bh],56495,[(20077,.cells 3 true [.int .i64 4,.int .i64 5]),(20312,.cells 3 true [.int .i64 4,.int .i64 5]),(21461,.cells 9 true [.str [97]]),(23304,.cells 72 true [.str [97],.bh,.int .i64 2,.str [115,117,99,99,101,115,115],.int .i64 0,.bool false,.int .i64 0,.str [],.bh,.bh,.bh,.bh,.bh,.bh,.bh,.str [],.int .i64 0,.int .i64 5,.int .i64 1,.int .i64 3600000,.int .i64 0,.sl 20077 0 2 1 (some 2),.int .i64 1000,.int .i64 60000,.bh,.bh,.bh,.bh,.bh,.str [],.bool false,.int .i64 0,.bh,.int .i64 0,.bh,.int .i64 0,.int .i64 0,.bool false,.bool false,.str [98],.sl 21461 0 1 1 (some 1),.int .i64 2,.str [115,117,99,99,101,115,115],.int .i64 0,.bool false,.int .i64 0,.str [],.bh,.bh,.bh,.bh,.bh,.bh,.bh,.str [],.int .i64 0,.int .i64 5,.int .i64 1,.int .i64 3600000,.int .i64 0,.sl 20312 0 2 1 (some 2),.int .i64 1000,.int .i64 60000,.bh,.bh,.bh,.bh,.bh,.str [],.bool false,.int .i64 0,.bh,.int .i64 0,.bh,.int .i64 0,.int .i64 0,.bool false,.bool false]),(44439,.cells 56 true [.str [97],.int .i64 2,.int .i64 1,.bh,.bh,.bh,.str [],.str [98],.int .i64 3,.int .i64 0,.bh,.bh,.bh,.str []]),(44494,.cells 33 true [.int .i64 2,.sl 44439 0 2 7 none])],.sl 68403 0 1 1 none,68480,[(44439,.cells 56 true [.str [97],.int .i64 2,.int .i64 1,.bh,.bh,.bh,.str [],.str [98],.int .i64 3,.int .i64 0,.bh,.bh,.bh,.str []]),(44494,.cells 33 true [.int .i64 2,.sl 44439 0 2 7 none]),(68403,.cells 9 true [.str [97]])]⟩
def mo5:Me:=⟨13,[.agg [.str [112],.sl 23304 0 2 39 none]],23315,[(10,.cells 26 true [.str [],.bh]),(12267,.cells 26 true [.str [],.bh]),(12268,.cells 36 true [.int .i64 0]),(12273,.cells 26 true [.str [],.bh]),(20077,.cells 3 true [.int .i64 4,.int .i64 5]),(20312,.cells 3 true [.int .i64 4,.int .i64 5]),(21461,.cells 9 true [.str [97]]),(23304,.cells 72 true [.str [97],.bh,.int .i64 2,.str [115,117,99,99,101,115,115],.int .i64 0,.bool false,.int .i64 0,.str [],.bh,.bh,.bh,.bh,.bh,.bh,.bh,.str [],.int .i64 0,.int .i64 5,.int .i64 1,.int .i64 3600000,.int .i64 0,.sl 20077 0 2 1 (some 2),.int .i64 1000,.int .i64 60000,.bh,.bh,.bh,.bh,.bh,.str [],.bool false,.int .i64 0,.bh,.int .i64 0,.bh,.int .i64 0,.int .i64 0,.bool false,.bool false,.str [98],.sl 21461 0 1 1 (some 1),.int .i64 2,.str [115,117,99,99,101,115,115],.int .i64 0,.bool false,.int .i64 0,.str [],.bh,.bh,.bh,.bh,.bh,.bh,.bh,.str [],.int .i64 0,.int .i64 5,.int .i64 1,.int .i64 3600000,.int .i64 0,.sl 20312 0 2 1 (some 2),.int .i64 1000,.int .i64 60000,.bh,.bh,.bh,.bh,.bh,.str [],.bool false,.int .i64 0,.bh,.int .i64 0,.bh,.int .i64 0,.int .i64 0,.bool false,.bool false]),(23312,.cells 26 true [.str [112],.sl 23304 0 2 39 none])],.int .i64 0,32211,[(10,.cells 26 true [.str [],.bh]),(12267,.cells 26 true [.str [],.bh]),(12268,.cells 36 true [.int .i64 0]),(12273,.cells 26 true [.str [],.bh]),(20077,.cells 3 true [.int .i64 4,.int .i64 5]),(20312,.cells 3 true [.int .i64 4,.int .i64 5]),(21461,.cells 9 true [.str [97]]),(23304,.cells 72 true [.str [97],.bh,.int .i64 2,.str [115,117,99,99,101,115,115],.int .i64 0,.bool false,.int .i64 0,.str [],.bh,.bh,.bh,.bh,.bh,.bh,.bh,.str [],.int .i64 0,.int .i64 5,.int .i64 1,.int .i64 3600000,.int .i64 0,.sl 20077 0 2 1 (some 2),.int .i64 1000,.int .i64 60000,.bh,.bh,.bh,.bh,.bh,.str [],.bool false,.int .i64 0,.bh,.int .i64 0,.bh,.int .i64 0,.int .i64 0,.bool false,.bool false,.str [98],.sl 21461 0 1 1 (some 1),.int .i64 2,.str [115,117,99,99,101,115,115],.int .i64 0,.bool false,.int .i64 0,.str [],.bh,.bh,.bh,.bh,.bh,.bh,.bh,.str [],.int .i64 0,.int .i64 5,.int .i64 1,.int .i64 3600000,.int .i64 0,.sl 20312 0 2 1 (some 2),.int .i64 1000,.int .i64 60000,.bh,.bh,.bh,.bh,.bh,.str [],.bool false,.int .i64 0,.bh,.int .i64 0,.bh,.int .i64 0,.int .i64 0,.bool false,.bool false]),(23312,.cells 26 true [.str [112],.sl 23304 0 2 39 none])]⟩
def mo0_run:mo0.run prog oBase 100000=true:=by kernel_rfl
def mo0_ok:mo0.orc.ok prog:=Me.ok oBase_ok eo_hm eo_hN mo0_run
def mo5_run:mo5.run prog oBase 100000=true:=by kernel_rfl
def mo5_ok:mo5.orc.ok prog:=Me.ok oBase_ok eo_hm eo_hN mo5_run
def mo1_run:mo1.run prog (mo5.orc.or oBase) 100000=true:=by kernel_rfl
def mo1_ok:mo1.orc.ok prog:=Me.ok (Orc.or_ok mo5_ok oBase_ok) eo_hm eo_hN mo1_run
def mo2_run:mo2.run prog oBase 100000=true:=by kernel_rfl
def mo2_ok:mo2.orc.ok prog:=Me.ok oBase_ok eo_hm eo_hN mo2_run
def mo3_run:mo3.run prog oBase 100000=true:=by kernel_rfl
def mo3_ok:mo3.orc.ok prog:=Me.ok oBase_ok eo_hm eo_hN mo3_run
def mo4_run:mo4.run prog oBase 100000=true:=by kernel_rfl
def mo4_ok:mo4.orc.ok prog:=Me.ok oBase_ok eo_hm eo_hN mo4_run
def eo_run:((evF prog (mo0.orc.or (mo1.orc.or (mo2.orc.or (mo3.orc.or (mo4.orc.or oBase))))) 100000 7 [] ⟨9,.nil⟩).map fun r=>V.beq r.1 (.bool true))=some true:=by kernel_rfl
def eo_true:∃ s,evF prog (mo0.orc.or (mo1.orc.or (mo2.orc.or (mo3.orc.or (mo4.orc.or oBase))))) 100000 7 [] ⟨9,.nil⟩=some (.bool true,s):=by
 have h:=eo_run;generalize evF prog (mo0.orc.or (mo1.orc.or (mo2.orc.or (mo3.orc.or (mo4.orc.or oBase))))) 100000 7 [] ⟨9,.nil⟩=q at h ⊢
 match q,h with
 |some (v,s),h=>
  have e:=V.eq_of (Option.some.inj h)
  simp only at e
  subst e
  exact ⟨s,rfl⟩
def c_lives50 {G:World→Nat→Prop} (st:Abs.St):Abs.aA prog G 7 [] st (fun o t=>o= .ret (.d (.bool true))∧t=st):=by
 obtain ⟨s,h⟩:=eo_true;refine acalls_of_ok ((ev_sound (Orc.or_ok mo0_ok (Orc.or_ok mo1_ok (Orc.or_ok mo2_ok (Orc.or_ok mo3_ok (Orc.or_ok mo4_ok oBase_ok))))) eo_hm eo_hN 100000).2.2.1 _ _ _ _ _ h) (fun w=>?_) (fun c x cv hr=>?_) st
 ·have hnm:(Tryz.f7).name≠ "runtime.NumGoroutine" :=by
   have:((Tryz.f7).name== "runtime.NumGoroutine")=false:=by kernel_rfl
   simpa using this
  have hbd:(Tryz.f7).body≠none:=by
   have:(Tryz.f7).body.isNone=false:=by kernel_rfl
   intro h;rw [h] at this;cases this
  simp [callFunc,func7,hnm,hbd]
 ·cases hr;exact .d _ _ (.bool _)
