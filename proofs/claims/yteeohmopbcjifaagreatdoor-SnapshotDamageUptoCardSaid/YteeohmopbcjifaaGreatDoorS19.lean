import Derived.Test.YteeohmopbcjifaaGreatDoorS18
import Derived.Lib.ConvBytes
set_option linter.unusedSimpArgs false
set_option linter.unusedVariables false
section
namespace Go.Abs
open Go.RowKit
section
variable {P:Program} {G:World→Nat→Prop} {n:NDs} {aC:St} {all:Array Oper} {fr:Fr} {st:St} {c:Ctx} {w:World}
theorem below_conv (w:World) (e:TypeId) (s:ByteArray):Below w.heap.size w (Lib.bytesWorld w e s):=by
 refine ⟨rfl,rfl,rfl,?_,fun k hk=>?_⟩
 ·simp [Lib.bytesWorld,World.freeze]
 ·have:(w.drew.alloc (.cells (Lib.bytesCells w e s) e)).heap[k]?=w.heap[k]?:=Below.heap_alloc w.drew _ k hk
  rw [←this]
  show ((w.drew.alloc (.cells (Lib.bytesCells w e s) e)).heap.modify w.heap.size _)[k]?=_
  rw [abW,if_neg (by omega)]
theorem bf.sealAtM {k m:Nat} {arr:Array Value} {e:TypeId} {mk:Nat×Nat} (h:bf c w st) (hH:∀ o,c.H k o=none) (hmu:k ∉ c.mu) (htk:∀ (id:Nat) (t:Tok),c.tok[id]?=some t→t.val.ownBlock≠some k) (hk:w.heap[k]?=some (.cells arr e mk)):
  bf (c.aaA k m arr) w st∧Ext c (c.aaA k m arr):=by
 have hext:Ext c (c.aaA k m arr):=by
  refine ⟨fun b o v hv=>?_,fun _ _ h=>h,fun _ t h=>⟨t,h,rfl,aaP _,fun _=>rfl⟩,rfl,rfl⟩
  have:b≠k:=by rintro rfl;rw [hH] at hv;cases hv
  simp [Ctx.aaA,this,hv]
 refine ⟨⟨h.cN,h.dH,h.cI,?_,?_,h.cu,?_,h.cK,?_,h.below,h.cw⟩,hext⟩
 ·intro i b o hi
  have:b≠k:=fun e=>hmu (e▸abc hi)
  simp only [Ctx.aaA,this,false_and,if_false]
  exact h.mS i b o hi
 ·intro b k' B hk' hB
  obtain ⟨o,ho,hr⟩:=h.blk b k' B hk' hB
  exact ⟨o,ho,hr.mono hext⟩
 ·intro id t ht
  obtain ⟨h0,hd|⟨xs,ho,hg⟩⟩:=h.cz id t ht
  ·exact ⟨h0,.inl hd⟩
  refine ⟨h0,.inr ⟨xs,ho,fun g hgb=>?_⟩⟩
  obtain ⟨h1,h2,h3⟩:=hg g hgb
  have hne:g≠k:=fun e=>htk id t ht (by rw [hgb,e])
  exact ⟨fun o ho=>by simp only [Ctx.aaA,hne,false_and,if_false];exact h1 o ho,fun o ho=>by simp only [Ctx.aaA,hne,false_and,if_false];exact h2 o ho,h3⟩
 ·intro b o v hv
  by_cases hb:b=k∧o<m
  ·obtain ⟨rfl,hlt⟩:=hb
   simp only [Ctx.aaA,hlt,and_self,if_true] at hv
   simp [World.cell?,hk,hv]
  ·simp only [Ctx.aaA,hb,if_false] at hv
   exact h.cy b o v hv
theorem OPW.bytes {d:Option Tmp} {t1 t2 ty e:TypeId} {x:Operand} {pos:String} {after:Array Edge} {gd:Option (Nat×Bool)} {K:Fr→St→Prop} {l:List UInt8}
  (hg:goes all ⟨d,.convert t1 t2 x,ty,pos,after,gd⟩ fr=some true) (hd:fC n d=true) (h1:P.underlying t1=some .string) (h2:P.underlying t2=some (.slice e)) (h3:P.underlying e=some (.int .u8)) (hx:ev fr x= .d (.str l))
  (h:K (eC fr d (.d (.sl (l.map fun b=>[D.int .u8 (b.toNat:Int)])))) st):OPW P G n aC all ⟨d,.convert t1 t2 x,ty,pos,after,gd⟩ K fr st:=by
 refine OPW.of hg hd fun c0 c w a h0 he hc hf=>?_
 have hr:=bJ hf x
 rw [hx] at hr
 obtain ⟨s,hs,hsl⟩:∃ s:ByteArray,a.eval x= .string s∧s.data.toList=l:=by
  generalize a.eval x=q at hr
  cases hr with
  |d _ _ hr=>cases hr with|str s _ hs=>exact ⟨s,rfl,hs⟩
 have hc1:bf c (Lib.bytesWorld w e s) st:=hc.later (below_conv w e s)
 obtain ⟨hc2,hx2⟩:=hc1.sealAtM (k:=w.heap.size) (m:=s.size) (arr:=Lib.bytesCells w e s) (hc.fresh (aaP _)) (fun hm=>by
   obtain ⟨i,hi⟩:=List.getElem?_of_mem hm
   have:=hc.mult hi
   omega) (fun id t ht hgb=>by
   obtain ⟨_,hdd|⟨xs,ho,_⟩⟩:=hc.cz id t ht
   ·rw [hdd.2] at hgb;cases hgb
   ·have:=(ho.lt _ hgb).2
    omega) (Lib.bytesWorld_at_new w e s)
 refine ⟨.slice (some ⟨w.heap.size,0,none⟩) s.size (grownCap w s.size 0 e),_,_,fr,_,st,?_,he.trans hx2,hc2,hf.mono hx2,.d _ _ ?_,h⟩
 ·simp only [execOp,hs]
  simp [Lib.run_convert_string_bytes w t1 t2 e s h1 h2 h3]
 ·have hsz:s.size=l.length:=by rw [←hsl];simp
  refine .sl w.heap.size 0 s.size _ 1 (fun i _=> .int .u8 ((l.getD i 0).toNat:Int)) _ (by simp [hsz]) ?_ (by simp) (fun i j hi hj=>?_) (fun i j hi hj=>?_)
  ·exact grownCap_ge w s.size 0 e
  ·obtain rfl:j=0:=by omega
   have hil:i<l.length:=by omega
   simp only [Ctx.aaA,Nat.mul_one,Nat.add_zero,abl,true_and,hi,if_true,Lib.bytesCells]
   have e1:(s.data.map fun b=>Value.int .u8 (b.toNat:Int))=(l.map fun b=>Value.int .u8 (b.toNat:Int)).toArray:=by rw [←hsl,←Array.toList_map,Array.toArray_toList]
   rw [e1,Array.getElem?_append_left (by simpa using hil)]
   simp [hil,aaK]
  ·obtain rfl:j=0:=by omega
   have hil:i<l.length:=by omega
   have e2:((l.map fun b=>[D.int .u8 (b.toNat:Int)]).getD i []).getD 0 .eX=D.int .u8 ((l.getD i 0).toNat:Int):=by
    simp [aaK,hil]
   rw [e2]
   exact .int _ _
variable {Q:AX→Fr→St→Prop}
theorem OW.runR {res:List Nat}:∀ {l:List Oper} {r:List Oper} {fr:Fr} {st:St} {fr':Fr} {st':St},cJ P n all res l fr st=some ([],fr',st')→OW P G n aC all Q r fr' st'→OW P G n aC all Q (l++r) fr st
 |[],r,fr,st,fr',st',h,k=>by
  simp only [cJ,aaJ,aaZ,true_and] at h
  obtain ⟨rfl,rfl⟩:=h
  exact k
 |o::l,r,fr,st,fr',st',h,k=>by
  simp only [cJ] at h
  split at h
  ·split at h
   ·rename_i hg
    split at h
    ·simp at h
    ·split at h
     ·rename_i v gD he
      split at h
      ·rename_i hd
       exact OW.op hg he hd (OW.runR h k)
      ·simp at h
     ·simp at h
   ·rename_i hg
    split at h
    ·rename_i hd
     exact OW.skip hg hd (OW.runR h k)
    ·simp at h
   ·simp at h
  ·simp at h
theorem AW.regLR (res:List Nat) {id:Nat} {l:List Oper} (m:Nat) {o:Oper} {fr1:Fr} {gD:St} (ho:l[m]?=some o) (h1:cJ P n l.toArray res (l.take m) fr st=some ([],fr1,gD))
  (h:∀ K:Fr→St→Prop,(∀ fr st,OW P G n aC l.toArray Q (l.drop (m+1)) fr st→K fr st)→OPW P G n aC l.toArray o K fr1 gD):AW P G n aC (.region id l.toArray false) Q fr st:=by
 refine AW.region ?_
 have hl:m<l.length:=(aaL.1 ho).1
 have e:l=l.take m++(o::l.drop (m+1)):=by
  conv=>lhs;rw [←abP m l,abb hl]
  rw [(aaL.1 ho).2]
 have:=OW.runR (res:=res) (G:=G) (aC:=aC) (Q:=Q) h1 (h _ (fun _ _ h=>h) (l.drop (m+1)) Q fun _ _ h=>h)
 rw [←e] at this
 exact this
end
section
variable {P:Program} {G:World→Nat→Prop} {st:St} {g:FuncId} {xs:List V} {K Kp:V→St→Prop}
def AcE (P:Program) (G:World→Nat→Prop) (g:FuncId) (xs:List V) (st:St) {τ:Type} (f:τ→V):Prop:=aa P G g xs st fun o s=>(∃ x,o= .ret (f x))∧s=st
theorem CQ_x {τ:Type} {f:τ→V} (h:AcE P G g xs st f):dQ P G false g xs st K Kp=@cq (fB fun x=>K (f x) st) ⟨dQ P G false g xs st K Kp⟩:=cq.of fun k=>by
 unfold dQ
 exact ⟨_,h,(fun v s ⟨⟨x,e⟩,hs⟩=>by cases e;subst hs;exact k x),(fun v s ⟨⟨_,e⟩,_⟩=>by cases e)⟩
def ixM (q:List UInt8→Option Nat):D→Option D
 | .str s=>(q s).map fun i:Nat=>D.int .i64 (i:Int)
 |_=>none
theorem ixM_nil:(fun _=>none)=ixM (fun _=>none):=by funext y;cases y<;>simp [ixM]
theorem ixM_put (q:List UInt8→Option Nat) (s:List UInt8) (i:Nat):ri (ixM q) (.str s) (.int .i64 i)=ixM (fun x=>if x=s then some i else q x):=by
 funext y
 cases y with
 |str x=>by_cases h:s=x<;>simp [ri,vr,ixM,h,eq_comm]
 |_=>simp [ri,vr,ixM]
theorem ixM_s (q:List UInt8→Option Nat) (s:List UInt8):ixM q (.str s)=(q s).map fun i:Nat=>D.int .i64 (i:Int):=by simp [ixM]
theorem mp_cells (b:Nat):(V.mp b).cells=some [.mp b]:=(rfl)
theorem mp_one (b:Nat):(V.mp b).one=true:=(rfl)
attribute [go_sem] mp_cells mp_one
def seM (l:List (List UInt8)):D→Option D
 | .str s=>if s∈l then some (.bool true) else none
 |_=>none
theorem seM_nil:(fun _=>none)=seM []:=by funext y;cases y<;>simp [seM]
theorem seM_put (l:List (List UInt8)) (s:List UInt8):ri (seM l) (.str s) (.bool true)=seM (s::l):=by
 funext y
 cases y with
 |str x=>by_cases h:s=x<;>simp [ri,vr,seM,h,eq_comm]
 |_=>simp [ri,vr,seM]
theorem seM_in {l:List (List UInt8)} {s:List UInt8} (h:s∈l):seM l (.str s)=some (.bool true):=by simp [seM,h]
theorem seM_out {l:List (List UInt8)} {s:List UInt8} (h:s ∉ l):seM l (.str s)=none:=by simp [seM,h]
theorem SB.lp {n:NDs} {aC:St} {Q:AX→Fr→St→Prop} {fr:Fr} {x:Code} (h:AW P G n aC (.loop x) Q fr st): @SB P G n aC ⟨.loop x⟩ Q fr st:=(Ml ..).mpr h
theorem OPW.allocT {n:NDs} {aC:St} {fr:Fr} {all:Array Oper} {d:Option Tmp} {e ty:TypeId} {pos:String} {after:Array Edge} {gd:Option (Nat×Bool)} {K:Fr→St→Prop} {cs:List V}
  (hg:goes all ⟨d,.alloc e,ty,pos,after,gd⟩ fr=some true) (hd:fC n d=true) (hz:L2 P e=some cs) (h:K (eC fr d (.ptr st.aj.length 0)) ⟨st.aj++[.tc e cs],st.toks⟩):OPW P G n aC all ⟨d,.alloc e,ty,pos,after,gd⟩ K fr st:=by
 refine OPW.of hg hd fun c0 c w a h0 he hc hf=>?_
 unfold L2 at hz
 obtain ⟨z,hz1,hz2⟩:=ab8.1 hz
 obtain ⟨h1,h2⟩:=ko (c:=c) hz2
 have hb:eS c (.cells z.cells e (0,0)) (.tc e cs):= .tc _ _ _ (by simpa using h1) fun i hi=>by rw [aK];exact h2 i hi
 exact ⟨.pointer (some ⟨w.heap.size,0,none⟩),w.alloc (.cells z.cells e),c.Ly w.heap.size,fr,_,_,by simp [execOp,Instr.alloc,kU hz1,tP],he.trans (Ext.Ly c _),hc.alloc hb,hf.mono (Ext.Ly c _),.ptr _ _ _ (by simp [Ctx.Ly,←hc.cN]),h⟩
theorem bf.tokenT {c:Ctx} {w:World} (hc:bf c w st) {b i e sz T:Nat} {cs:List V} (hB:st.aj[b]?=some (.tc T cs)) (hi:cs[i]?=some .bh) (hsz:0<sz):
  bf (c.e9 e sz) w ⟨st.aj.set b (.tc T (cs.set i (.own st.toks.length []))),st.toks++[(e,sz,0)]⟩:=by
 have h:=hc.e9 e hsz
 have hlen:st.toks.length=c.tok.length:=by rw [←hc.cu];simp
 refine ⟨by have:=h.cN;simpa using this,h.dH,h.cI,h.mS,fun b' k B hk hB'=>?_,h.cu,h.cz,h.cK,h.cy,h.below,h.cw⟩
 simp only [ab9] at hB'
 split at hB'
 ·rename_i hbb
  subst hbb
  obtain ⟨o,ho,hr⟩:=h.blk b k _ hk hB
  split at hB'
  ·simp only [aaJ] at hB'
   subst hB'
   cases hr with|tc arr _ _ hs hr=>?_
   refine ⟨_,ho,.tc arr _ _ (by simpa using hs) fun j hj=>?_⟩
   have hj':j<cs.length:=by simpa using hj
   have hj1:=hr j hj'
   by_cases hij:i=j
   ·subst hij
    rw [aaK,hi] at hj1
    rw [aaK,abp hj']
    simp only [abu] at hj1 ⊢
    generalize arr.getD i undef=v at hj1
    cases hj1
    exact .own _ _ _ ⟨.slice none 0 0,e,sz,0⟩ .slnil (by rw [hlen];simp [Ctx.e9]) (by simp) (by simp) (fun _=>rfl)
   ·rw [aaK,abx hij,←aaK]
    exact hj1
  ·simp at hB'
 ·exact h.blk b' k B hk hB'
theorem AW.tokenT {n:NDs} {aC:St} {Q:AX→Fr→St→Prop} {fr:Fr} {code:Code} {st':St} (b i e sz:Nat) {T:Nat} {cs:List V} (hB:st.aj[b]?=some (.tc T cs)) (hi:cs[i]?=some .bh) (hsz:0<sz) (hst:(⟨st.aj.set b (.tc T (cs.set i (.own st.toks.length []))),st.toks++[(e,sz,0)]⟩:St)=st')
  (h:AW P G n aC code Q fr st'):AW P G n aC code Q fr st:=
 fun c0 c w a h0 he hc hg hf hs hd=>h c0 _ w a h0 (he.trans (Ext.e9 c e sz)) (hst▸hc.tokenT hB hi hsz) hg (hf.mono (Ext.e9 c e sz)) hs hd
theorem bf.addTok {c:Ctx} {w:World} (h:bf c w st) {t:Tok} {xs:List Value} {g:Nat} (h0:0<t.sz) (ho:w.ownsRow c.base t.e t.sz t.val t.len xs) (hb:t.val.ownBlock=some g) (hH1:∀ o,o<t.len*t.sz→c.H g o=xs[o]?)
  (hH2:∀ o,t.len*t.sz≤o→c.H g o=none) (hmu:g ∉ c.mu) (hold:∀ (id:Nat) (t':Tok),c.tok[id]?=some t'→t'.val.ownBlock≠some g):
  bf { c with tok:=c.tok++[t] } w ⟨st.aj,st.toks++[(t.e,t.sz,t.len)]⟩∧Ext c { c with tok:=c.tok++[t] }:=by
 have hext:Ext c { c with tok:=c.tok++[t] }:=⟨fun _ _ _ h=>h,fun _ _ h=>h,fun _ t h=>⟨t,gV h,rfl,aaP _,fun _=>rfl⟩,rfl,rfl⟩
 refine ⟨⟨h.cN,h.dH,h.cI,h.mS,fun b k B hk hB=>let ⟨o,ho,hr⟩:=h.blk b k B hk hB;⟨o,ho,hr.mono hext⟩,by simp [h.cu],fun id t1 ht=>?_,fun i j s u g' hi hj hs hu=>?_,h.cy,h.below,h.cw⟩,hext⟩
 ·rcases bH ht with ht|⟨_,rfl⟩
  ·exact h.cz id t1 ht
  ·refine ⟨h0,.inr ⟨xs,ho,fun g' hg'=>?_⟩⟩
   rw [hb] at hg'
   cases hg'
   exact ⟨hH1,hH2,hmu⟩
 ·rcases bH hi with h1|⟨_,h1⟩<;>rcases bH hj with h2|⟨_,h2⟩
  ·exact h.cK i j s u g' h1 h2 hs hu
  ·rw [h2,hb] at hu;cases hu;exact absurd hs (hold i s h1)
  ·rw [h1,hb] at hs;cases hs;exact absurd hu (hold j u h2)
  ·omega
theorem OPW.mkL {n:NDs} {aC:St} {fr:Fr} {all:Array Oper} {d:Option Tmp} {t m ty:Nat} {parts:Array (Nat×Operand)} {pos:String} {after:Array Edge} {gd:Option (Nat×Bool)} {K:Fr→St→Prop} {e sz by_:Nat} {rs:List (List D)}
  (hg:goes all ⟨d,.buildSlice t m parts,ty,pos,after,gd⟩ fr=some true) (hd:fC n d=true) (hev:eW P t m fr parts.toList=some (.d (.sl rs))) (hsl:mU P t=some (e,sz,by_)) (h:K (eC fr d (.own st.toks.length rs)) ⟨st.aj,st.toks++[(e,sz,rs.length)]⟩):
  OPW P G n aC all ⟨d,.buildSlice t m parts,ty,pos,after,gd⟩ K fr st:=by
 refine OPW.of hg hd fun c0 c w a h0 he hc hf=>?_
 obtain ⟨e',sz',b',rs',arr,h1,h2,h3,h4,h5,h6,h7,h8,h9⟩:=evalBuildSlice_at hc t m hf parts hev
 rw [hsl] at h1
 simp only [aaJ,aaZ] at h1
 obtain ⟨rfl,rfl,rfl⟩:=h1
 simp only [V.d.injEq,D.sl.injEq] at h2
 subst h2
 have hm:rs.length≤16777216:=by
  have:=Nat.mul_le_mul_left m h5
  omega
 have hmx:maxLen=9223372036854775807:=by decide
 obtain ⟨k1,k2⟩:=(hc.kT arr e).addTok (t:=⟨.slice (some ⟨w.heap.size,0,none⟩) m m,e,sz,m⟩) (xs:=arr.toList) (g:=w.heap.size) h5
  ⟨by simp [h6],.inr ⟨w.heap.size,m,arr,rfl,hc.cw,heap_alloc_new w _,aaP _,by simp only [hmx];omega,h6,by rw [aa0 (by simp [h6])]⟩⟩ rfl (fun o _=>by simp [Ctx.kT])
  (fun o ho=>by simp only [Ctx.kT,if_true];exact ab0 (by simp only at ho;omega))
  (fun hm=>by
   have hm:w.heap.size∈c.mu:=hm
   obtain ⟨i,hi,e⟩:=abn.1 hm
   have:=hc.mult (i:=i) (k:=w.heap.size) (by rw [aaT hi];exact congrArg some e)
   omega)
  (fun id t' ht e=>by
   obtain ⟨_,hd|⟨xs,ho,_⟩⟩:=hc.cz id t' ht
   ·rw [hd.2] at e;cases e
   ·have:=(ho.lt _ e).2;omega)
 rw [h3] at h
 have hl:st.toks.length=c.tok.length:=by rw [←hc.cu];simp
 refine ⟨.slice (some ⟨w.heap.size,0,none⟩) m m,w.alloc (.cells arr e),_,fr,_,_,by simp only [execOp];simp [h8],he.trans ((hc.xK arr).trans k2),k1,hf.mono ((hc.xK arr).trans k2),?_,h⟩
 exact .own _ _ _ ⟨.slice (some ⟨w.heap.size,0,none⟩) m m,e,sz,m⟩ h9 (by rw [hl];simp [Ctx.kT]) h4 (by simp only;omega) fun _=>rfl
theorem OPW.appW0 {n:NDs} {aC:St} {fr:Fr} {all:Array Oper} {d:Option Tmp} {x z:Operand} {t ty:TypeId} {pos:String} {after:Array Edge} {gd:Option (Nat×Bool)} {K':Fr→St→Prop} {e sz by_ b k cap:Nat}
  (hg:goes all ⟨d,.call ⟨.builtin .append,#[x,z],#[t,t]⟩,ty,pos,after,gd⟩ fr=some true) (hd:fC n d=true) (hsl:mU P t=some (e,sz,by_)) (hx:ev fr x= .win b k cap) (hzx:(ev fr z).me=some (.sl []))
  (h:K' (eC fr d (.win b k cap)) st):OPW P G n aC all ⟨d,.call ⟨.builtin .append,#[x,z],#[t,t]⟩,ty,pos,after,gd⟩ K' fr st:=by
 refine OPW.of hg hd fun c0 c w a h0 he hc hf=>?_
 obtain ⟨hu,ie,hie,_,_⟩:=kz hsl
 have hx1:=bJ hf x
 rw [hx] at hx1
 have hz1:=(bJ hf z).me hzx
 generalize hxv:a.eval x=xv at hx1
 generalize hzv:a.eval z=zv at hz1
 cases hx1 with|win _ kk _ _ hkk hkc=>?_
 have hem:zv= .slice none 0 0∨∃ a cp,zv= .slice (some a) 0 cp:=by
  cases hz1 with
  |slnil=>exact .inl rfl
  |uV a=>exact .inr ⟨a,0,rfl⟩
  |sl k off m cap sz vs _ h1 _ _ _ _=>
   simp only [aaV] at h1
   subst h1
   exact .inr ⟨_,_,rfl⟩
 exact ⟨_,w,c,fr,_,_,exec_append (by rw [hxv,hzv];exact qS hu hie _ _ _ hkc hem),he,hc,hf,.win _ _ _ _ hkk hkc,h⟩
theorem CQ_xs {τ:Type} {f:τ→V} {S:τ→St} (h:aa P G g xs st fun o s=>∃ x,o= .ret (f x)∧s=S x):dQ P G false g xs st K Kp=@cq (fB fun x=>K (f x) (S x)) ⟨dQ P G false g xs st K Kp⟩:=cq.of fun k=>by
 unfold dQ
 exact ⟨_,h,(fun v s ⟨x,e,hs⟩=>by cases e;subst hs;exact k x),(fun v s ⟨_,e,_⟩=>by cases e)⟩
theorem retB {fn:Func} {R:Out→St→Prop} {fr:Fr} {st':St} {l:List V} {v:V} (B:List aJ) (U:List (Nat×Nat×Nat)) (h0:st'.aj.take (st.aj.length+B.length)=st.aj++B∧st'.toks.take (st.toks.length+U.length)=st.toks++U)
  (hB:B.all (fun X=>X.within (st.aj.length+B.length) (st.toks.length+U.length))=true) (h:eT P fr st' fn.results.toList=some l∧eD l=v∧v.within (st.aj.length+B.length) (st.toks.length+U.length)=true) (hR:R (.ret v) ⟨st.aj++B,st.toks++U⟩):Abs.bodyN P fn st R .ret fr st':=by
 obtain ⟨h1,rfl,h2⟩:=h
 unfold Abs.bodyN
 refine ⟨st.aj.length+B.length,st.toks.length+U.length,⟨by omega,by omega,fun b X hb hX=>?_⟩,l,h1,h2,?_⟩
 ·have hX:(st.aj++B)[b]?=some X:=by rw [←h0.1,abk hb];exact hX
  by_cases h3:b<st.aj.length
  ·exact .inl (by rwa [aaU h3] at hX)
  ·rw [aaO (by omega)] at hX
   exact .inr (aa3.1 hB X (abc hX))
 ·simp only [St.cut,h0.1,h0.2];exact hR
theorem thenQ_rd {K:Fr→St→Prop} {Q:AX→Fr→St→Prop} {fr:Fr} (h: @Pr ⟨K⟩ fr st):bz K Q .normal fr st:=by unfold Pr at h;exact h
section
variable {n:NDs} {aC gD:St} {Q:AX→Fr→St→Prop} {fr:Fr} {x y z:Code}
theorem AW.toF (l:List (Nat×V)) (h:AW P G n aC x Q (jO l) st) (hl:okF fr l):AW P G n aC x Q fr st:=AW.prune (jO l) (eG hl) h
theorem AW.seqF (l:List (Nat×V)) (gD:St) (h:∀ K:Fr→St→Prop,(∀ fr,okF fr l→K fr gD)→AW P G n aC x (bz K Q) fr st) (k:AW P G n aC y Q (jO l) gD):AW P G n aC (.seq x y) Q fr st:=
 AW.seq (h _ fun _ hl=>k.toF l hl)
def splC:Nat→Code→Option (Code×Code)
 |0,_=>none
 |1,.seq x y=>some (x,y)
 |k+2,.seq x y=>(splC (k+1) y).map fun z=>(.seq x z.1,z.2)
 |_,_=>none
theorem AW.cutW:∀ (k:Nat) {c p r:Code} {Q:AX→Fr→St→Prop} {fr:Fr} {st:St} {K:Fr→St→Prop},splC k c=some (p,r)→(∀ fr st,K fr st→AW P G n aC r Q fr st)→SW P G n aC p (bz K Q) fr st→AW P G n aC c Q fr st
 |0,_,_,_,_,_,_,_,h,_,_=>by simp [splC] at h
 |1,.seq x y,p,r,Q,fr,st,K,h,hr,hp=>by
  simp only [splC,aaJ,aaZ] at h
  obtain ⟨rfl,rfl⟩:=h
  exact AW.seq ((SW.sound x hp).mono fun e fr st hq=>by
   cases e with
   |normal=>exact hr _ _ hq
   |_=>exact hq)
 |k+2,.seq x y,p,r,Q,fr,st,K,h,hr,hp=>by
  simp only [splC] at h
  obtain ⟨z,hz,e⟩:=abv.1 h
  simp only [aaZ] at e
  obtain ⟨rfl,rfl⟩:=e
  rw [Ig] at hp
  exact AW.seq ((SW.sound x hp).mono fun e fr st hq=>by
   cases e with
   |normal=>exact AW.cutW (k+1) hz hr hq
   |_=>exact hq)
theorem AW.cutN (k:Nat) {c p r:Code} (hc:splC k c=some (p,r)) (h:∀ K:Fr→St→Prop,(∀ fr st,AW P G n aC r Q fr st→K fr st)→∀ Q',Q'=bz K Q→ @SB P G n aC ⟨p⟩ Q' fr st):AW P G n aC c Q fr st:=
 AW.cutW k hc (fun _ _ h=>h) (by have:=h (AW P G n aC r Q) (fun _ _ h=>h) _ rfl;unfold SB at this;exact this)
theorem AW.cutE (k:Nat) {τ:Type} (p:τ→Prop) (σ:τ→List (Nat×V)) (S:τ→St) {c x y:Code} (hc:splC k c=some (x,y)) (h:∀ K:Fr→St→Prop,(∀ i fr,p i→okF fr (σ i)→K fr (S i))→∀ Q',Q'=bz K Q→ @SB P G n aC ⟨x⟩ Q' fr st) (kk:∀ i,p i→AW P G n aC y Q (jO (σ i)) (S i)):AW P G n aC c Q fr st:=
 AW.cutW k hc (fun _ _ h=>h) (by have:=h _ (fun i _ hp hl=>(kk i hp).toF _ hl) _ rfl;unfold SB at this;exact this)
theorem AW.ifB (l:List (Nat×V)) (S:St) {t:Nat} {x A B:Code} (ht:jO l t= .aU) (h:∀ K:Fr→St→Prop,(∀ b fr,okF fr ((t,.d (.bool b))::l)→K fr S)→∀ Q',Q'=bz K Q→ @SB P G n aC ⟨x⟩ Q' fr st)
  (hT:AW P G n aC A Q (jO l) S) (hF:AW P G n aC B Q (jO l) S):AW P G n aC (.seq x (.cond (.tmp t) A B)) Q fr st:=
 AW.cutE 1 (fun _:Bool=>True) (fun b=>(t,.d (.bool b))::l) (fun _=>S) rfl (fun K hK=>h K fun b fr=>hK b fr trivial) fun b _=>by
  have hw:∀ y:Code,AW P G n aC y Q (jO l) S→AW P G n aC y Q (jO ((t,.d (.bool b))::l)) S:=fun y hy=>AW.prune (jO l) (fun i=>by
   rw [EI]
   split
   ·rename_i e;exact .inr (e▸ht)
   ·exact .inl rfl) hy
  cases b
  ·exact AW.condF (by simp [ev,jO]) (hw _ hF)
  ·exact AW.condT (by simp [ev,jO]) (hw _ hT)
end
end
def P7 (l:List Oper) (m:Nat):Operand→Bool
 | .tmp t=>(match iO l t with|some j=>decide (j<m)|none=>true)
 |_=>true
section
variable {P:Program} {G:World→Nat→Prop} {n:NDs} {aC:St} {Q:AX→Fr→St→Prop}
def XL (l:List Oper) (i hi:Nat):Bool:=
 (match l[i]? with
 |some ⟨_,.load _ (.tmp t),_,_,_,none⟩=>(match iO l t with|some j=>decide (j<i)|none=>true)
 |_=>false)&&decide (i≤hi)&&decide (hi≤l.length)&& (l.take hi).zipIdx.all fun p=>bp [] p.2 p.1 !=2||(decide (i<p.2)&&match p.1.op with| .alloc _=>true|_=>false)
theorem uy {t:TypeId} {x v:V} {st:St} (B:aJ) (h:bn P t x st=some v):bn P t x { st with aj:=st.aj++[B] }=some v:=by
 unfold bn at h ⊢
 split at h
 ·split at h
  ·split at h
   ·rename_i k off _ cs hk
    obtain ⟨B0,h1,h2⟩:=ab8.1 hk
    simp only [aaU (aaL.1 h1).1,hk]
    exact h
   ·cases h
  ·exact h
  ·cases h
 ·cases h
theorem P8 {l:List Oper} {fr fr':Fr} {st st':St} {vs:List V} {ss:List St} (hok:∀ j o d,l[j]?=some o→o.dst=some d→iO l d=some j) (h:jZ P G n l.toArray [] 0 l fr st vs ss fr' st') {i hi:Nat} (hE:XL l i hi=true):
  Bu P l fr' (fun k=>(st::ss).getD k default) i hi:=by
 obtain ⟨h1,h2,h3⟩:=h.spec [] fr (fun i=>vs.getD i .aU) (fun i=>(st::ss).getD i default) rfl hok (by simp) (by simp) (by
  funext t;unfold valOf;cases iO ([]++l) t<;>simp)
 simp only [aa8,aaV,abt,true_implies] at h1
 unfold XL at hE
 split at hE
 case h_2=>simp at hE
 rename_i a ty t b c d he
 simp only [aaW,aaS] at hE
 obtain ⟨⟨⟨hE1,hih⟩,hle⟩,hE2⟩:=hE
 have hw:∀ j,j<hi→∀ o,l[j]?=some o→bp [] j o≠2∨(i<j∧∃ e,o.op= .alloc e):=fun j hj o ho=>by
  have:=aa3.1 hE2 (o,j) (by rw [abH,abM,if_pos hj];exact ho)
  simp only [abo,aaW,aaS,bne_iff_ne,ne_eq] at this
  refine this.imp id fun ⟨q1,q2⟩=>⟨q1,?_⟩
  split at q2
  ·exact ⟨_,‹_›⟩
  ·cases q2
 have hstill:∀ j o,l[j]?=some o→bp [] j o≠2→(st::ss).getD (j+1) default=(st::ss).getD j default:=fun j o ho hk=>by
  obtain ⟨s1,s2⟩:=h1 j o ho
  by_cases hk1:bp [] j o=1
  ·exact s2 hk1
  ·have hq:eu o.op=true:=by
    unfold bp at hk hk1
    split at hk
    ·simp at hk
    ·rename_i hc
     rw [if_neg hc] at hk1
     split at hk
     ·assumption
     ·rename_i hq
      rw [if_neg hq] at hk1
      split at hk<;>simp_all
   exact (s1.quiet hq).1
 have hlow:∀ k,k≤i→k≤hi→(st::ss).getD k default=st:=by
  intro k
  induction k with
  |zero=>intro _ _;rfl
  |succ k ih=>
   intro q1 q2
   have hl:k<l.length:=by omega
   rw [hstill k l[k] (by simp [hl]) ((hw k (by omega) _ (by simp [hl])).resolve_right (by omega)),ih (by omega) (by omega)]
 refine ⟨_,t,ty,he,rfl,rfl,fun j hj=>by rw [hj] at hE1;simpa using hE1,fun k hk v s hv hs=>?_⟩
 subst hs
 by_cases hki:k≤i
 ·show bn P ty (fr' t) ((st::ss).getD k default)=some v
  have hv:bn P ty (fr' t) ((st::ss).getD i default)=some v:=hv
  rw [hlow k hki hk];rw [hlow i (aaP _) hih] at hv;exact hv
 ·obtain ⟨d,rfl⟩:∃ d,k=i+d:=⟨k - i,by omega⟩
  clear hki
  induction d with
  |zero=>exact hv
  |succ d ih=>
   have ih:=ih (by omega)
   have hl:i+d<l.length:=by omega
   have ho:l[i+d]?=some l[i+d]:=by simp [hl]
   rcases hw (i+d) (by omega) _ ho with hk2|⟨_,e,hop⟩
   ·show bn P ty (fr' t) ((st::ss).getD (i+d+1) default)=some v
    rw [hstill _ _ ho hk2];exact ih
   ·obtain ⟨s1,_⟩:=h1 _ _ ho
    show bn P ty (fr' t) ((st::ss).getD (i+d+1) default)=some v
    have ih:bn P ty (fr' t) ((st::ss).getD (i+d) default)=some v:=ih
    generalize hS:(st::ss).getD (i+d) default=S1 at s1 ih
    generalize (st::ss).getD (i+d+1) default=S2 at s1
    generalize l[i+d]=o at*
    obtain ⟨dst,op,type,pos,after,guard⟩:=o
    simp only at hop
    subst hop
    generalize vs.getD (i+d) .aU=vv at s1
    cases s1 with
    |op _ _ g1 g2 g3=>
     simp only [evalOp] at g2
     split at g2
     ·simp only [aaJ,Ly,aaZ] at g2
      obtain ⟨_,rfl⟩:=g2
      exact uy _ ih
     ·cases g2
    |skip g1 g2=>exact ih
    |call _ _ g cap x args ats _ hop=>cases hop
end
section
variable {P:Program} {G:World→Nat→Prop} {n:NDs} {aC:St} {Q:AX→Fr→St→Prop}
structure aaB (P:Program) (G:World→Nat→Prop) (n:NDs) (l:List Oper) (fr':Fr) (i:Nat):Prop where
 ex:∃ d args ats ty pos after g xs,l[i]?=some { dst:=some d,op:= .call { callee:= .value (.func g),args:=args,argTypes:=ats },type:=ty,pos:=pos,after:=after,guard:=none }∧(∀ args w,(callFunc g args).run P w= .ok (.enter g args) w)∧fC n (some d)=true∧
  args.toList.all (P7 l i)=true∧args.toList.map (fun o=>(ev fr' o).share)=xs∧∀ st,aa P G g xs st (fun q s=>q= .ret (fr' d)∧s=st)
theorem aaB.i {l:List Oper} {fr':Fr} {i:Nat} {d:Nat} {args:Array Operand} {ats:Array TypeId} {ty:TypeId} {pos:String} {after:Array Edge} {g:FuncId} {xs:List V} {v:V} (h:∀ st,aa P G g xs st (fun q s=>q= .ret v∧s=st))
  (h1:l[i]?=some { dst:=some d,op:= .call { callee:= .value (.func g),args:=args,argTypes:=ats },type:=ty,pos:=pos,after:=after,guard:=none }) (hc:∀ args w,(callFunc g args).run P w= .ok (.enter g args) w) (h2:fC n (some d)=true)
  (h3:args.toList.all (P7 l i)=true) (h4:args.toList.map (fun o=>(ev fr' o).share)=xs) (h5:fr' d=v):aaB P G n l fr' i:=
 ⟨d,args,ats,ty,pos,after,g,xs,h1,hc,h2,h3,h4,fun st=>h5▸h st⟩
theorem runE {l:List Oper} {ex:List (Nat×Nat)} {fr fr':Fr} {st st':St} {vs:List V} {ss:List St} (hok:fM l [] ex l.length=true) (htr:Nb P G n l.toArray l fr st vs ss fr' st') (hE:∀ p∈ex,XL l p.1 p.2=true∨aaB P G n l fr' p.1):
  TX P G n l [] ex l.length fr (fun i=>vs.getD i .aU) (fun i=>(st::ss).getD i default)∧fr'=valOf l fr (fun i=>vs.getD i .aU) (fun _=>true)∧st'=(st::ss).getD l.length default:=by
 have htr:=htr.toM 0
 obtain ⟨h1,h2,h3⟩:=htr.spec [] fr (fun i=>vs.getD i .aU) (fun i=>(st::ss).getD i default) rfl (fun j o d ho hd=>(aaE hok ho).dst d hd) (by simp) (by simp) (by
  funext t;unfold valOf;cases iO ([]++l) t<;>simp)
 simp only [aa8,aaV,abt,true_implies] at h1 h2 h3
 have R:TX P G n l [] ex l.length fr (fun i=>vs.getD i .aU) (fun i=>(st::ss).getD i default):=by
  refine ⟨hok,aaP _,fun i o hi ho=>(h1 i o ho).1,fun i o hi ho=>(h1 i o ho).2,?_,fun _ _ _ h=>by cases h⟩
  intro i hi' o hmem ho hil k hk hkm
  rcases hE _ hmem with hA|hC
  ·obtain ⟨o',t,ty,e1,e2,e3,e4,e5⟩:=(P8 (fun j o d ho hd=>(aaE hok ho).dst d hd) htr hA).ex
   rw [ho] at e1;cases e1
   obtain ⟨dst,op,type,pos,after,guard⟩:=o
   simp only at e2 e3
   subst e2 e3
   have hfr:fr' t=valOf l fr (fun i=>vs.getD i .aU) (fun k=>decide (k<i)) t:=by
    rw [h2];unfold valOf
    cases hw:iO l t with
    |none=>rfl
    |some j=>simp only [if_true,decide_eq_true (e4 j hw)]
   have hs:cL P G n l.toArray _ (valOf l fr (fun i=>vs.getD i .aU) (fun k=>decide (k<i))) ((st::ss).getD i default) (vs.getD i .aU) ((st::ss).getD (i+1) default):=(h1 i _ ho).1
   show cL P G n l.toArray _ (valOf l fr (fun i=>vs.getD i .aU) (fun k=>decide (k<i))) ((st::ss).getD k default) (vs.getD i .aU) ((st::ss).getD k default)
   generalize hq:valOf l fr (fun i=>vs.getD i .aU) (fun k=>decide (k<i))=fq at hs hfr ⊢
   generalize vs.getD i .aU=vv at hs ⊢
   generalize hS:(st::ss).getD i default=S1 at hs
   generalize (st::ss).getD (i+1) default=S2 at hs
   have e5:∀ v s,bn P ty (fr' t) ((st::ss).getD i default)=some v→s=(st::ss).getD k default→bn P ty (fr' t) s=some v:=e5 k hk
   rw [hS] at e5
   cases hs with
   |op _ _ g1 g2 g3=>
    refine .op _ _ rfl ?_ g3
    simp only [evalOp,ev] at g2 ⊢
    obtain ⟨q1,q2⟩:=jj g2
    rw [←hfr] at q2 ⊢
    rw [e5 _ _ q2 rfl];rfl
   |skip g1 g2=>simp [goes] at g1
   |call _ _ g cap x args ats _ hop=>cases hop
  ·obtain ⟨d,args,ats,ty,pos,after,g,xs,hlm,hcall,hd,hb,hx,hA⟩:=hC.ex
   rw [hlm] at ho
   cases ho
   have hw:iO l d=some i:=(aaE hok hlm).dst d rfl
   have hv:fr' d=vs.getD i .aU:=by
    rw [h2];unfold valOf
    simp only [hw,if_true]
   refine cL.call _ _ g [] (.func g) args ats rfl rfl rfl hcall hd ?_
   have hargs:args.toList.map (fun o=>(ev (valOf l fr (fun i=>vs.getD i .aU) (fun k=>decide (k<i))) o).share)=xs:=by
    rw [←hx]
    refine List.map_congr_left fun o ho=>?_
    have hb':=aa3.1 hb o ho
    cases o with
    |tmp t=>
     have:valOf l fr (fun i=>vs.getD i .aU) (fun k=>decide (k<i)) t=fr' t:=by
      rw [h2];unfold valOf
      unfold P7 at hb'
      simp only at hb'
      cases hw:iO l t with
      |none=>rfl
      |some j=>
       rw [hw] at hb'
       have hj:j<i:=by simpa using hb'
       simp only [decide_eq_true hj,if_true]
     simp only [ev,this]
    |const c=>rfl
    |func f=>rfl
    |global g=>rfl
   rw [aa7,hargs]
   rw [←hv]
   exact hA _
 exact ⟨R,h2,h3⟩
theorem AW.drawnE (hm:P.follows .mixedOrders=true) {id:Nat} {l:List Oper} (ex:List (Nat×Nat)) {fr:Fr} {st:St} (hok:fM l [] ex l.length=true)
  (h:OT P G n l.toArray l fr st fun fr' st'=>(∀ p∈ex,XL l p.1 p.2=true∨aaB P G n l fr' p.1)∧Q .normal fr' st'):AW P G n aC (.region id l.toArray true) Q fr st:=by
 obtain ⟨vs,ss,fr',st',htr,hE,hQ⟩:=h
 obtain ⟨R,h2,h3⟩:=runE hok htr hE
 intro c0 c w a h0 he hc hg hf hs hd
 have hg0:G c0.w0 c0.base:=by rw [←he.w0,←he.base];exact hg
 refine wp_region_any hm ?_
 have hrep:∀ i,(Array.replicate l.toArray.size false).getD i false=false:=fun i=>by
  rw [aaR,abX]
  split<;>rfl
 refine kE R hg0 (.inl ⟨rfl,by rw [←h2,←h3];exact hQ⟩) _ _ 0 a _ c ?_ ?_ he (kF hc) ?_ hs hd
 ·refine ⟨by simp,fun j o _ hj=>?_,fun j hj=>?_,abt _,fun i o _ _=>?_⟩
  ·exact absurd hj (by rw [hrep];simp)
  ·exact absurd hj (by rw [hrep];simp)
  ·rw [hrep];simp
 ·exact abJ ace (by simp)
 ·intro t
  have:=hf t
  unfold valOf
  cases iO l t with
  |none=>exact this
  |some i=>simp only [hrep];exact this
def QE (P:Program) (G:World→Nat→Prop) (n:NDs) (l:List Oper) (ex:List (Nat×Nat)) (Q:AX→Fr→St→Prop):AX→Fr→St→Prop:=fun x fr st=>(∀ p∈ex,XL l p.1 p.2=true∨aaB P G n l fr p.1)∧Q x fr st
theorem AW.regE (hm:P.follows .mixedOrders=true) {id:Nat} {l:List Oper} {fr:Fr} {st:St} (ex:List (Nat×Nat)) (hok:fM l [] ex l.length=true) (h:∀ Q',Q'=QE P G n l ex Q→RX P G n aC true [] l.toArray Q' (cJ P n l.toArray [] l fr st)):AW P G n aC (.region id l.toArray true) Q fr st:=
 AW.drawnE hm ex hok (RX.sound (aC:=aC) (res:=[]) (Q:=QE P G n l ex Q) (d:=true) (h _ rfl))
theorem QE.i {l:List Oper} {ex:List (Nat×Nat)} {x:AX} {fr:Fr} {st:St} (h:∀ p∈ex,XL l p.1 p.2=true∨aaB P G n l fr p.1) (k:Q x fr st):QE P G n l ex Q x fr st:=⟨h,k⟩
theorem exE_nil {l:List Oper} {fr:Fr}:∀ p∈([]:List (Nat×Nat)),XL l p.1 p.2=true∨aaB P G n l fr p.1:=by simp
theorem exE_l {l:List Oper} {fr:Fr} {i hi:Nat} {ex:List (Nat×Nat)} (h:XL l i hi=true) (k:∀ p∈ex,XL l p.1 p.2=true∨aaB P G n l fr p.1):∀ p∈(i,hi)::ex,XL l p.1 p.2=true∨aaB P G n l fr p.1:=by
 intro p hp
 rcases aby.1 hp with rfl|hp
 ·exact .inl h
 ·exact k p hp
theorem exE_c {l:List Oper} {fr:Fr} {i hi:Nat} {ex:List (Nat×Nat)} (h:aaB P G n l fr i) (k:∀ p∈ex,XL l p.1 p.2=true∨aaB P G n l fr p.1):∀ p∈(i,hi)::ex,XL l p.1 p.2=true∨aaB P G n l fr p.1:=by
 intro p hp
 rcases aby.1 hp with rfl|hp
 ·exact .inr h
 ·exact k p hp
end
end Go.Abs
end
section
set_option maxHeartbeats 8000000
set_option maxRecDepth 20000
namespace Go.Proofs.YteeohmopbcjifaaGreatDoor
open Tryz
open Go.Abs
attribute [local irreducible] AW OX cG GQ bK bO bz aY aa
variable {G:World→Nat→Prop}
theorem shl_0 (n:Nat) (h:n<18446744073709551616):shlI .u64 (n:Int) 0=(n:Int):=by
 show IntKind.u64.wrap ((n:Int)*1)=_
 rw [Int.mul_one];exact wrapU64 h
theorem or_0 (n:Nat) (h:n<18446744073709551616):aaG .or .u64 0 (n:Int)=(n:Int):=by
 show IntKind.u64.wrap ((BitVec.ofInt 64 ((0:Nat):Int)|||BitVec.ofInt 64 (n:Int)).toNat:Int)=_
 rw [BitVec.toNat_or,bvN (by omega),bvN h,Nat.zero_or]
 exact wrapU64 h
theorem c_TakeU1 (b:cx) (hb:0<b.length) (hl:b.length≤1048576) (hx:(b.getD 0 default).toNat<128):b8 G 45 [vby b] (.cF [u64 (b.getD 0 default).toNat,ai 1,ai 0]):=by
 intro st
 generalize hxe:b.getD 0 default=x at hx
 have e1:((x.toNat:Nat):Int).tmod 128=(x.toNat:Int):=by rw [Int.tmod_eq_emod_of_nonneg (by omega)];omega
 have e2:IntKind.u8.wrap (x.toNat:Int)=(x.toNat:Int):=Go.IntWalk.u8_in _ ⟨by omega,by omega⟩
 have e3:IntKind.u64.wrap (x.toNat:Int)=(x.toNat:Int):=wrapU64 (by omega)
 have e4:=shl_0 x.toNat (by omega)
 have e5:=or_0 x.toNat (by omega)
 refine aa.start func45 rfl ntmps45 (by simp) fun _ ag=>?_
 simp (disch:=omega) only [go_sem,seval,cX ag];all_goals (try subst ag)
 refine AW.zU (fun _:Unit=>[(5,.d (.int .u64 0)),(8,vby b),(9,ai ↑b.length),(10,ai 0)]) (fun _=>[]) (fun _=>[]) (fun _=>True) (fun _=>0) () ⟨by simp,by simp (disch:=omega) only [go_sem,seval]⟩ trivial ?_
 intro _ _
 refine Wk.go fun _ ag=>?_;simp (disch:=omega) only [go_sem,seval,cX ag,e1,e2,e3,e4,e5,hxe];(repeat' first|apply cq.l|apply bg.i|refine cE.i fun hc=>?_|refine aQ.i ⟨?_,rfl⟩)<;>try subst ag
 all_goals rfl
theorem c_TakeI1 (b:cx) (hb:0<b.length) (hl:b.length≤1048576) (n:Int) (hx:(b.getD 0 default).toNat=0∧n=0∨(b.getD 0 default).toNat=2∧n=1):b8 G 69 [vby b] (.cF [ai n,ai 1,ai 0]):=by
 intro st
 have h:=c_TakeU1 (G:=G) b hb hl (by omega)
 rcases hx with ⟨hx,rfl⟩|⟨hx,rfl⟩
 ·rw [hx] at h
  refine aa.start func69 rfl ntmps69 (by simp) fun _ ag=>?_
  simp (disch:=omega) only [go_sem,seval,cX ag,bC (h _)];(repeat' first|apply cq.l|refine aQ.i ⟨?_,rfl⟩)<;>try subst ag
  exact congrArg (fun z=>Out.ret (V.cF [ai z,ai 1,ai 0])) (by decide)
 ·rw [hx] at h
  refine aa.start func69 rfl ntmps69 (by simp) fun _ ag=>?_
  simp (disch:=omega) only [go_sem,seval,cX ag,bC (h _)];(repeat' first|apply cq.l|refine aQ.i ⟨?_,rfl⟩)<;>try subst ag
  exact congrArg (fun z=>Out.ret (V.cF [ai z,ai 1,ai 0])) (by decide)
theorem c_TakeS1 (b:cx) (hb:0<b.length) (hl:b.length≤1048576) (hx:(b.getD 0 default).toNat<128) (s r:cx) (hs:s.length=(b.getD 0 default).toNat) (hbs:b.drop 1=s++r):b8 G 70 [vby b] (.cF [vs s,ai ↑(s.length+1),ai 0]):=by
 intro st
 have h:=c_TakeU1 (G:=G) b hb hl hx
 have hbl:b.length=s.length+r.length+1:=by have:=congrArg List.length hbs;simp only [aa6,aaQ] at this;omega
 have e1:IntKind.u64.wrap (↑b.length - 1)=((s.length+r.length:Nat):Int):=by
  rw [show (b.length:Int) - 1=((s.length+r.length:Nat):Int) by omega];exact wrapU64 (by omega)
 have e2:(b.take (1+s.length)).drop 1=s:=by rw [List.drop_take,hbs,Nat.add_sub_cancel_left,List.take_left]
 rw [←hs] at h
 have e3:IntKind.i64.wrap (s.length:Int)=(s.length:Int):=Go.IntWalk.i64_in _ ⟨by omega,by omega⟩
 refine aa.start func70 rfl ntmps70 (by simp) fun _ ag=>?_
 simp (disch:=omega) only [go_sem,seval,cX ag,bC (h _),e1,e3];(repeat' first|apply cq.l|refine cE.i fun hc=>?_|refine aQ.i ⟨?_,rfl⟩)<;>try subst ag
 rw [show (1+(s.length:Int)).toNat=1+s.length by omega,e2,show 1+(s.length:Int)=((s.length+1:Nat):Int) by omega]
def smF:tD→Bool
 | .mk k n s l=>decide (k=0∧(n=0∨n=1)∧s=[]∧l=[]∨k=1∧n=0∧s.length<128∧l=[]∨k=2∧n=0∧s=[]∧l.length<128)&&smL l
where smL:List tD→Bool
 |[]=>true
 |f::r=>smF f&&smL r
def bodyF (f:tD):cx:=if f.kind=0 then putN (zig f.int) else if f.kind=1 then putN f.str.length++f.str else if f.kind=2 then PC f.list else []
theorem wr_body (f:tD):wrF f=UInt8.ofNat f.kind.toNat::bodyF f:=by
 cases f with|mk k n s l=>rfl
theorem sm_at:∀ {l:List tD} {i:Nat},smF.smL l=true→i<l.length→smF (l.getD i default)=true
 |f::r,0,h,_=>by simp only [smF.smL,aaW] at h;exact h.1
 |f::r,i+1,h,hi=>by simp only [smF.smL,aaW] at h;exact sm_at (l:=r) h.2 (by simpa using hi)
theorem putN_1 {n:Nat} (h:n<128):putN n=[UInt8.ofNat n]:=by simp [putN,putU,h]
def RdOK (G:World→Nat→Prop) (n:Nat):Prop:=∀ (l:List tD) (d:Nat) (r:cx),ic.BL l≤n→l.length<128→smF.smL l=true→64*d+ic.BL l≤8192→(PC l++r).length≤1048576→b8 G 25 [vby (PC l++r),ai ↑d] (.cF [vFl l,ai ↑(PC l).length,ai 0])
theorem c_readOne (n:Nat) (ih:RdOK G n) (f:tD) (d:Nat) (r:cx) (hn:ic.BL f.list≤n) (hs:smF f=true) (hd:64*(d+1)+ic.BL f.list≤8192) (hb:(bodyF f++r).length≤1048576):b8 G 46 [vby (bodyF f++r),ai f.kind,ai ↑d] (.cF [vFld f,ai ↑(bodyF f).length,ai 0]):=by
 cases f with|mk k m s l=>?_
 simp only [smF,aaW,aaS] at hs
 obtain ⟨hs,hl⟩:=hs
 intro st
 rcases hs with ⟨rfl,h1,rfl,rfl⟩|⟨rfl,rfl,h1,rfl⟩|⟨rfl,rfl,rfl,h1⟩
 ·have e:bodyF (.mk 0 m [] [])=[UInt8.ofNat (zig m)]:=by
   rcases h1 with rfl|rfl<;>rfl
  rw [e] at hb ⊢
  have h:=c_TakeI1 (G:=G) ([UInt8.ofNat (zig m)]++r) (by simp) hb m (by rcases h1 with rfl|rfl<;>simp [zig])
  simp only [aa4,aa8,tD.kind] at h ⊢
  refine aa.start func46 rfl ntmps46 (by simp) fun _ ag=>?_
  simp (disch:=omega) only [go_sem,seval,cX ag,bC (h _)];(repeat' first|apply cq.l|refine aQ.i ⟨?_,rfl⟩)<;>try subst ag
  all_goals rfl
 ·have e:bodyF (.mk 1 0 s [])=UInt8.ofNat s.length::s:=by
   show putN s.length++s=_
   rw [putN_1 h1];rfl
  rw [e] at hb ⊢
  have h:=c_TakeS1 (G:=G) (UInt8.ofNat s.length::s++r) (by simp) hb (by simp;omega) s r (by simp;omega) rfl
  simp only [aa4,aa8,tD.kind] at h ⊢
  refine aa.start func46 rfl ntmps46 (by simp) fun _ ag=>?_
  simp (disch:=omega) only [go_sem,seval,cX ag,bC (h _)];(repeat' first|apply cq.l|refine aQ.i ⟨?_,rfl⟩)<;>try subst ag
  all_goals rfl
 ·have e:bodyF (.mk 2 0 [] l)=PC l:=rfl
  rw [e] at hb ⊢
  have h:=ih l (d+1) r hn h1 hl hd hb
  simp only [aa4,aa8,tD.kind] at h ⊢
  refine aa.start func46 rfl ntmps46 (by simp) fun _ ag=>?_
  simp (disch:=omega) only [go_sem,seval,cX ag,bC (h _)];(repeat' first|apply cq.l|refine aQ.i ⟨?_,rfl⟩)<;>try subst ag
  rw [vFld,tD.aP];rfl
theorem wr_at (l:List tD) (i:Nat) (h:i<l.length):wrF.wrL l=wrF.wrL (l.take i)++(UInt8.ofNat (l.getD i default).kind.toNat::(bodyF (l.getD i default)++wrF.wrL (l.drop (i+1)))):=by
 have e:l=l.take i++([l.getD i default]++l.drop (i+1)):=by
  conv=>lhs;rw [←abP i l,abb h]
  rw [getD_eq h];rfl
 conv=>lhs;rw [e]
 rw [wrL_app,wrL_app]
 simp only [wrF.wrL,wr_body,aa7,aa4]
theorem app_f1 (B:List aJ) (K:List (Nat×Nat×Nat)) (x:List tD) (f:tD) (hx:x.length≤1048576):
  jt (some 4) true true 48 4 56 [f.enc] (lz K.length (x.map tD.enc)) ⟨B,K++k9 48 4 (x.map tD.enc)⟩=some (lz K.length ((x++[f]).map tD.enc),⟨B,K++k9 48 4 ((x++[f]).map tD.enc)⟩):=by
 rw [CZ _ _ _ _ _ _ _ (by omega) (by simp) (by simp;omega) (by simp;omega),abm];rfl
theorem fld_one (f:tD):f.enc.all D.one=true:=by rw [tD.aP];rfl
theorem c_read0 (n:Nat):RdOK G n:=by
 induction n using Nat.strongRecOn with
 |ind n ih=>
 intro l d r hn hl hs hd hb st
 have e:PC l++r=UInt8.ofNat l.length::(wrF.wrL l++r):=by rw [PC,putN_1 hl];simp
 have hU:=c_TakeU1 (G:=G) (PC l++r) (by rw [e];simp) hb (by rw [e];simp;omega)
 have eU:((PC l++r).getD 0 default).toNat=l.length:=by rw [e];simp;omega
 rw [eU] at hU
 have hWl:(PC l).length=1+(wrF.wrL l).length:=by rw [PC,putN_1 hl];simp;omega
 rw [aaQ] at hb
 generalize hW:PC l++r=W at*
 have hWn:W.length=1+(wrF.wrL l).length+r.length:=by rw [e];simp;omega
 refine aa.start func25 rfl ntmps25 (by simp) fun _ ag=>?_
 simp (disch:=omega) only [go_sem,seval,cX ag,bC (hU _)];(repeat' apply cq.l)<;>try subst ag
 refine AW.zU (fun i:Nat=>[(0,vby W),(1,ai ↑d),(8,ai ↑(1+(wrF.wrL (l.take i)).length)),(10,lz st.toks.length ((l.take i).map tD.enc)),(23,u64 l.length),(24,u64 i)]) (fun _=>[]) (fun i=>k9 48 4 ((l.take i).map tD.enc)) (fun i=>i≤l.length) (fun i=>l.length - i) 0 ⟨by simp [k9],by simp (disch:=omega) only [go_sem,seval,List.take_zero,aba,lz,wrF.wrL,aaV];rfl⟩ (by simp) ?_
 intro i hi
 by_cases hil:i<l.length
 ·have hat:=wr_at l i hil
  have hsi:=sm_at hs hil
  have hfb:=fBulkL_mem (aB hil)
  have hfe:=fBulk_eq (l.getD i default)
  have hlen:=congrArg List.length hat
  simp only [aaQ,aaM] at hlen
  have hs1:l.take (i+1)=l.take i++[l.getD i default]:=aaq hil
  have hs2:(wrF.wrL (l.take (i+1))).length=(wrF.wrL (l.take i)).length+((bodyF (l.getD i default)).length+1):=by
   rw [hs1,wrL_app];simp only [wrF.wrL,wr_body,aa7,aaQ,aaM]
  have hk:(l.getD i default).kind=0∨(l.getD i default).kind=1∨(l.getD i default).kind=2:=by
   generalize l.getD i default=f at hsi
   cases f with|mk k m s l=>?_
   simp only [smF,aaW,aaS] at hsi
   simp only [tD.kind];omega
  have ho:=c_readOne (G:=G) (ic.BL (l.getD i default).list) (ih _ (by omega)) (l.getD i default) d (wrF.wrL (l.drop (i+1))++r) (aaP _) hsi (by omega) (by simp only [aaQ];omega)
  generalize l.getD i default=f at*
  have hp:W.drop (1+(wrF.wrL (l.take i)).length)=UInt8.ofNat f.kind.toNat::(bodyF f++(wrF.wrL (l.drop (i+1))++r)):=by
   rw [e,hat,Nat.add_comm 1,List.drop_succ_cons,aaX,List.drop_left];simp
  generalize hpp:1+(wrF.wrL (l.take i)).length=p at*
  have hp1:W.drop (p+1)=bodyF f++(wrF.wrL (l.drop (i+1))++r):=by rw [←ab7,hp];rfl
  have hpl:p<W.length:=by have:=congrArg List.length hp;simp only [aa6,aaM] at this;omega
  have hp0:((W.getD p default).toNat:Int)=f.kind:=by
   have:W.getD p default=UInt8.ofNat f.kind.toNat:=by
    have:=congrArg (fun x=>x.getD 0 default) hp
    simpa [aaK] using this
   rw [this];rcases hk with h|h|h<;>rw [h]<;>rfl
  refine AW.cutN 2 rfl fun K hK _ ag=>?_
  simp (disch:=omega) only [go_sem,seval,cX ag];(repeat' first|apply cq.l|refine cE.i fun hc=>?_)<;>try subst ag
  refine Pr.i (hK _ _ ?_)
  refine AW.aal fun K2 hK2=>?_
  refine AW.block ?_
  refine AW.cutN 1 rfl fun K hK _ ag=>?_
  simp (disch:=omega) only [go_sem,seval,cX ag,hp0];(repeat' first|apply cq.l|refine cE.i fun hc=>?_)<;>try subst ag
  refine Pr.i (hK _ _ ?_)
  have hkw:IntKind.i64.wrap f.kind=f.kind:=Go.IntWalk.i64_in _ ⟨by omega,by omega⟩
  refine AW.aal fun K3 hK3=>?_
  refine AW.regE (P:=prog) mx [(7,16),(10,16)] (by kernel_rfl) fun _ ag=>?_
  simp (disch:=omega) only [go_sem,seval,cX ag,hp0,hp1,hkw,bC (ho _)];(repeat' apply cq.l)<;>try subst ag
  refine qc.i (QE.i (exE_l (by rfl) (exE_c (aaB.i ho (by rfl) call46 (by rfl) (by rfl) (by simp (disch:=omega) only [go_sem,seval,hp0,hp1,hkw];try exact rfl) (by simp (disch:=omega) only [go_sem,seval];try exact rfl)) exE_nil)) ?_)
  refine KT (hK3 _ _ ?_)
  have hll:(l.take i).length≤1048576:=by rw [aaN];omega
  refine Wk.go fun _ ag=>?_;simp (disch:=omega) only [go_sem,seval,cX ag,app_f1,hll,fld_one];(repeat' apply cq.l)<;>try subst ag
  refine Pr.i (hK2 _ _ ?_)
  refine Wk.go fun _ ag=>?_;simp (disch:=omega) only [go_sem,seval,cX ag];(repeat' apply cq.l)<;>try subst ag
  have hs3:1+(wrF.wrL (l.take i++[f])).length=p+((bodyF f).length+1):=by rw [←hs1];omega
  have hwi:IntKind.u64.wrap ((i+1:Nat):Int)=((i+1:Nat):Int):=wrapU64 (by omega)
  refine Pr.i ⟨i+1,⟨by simp (disch:=omega) only [go_sem,seval,hs1,hs3,hwi]<;>omega,?_,?_⟩⟩
  all_goals omega
 ·obtain rfl:i=l.length:=by omega
  rw [aaY]
  refine Wk.go fun _ ag=>?_;simp (disch:=omega) only [go_sem,seval,cX ag];(repeat' first|apply cq.l|refine cE.i fun hc=>?_|refine aQ.i ⟨?_,rfl⟩)<;>try subst ag
  rw [hWl]
theorem c_Fields (l:List tD) (hl:l.length<128) (hs:smF.smL l=true) (hd:64+ic.BL l≤8192) (hb:(PC l).length≤1048576):b8 G 16 [vby (PC l)] (.cF [vFl l,ai 0]):=by
 intro st
 have h:b8 G 25 [vby (PC l++[]),ai 1] (.cF [vFl l,ai ↑(PC l).length,ai 0]):=c_read0 (G:=G) _ l 1 [] (aaP _) hl hs hd (by simpa using hb)
 rw [aa7] at h
 refine aa.start func16 rfl ntmps16 (by simp) fun _ ag=>?_
 simp (disch:=omega) only [go_sem,seval,cX ag,bC (h _)];(repeat' first|apply cq.l|refine cE.i fun hc=>?_|refine aQ.i ⟨?_,rfl⟩)<;>try subst ag
 all_goals rfl
abbrev cB (q:Nat) (fs:List tD):aJ:= .cells [.own q (fs.map tD.enc),vb false,vb false]
abbrev cT (fs:List tD):Nat×Nat×Nat:=(48,4,fs.length)
def cS (A:List aJ) (T:List (Nat×Nat×Nat)) (fs:List tD):St:=⟨A++[cB T.length fs],T++[cT fs]⟩
def pt (A:List aJ):V:= .ptr A.length 0
theorem c_int (A:List aJ) (T:List (Nat×Nat×Nat)) (fs:List tD) (hl:fs.length≤2000000) {cs:List D} {off:Nat} {n:Int} (hc:cs[off]?=some (int n)):
  aa prog G 32 [pt A,.ep cs off] (cS A T fs) (fun o s=>o= .ret (.cF [])∧s=cS A T (fs++[Ta n])):=by
 unfold cS pt
 refine aa.Co func32 rfl ntmps32 (by simp) fun _ ag=>?_
 simp (disch:=first|omega|exact ⟨by kernel_rfl⟩|(simp only [go_sem,aaN];try omega)) only [go_sem,seval,cX ag,wr,hc];all_goals (try subst ag)
 refine AW.regH0 (P:=prog) (i:=T.length) (b:=A.length) (sz:=4) (by_:=56) (off:=0) (es:=fs.map tD.enc) (zr:=[int 0,int 0,.str [],.sl []]) (xr:=(Ta n).enc) (cs:=[.own T.length (fs.map tD.enc),vb false,vb false])
  (rB:=⟨A++[cB T.length (fs++[Ta n])],T++[cT (fs++[Ta n])]⟩) mx 10 [10,12,15] (by kernel_rfl) (by rfl) (by rfl) (by kernel_rfl) (by rfl) (by decide) (by simp only [go_sem,seval,hc];try exact rfl) ⟨?_,?_,?_,?_,?_⟩ ⟨by simp only [go_sem,seval],by kernel_rfl,by kernel_rfl,by simp only [go_sem,seval]⟩ ⟨rfl,rows_F1 _,rowsLen_Fld _⟩ (by simp) ?_ (by simp) (by simp) ?_ ?_
 all_goals first|(simp only [go_sem,seval,aa9];done)|skip
 ·simp only [go_sem,seval,Ta,aaw,tD.aP]
  rfl
 ·have hm:maxLen=9223372036854775807:=by decide
  simp only [aa9,ff,hm];omega
 ·simp only [go_sem,seval,dY,splice]
  simp
 ·refine Tu.o (Tv (Tt (B:=A) (L:=[]) (K:=T++[cT fs]) (T:=T++[cT (fs++[Ta n])]) (cB T.length (fs++[Ta n])) rfl ⟨⟨?_,?_,?_,?_⟩,rfl,rfl,rfl⟩ ⟨rfl,rfl⟩))
  all_goals (simp only [go_sem,seval]<;>simp)
theorem c_str (A:List aJ) (T:List (Nat×Nat×Nat)) (fs:List tD) (hl:fs.length≤2000000) {cs:List D} {off:Nat} {x:cx} (hc:cs[off]?=some (.str x)):
  aa prog G 31 [pt A,.ep cs off] (cS A T fs) (fun o s=>o= .ret (.cF [])∧s=cS A T (fs++[aaw x])):=by
 unfold cS pt
 refine aa.Co func31 rfl ntmps31 (by simp) fun _ ag=>?_
 simp (disch:=first|omega|exact ⟨by kernel_rfl⟩|(simp only [go_sem,aaN];try omega)) only [go_sem,seval,cX ag,wr,hc];all_goals (try subst ag)
 refine AW.regH0 (P:=prog) (i:=T.length) (b:=A.length) (sz:=4) (by_:=56) (off:=0) (es:=fs.map tD.enc) (zr:=[int 0,int 0,.str [],.sl []]) (xr:=(aaw x).enc) (cs:=[.own T.length (fs.map tD.enc),vb false,vb false])
  (rB:=⟨A++[cB T.length (fs++[aaw x])],T++[cT (fs++[aaw x])]⟩) mx 10 [10,12,15] (by kernel_rfl) (by rfl) (by rfl) (by kernel_rfl) (by rfl) (by decide) (by simp only [go_sem,seval,hc];try exact rfl) ⟨?_,?_,?_,?_,?_⟩ ⟨by simp only [go_sem,seval],by kernel_rfl,by kernel_rfl,by simp only [go_sem,seval]⟩ ⟨rfl,rows_F1 _,rowsLen_Fld _⟩ (by simp) ?_ (by simp) (by simp) ?_ ?_
 all_goals first|(simp only [go_sem,seval,aa9];done)|skip
 ·simp only [go_sem,seval,Ta,aaw,tD.aP]
  rfl
 ·have hm:maxLen=9223372036854775807:=by decide
  simp only [aa9,ff,hm];omega
 ·simp only [go_sem,seval,dY,splice]
  simp
 ·refine Tu.o (Tv (Tt (B:=A) (L:=[]) (K:=T++[cT fs]) (T:=T++[cT (fs++[aaw x])]) (cB T.length (fs++[aaw x])) rfl ⟨⟨?_,?_,?_,?_⟩,rfl,rfl,rfl⟩ ⟨rfl,rfl⟩))
  all_goals (simp only [go_sem,seval]<;>simp)
def nA (A:List aJ) (T:List (Nat×Nat×Nat)) (fs:List tD):List aJ:=A++[cB T.length fs]
def nT (T:List (Nat×Nat×Nat)) (fs:List tD):List (Nat×Nat×Nat):=T++[cT fs]
theorem aag (A:List aJ) (T:List (Nat×Nat×Nat)) (fs:List tD):
  aa prog G 30 [pt A] (cS A T fs) (fun o s=>o= .ret (pt (nA A T fs))∧s=cS (nA A T fs) (nT T fs) []):=by
 unfold cS pt nA nT
 have h:aa prog G 30 [.ptr A.length 0] ⟨A++[cB T.length fs],T++[cT fs]⟩ (fun o s=>o= .ret (.ptr (A++[cB T.length fs]).length 0)∧s=⟨(A++[cB T.length fs])++[.cells [.bh,vb false,vb false]],T++[cT fs]⟩):=by
  refine aa.startN func30 rfl ntmps30 (by simp) fun _ ag=>?_
  simp (disch:=first|omega|exact ⟨by kernel_rfl⟩|(simp only [go_sem,aaN];try omega)) only [go_sem,seval,cX ag,wr];(repeat' apply cq.l)<;>try subst ag
  refine retN (l:=[.ptr (A.length+1) 0]) (v:= .ptr (A++[cB T.length fs]).length 0) ⟨by simp,by simp⟩ (fun b B hB=>?_) ⟨rfl,by simp;rfl,by simp [V.within]⟩ ⟨rfl,by simp⟩
  by_cases h1:b< (A++[cB T.length fs]).length
  ·refine .inl ?_
   rw [←aaU (l₂:=[aJ.cells [V.bh,vb false,vb false]]) h1]
   simpa using hB
  ·refine .inr ?_
   have h2:b<A.length+2:=by simpa using (aaL.1 hB).1
   obtain rfl:b=A.length+1:=by simp at h1;omega
   simp at hB
   subst hB
   rfl
 exact aa.token (A.length+1) 0 48 4 (cs:=[.bh,vb false,vb false]) h (by simp) rfl (by decide) (by simp)
theorem aas (A:List aJ) (T:List (Nat×Nat×Nat)) (fs gs:List tD) (hl:fs.length≤2000000):
  aa prog G 41 [pt A,pt (nA A T fs)] (cS (nA A T fs) (nT T fs) gs) (fun o s=>o= .ret (.cF [])∧s=cS (nA A T (fs++[l5 gs])) (nT T (fs++[l5 gs])) gs):=by
 unfold cS pt nA nT
 have h:aa prog G 41 [.ptr A.length 0,.ptr (A.length+1) 0] ⟨A++cB T.length fs::[cB (T.length+1) gs],T++[cT fs,cT gs]⟩ (fun o s=>o= .ret (.cF [])∧s=⟨A++cB T.length (fs++[l5 gs])::[cB (T.length+1) gs],T++[cT (fs++[l5 gs]),cT gs]⟩):=by
  refine aa.Co func41 rfl ntmps41 (by simp) fun _ ag=>?_
  simp (disch:=first|omega|exact ⟨by kernel_rfl⟩|(simp only [go_sem,aaN];try omega)) only [go_sem,seval,cX ag,wr];all_goals (try subst ag)
  refine AW.regH0 (P:=prog) (i:=T.length) (b:=A.length) (sz:=4) (by_:=56) (off:=0) (es:=fs.map tD.enc) (zr:=[int 0,int 0,.str [],.sl []]) (xr:=(l5 gs).enc) (cs:=[.own T.length (fs.map tD.enc),vb false,vb false])
   (rB:=⟨A++cB T.length (fs++[l5 gs])::[cB (T.length+1) gs],T++[cT (fs++[l5 gs]),cT gs]⟩) mx 11 [11,13,16] (by kernel_rfl) (by rfl) (by rfl) (by kernel_rfl) (by rfl) (by decide) (by simp only [go_sem,seval];try exact rfl) ⟨?_,?_,?_,?_,?_⟩ ⟨by simp only [go_sem,seval],by kernel_rfl,by kernel_rfl,by simp only [go_sem,seval]⟩ ⟨rfl,rows_F1 _,rowsLen_Fld _⟩ (by simp) ?_ (by simp) (by simp) ?_ ?_
  all_goals first|(simp only [go_sem,seval,aa9];done)|skip
  ·simp only [go_sem,seval,l5,tD.aP]
   rfl
  ·have hm:maxLen=9223372036854775807:=by decide
   simp only [aa9,ff,hm];omega
  ·simp only [go_sem,seval,dY,splice]
   simp
  ·refine Tu.o (Tv (Tt (B:=A) (L:=[cB (T.length+1) gs]) (K:=T++[cT fs,cT gs]) (T:=T++[cT (fs++[l5 gs]),cT gs]) (cB T.length (fs++[l5 gs])) rfl ⟨⟨?_,?_,?_,?_⟩,rfl,rfl,rfl⟩ ⟨rfl,rfl⟩))
   all_goals (simp only [go_sem,seval]<;>simp)
 simpa using h
theorem cS_b0 (A:List aJ) (T:List (Nat×Nat×Nat)) (fs gs:List tD):(cS (nA A T fs) (nT T fs) gs).aj[A.length]?=some (cB T.length fs):=by simp [cS,nA]
theorem pt_eq (A:List aJ):pt A= .ptr A.length 0:=(rfl)
theorem pt_share (A:List aJ):(pt A).share=pt A:=(rfl)
attribute [go_sem] cS_b0 pt_share
theorem endS {P:Program} {fn:Func} {R:Out→St→Prop} {fr:Fr} {A:List aJ} {T:List (Nat×Nat×Nat)} {fs fs' gs:List tD} (hr:fn.results= #[]) (h:R (.ret (.cF [])) (cS A T fs')):
  @qc ⟨nM P fn (cS A T fs) R⟩ .normal fr (cS (nA A T fs') (nT T fs') gs):=by
 unfold cS nA nT at*
 refine Tv (Tt (B:=A) (L:=[]) (K:=T++[cT fs]) (T:=T++[cT fs']) (v:= .cF []) (l:=[]) (cB T.length fs') rfl ⟨⟨?_,?_,?_,?_⟩,by rw [hr];rfl,rfl,rfl⟩ h)
 all_goals (simp only [go_sem,seval]<;>simp)
theorem nxS {σ:Nat→List (Nat×V)} {g:Nat→List tD} {p:Nat→Prop} {μ:Nat→Nat} {x x':Nat} {fr:Fr} {A:List aJ} {T:List (Nat×Nat×Nat)} {fs gs:List tD} (hg:g x'=gs) (h1:okF fr (σ x')) (h2:okW (A.length+2) (T.length+2) (σ x')=true) (hp:p x') (hl:μ x'<μ x):
  Zf (cS A T fs) σ (fun i=>[cB (T.length+1) (g i)]) (fun i=>[cT (g i)]) p μ x fr (cS (nA A T fs) (nT T fs) gs) x':=by
 subst hg
 refine ⟨⟨h1,?_,?_,?_,?_⟩,hp,hl⟩
 ·simp only [cS,nA,nT];rw [aa0 (by simp)];first|done|simp
 ·simp only [cS,nA,nT];rw [aa0 (by simp)];first|done|simp
 ·simpa [cS] using h2
 ·simp [cS,aJ.within,V.within.all,V.within]
theorem endS0 {P:Program} {fn:Func} {R:Out→St→Prop} {fr:Fr} {A:List aJ} {T:List (Nat×Nat×Nat)} {fs fs':List tD} (hr:fn.results= #[]) (h:R (.ret (.cF [])) (cS A T fs')):
  @qc ⟨nM P fn (cS A T fs) R⟩ .normal fr (cS A T fs'):=by
 unfold cS at*
 refine Tv (Tt (B:=A) (L:=[]) (K:=T++[cT fs]) (T:=T++[cT fs']) (v:= .cF []) (l:=[]) (cB T.length fs') rfl ⟨⟨?_,?_,?_,?_⟩,by rw [hr];rfl,rfl,rfl⟩ h)
 all_goals (simp only [go_sem,seval]<;>simp)
theorem endS1 {P:Program} {fn:Func} {R:Out→St→Prop} {fr:Fr} {A:List aJ} {T:List (Nat×Nat×Nat)} {fs fs':List tD} {Z:aJ} (hr:fn.results= #[]) (h:R (.ret (.cF [])) ⟨A++[cB T.length fs'],T++[cT fs']⟩):
  @qc ⟨nM P fn ⟨A++[cB T.length fs],T++[cT fs]⟩ R⟩ .normal fr ⟨A++[cB T.length fs',Z],T++[cT fs']⟩:=by
 refine Tv (Tt (B:=A) (L:=[]) (K:=T++[cT fs]) (T:=T++[cT fs']) (v:= .cF []) (l:=[]) (cB T.length fs') rfl ⟨⟨?_,?_,?_,?_⟩,by rw [hr];rfl,rfl,rfl⟩ h)
 all_goals (simp only [acd,go_sem,seval]<;>simp)
theorem c_int2 (A:List aJ) (T:List (Nat×Nat×Nat)) (fs:List tD) (hl:fs.length≤2000000) (n:Int):
  aa prog G 32 [.ptr A.length 0,.ptr (A.length+1) 0] ⟨A++[cB T.length fs,.cells [ai n]],T++[cT fs]⟩ (fun o s=>o= .ret (.cF [])∧s=⟨A++[cB T.length (fs++[Ta n]),.cells [ai n]],T++[cT (fs++[Ta n])]⟩):=by
 refine aa.Co func32 rfl ntmps32 (by simp) fun _ ag=>?_
 simp (disch:=first|omega|exact ⟨by kernel_rfl⟩|(simp only [go_sem,aaN];try omega)) only [go_sem,seval,cX ag,wr];all_goals (try subst ag)
 refine AW.regH0 (P:=prog) (i:=T.length) (b:=A.length) (sz:=4) (by_:=56) (off:=0) (es:=fs.map tD.enc) (zr:=[int 0,int 0,.str [],.sl []]) (xr:=(Ta n).enc) (cs:=[.own T.length (fs.map tD.enc),vb false,vb false])
  (rB:=⟨A++[cB T.length (fs++[Ta n]),.cells [ai n]],T++[cT (fs++[Ta n])]⟩) mx 10 [10,12,15] (by kernel_rfl) (by rfl) (by rfl) (by kernel_rfl) (by rfl) (by decide) (by simp only [go_sem,seval];try exact rfl) ⟨?_,?_,?_,?_,?_⟩ ⟨by simp only [go_sem,seval],by kernel_rfl,by kernel_rfl,by simp only [go_sem,seval]⟩ ⟨rfl,rows_F1 _,rowsLen_Fld _⟩ (by simp) ?_ (by simp) (by simp) ?_ ?_
 all_goals first|(simp only [go_sem,seval,aa9];done)|skip
 ·simp only [go_sem,seval,Ta,tD.aP]
  rfl
 ·have hm:maxLen=9223372036854775807:=by decide
  simp only [aa9,ff,hm];omega
 ·simp only [go_sem,seval,dY,splice]
  simp
 ·refine Tu.o (Tv (Tt (B:=A) (L:=[.cells [ai n]]) (K:=T++[cT fs]) (T:=T++[cT (fs++[Ta n])]) (cB T.length (fs++[Ta n])) rfl ⟨⟨?_,?_,?_,?_⟩,rfl,rfl,rfl⟩ ⟨rfl,rfl⟩))
  all_goals (simp only [go_sem,seval]<;>simp)
theorem c_flag (A:List aJ) (T:List (Nat×Nat×Nat)) (fs:List tD) (hl:fs.length≤2000000) {cs:List D} {off:Nat} {b:Bool} (hc:cs[off]?=some (.bool b)):
  aa prog G 60 [pt A,.ep cs off] (cS A T fs) (fun o s=>o= .ret (.cF [])∧s=cS A T (fs++[fFlag b])):=by
 unfold cS pt
 have h:=fun n=>c_int2 (G:=G) A T fs hl n
 cases b
 all_goals
  refine aa.Co func60 rfl ntmps60 (by simp) fun _ ag=>?_
  simp (disch:=first|omega|exact ⟨by kernel_rfl⟩|(simp only [go_sem,aaN];try omega)) only [go_sem,seval,cX ag,wr,hc,Ck (h _)];(repeat' apply cq.l)<;>try subst ag
  exact endS1 rfl ⟨rfl,rfl⟩
theorem c_digest (A:List aJ) (T:List (Nat×Nat×Nat)) (fs:List tD) (hl:fs.length≤2000000) {cs:List D} {off:Nat} {n:Int} (hc:cs[off]?=some (.int .u64 n)):
  aa prog G 158 [pt A,.ep cs off] (cS A T fs) (fun o s=>o= .ret (.cF [])∧s=cS A T (fs++[fDig n])):=by
 unfold cS pt
 have h:=fun n=>c_int2 (G:=G) A T fs hl n
 refine aa.Co func158 rfl ntmps158 (by simp) fun _ ag=>?_
 simp (disch:=first|omega|exact ⟨by kernel_rfl⟩|(simp only [go_sem,aaN];try omega)) only [go_sem,seval,cX ag,wr,hc,Ck (h _)];(repeat' apply cq.l)<;>try subst ag
 exact endS1 rfl ⟨rfl,rfl⟩
end Go.Proofs.YteeohmopbcjifaaGreatDoor
end
section
namespace Go.Proofs.YteeohmopbcjifaaGreatDoor
open Tryz
def iI (n:Int):Prop:= -9223372036854775808≤n∧n≤9223372036854775807
def gKs (l:List cx):Prop:=l.length≤1048576∧∀ s∈l,s.length≤1048576
def gIs (l:List Int):Prop:=l.length≤1048576∧∀ n∈l,iI n
structure gVal (v:aX):Prop where
 fit:gU v
 int:lX v
structure gVr (x:Vr):Prop where
 name:x.name.length≤1048576
 value:gVal x.value
structure gStp (x:Stp):Prop where
 op:iI x.op
 name:x.name.length≤1048576
 text:x.text.length≤1048576
 n:iI x.n
structure gRty (x:Rty):Prop where
 max:iI x.max
 classes:gIs x.classes
 base:iI x.base
 cap:iI x.cap
structure gCsh (x:Csh):Prop where
 key:x.key.length≤1048576
 restore:gKs x.restore
 files:gKs x.files
structure gGsp (x:Gsp):Prop where
 approvals:iI x.approvals
 aaj:gKs x.aaj
 expiry:iI x.expiry
structure gJb (x:Jb):Prop where
 id:x.id.length≤1048576
 aae:gKs x.aae
 when:gE x.when
 vars:x.vars.length≤1048576∧∀ y∈x.vars,gVr y
 steps:x.steps.length≤1048576∧∀ y∈x.steps,gStp y
 labels:gKs x.labels
 group:x.group.length≤1048576
 policy:iI x.policy
 priority:iI x.priority
 cost:iI x.cost
 timeout:iI x.timeout
 retry:gRty x.retry
 aaF:gKs x.aaF
 uses:gKs x.uses
 aak:gKs x.aak
 caches:x.caches.length≤1048576∧∀ y∈x.caches,gCsh y
 secrets:gKs x.secrets
 environment:x.environment.length≤1048576
 gate:gGsp x.gate
 tests:gKs x.tests
 shard:iI x.shard
 shards:iI x.shards
structure gPln (x:Pln):Prop where
 name:x.name.length≤1048576
 jobs:x.jobs.length≤1048576∧∀ y∈x.jobs,gJb y
structure gOrg (x:Org):Prop where
 aar:x.aar.length≤1048576
 ref:x.ref.length≤1048576
structure gTmg (x:Tmg):Prop where
 name:x.name.length≤1048576
 time:iI x.time
structure gOtp (x:Otp):Prop where
 name:x.name.length≤1048576
 digest:0≤x.digest∧x.digest<18446744073709551616
 size:iI x.size
structure gTsr (x:Tsr):Prop where
 name:x.name.length≤1048576
 status:iI x.status
 time:iI x.time
structure gRsl (x:Rsl):Prop where
 status:iI x.status
 class_:iI x.class_
 aaF:x.aaF.length≤1048576∧∀ y∈x.aaF,gOtp y
 aak:x.aak.length≤1048576∧∀ y∈x.aak,gOtp y
 tests:x.tests.length≤1048576∧∀ y∈x.tests,gTsr y
 child:x.child.length≤1048576
structure gAtm (x:Atm):Prop where
 n:iI x.n
 token:iI x.token
 worker:x.worker.length≤1048576
 began:iI x.began
 ended:iI x.ended
 status:iI x.status
 class_:iI x.class_
structure gGte (x:Gte):Prop where
 spec:gGsp x.spec
 opened:iI x.opened
 yes:gKs x.yes
 state:iI x.state
structure gJst (x:Jst):Prop where
 id:x.id.length≤1048576
 phase:iI x.phase
 due:iI x.due
 attempts:x.attempts.length≤1048576∧∀ y∈x.attempts,gAtm y
 gate:gGte x.gate
 result:gRsl x.result
structure gRn (x:Rn):Prop where
 id:x.id.length≤1048576
 number:iI x.number
 origin:gOrg x.origin
 trust:iI x.trust
 created:iI x.created
 plan:gPln x.plan
 times:x.times.length≤1048576∧∀ y∈x.times,gTmg y
 cancel:iI x.cancel
 jobs:x.jobs.length≤1048576∧∀ y∈x.jobs,gJst y
