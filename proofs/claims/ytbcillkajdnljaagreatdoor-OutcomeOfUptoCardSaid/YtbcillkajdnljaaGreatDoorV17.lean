import Derived.Test.YtbcillkajdnljaaGreatDoorV16
import Derived.Lib.ConvBytes
import Derived.Shelf.Bits.Mul64
set_option linter.all false
section
set_option maxHeartbeats 8000000
set_option maxRecDepth 20000
namespace Go.Proofs.YtbcillkajdnljaaGreatDoor
open Tryz
open Go.Abs
attribute [local irreducible] AW OX GQ bK bO bz aY aA
variable {G:World→Nat→Prop}
def digN (n:Nat):Bool:=decide (48≤n)&&decide (n≤57)
def chN (i n:Nat):Bool:=(decide (97≤n)&&decide (n≤122)||digN n)||(decide (0<i)&& (decide (n=95)||decide (n=45)||decide (n=46)))
def evN (p:Nat→Nat→Bool):Nat→aF→Bool
 |_,[]=>true
 |i,b::r=>p i b.toNat&&evN p (i+1) r
def identF (s:aF):Bool:=decide (0<s.length)&&decide (s.length≤64)&&evN chN 0 s
def pI {b c:Bool} (h:b=c):Out.ret (V.d (D.bool b))=Out.ret (vb c):=by rw [h]
def i_digit (n:Nat):b8 G 55 [.d (.int .u8 ↑n)] (vb (digN n)):=by
 intro st;refine aA.start func55 rfl ntmps55 (by simp) fun _ ag=>?_;simp (disch:=first|exact ⟨by kernel_rfl⟩|omega) only [go_sem,seval,cX ag,wd];(repeat' first|apply cq.l|apply bg.i|refine cE.i fun hc=>?_|refine aQ.i ⟨?_,rfl⟩)<;>try subst ag
 all_goals
  refine pI ?_
  rw [abk]
  simp only [digN,aas,aau,aa3,true_iff,false_iff]
  omega
def i_ch (i n:Nat):b8 G 54 [ai ↑i,.d (.int .u8 ↑n)] (vb (chN i n)):=by
 intro st;have hd:=i_digit (G:=G) n;refine aA.start func54 rfl ntmps54 (by simp) fun _ ag=>?_;simp (disch:=first|exact ⟨by kernel_rfl⟩|omega) only [go_sem,seval,cX ag,wd,bC (hd _)];(repeat' first|apply cq.l|apply bg.i|refine cE.i fun hc=>?_|refine aQ.i ⟨?_,rfl⟩)<;>try subst ag
 all_goals
  refine pI ?_
  rw [abk]
  simp only [chN,digN,aas,aaU,Bool.and_eq_false_iff,aau,abz,aa3,true_iff,false_iff] at*
  omega
def evN_at (p:Nat→Nat→Bool) (s:aF) (i:Nat):evN p i (s.drop i)=if i<s.length then (p i (s.getD i default).toNat&&evN p (i+1) (s.drop (i+1))) else true:=by
 by_cases h:i<s.length
 ·rw [aaT h,if_pos h,getD_eq h,evN]
 ·rw [aa0 (by omega),if_neg h,evN]
def i_every (s:aF) (hs:s.length≤1099511627776):b8 G 53 [vBs s,.jE 54 []] (vb (evN chN 0 s)):=by
 intro st;refine aA.start func53 rfl ntmps53 (by simp) fun _ ag=>?_;simp only [go_sem,seval,cX ag];all_goals (try subst ag)
 refine AW.zU (fun i:Nat=>[(1,.jE 54 []),(7,vBs s),(8,ai ↑s.length),(9,ai ↑i)]) (fun _=>[]) (fun _=>[]) (fun i=>i≤s.length∧evN chN i (s.drop i)=evN chN 0 s) (fun i=>s.length - i) 0 (by simp only [go_sem,seval,aaC]<;>omega) (by simp) ?_;intro i ⟨hi,g⟩;rw [evN_at] at g;have hc:=i_ch (G:=G) i (s.getD i default).toNat;cases h1:chN i (s.getD i default).toNat<;>rw [h1] at hc g
 all_goals
  refine Wk.go fun _ ag=>?_;simp (disch:=omega) only [go_sem,seval,cX ag,bC (hc _)];(repeat' first|apply cq.l|apply bg.i|refine cE.i fun hc=>?_|refine aQ.i ⟨?_,rfl⟩)<;>try subst ag
  all_goals first|(refine pI ?_;grind)|skip
 refine cB.i ⟨i+1,⟨by simp (disch:=omega) only [go_sem,seval]<;>omega,?_,?_⟩⟩
 ·exact ⟨by omega,by grind⟩
 ·omega
def NameOK (G:World→Nat→Prop):Prop:=∀ s:aF,s.length≤1099511627776→b8 G 32 [vs s] (vb (identF s))
abbrev vSs (l:List aF):V:= .d (.sl (bt l))
def namesF (l:List aF):Bool:=decide (0<l.length)&&l.all identF
def i_names1 (hN:NameOK G) (i:Nat) (s:aF) (hs:s.length≤1099511627776):b8 G 262 [ai ↑i,vs s] (vb (identF s)):=by
 intro st;have h:=hN s hs;refine aA.start func262 rfl ntmps262 (by simp) fun _ ag=>?_;simp only [go_sem,seval,cX ag,bC (h _)];(repeat' first|apply cq.l|refine aQ.i ⟨?_,rfl⟩)<;>try subst ag
 all_goals rfl
def all_at (p:aF→Bool) (l:List aF) (i:Nat):(l.drop i).all p=if i<l.length then (p (l.getD i default)&& (l.drop (i+1)).all p) else true:=by
 by_cases h:i<l.length
 ·rw [aaT h,if_pos h,getD_eq h,List.all_cons]
 ·rw [aa0 (by omega),if_neg h,List.all_nil]
def i_everyN (hN:NameOK G) (l:List aF) (hl:l.length≤1099511627776) (hs:∀ s∈l,s.length≤1099511627776):b8 G 127 [vSs l,.jE 262 []] (vb (l.all identF)):=by
 intro st;refine aA.start func127 rfl ntmps127 (by simp) fun _ ag=>?_;simp only [go_sem,seval,cX ag];all_goals (try subst ag)
 refine AW.zU (fun i:Nat=>[(1,.jE 262 []),(7,vSs l),(8,ai ↑l.length),(9,ai ↑i)]) (fun _=>[]) (fun _=>[]) (fun i=>i≤l.length∧(l.drop i).all identF=l.all identF) (fun i=>l.length - i) 0 (by simp only [go_sem,seval]<;>omega) (by simp) ?_;intro i ⟨hi,g⟩;rw [all_at] at g;by_cases hil:i<l.length
 ·have hc:=i_names1 (G:=G) hN i (l.getD i default) (hs _ (aB hil));cases h1:identF (l.getD i default)<;>rw [h1] at hc g
  all_goals
   refine Wk.go fun _ ag=>?_;simp (disch:=omega) only [go_sem,seval,cX ag,bC (hc _)];(repeat' first|apply cq.l|refine cE.i fun hc=>?_|refine aQ.i ⟨?_,rfl⟩)<;>try subst ag
   all_goals first|(refine pI ?_;grind)|skip
  refine cB.i ⟨i+1,⟨by simp (disch:=omega) only [go_sem,seval]<;>omega,?_,?_⟩⟩
  ·exact ⟨by omega,by grind⟩
  ·omega
 ·refine Wk.go fun _ ag=>?_;simp (disch:=omega) only [go_sem,seval,cX ag];(repeat' first|apply cq.l|refine cE.i fun hc=>?_|refine aQ.i ⟨?_,rfl⟩)<;>try subst ag
  refine pI ?_;grind
def i_names (hN:NameOK G) (l:List aF) (hl:l.length≤1099511627776) (hs:∀ s∈l,s.length≤1099511627776):b8 G 188 [vSs l] (vb (namesF l)):=by
 intro st;have he:=i_everyN (G:=G) hN l hl hs;refine aA.start func188 rfl ntmps188 (by simp) fun _ ag=>?_;simp (disch:=first|exact ⟨by kernel_rfl⟩|omega) only [go_sem,seval,cX ag,wd,bC (he _)];(repeat' first|apply cq.l|apply bg.i|refine cE.i fun hc=>?_|refine aQ.i ⟨?_,rfl⟩)<;>try subst ag
 all_goals
  refine pI ?_
  rw [abk]
  simp only [namesF,aas,aau,aa3,false_iff]
  first|omega|grind
end Go.Proofs.YtbcillkajdnljaaGreatDoor
end
section
namespace Go.Abs
open Go.RowKit
section
variable {P:Program} {G:World→Nat→Prop} {n:NDs} {aC:St} {all:Array Oper} {fr:Fr} {st:St} {c:Ctx} {w:World}
def below_conv (w:World) (e:TypeId) (s:ByteArray):Below w.heap.size w (Lib.bytesWorld w e s):=by
 refine ⟨rfl,rfl,rfl,?_,fun k hk=>?_⟩
 ·simp [Lib.bytesWorld,World.freeze]
 ·have:(w.drew.alloc (.cells (Lib.bytesCells w e s) e)).heap[k]?=w.heap[k]?:=Below.heap_alloc w.drew _ k hk;rw [←this];show ((w.drew.alloc (.cells (Lib.bytesCells w e s) e)).heap.modify w.heap.size _)[k]?=_;rw [abv,if_neg (by omega)]
def bf.sealAtM {k m:Nat} {arr:Array Value} {e:TypeId} {mk:Nat×Nat} (h:bf c w st) (hH:∀ o,c.H k o=none) (hmu:k ∉ c.mu) (htk:∀ (id:Nat) (t:Tok),c.tok[id]?=some t→t.val.ownBlock≠some k) (hk:w.heap[k]?=some (.cells arr e mk)):
  bf (c.aaf k m arr) w st∧Ext c (c.aaf k m arr):=by
 have hext:Ext c (c.aaf k m arr):=by
  refine ⟨fun b o v hv=>?_,fun _ _ h=>h,fun _ t h=>⟨t,h,rfl,aat _,fun _=>rfl⟩,rfl,rfl⟩;have:b≠k:=by rintro rfl;rw [hH] at hv;cases hv
  simp [Ctx.aaf,this,hv]
 refine ⟨⟨h.cN,h.dH,h.cI,?_,?_,h.cu,?_,h.cK,?_,h.below,h.cw⟩,hext⟩
 ·intro i b o hi
  have:b≠k:=fun e=>hmu (e▸aaR hi)
  simp only [Ctx.aaf,this,false_and,if_false]
  exact h.mS i b o hi
 ·intro b k' B hk' hB
  obtain ⟨o,ho,hr⟩:=h.blk b k' B hk' hB
  exact ⟨o,ho,hr.mono hext⟩
 ·intro id t ht
  obtain ⟨h0,hd|⟨xs,ho,hg⟩⟩:=h.cz id t ht
  ·exact ⟨h0,.inl hd⟩
  refine ⟨h0,.inr ⟨xs,ho,fun g hgb=>?_⟩⟩
  obtain ⟨h1,h2,h3⟩:=hg g hgb
  have hne:g≠k:=fun e=>htk id t ht (by rw [hgb,e])
  exact ⟨fun o ho=>by simp only [Ctx.aaf,hne,false_and,if_false];exact h1 o ho,fun o ho=>by simp only [Ctx.aaf,hne,false_and,if_false];exact h2 o ho,h3⟩
 ·intro b o v hv
  by_cases hb:b=k∧o<m
  ·obtain ⟨rfl,hlt⟩:=hb
   simp only [Ctx.aaf,hlt,and_self,if_true] at hv
   simp [World.cell?,hk,hv]
  ·simp only [Ctx.aaf,hb,if_false] at hv
   exact h.cy b o v hv
def OPW.bytes {d:Option Tmp} {t1 t2 ty e:TypeId} {x:Operand} {pos:String} {after:Array Edge} {gd:Option (Nat×Bool)} {K:Fr→St→Prop} {l:List UInt8}
  (hg:goes all ⟨d,.convert t1 t2 x,ty,pos,after,gd⟩ fr=some true) (hd:fC n d=true) (h1:P.underlying t1=some .string) (h2:P.underlying t2=some (.slice e)) (h3:P.underlying e=some (.int .u8)) (hx:ev fr x= .d (.str l))
  (h:K (eC fr d (.d (.sl (l.map fun b=>[D.int .u8 (b.toNat:Int)])))) st):OPW P G n aC all ⟨d,.convert t1 t2 x,ty,pos,after,gd⟩ K fr st:=by
 refine OPW.of hg hd fun c0 c w a h0 he hc hf=>?_
 have hr:=bJ hf x
 rw [hx] at hr
 obtain ⟨s,hs,hsl⟩:∃ s:ByteArray,a.eval x= .string s∧s.data.toList=l:=by
  generalize a.eval x=q at hr;cases hr with
  |d _ _ hr=>cases hr with|str s _ hs=>exact ⟨s,rfl,hs⟩
 have hc1:bf c (Lib.bytesWorld w e s) st:=hc.later (below_conv w e s)
 obtain ⟨hc2,hx2⟩:=hc1.sealAtM (k:=w.heap.size) (m:=s.size) (arr:=Lib.bytesCells w e s) (hc.fresh (aat _)) (fun hm=>by
   obtain ⟨i,hi⟩:=List.getElem?_of_mem hm;have:=hc.mult hi;omega) (fun id t ht hgb=>by
   obtain ⟨_,hdd|⟨xs,ho,_⟩⟩:=hc.cz id t ht
   ·rw [hdd.2] at hgb;cases hgb
   ·have:=(ho.lt _ hgb).2;omega) (Lib.bytesWorld_at_new w e s)
 refine ⟨.slice (some ⟨w.heap.size,0,none⟩) s.size (grownCap w s.size 0 e),_,_,fr,_,st,?_,he.trans hx2,hc2,hf.mono hx2,.d _ _ ?_,h⟩
 ·simp only [execOp,hs]
  simp [Lib.run_convert_string_bytes w t1 t2 e s h1 h2 h3]
 ·have hsz:s.size=l.length:=by rw [←hsl];simp
  refine .sl w.heap.size 0 s.size _ 1 (fun i _=> .int .u8 ((l.getD i 0).toNat:Int)) _ (by simp [hsz]) ?_ (by simp) (fun i j hi hj=>?_) (fun i j hi hj=>?_)
  ·exact grownCap_ge w s.size 0 e
  ·obtain rfl:j=0:=by omega
   have hil:i<l.length:=by omega
   simp only [Ctx.aaf,Nat.mul_one,abE,aaL,true_and,hi,if_true,Lib.bytesCells]
   have e1:(s.data.map fun b=>Value.int .u8 (b.toNat:Int))=(l.map fun b=>Value.int .u8 (b.toNat:Int)).toArray:=by rw [←hsl,←abL,Array.toArray_toList]
   rw [e1,Array.getElem?_append_left (by simpa using hil)]
   simp [hil,aam]
  ·obtain rfl:j=0:=by omega
   have hil:i<l.length:=by omega
   have e2:((l.map fun b=>[D.int .u8 (b.toNat:Int)]).getD i []).getD 0 .eX=D.int .u8 ((l.getD i 0).toNat:Int):=by
    simp [aam,hil]
   rw [e2]
   exact .int _ _
variable {Q:AX→Fr→St→Prop}
theorem OW.runR {res:List Nat}:∀ {l:List Oper} {r:List Oper} {fr:Fr} {st:St} {fr':Fr} {st':St},cJ P n all res l fr st=some ([],fr',st')→OW P G n aC all Q r fr' st'→OW P G n aC all Q (l++r) fr st
 |[],r,fr,st,fr',st',h,k=>by
  simp only [cJ,aal,aaq,true_and] at h;obtain ⟨rfl,rfl⟩:=h;exact k
 |o::l,r,fr,st,fr',st',h,k=>by
  simp only [cJ] at h;split at h
  ·split at h
   ·rename_i hg;split at h
    ·simp at h
    ·split at h
     ·rename_i v gD he;split at h
      ·rename_i hd;exact OW.op hg he hd (OW.runR h k)
      ·simp at h
     ·simp at h
   ·rename_i hg;split at h
    ·rename_i hd;exact OW.skip hg hd (OW.runR h k)
    ·simp at h
   ·simp at h
  ·simp at h
def AW.regLR (res:List Nat) {id:Nat} {l:List Oper} (m:Nat) {o:Oper} {fr1:Fr} {gD:St} (ho:l[m]?=some o) (h1:cJ P n l.toArray res (l.take m) fr st=some ([],fr1,gD))
  (h:∀ K:Fr→St→Prop,(∀ fr st,OW P G n aC l.toArray Q (l.drop (m+1)) fr st→K fr st)→OPW P G n aC l.toArray o K fr1 gD):AW P G n aC (.region id l.toArray false) Q fr st:=by
 refine AW.region ?_
 have hl:m<l.length:=(aao.1 ho).1
 have e:l=l.take m++(o::l.drop (m+1)):=by
  conv=>lhs;rw [←List.take_append_drop m l,aaT hl]
  rw [(aao.1 ho).2]
 have:=OW.runR (res:=res) (G:=G) (aC:=aC) (Q:=Q) h1 (h _ (fun _ _ h=>h) (l.drop (m+1)) Q fun _ _ h=>h)
 rw [←e] at this
 exact this
end
end Go.Abs
end
section
set_option maxHeartbeats 8000000
set_option maxRecDepth 20000
namespace Go.Proofs.YtbcillkajdnljaaGreatDoor
open Tryz
open Go.Abs
attribute [local irreducible] AW OX GQ bK bO bz aY aA
variable {G:World→Nat→Prop}
def i_Name:NameOK G:=by
 intro s hs st;have he:=i_every (G:=G) s hs;by_cases h:0<s.length∧s.length≤64
 ·obtain ⟨h1,h2⟩:=h;have g1:((s.length:Int)>0):=by omega
  have g2:((s.length:Int)≤64):=by omega
  refine aA.body func32 rfl ntmps32 (by simp) ?_;refine AW.oA fun K hK=>?_;refine Wk.go fun _ ag=>?_;simp only [go_sem,seval,cX ag];(repeat' apply cq.l)<;>try subst ag
  refine cB.i (hK _ _ ?_);refine AW.oA fun K2 hK2=>?_;refine AW.regLR [8,3] 10 (by rfl) (by simp only [go_sem,seval,g1,g2,decide_true];try exact rfl) fun K3 hK3=>OPW.bytes (e:=5) (l:=s) (by simp only [go_sem,seval,g1,g2,decide_true];first|done|rfl) (by rfl) (by kernel_rfl) (by kernel_rfl) (by kernel_rfl) (by simp only [go_sem,seval];first|done|rfl) (hK3 _ _ ?_);refine Wk.ow fun _ ag=>Wk.o ?_;simp only [go_sem,seval,cX ag,bC (he _),g1,g2,decide_true];(repeat' apply cq.l)<;>try subst ag
  refine cB.i (hK2 _ _ ?_);refine Wk.go fun _ ag=>?_;simp only [go_sem,seval,cX ag];(repeat' first|apply cq.l|refine aQ.i ⟨?_,rfl⟩)<;>try subst ag
  refine pI ?_;simp [identF,h1,h2]
 ·refine aA.start func32 rfl ntmps32 (by simp) fun _ ag=>?_;simp (disch:=omega) only [go_sem,seval,cX ag];(repeat' first|apply cq.l|apply bg.i|refine cE.i fun hc=>?_|refine aQ.i ⟨?_,rfl⟩)<;>try subst ag
  all_goals first|(exfalso;omega)|skip
  all_goals
   refine pI ?_
   rw [identF]
   rw [abk]
   simp only [aas,aau,aa3,false_iff]
   omega
def ascB (l:List aF) (i:Nat) (s:aF):Bool:=decide (i=0)||decide (c8 (l.getD (i - 1) default) s<0)
def ascF (l:List aF):Nat→List aF→Bool
 |_,[]=>true
 |i,s::r=>ascB l i s&&ascF l (i+1) r
def i_asc1 (B R:List ec) (K:List (Nat×Nat×Nat)) (l:List aF) (hs:∀ s∈l,s.length≤1048576) (hl:l.length≤1099511627776) (i:Nat) (hi:i<l.length):aA prog G 128 [ai ↑i,vs (l.getD i default),.ptr B.length 0] ⟨B++(.cells [vSs l]::R),K⟩
  (fun o s=>o= .ret (vb (ascB l i (l.getD i default)))∧s=⟨B++(.cells [vSs l]::R),K⟩):=by
 by_cases h0:i=0
 ·subst h0
  refine aA.start func128 rfl ntmps128 (by simp) fun _ ag=>?_
  simp (disch:=first|exact ⟨by kernel_rfl⟩|omega) only [go_sem,seval,cX ag,wd];(repeat' first|apply cq.l|refine aQ.i ⟨?_,rfl⟩)<;>try subst ag
  rfl
 ·have hc:=lR (G:=G) (l.getD (i - 1) default) (l.getD i default) (hs _ (aB (by omega))) (hs _ (aB hi))
  have e:((i:Int) - 1)=((i - 1:Nat):Int):=by omega
  refine aA.start func128 rfl ntmps128 (by simp) fun _ ag=>?_
  simp (disch:=first|exact ⟨by kernel_rfl⟩|omega) only [go_sem,seval,cX ag,wd,bC (hc _),h0,e];(repeat' first|apply cq.l|refine cE.i fun hc=>?_|refine aQ.i ⟨?_,rfl⟩)<;>try subst ag
  refine pI ?_
  simp [ascB,h0]
def ascF_at (l:List aF) (i:Nat):ascF l i (l.drop i)=if i<l.length then (ascB l i (l.getD i default)&&ascF l (i+1) (l.drop (i+1))) else true:=by
 by_cases h:i<l.length
 ·conv=>lhs;rw [aaT h]
  rw [if_pos h,getD_eq h,ascF]
 ·rw [aa0 (by omega),if_neg h,ascF]
def i_everyA (B R:List ec) (K:List (Nat×Nat×Nat)) (l:List aF) (hs:∀ s∈l,s.length≤1048576) (hl:l.length≤1099511627776):aA prog G 127 [vSs l,.jE 128 [.ptr B.length 0]] ⟨B++(.cells [vSs l]::R),K⟩
  (fun o s=>o= .ret (vb (ascF l 0 l))∧s=⟨B++(.cells [vSs l]::R),K⟩):=by
 refine aA.start func127 rfl ntmps127 (by simp) fun _ ag=>?_
 simp only [go_sem,seval,cX ag];all_goals (try subst ag)
 refine AW.zU (fun i:Nat=>[(1,.jE 128 [.ptr B.length 0]),(7,vSs l),(8,ai ↑l.length),(9,ai ↑i)]) (fun _=>[]) (fun _=>[]) (fun i=>i≤l.length∧ascF l i (l.drop i)=ascF l 0 l) (fun i=>l.length - i) 0 ⟨by simp,by simp only [go_sem,seval]⟩ (by simp) ?_
 intro i ⟨hi,g⟩
 rw [ascF_at] at g
 by_cases hil:i<l.length
 ·have hc:=i_asc1 (G:=G) B R K l hs hl i hil
  cases h1:ascB l i (l.getD i default)<;>rw [h1] at hc g
  all_goals
   simp only [aaM]
   refine Wk.go fun _ ag=>?_;simp (disch:=omega) only [go_sem,seval,cX ag,bC hc];(repeat' first|apply cq.l|refine cE.i fun hc=>?_|refine aQ.i ⟨?_,rfl⟩)<;>try subst ag
   all_goals first|(refine pI ?_;grind)|skip
  refine cB.i ⟨i+1,⟨by simp (disch:=omega) only [go_sem,seval]<;>omega,?_,?_⟩⟩
  ·exact ⟨by omega,by grind⟩
  ·omega
 ·refine Wk.go fun _ ag=>?_;simp (disch:=omega) only [go_sem,seval,cX ag];(repeat' first|apply cq.l|refine cE.i fun hc=>?_|refine aQ.i ⟨?_,rfl⟩)<;>try subst ag
  refine pI ?_;grind
def i_Ascending (l:List aF) (hs:∀ s∈l,s.length≤1048576) (hl:l.length≤1099511627776):b8 G 83 [vSs l] (vb (ascF l 0 l)):=by
 intro st;have hc:=i_everyA (G:=G) st.aj [] st.toks l hs hl;refine aA.start func83 rfl ntmps83 (by simp) fun _ ag=>?_;simp only [go_sem,seval,cX ag,bC hc];(repeat' first|apply cq.l|refine aQ.i ⟨?_,rfl⟩)<;>try subst ag
 all_goals rfl
end Go.Proofs.YtbcillkajdnljaaGreatDoor
end
section
set_option maxHeartbeats 8000000
set_option maxRecDepth 20000
namespace Go.Proofs.YtbcillkajdnljaaGreatDoor
open Tryz
open Go.Abs Go.RowKit
variable {G:World→Nat→Prop}
def GM (G:World→Nat→Prop):Prop:=∀ w0 b w,G w0 b→Below b w0 w→∃ m,w.cell? ⟨0,0,none⟩=some (.int .i64 m)
def splF (s:aF):List aF:=(Lib.splitB ⟨#[47]⟩ 0 (Lib.countB ⟨s.toArray⟩ ⟨#[47]⟩) ⟨s.toArray⟩).map fun b=>b.data.toList
theorem splB_len:∀ (k:Nat) (s:ByteArray),∀ x∈Lib.splitB ⟨#[47]⟩ 0 k s,x.size≤s.size
 |0,s,x,h=>by simp only [Lib.splitB,abg] at h;subst h;exact aat _
 |k+1,s,x,h=>by
  rw [Lib.splitB] at h;split at h
  ·simp only [abg] at h;subst h;exact aat _
  ·rcases abc.1 h with rfl|h
   ·rw [ByteArray.size_extract];omega
   ·have:=splB_len k _ x h;rw [ByteArray.size_extract] at this;omega
def splF_len (s:aF):∀ x∈splF s,x.length≤s.length:=by
 intro x hx;obtain ⟨b,hb,rfl⟩:=abm.1 hx;have:=splB_len _ _ b hb;rw [aaH];exact this
def splF_cnt (s:aF):(splF s).length=Lib.countB ⟨s.toArray⟩ ⟨#[47]⟩+1:=by
 rw [splF,aaC];exact Lib.splitB_all ⟨#[47]⟩ (by decide) 0 _ _ rfl
def splF_le (s:aF):(splF s).length≤s.length+1:=by
 rw [splF_cnt];have:=Lib.countB_le ⟨#[47]⟩ (by decide) _ ⟨s.toArray⟩ (aat _);simp only [ByteArray.size,aaW] at this ⊢;omega
def c_Split (hg:GM G) (s:aF) (hs:s.length≤1048576):b8 G 187 [vs s,vs [47]] (vSs (splF s)):=by
 intro st c w cargs hc hG hsz hr;have ha:cargs= #[.string ⟨s.toArray⟩,.string ⟨#[47]⟩]:=by
  have h0:=hr 0 (by simp);have h1:=hr 1 (by simp);simp only [abi,abI] at h0 h1;generalize hq:cargs.getD 0 undef=q at h0;generalize hp:cargs.getD 1 undef=p at h1;cases h0 with|d _ _ h0=>?_
  cases h1 with|d _ _ h1=>?_
  have:=Pe h0;subst this;have:=Pe h1;subst this;apply Array.ext
  ·simpa using hsz
  ·intro i hi hi2;have:i=0∨i=1:=by simp at hi2;omega
   rcases this with rfl|rfl
   ·simpa [aap,hi] using hq
   ·simpa [aap,hi] using hp
 subst ha;obtain ⟨m,hm⟩:=hg _ _ w hG hc.below;refine (Any.strings_Split Tryz.lays146 (by kernel_rfl) ⟨s.toArray⟩ ⟨#[47]⟩ m w (by simp only [ByteArray.size,aaW];omega) hm (by decide)).mono ?_;rintro e w' ⟨rfl,rfl⟩;have hlen:=splF_cnt s;rw [splF,aaC] at hlen;generalize hL:Lib.splitB ⟨#[47]⟩ 0 (Lib.countB ⟨s.toArray⟩ ⟨#[47]⟩) ⟨s.toArray⟩=L at hlen;have hF:splF s=L.map fun b=>b.data.toList:=by rw [splF,hL]
 refine ⟨.ret (vSs (splF s)),st,c.kT w.heap.size (L.map Value.string).toArray,⟨rfl,rfl⟩,hc.xK _,hc.kT _ _,?_⟩;refine .d _ _ (.sl w.heap.size 0 _ _ 1 (fun i _=> .string (L.getD i default)) (bt (splF s)) (by rw [iP,hF,aaC,hlen]) (aat _) (by simp [bt]) (fun i j hi hj=>?_) fun i j hi hj=>?_)
 ·obtain rfl:j=0:=by omega
  have hi':i<L.length:=by omega
  simp [Ctx.kT,hi']
 ·obtain rfl:j=0:=by omega
  have hi':i<L.length:=by omega
  rw [hF];have e:((bt (L.map fun b=>b.data.toList)).getD i []).getD 0 .eX= .str (L.getD i default).data.toList:=by simp [bt,hi']
  rw [e];exact .str _ _ rfl
def partsF (s:aF):V:=if 512<s.length then .cF [.d (.sl []),ai 3] else if namesF (splF s)=true then .cF [vSs (splF s),ai 0] else .cF [.d (.sl []),ai 1]
def i_Parts (hg:GM G) (s:aF) (hs:s.length≤1048576):b8 G 126 [vs s] (partsF s):=by
 intro st;rw [partsF];by_cases h0:512<s.length
 ·rw [if_pos h0];refine aA.start func126 rfl ntmps126 (by simp) fun _ ag=>?_;simp (disch:=omega) only [go_sem,seval,cX ag];(repeat' first|apply cq.l|refine cE.i fun hc=>?_|refine aQ.i ⟨?_,rfl⟩)<;>try subst ag
  all_goals first|rfl|(exfalso;omega)
 rw [if_neg h0];have hc:=c_Split (G:=G) hg s hs;have hn:=i_names (G:=G) i_Name (splF s) (by have:=splF_le s;omega) (fun x hx=>by have:=splF_len s x hx;omega);by_cases h1:namesF (splF s)=true
 ·rw [if_pos h1];rw [h1] at hn;refine aA.start func126 rfl ntmps126 (by simp) fun _ ag=>?_;simp (disch:=omega) only [go_sem,seval,cX ag,bC (hc _),bC (hn _)];(repeat' first|apply cq.l|refine cE.i fun hc=>?_|refine aQ.i ⟨?_,rfl⟩)<;>try subst ag
  all_goals first|rfl|(exfalso;omega)
 ·rw [if_neg h1];rw [Bool.not_eq_true] at h1;rw [h1] at hn;refine aA.start func126 rfl ntmps126 (by simp) fun _ ag=>?_;simp (disch:=omega) only [go_sem,seval,cX ag,bC (hc _),bC (hn _)];(repeat' first|apply cq.l|refine cE.i fun hc=>?_|refine aQ.i ⟨?_,rfl⟩)<;>try subst ag
  all_goals first|rfl|(exfalso;omega)
def pathF (s:aF):Bool:=decide (s.length≤512)&&namesF (splF s)
def cm_path (hg:GM G) (s:aF) (hs:s.length≤1048576):b8 G 82 [vs s] (vb (pathF s)):=by
 intro st;have hp:=i_Parts (G:=G) hg s hs;rw [partsF] at hp;rw [pathF];by_cases h0:512<s.length
 ·rw [if_pos h0] at hp;refine aA.start func82 rfl ntmps82 (by simp) fun _ ag=>?_;simp only [go_sem,seval,cX ag,bC (hp _)];(repeat' first|apply cq.l|refine aQ.i ⟨?_,rfl⟩)<;>try subst ag
  refine pI ?_;simp;omega
 rw [if_neg h0] at hp;by_cases h1:namesF (splF s)=true
 ·rw [if_pos h1] at hp;refine aA.start func82 rfl ntmps82 (by simp) fun _ ag=>?_;simp only [go_sem,seval,cX ag,bC (hp _)];(repeat' first|apply cq.l|refine aQ.i ⟨?_,rfl⟩)<;>try subst ag
  refine pI ?_;simp [h1];omega
 ·rw [if_neg h1] at hp;refine aA.start func82 rfl ntmps82 (by simp) fun _ ag=>?_;simp only [go_sem,seval,cX ag,bC (hp _)];(repeat' first|apply cq.l|refine aQ.i ⟨?_,rfl⟩)<;>try subst ag
  refine pI ?_;simp [h1]
end Go.Proofs.YtbcillkajdnljaaGreatDoor
end
section
namespace Go.Proofs.YtbcillkajdnljaaGreatDoor
open Tryz
open Go.Abs
attribute [local irreducible] AW OX GQ bK bO bz aY aA
def wB.enc:wB→List D
 | .mk k n s l=>[Abs.D.int .i64 k,Abs.D.int .i64 n,.str s,.sl (oM l)]
where oM:List wB→List (List D)
 |[]=>[]
 |f::r=>f.enc::oM r
def wB.mh (l:List wB):wB.enc.oM l=l.map wB.enc:=by induction l<;>simp_all [wB.enc.oM]
def wB.aP (f:wB):f.enc=[Abs.D.int .i64 f.kind,Abs.D.int .i64 f.int,.str f.str,.sl (f.list.map wB.enc)]:=by
 cases f;simp [wB.enc,wB.mh,wB.kind,wB.int,wB.str,wB.list]
def wB.dN (f:wB):f.enc.length=4:=by rw [wB.aP];rfl
def vFld (f:wB):V:= .agg (f.enc.map .d)
abbrev vFl (l:List wB):V:= .d (.sl (l.map wB.enc))
def vFld_cells (f:wB):(vFld f).cells=some (f.enc.map .d):=(rfl)
def one_Fld (f:wB):((f.enc.map V.d).all fun x=>x.one)=true:=by rw [wB.aP];rfl
def vFld_share (f:wB):(vFld f).share=vFld f:=by simp [vFld,jG,iM]
def vFld_within (N M:Nat) (f:wB):(vFld f).within N M=true:=by rw [vFld,wB.aP];rfl
def vFld_fold (f:wB):V.agg (f.enc.map .d)=vFld f:=(rfl)
def Fg0 (f:wB):(f.enc)[0]?=some (int f.kind):=by rw [wB.aP];rfl
def Fg1 (f:wB):(f.enc)[1]?=some (int f.int):=by rw [wB.aP];rfl
def Fg2 (f:wB):(f.enc)[2]?=some (.str f.str):=by rw [wB.aP];rfl
def Fg3 (f:wB):(f.enc)[3]?=some (.sl (f.list.map wB.enc)):=by rw [wB.aP];rfl
def Fw' (f:wB):(f.enc.map V.d).take 4=f.enc.map .d:=by rw [←wB.dN f,←abD,aaD]
def rowsLen_Fld (l:List wB):cr 4 (l.map wB.enc)=true:=ZJ _ _ wB.dN l
attribute [go_sem] wB.dN vFld_cells one_Fld vFld_share vFld_within vFld_fold Fg0 Fg1 Fg2 Fg3 Fw' rowsLen_Fld
def fld_one (f:wB):f.enc.all D.one=true:=by rw [wB.aP];rfl
end Go.Proofs.YtbcillkajdnljaaGreatDoor
end
section
namespace Go.Proofs.YtbcillkajdnljaaGreatDoor
open Tryz
def effF (j:Jb) (s:Int):Int:=if s=2∧j.allowFail=true then 1 else s
def totF (ss es:List Int):Int:=if 2∈es then 2 else if 4∈ss then 4 else 1
def opnF (l:List PC):Bool:=l.any fun s=>decide (s.phase≠4)
def ofF (r:Rn):Fnl:=
 if opnF r.jobs=true then ⟨0,[]⟩ else
 ⟨totF ((r.plan.jobs.zip r.jobs).map fun z=>z.2.result.status) ((r.plan.jobs.zip r.jobs).map fun z=>effF z.1 z.2.result.status),(r.plan.jobs.zip r.jobs).map fun z=>⟨z.1.id,z.2.result⟩⟩
def jobF (l:List Jb) (id:aF):Jb:=(l.find? fun j=>decide (j.id=id)).getD default
def statF (l:List Jb):List Jrs→Int→Int
 |[],o=>o
 |x::m,o=>if effF (jobF l x.id) x.result.status=2 then 2 else statF l m (if effF (jobF l x.id) x.result.status=4 then 4 else o)
def stF (l:List PC) (id:aF):Option PC:=l.find? fun s=>decide (s.id=id)
def outF (r:Rn):List Jrs:=r.plan.jobs.filterMap fun j=>(stF r.jobs j.id).map fun s=>⟨s.id,s.result⟩
def refOfF (r:Rn):Fnl:=if opnF r.jobs=true then ⟨0,[]⟩ else ⟨statF r.plan.jobs (outF r) 1,outF r⟩
theorem nd_find {α:Type} (f:α→aF):∀ l:List α,(l.map f).Nodup→∀ x∈l,l.find? (fun y=>decide (f y=f x))=some x
 |[],_,x,h=>by simp at h
 |y::l,hn,x,h=>by
  simp only [aaB,List.nodup_cons] at hn;rcases abc.1 h with rfl|hx
  ·simp
  ·have:f y≠f x:=fun e=>hn.1 (by rw [e];exact abm.2 ⟨x,hx,rfl⟩);rw [List.find?_cons_of_neg (by simpa using this)];exact nd_find f l hn.2 x hx
theorem out_zip (w:List PC):∀ (ps:List Jb) (ss:List PC),ss.map PC.id=ps.map Jb.id→(∀ s∈ss,stF w s.id=some s)→
  (ps.filterMap fun j=>(stF w j.id).map fun s=>(⟨s.id,s.result⟩:Jrs))=(ps.zip ss).map fun z=>⟨z.1.id,z.2.result⟩
 |[],_,_,_=>by simp
 |p::ps,[],h,_=>by simp at h
 |p::ps,s::ss,h,hs=>by
  simp only [aaB,List.cons.injEq] at h;have h1:=hs s (List.mem_cons_self ..);rw [h.1] at h1;simp only [List.filterMap_cons,h1,aaJ,List.zip_cons_cons,aaB];rw [out_zip w ps ss h.2 fun s hm=>hs s (List.mem_cons_of_mem _ hm),h.1]
def eff4 (j:Jb) (s:Int):effF j s=4↔s=4:=by
 rw [effF];split<;>omega
theorem stat_zip (w:List Jb):∀ (zs:List (Jb×PC)) (o:Int),(∀ z∈zs,jobF w z.1.id=z.1)→
  statF w (zs.map fun z=>⟨z.1.id,z.2.result⟩) o=if 2∈zs.map (fun z=>effF z.1 z.2.result.status) then 2 else if 4∈zs.map (fun z=>z.2.result.status) then 4 else o
 |[],o,_=>by simp [statF]
 |z::zs,o,h=>by
  have h1:=h z (List.mem_cons_self ..);simp only [aaB,statF,h1];rw [stat_zip w zs _ fun z hm=>h z (List.mem_cons_of_mem _ hm)];simp only [abc];by_cases h2:effF z.1 z.2.result.status=2
  ·simp [h2]
  ·have h2':¬ (2=effF z.1 z.2.result.status):=fun e=>h2 e.symm;rw [if_neg h2];simp only [h2',false_or];by_cases h4:z.2.result.status=4
   ·rw [if_pos ((eff4 _ _).2 h4)];simp [h4]
   ·rw [if_neg (mt (eff4 _ _).1 h4)];have h4':¬ (4=z.2.result.status):=fun e=>h4 e.symm;simp only [h4',false_or]
def of_eq (r:Rn) (h1:r.jobs.map PC.id=r.plan.jobs.map Jb.id) (h2:(r.plan.jobs.map Jb.id).Nodup):refOfF r=ofF r:=by
 rw [refOfF,ofF];by_cases h:opnF r.jobs=true
 ·rw [if_pos h,if_pos h]
 rw [if_neg h,if_neg h];have e:outF r=(r.plan.jobs.zip r.jobs).map fun z=>⟨z.1.id,z.2.result⟩:=out_zip _ _ _ h1 fun s hs=>nd_find PC.id _ (by rw [h1];exact h2) s hs;rw [e,stat_zip,totF];intro z hz;rw [jobF,nd_find Jb.id _ h2 z.1 (List.of_mem_zip hz).1];rfl
def aN {α:Type} (e:α→α→Bool):List α→List α→Bool
 |[],[]=>true
 |a::x,b::y=>e a b&&aN e x y
 |_,_=>false
theorem listEq_self {α:Type} {e:α→α→Bool} (h:∀ a,e a a=true):∀ l,aN e l l=true
 |[]=>rfl
 |a::l=>by rw [aN,h,listEq_self h l];rfl
theorem listEq_len {α:Type} {e:α→α→Bool}:∀ {l m:List α},aN e l m=true→l.length=m.length
 |[],[],_=>rfl
 |_::l,_::m,h=>by rw [aN,aas] at h;rw [aav,aav,listEq_len h.2]
theorem listEq_take {α:Type} [Inhabited α] (e:α→α→Bool):∀ (l m:List α),l.length=m.length→∀ i,i<l.length→aN e (l.take (i+1)) (m.take (i+1))=(aN e (l.take i) (m.take i)&&e (l.getD i default) (m.getD i default))
 |[],_,_,i,hi=>by simp at hi
 |a::l,[],h,_,_=>by simp at h
 |a::l,b::m,h,0,_=>by simp [aN]
 |a::l,b::m,h,i+1,hi=>by
  have:=listEq_take e l m (by simpa using h) i (by simpa using hi);simp only [List.take_succ_cons,aN,this,abI,Bool.and_assoc]
theorem listEq_not {α:Type} [Inhabited α] {e:α→α→Bool}:∀ {l m:List α},aN e l m=true→∀ i,i<l.length→e (l.getD i default) (m.getD i default)=true
 |[],_,_,i,hi=>by simp at hi
 |a::l,[],h,_,_=>by simp [aN] at h
 |a::l,b::m,h,0,_=>by rw [aN,aas] at h;exact h.1
 |a::l,b::m,h,i+1,hi=>by rw [aN,aas] at h;exact listEq_not h.2 i (by simpa using hi)
def otpEq (a b:Otp):Bool:=a.name==b.name&&a.digest==b.digest&&a.size==b.size
def tsrEq (a b:Tsr):Bool:=a.name==b.name&&a.status==b.status&&a.time==b.time
def rslEq (a b:Rsl):Bool:=a.status==b.status&&a.class_==b.class_&&a.child==b.child&&aN otpEq a.gP b.gP&&aN otpEq a.e6 b.e6&&aN tsrEq a.tests b.tests
def jrsEq (a b:Jrs):Bool:=a.id==b.id&&rslEq a.result b.result
def fnlEq (a b:Fnl):Bool:=a.status==b.status&&aN jrsEq a.jobs b.jobs
def fnlEq_self (a:Fnl):fnlEq a a=true:=by
 have h1:∀ a,otpEq a a=true:=fun a=>by simp [otpEq]
 have h2:∀ a,tsrEq a a=true:=fun a=>by simp [tsrEq]
 have h3:∀ a,rslEq a a=true:=fun a=>by simp [rslEq,listEq_self h1,listEq_self h2]
 have h4:∀ a,jrsEq a a=true:=fun a=>by simp [jrsEq,h3]
 simp [fnlEq,listEq_self h4]
def fldEq:wB→wB→Bool
 | .mk k n s l,.mk k' n' s' l'=>k==k'&&n==n'&&s==s'&&fldEqL l l'
where fldEqL:List wB→List wB→Bool
 |[],[]=>true
 |a::x,b::y=>fldEq a b&&fldEqL x y
 |_,_=>false
theorem fldEqL_list:∀ l m:List wB,fldEq.fldEqL l m=aN fldEq l m
 |[],[]=>rfl
 |[],_::_=>rfl
 |_::_,[]=>rfl
 |a::l,b::m=>by rw [fldEq.fldEqL,aN,fldEqL_list l m]
def fldEq_eq (a b:wB):fldEq a b=(a.kind==b.kind&&a.int==b.int&&a.str==b.str&&aN fldEq a.list b.list):=by cases a;cases b;rw [fldEq,fldEqL_list];rfl
def fOk:wB→Prop
 | .mk _ _ _ l=>l.length≤1048576∧fOkL l
where fOkL:List wB→Prop
 |[]=>True
 |f::r=>fOk f∧fOkL r
theorem fOkL_iff:∀ l:List wB,fOk.fOkL l↔∀ x∈l,fOk x
 |[]=>by simp [fOk.fOkL]
 |f::r=>by simp [fOk.fOkL,fOkL_iff r]
def fOk_iff (f:wB):fOk f↔f.list.length≤1048576∧∀ x∈f.list,fOk x:=by cases f;rw [fOk,fOkL_iff];rfl
def fOk_int (n:Int):fOk (fInt n):=(fOk_iff _).2 ⟨by simp [fInt,wB.list],by simp [fInt,wB.list]⟩
def fOk_str (s:aF):fOk (fStr s):=(fOk_iff _).2 ⟨by simp [fStr,wB.list],by simp [fStr,wB.list]⟩
def fOk_list {l:List wB} (h:l.length≤1048576) (g:∀ x∈l,fOk x):fOk (fList l):=(fOk_iff _).2 ⟨h,g⟩
def fOk_Rsl (x:Rsl) (g:gRsl x):fOk (frRsl x):=by
 have ho:∀ y:Otp,fOk (frOtp y):=fun y=>fOk_list (by simp) (by simp [fOk_str,fOk_int,fDig]);have ht:∀ y:Tsr,fOk (frTsr y):=fun y=>fOk_list (by simp) (by simp [fOk_str,fOk_int]);have lo:∀ l:List Otp,l.length≤1048576→fOk (fList (l.map frOtp)):=fun l h=>fOk_list (by simpa using h) (by simp [ho]);have lt:fOk (fList (x.tests.map frTsr)):=fOk_list (by simpa using g.tests.1) (by simp [ht]);exact fOk_list (by simp) (by simp [fOk_str,fOk_int,lo _ g.gP.1,lo _ g.e6.1,lt])
theorem listEq_map {α β:Type} {e:α→α→Bool} {f:β→β→Bool} (fr:α→β):∀ l m:List α,(∀ x∈l,∀ y∈m,f (fr x) (fr y)=e x y)→aN f (l.map fr) (m.map fr)=aN e l m
 |[],[],_=>rfl
 |[],_::_,_=>rfl
 |_::_,[],_=>rfl
 |a::l,b::m,h=>by
  simp only [aaB,aN];rw [h a (by simp) b (by simp),listEq_map fr l m fun x hx y hy=>h x (by simp [hx]) y (by simp [hy])]
def fldEq_int (a b:Int):fldEq (fInt a) (fInt b)=(a==b):=by simp [fldEq_eq,fInt,wB.kind,wB.int,wB.str,wB.list,aN]
def fldEq_str (a b:aF):fldEq (fStr a) (fStr b)=(a==b):=by simp [fldEq_eq,fStr,wB.kind,wB.int,wB.str,wB.list,aN]
def fldEq_list (l m:List wB):fldEq (fList l) (fList m)=aN fldEq l m:=by simp [fldEq_eq,fList,wB.kind,wB.int,wB.str,wB.list]
def fldEq_dig {a b:Int} (ha:0≤a∧a<18446744073709551616) (hb:0≤b∧b<18446744073709551616):fldEq (fDig a) (fDig b)=(a==b):=by
 rw [fDig,fDig,fldEq_int,abk,beq_iff_eq,beq_iff_eq];unfold IntKind.wrap;simp only [IntKind.signed,IntKind.bits,Bool.true_and,aau,Nat.reduceSub,ge_iff_le];split<;>split<;>omega
def fldEq_Rsl (a b:Rsl) (ga:gRsl a) (gb:gRsl b):fldEq (frRsl a) (frRsl b)=rslEq a b:=by
 have ho:∀ x,gOtp x→∀ y,gOtp y→fldEq (frOtp x) (frOtp y)=otpEq x y:=fun x hx y hy=>by
  simp only [frOtp,fldEq_list,aN,fldEq_str,fldEq_int,fldEq_dig hx.digest hy.digest,otpEq,Bool.and_true,Bool.and_assoc]
 have ht:∀ x y,fldEq (frTsr x) (frTsr y)=tsrEq x y:=fun x y=>by
  simp only [frTsr,fldEq_list,aN,fldEq_str,fldEq_int,tsrEq,Bool.and_true,Bool.and_assoc]
 simp only [frRsl,fldEq_list,aN,fldEq_str,fldEq_int,rslEq,Bool.and_true];rw [listEq_map frOtp _ _ fun x hx y hy=>ho x (ga.gP.2 x hx) y (gb.gP.2 y hy),listEq_map frOtp _ _ fun x hx y hy=>ho x (ga.e6.2 x hx) y (gb.e6.2 y hy),listEq_map frTsr _ _ fun x _ y _=>ht x y];grind
def sizeOf_lmem {l:List wB} {x:wB} (h:x∈l):SizeOf.sizeOf x<SizeOf.sizeOf l:=List.sizeOf_lt_of_mem h
def sizeOf_fl (x:wB):SizeOf.sizeOf x.list<SizeOf.sizeOf x:=by
 cases x with|mk k n s l=>simp only [wB.list,wB.mk.sizeOf_spec];omega
end Go.Proofs.YtbcillkajdnljaaGreatDoor
end
section
namespace Go.Abs
open Go.RowKit
section
variable {P:Program} {G:World→Nat→Prop} {st:St} {g:FuncId} {xs:List V} {K Kp:V→St→Prop}
def Ly (P:Program) (G:World→Nat→Prop) (g:FuncId) (xs:List V) (st:St) {τ:Type} (f:τ→V):Prop:=aA P G g xs st fun o s=>(∃ x,o= .ret (f x))∧s=st
def yT {τ:Type} {f:τ→V} (h:Ly P G g xs st f):dQ P G false g xs st K Kp=@cq (fB fun x=>K (f x) st) ⟨dQ P G false g xs st K Kp⟩:=cq.of fun k=>by
 unfold dQ;exact ⟨_,h,(fun v s ⟨⟨x,e⟩,hs⟩=>by cases e;subst hs;exact k x),(fun v s ⟨⟨_,e⟩,_⟩=>by cases e)⟩
def ixM (q:List UInt8→Option Nat):D→Option D
 | .str s=>(q s).map fun i:Nat=>D.int .i64 (i:Int)
 |_=>none
def ixM_nil:(fun _=>none)=ixM (fun _=>none):=by funext y;cases y<;>simp [ixM]
def ixM_put (q:List UInt8→Option Nat) (s:List UInt8) (i:Nat):ri (ixM q) (.str s) (.int .i64 i)=ixM (fun x=>if x=s then some i else q x):=by
 funext y;cases y with
 |str x=>by_cases h:s=x<;>simp [ri,vr,ixM,h,eq_comm]
 |_=>simp [ri,vr,ixM]
def ixM_s (q:List UInt8→Option Nat) (s:List UInt8):ixM q (.str s)=(q s).map fun i:Nat=>D.int .i64 (i:Int):=by simp [ixM]
def mp_cells (b:Nat):(V.mp b).cells=some [.mp b]:=(rfl)
def mp_one (b:Nat):(V.mp b).one=true:=(rfl)
attribute [go_sem] mp_cells mp_one
def seM (l:List (List UInt8)):D→Option D
 | .str s=>if s∈l then some (.bool true) else none
 |_=>none
def seM_nil:(fun _=>none)=seM []:=by funext y;cases y<;>simp [seM]
def seM_put (l:List (List UInt8)) (s:List UInt8):ri (seM l) (.str s) (.bool true)=seM (s::l):=by
 funext y;cases y with
 |str x=>by_cases h:s=x<;>simp [ri,vr,seM,h,eq_comm]
 |_=>simp [ri,vr,seM]
def seM_in {l:List (List UInt8)} {s:List UInt8} (h:s∈l):seM l (.str s)=some (.bool true):=by simp [seM,h]
def seM_out {l:List (List UInt8)} {s:List UInt8} (h:s ∉ l):seM l (.str s)=none:=by simp [seM,h]
def SB.lp {n:NDs} {aC:St} {Q:AX→Fr→St→Prop} {fr:Fr} {x:Code} (h:AW P G n aC (.loop x) Q fr st): @SB P G n aC ⟨.loop x⟩ Q fr st:=(Ml ..).mpr h
def OPW.allocT {n:NDs} {aC:St} {fr:Fr} {all:Array Oper} {d:Option Tmp} {e ty:TypeId} {pos:String} {after:Array Edge} {gd:Option (Nat×Bool)} {K:Fr→St→Prop} {cs:List V}
  (hg:goes all ⟨d,.alloc e,ty,pos,after,gd⟩ fr=some true) (hd:fC n d=true) (hz:eU P e=some cs) (h:K (eC fr d (.ptr st.aj.length 0)) ⟨st.aj++[.tc e cs],st.toks⟩):OPW P G n aC all ⟨d,.alloc e,ty,pos,after,gd⟩ K fr st:=by
 refine OPW.of hg hd fun c0 c w a h0 he hc hf=>?_
 unfold eU at hz
 obtain ⟨z,hz1,hz2⟩:=abM.1 hz
 obtain ⟨h1,h2⟩:=ko (c:=c) hz2
 have hb:L2 c (.cells z.cells e (0,0)) (.tc e cs):= .tc _ _ _ (by simpa using h1) fun i hi=>by rw [aK];exact h2 i hi
 exact ⟨.pointer (some ⟨w.heap.size,0,none⟩),w.alloc (.cells z.cells e),c.c7 w.heap.size,fr,_,_,by simp [execOp,Instr.alloc,kU hz1,tP],he.trans (Ext.c7 c _),hc.alloc hb,hf.mono (Ext.c7 c _),.ptr _ _ _ (by simp [Ctx.c7,←hc.cN]),h⟩
def bf.tokenT {c:Ctx} {w:World} (hc:bf c w st) {b i e sz T:Nat} {cs:List V} (hB:st.aj[b]?=some (.tc T cs)) (hi:cs[i]?=some .bh) (hsz:0<sz):
  bf (c.e9 e sz) w ⟨st.aj.set b (.tc T (cs.set i (.own st.toks.length []))),st.toks++[(e,sz,0)]⟩:=by
 have h:=hc.e9 e hsz
 have hlen:st.toks.length=c.tok.length:=by rw [←hc.cu];simp
 refine ⟨by have:=h.cN;simpa using this,h.dH,h.cI,h.mS,fun b' k B hk hB'=>?_,h.cu,h.cz,h.cK,h.cy,h.below,h.cw⟩
 simp only [List.getElem?_set] at hB'
 split at hB'
 ·rename_i hbb
  subst hbb
  obtain ⟨o,ho,hr⟩:=h.blk b k _ hk hB
  split at hB'
  ·simp only [aal] at hB'
   subst hB'
   cases hr with|tc arr _ _ hs hr=>?_
   refine ⟨_,ho,.tc arr _ _ (by simpa using hs) fun j hj=>?_⟩
   have hj':j<cs.length:=by simpa using hj
   have hj1:=hr j hj'
   by_cases hij:i=j
   ·subst hij
    rw [aam,hi] at hj1
    rw [aam,aa4 hj']
    simp only [aaS] at hj1 ⊢
    generalize arr.getD i undef=v at hj1
    cases hj1
    exact .own _ _ _ ⟨.slice none 0 0,e,sz,0⟩ .slnil (by rw [hlen];simp [Ctx.e9]) (by simp) (by simp) (fun _=>rfl)
   ·rw [aam,aa6 hij,←aam]
    exact hj1
  ·simp at hB'
 ·exact h.blk b' k B hk hB'
def AW.tokenT {n:NDs} {aC:St} {Q:AX→Fr→St→Prop} {fr:Fr} {code:Code} {st':St} (b i e sz:Nat) {T:Nat} {cs:List V} (hB:st.aj[b]?=some (.tc T cs)) (hi:cs[i]?=some .bh) (hsz:0<sz) (hst:(⟨st.aj.set b (.tc T (cs.set i (.own st.toks.length []))),st.toks++[(e,sz,0)]⟩:St)=st')
  (h:AW P G n aC code Q fr st'):AW P G n aC code Q fr st:=
 fun c0 c w a h0 he hc hg hf hs hd=>h c0 _ w a h0 (he.trans (Ext.e9 c e sz)) (hst▸hc.tokenT hB hi hsz) hg (hf.mono (Ext.e9 c e sz)) hs hd
def bf.addTok {c:Ctx} {w:World} (h:bf c w st) {t:Tok} {xs:List Value} {g:Nat} (h0:0<t.sz) (ho:w.ownsRow c.base t.e t.sz t.val t.len xs) (hb:t.val.ownBlock=some g) (hH1:∀ o,o<t.len*t.sz→c.H g o=xs[o]?)
  (hH2:∀ o,t.len*t.sz≤o→c.H g o=none) (hmu:g ∉ c.mu) (hold:∀ (id:Nat) (t':Tok),c.tok[id]?=some t'→t'.val.ownBlock≠some g):
  bf { c with tok:=c.tok++[t] } w ⟨st.aj,st.toks++[(t.e,t.sz,t.len)]⟩∧Ext c { c with tok:=c.tok++[t] }:=by
 have hext:Ext c { c with tok:=c.tok++[t] }:=⟨fun _ _ _ h=>h,fun _ _ h=>h,fun _ t h=>⟨t,gV h,rfl,aat _,fun _=>rfl⟩,rfl,rfl⟩
 refine ⟨⟨h.cN,h.dH,h.cI,h.mS,fun b k B hk hB=>let ⟨o,ho,hr⟩:=h.blk b k B hk hB;⟨o,ho,hr.mono hext⟩,by simp [h.cu],fun id t1 ht=>?_,fun i j s u g' hi hj hs hu=>?_,h.cy,h.below,h.cw⟩,hext⟩
 ·rcases bH ht with ht|⟨_,rfl⟩
  ·exact h.cz id t1 ht
  ·refine ⟨h0,.inr ⟨xs,ho,fun g' hg'=>?_⟩⟩
   rw [hb] at hg'
   cases hg'
   exact ⟨hH1,hH2,hmu⟩
 ·rcases bH hi with h1|⟨_,h1⟩<;>rcases bH hj with h2|⟨_,h2⟩
  ·exact h.cK i j s u g' h1 h2 hs hu
  ·rw [h2,hb] at hu;cases hu;exact absurd hs (hold i s h1)
  ·rw [h1,hb] at hs;cases hs;exact absurd hu (hold j u h2)
  ·omega
def OPW.mkL {n:NDs} {aC:St} {fr:Fr} {all:Array Oper} {d:Option Tmp} {t m ty:Nat} {parts:Array (Nat×Operand)} {pos:String} {after:Array Edge} {gd:Option (Nat×Bool)} {K:Fr→St→Prop} {e sz by_:Nat} {rs:List (List D)}
  (hg:goes all ⟨d,.buildSlice t m parts,ty,pos,after,gd⟩ fr=some true) (hd:fC n d=true) (hev:eW P t m fr parts.toList=some (.d (.sl rs))) (hsl:mU P t=some (e,sz,by_)) (h:K (eC fr d (.own st.toks.length rs)) ⟨st.aj,st.toks++[(e,sz,rs.length)]⟩):
  OPW P G n aC all ⟨d,.buildSlice t m parts,ty,pos,after,gd⟩ K fr st:=by
 refine OPW.of hg hd fun c0 c w a h0 he hc hf=>?_
 obtain ⟨e',sz',b',rs',arr,h1,h2,h3,h4,h5,h6,h7,h8,h9⟩:=evalBuildSlice_at hc t m hf parts hev
 rw [hsl] at h1
 simp only [aal,aaq] at h1
 obtain ⟨rfl,rfl,rfl⟩:=h1
 simp only [V.d.injEq,D.sl.injEq] at h2
 subst h2
 have hm:rs.length≤16777216:=by
  have:=Nat.mul_le_mul_left m h5;omega
 have hmx:maxLen=9223372036854775807:=by decide
 obtain ⟨k1,k2⟩:=(hc.kT arr e).addTok (t:=⟨.slice (some ⟨w.heap.size,0,none⟩) m m,e,sz,m⟩) (xs:=arr.toList) (g:=w.heap.size) h5
  ⟨by simp [h6],.inr ⟨w.heap.size,m,arr,rfl,hc.cw,heap_alloc_new w _,aat _,by simp only [hmx];omega,h6,by rw [aaO (by simp [h6])]⟩⟩ rfl (fun o _=>by simp [Ctx.kT])
  (fun o ho=>by simp only [Ctx.kT,if_true];exact abn (by simp only at ho;omega))
  (fun hm=>by
   have hm:w.heap.size∈c.mu:=hm;obtain ⟨i,hi,e⟩:=aaY.1 hm;have:=hc.mult (i:=i) (k:=w.heap.size) (by rw [aaw hi];exact congrArg some e);omega)
  (fun id t' ht e=>by
   obtain ⟨_,hd|⟨xs,ho,_⟩⟩:=hc.cz id t' ht
   ·rw [hd.2] at e;cases e
   ·have:=(ho.lt _ e).2;omega)
 rw [h3] at h
 have hl:st.toks.length=c.tok.length:=by rw [←hc.cu];simp
 refine ⟨.slice (some ⟨w.heap.size,0,none⟩) m m,w.alloc (.cells arr e),_,fr,_,_,by simp only [execOp];simp [h8],he.trans ((hc.xK arr).trans k2),k1,hf.mono ((hc.xK arr).trans k2),?_,h⟩
 exact .own _ _ _ ⟨.slice (some ⟨w.heap.size,0,none⟩) m m,e,sz,m⟩ h9 (by rw [hl];simp [Ctx.kT]) h4 (by simp only;omega) fun _=>rfl
def OPW.appW0 {n:NDs} {aC:St} {fr:Fr} {all:Array Oper} {d:Option Tmp} {x z:Operand} {t ty:TypeId} {pos:String} {after:Array Edge} {gd:Option (Nat×Bool)} {K':Fr→St→Prop} {e sz by_ b k cap:Nat}
  (hg:goes all ⟨d,.call ⟨.builtin .append,#[x,z],#[t,t]⟩,ty,pos,after,gd⟩ fr=some true) (hd:fC n d=true) (hsl:mU P t=some (e,sz,by_)) (hx:ev fr x= .win b k cap) (hzx:(ev fr z).me=some (.sl []))
  (h:K' (eC fr d (.win b k cap)) st):OPW P G n aC all ⟨d,.call ⟨.builtin .append,#[x,z],#[t,t]⟩,ty,pos,after,gd⟩ K' fr st:=by
 refine OPW.of hg hd fun c0 c w a h0 he hc hf=>?_
 obtain ⟨hu,ie,hie,_,_⟩:=kz hsl
 have hx1:=bJ hf x
 rw [hx] at hx1
 have hz1:=(bJ hf z).me hzx
 generalize hxv:a.eval x=xv at hx1
 generalize hzv:a.eval z=zv at hz1
 cases hx1 with|win _ kk _ _ hkk hkc=>?_
 have hem:zv= .slice none 0 0∨∃ a cp,zv= .slice (some a) 0 cp:=by
  cases hz1 with
  |slnil=>exact .inl rfl
  |uV a=>exact .inr ⟨a,0,rfl⟩
  |sl k off m cap sz vs _ h1 _ _ _ _=>
   simp only [aaA] at h1
   subst h1
   exact .inr ⟨_,_,rfl⟩
 exact ⟨_,w,c,fr,_,_,exec_append (by rw [hxv,hzv];exact qS hu hie _ _ _ hkc hem),he,hc,hf,.win _ _ _ _ hkk hkc,h⟩
def CQ_xs {τ:Type} {f:τ→V} {S:τ→St} (h:aA P G g xs st fun o s=>∃ x,o= .ret (f x)∧s=S x):dQ P G false g xs st K Kp=@cq (fB fun x=>K (f x) (S x)) ⟨dQ P G false g xs st K Kp⟩:=cq.of fun k=>by
 unfold dQ;exact ⟨_,h,(fun v s ⟨x,e,hs⟩=>by cases e;subst hs;exact k x),(fun v s ⟨_,e,_⟩=>by cases e)⟩
def retB {fn:Func} {R:Out→St→Prop} {fr:Fr} {st':St} {l:List V} {v:V} (B:List ec) (U:List (Nat×Nat×Nat)) (h0:st'.aj.take (st.aj.length+B.length)=st.aj++B∧st'.toks.take (st.toks.length+U.length)=st.toks++U)
  (hB:B.all (fun X=>X.within (st.aj.length+B.length) (st.toks.length+U.length))=true) (h:eT P fr st' fn.results.toList=some l∧eD l=v∧v.within (st.aj.length+B.length) (st.toks.length+U.length)=true) (hR:R (.ret v) ⟨st.aj++B,st.toks++U⟩):Abs.bodyN P fn st R .ret fr st':=by
 obtain ⟨h1,rfl,h2⟩:=h
 unfold Abs.bodyN
 refine ⟨st.aj.length+B.length,st.toks.length+U.length,⟨by omega,by omega,fun b X hb hX=>?_⟩,l,h1,h2,?_⟩
 ·have hX:(st.aj++B)[b]?=some X:=by rw [←h0.1,aa7 hb];exact hX
  by_cases h3:b<st.aj.length
  ·exact .inl (by rwa [aaz h3] at hX)
  ·rw [aay (by omega)] at hX
   exact .inr (aaE.1 hB X (aaR hX))
 ·simp only [St.cut,h0.1,h0.2];exact hR
def thenQ_rd {K:Fr→St→Prop} {Q:AX→Fr→St→Prop} {fr:Fr} (h: @cB ⟨K⟩ fr st):bz K Q .normal fr st:=by unfold cB at h;exact h
section
variable {n:NDs} {aC gD:St} {Q:AX→Fr→St→Prop} {fr:Fr} {x y z:Code}
def AW.toF (l:List (Nat×V)) (h:AW P G n aC x Q (jO l) st) (hl:okF fr l):AW P G n aC x Q fr st:=AW.prune (jO l) (eG hl) h
def AW.seqF (l:List (Nat×V)) (gD:St) (h:∀ K:Fr→St→Prop,(∀ fr,okF fr l→K fr gD)→AW P G n aC x (bz K Q) fr st) (k:AW P G n aC y Q (jO l) gD):AW P G n aC (.seq x y) Q fr st:=
 AW.seq (h _ fun _ hl=>k.toF l hl)
def splC:Nat→Code→Option (Code×Code)
 |0,_=>none
 |1,.seq x y=>some (x,y)
 |k+2,.seq x y=>(splC (k+1) y).map fun z=>(.seq x z.1,z.2)
 |_,_=>none
theorem AW.cutW:∀ (k:Nat) {c p r:Code} {Q:AX→Fr→St→Prop} {fr:Fr} {st:St} {K:Fr→St→Prop},splC k c=some (p,r)→(∀ fr st,K fr st→AW P G n aC r Q fr st)→SW P G n aC p (bz K Q) fr st→AW P G n aC c Q fr st
 |0,_,_,_,_,_,_,_,h,_,_=>by simp [splC] at h
 |1,.seq x y,p,r,Q,fr,st,K,h,hr,hp=>by
  simp only [splC,aal,aaq] at h;obtain ⟨rfl,rfl⟩:=h;exact AW.seq ((SW.sound x hp).mono fun e fr st hq=>by
   cases e with
   |normal=>exact hr _ _ hq
   |_=>exact hq)
 |k+2,.seq x y,p,r,Q,fr,st,K,h,hr,hp=>by
  simp only [splC] at h;obtain ⟨z,hz,e⟩:=aaF.1 h;simp only [aaq] at e;obtain ⟨rfl,rfl⟩:=e;rw [Ig] at hp;exact AW.seq ((SW.sound x hp).mono fun e fr st hq=>by
   cases e with
   |normal=>exact AW.cutW (k+1) hz hr hq
   |_=>exact hq)
def AW.cutN (k:Nat) {c p r:Code} (hc:splC k c=some (p,r)) (h:∀ K:Fr→St→Prop,(∀ fr st,AW P G n aC r Q fr st→K fr st)→∀ Q',Q'=bz K Q→ @SB P G n aC ⟨p⟩ Q' fr st):AW P G n aC c Q fr st:=
 AW.cutW k hc (fun _ _ h=>h) (by have:=h (AW P G n aC r Q) (fun _ _ h=>h) _ rfl;unfold SB at this;exact this)
def AW.cutE (k:Nat) {τ:Type} (p:τ→Prop) (σ:τ→List (Nat×V)) (S:τ→St) {c x y:Code} (hc:splC k c=some (x,y)) (h:∀ K:Fr→St→Prop,(∀ i fr,p i→okF fr (σ i)→K fr (S i))→∀ Q',Q'=bz K Q→ @SB P G n aC ⟨x⟩ Q' fr st) (kk:∀ i,p i→AW P G n aC y Q (jO (σ i)) (S i)):AW P G n aC c Q fr st:=
 AW.cutW k hc (fun _ _ h=>h) (by have:=h _ (fun i _ hp hl=>(kk i hp).toF _ hl) _ rfl;unfold SB at this;exact this)
def AW.ifB (l:List (Nat×V)) (S:St) {t:Nat} {x A B:Code} (ht:jO l t= .aU) (h:∀ K:Fr→St→Prop,(∀ b fr,okF fr ((t,.d (.bool b))::l)→K fr S)→∀ Q',Q'=bz K Q→ @SB P G n aC ⟨x⟩ Q' fr st)
  (hT:AW P G n aC A Q (jO l) S) (hF:AW P G n aC B Q (jO l) S):AW P G n aC (.seq x (.cond (.tmp t) A B)) Q fr st:=
 AW.cutE 1 (fun _:Bool=>True) (fun b=>(t,.d (.bool b))::l) (fun _=>S) rfl (fun K hK=>h K fun b fr=>hK b fr trivial) fun b _=>by
  have hw:∀ y:Code,AW P G n aC y Q (jO l) S→AW P G n aC y Q (jO ((t,.d (.bool b))::l)) S:=fun y hy=>AW.prune (jO l) (fun i=>by
   rw [EI];split
   ·rename_i e;exact .inr (e▸ht)
   ·exact .inl rfl) hy
  cases b
  ·exact AW.condF (by simp [ev,jO]) (hw _ hF)
  ·exact AW.condT (by simp [ev,jO]) (hw _ hT)
end
end
end Go.Abs
end
section
set_option maxHeartbeats 8000000
set_option maxRecDepth 20000
namespace Go.Proofs.YtbcillkajdnljaaGreatDoor
open Tryz
open Go.Abs Go.RowKit
variable {G:World→Nat→Prop}
def xC (a b:aF):b8 G 293 [vs a,vs b] (vb (decide (b<+:a))):=by
 intro st;refine aA.start func293 rfl ntmps293 (by simp) fun _ ag=>?_;simp (disch:=first|exact ⟨by kernel_rfl⟩|omega) only [go_sem,seval,cX ag,wd];(repeat' first|apply cq.l|apply bg.i|refine cE.i fun hc=>?_|refine aQ.i ⟨?_,rfl⟩)<;>try subst ag
 ·refine aO ?_;rw [aau,aau,List.prefix_iff_eq_take];exact eq_comm
 ·refine aO ?_;simp only [aa3,false_iff,aau];exact fun h=>hc h.length_le
def Ad (a b:aF):b8 G 207 [vs a,vs b] (vb (decide (b<+:a))):=by
 intro st;refine aA.start func207 rfl ntmps207 (by simp) fun _ ag=>?_;simp (disch:=first|exact ⟨by kernel_rfl⟩|omega) only [go_sem,seval,cX ag,wd,bC (xC a b _)];(repeat' first|apply cq.l|refine aQ.i ⟨?_,rfl⟩)<;>try subst ag
 rfl
end Go.Proofs.YtbcillkajdnljaaGreatDoor
end
section
set_option maxHeartbeats 8000000
set_option maxRecDepth 20000
namespace Go.Proofs.YtbcillkajdnljaaGreatDoor
open Tryz
open Go.Abs
attribute [local irreducible] AW OX GQ bK bO bz aY aA
variable {G:World→Nat→Prop}
def lastF (s:aF) (b:UInt8):Nat→Int
 |0=> -1
 |n+1=>if s.getD n 0=b then n else lastF s b n
def st_Last (s:aF) (hl:s.length≤1099511627776):b8 G 93 [vs s,.d (.int .u8 47)] (ai (lastF s 47 s.length)):=by
 intro st;have hx:b8 G 141 [vs s,.d (.int .u8 47)] (ai (lastF s 47 s.length)):=by
  intro st;refine aA.start func141 rfl ntmps141 (by simp) fun _ ag=>?_;simp (disch:=omega) only [go_sem,seval,cX ag];all_goals (try subst ag)
  refine AW.zU (fun i:Nat=>[(0,vs s),(1,.d (.int .u8 47)),(5,ai (↑i - 1))]) (fun _=>[]) (fun _=>[]) (fun i=>i≤s.length∧lastF s 47 i=lastF s 47 s.length) (fun i=>i) s.length ⟨by simp,by simp (disch:=first|omega|(simp only [go_sem,aan,aar];try omega)) only [go_sem,seval]⟩ (by simp) ?_;intro i ⟨hi,g1⟩;cases i with
  |zero=>
   refine Wk.go fun _ ag=>?_;simp (disch:=omega) only [go_sem,seval,cX ag];(repeat' first|apply cq.l|refine aQ.i ⟨?_,rfl⟩)<;>try subst ag
   refine bA ?_;rw [lastF] at g1;exact g1
  |succ i=>
   rw [lastF] at g1
   have e:(((i+1:Nat):Int) - 1)=(i:Int):=by omega
   simp only [e]
   refine Wk.go fun _ ag=>?_;simp (disch:=omega) only [go_sem,seval,cX ag];(repeat' first|apply cq.l|apply bg.i|refine cE.i fun hc=>?_|refine aQ.i ⟨?_,rfl⟩)<;>try subst ag
   ·rw [if_pos (UInt8.toNat_inj.1 (show (s.getD i 0).toNat=47 by omega))] at g1
    refine bA ?_;exact g1
   ·rw [if_neg (fun h=>hc (by rw [h];rfl))] at g1
    refine cB.i ⟨i,⟨by simp (disch:=omega) only [go_sem,seval]<;>omega,?_,?_⟩⟩
    ·exact ⟨by omega,g1⟩
    ·omega
 refine aA.start func93 rfl ntmps93 (by simp) fun _ ag=>?_;simp (disch:=omega) only [go_sem,seval,cX ag,bC (hx _)];(repeat' first|apply cq.l|refine aQ.i ⟨?_,rfl⟩)<;>try subst ag
 rfl
def l_Great19 (p:Pln) (g:gPln p) (st:St):Ly prog G 12 [vPln p] st vb:=by
 have h1:=g.jobs.1;unfold Ly;refine aA.start func12 rfl ntmps12 (by simp) fun _ ag=>?_;simp (disch:=omega) only [go_sem,seval,cX ag];(repeat' first|apply cq.l|apply bg.i|refine cE.i fun hc=>?_|refine aQ.i ⟨?_,rfl⟩)<;>try subst ag
 all_goals first|exact ⟨_,rfl⟩|skip
 refine AW.zU (fun i:Nat=>[(1,.ptr st.aj.length 0),(3,ai ↑i)]) (fun _=>[.cells (p.enc.map .d)]) (fun _=>[]) (fun i=>i≤p.jobs.length) (fun i=>p.jobs.length - i) 0 ⟨by simp,by simp (disch:=first|omega|(simp only [go_sem,aan,aar];try omega)) only [go_sem,seval]⟩ (by simp) ?_;intro i hi;by_cases hil:i<p.jobs.length
 ·have hj:=g.jobs.2 _ (aB hil);generalize p.jobs.getD i default=j at hj;have j1:=hj.id;have j2:=hj.n8.1;have j3:=hj.vars.1;have j4:=hj.steps.1;have j5:=hj.labels.1;have j6:=hj.group;have j7:=hj.retry.classes.1;have j8:=hj.gP.1;have j9:=hj.uses.1;have j10:=hj.e6.1;have j11:=hj.caches.1;have j12:=hj.secrets.1;have j13:=hj.aah;have j14:=hj.gate.xF.1;have j15:=hj.tests.1;refine Wk.go fun _ ag=>?_;simp (disch:=omega) only [go_sem,seval,cX ag];(repeat' first|apply cq.l|apply bg.i|refine cE.i fun hc=>?_|refine aQ.i ⟨?_,rfl⟩)<;>try subst ag
  ·exact ⟨_,rfl⟩
  ·refine cB.i ⟨i+1,⟨by simp (disch:=omega) only [go_sem,seval]<;>omega,?_,?_⟩⟩
   all_goals omega
 ·refine Wk.go fun _ ag=>?_;simp (disch:=omega) only [go_sem,seval,cX ag];(repeat' first|apply cq.l|refine cE.i fun hc=>?_|refine aQ.i ⟨?_,rfl⟩)<;>try subst ag
  all_goals exact ⟨_,rfl⟩
def withinF (n lo hi:Int):Bool:=decide (lo≤n)&&decide (n≤hi)
def cm_within (n lo hi:Int):b8 G 88 [ai n,ai lo,ai hi] (vb (withinF n lo hi)):=by
 intro st;refine aA.start func88 rfl ntmps88 (by simp) fun _ ag=>?_;simp (disch:=first|exact ⟨by kernel_rfl⟩|omega) only [go_sem,seval,cX ag,wd];(repeat' first|apply cq.l|apply bg.i|refine cE.i fun hc=>?_|refine aQ.i ⟨?_,rfl⟩)<;>try subst ag
 all_goals
  refine pI ?_
  rw [abk]
  simp only [withinF,aas,aau,aa3,false_iff]
  omega
def ixNot (p:aF→Bool):Nat→List aF→Int
 |_,[]=> -1
 |i,s::r=>if p s=true then ixNot p (i+1) r else i
def ixNot_at (p:aF→Bool) (l:List aF) (i:Nat):ixNot p i (l.drop i)=if i<l.length then (if p (l.getD i default)=true then ixNot p (i+1) (l.drop (i+1)) else i) else -1:=by
 by_cases h:i<l.length
 ·conv=>lhs;rw [aaT h]
  rw [if_pos h,getD_eq h,ixNot]
 ·rw [aa0 (by omega),if_neg h,ixNot]
theorem ixNot_all (p:aF→Bool):∀ (l:List aF) (i:Nat),decide (0≤ixNot p i l)= !l.all p
 |[],_=>rfl
 |s::r,i=>by
  rw [ixNot,List.all_cons];cases h:p s
  ·simp
  ·simp only [if_true,Bool.true_and];exact ixNot_all p r (i+1)
def HasOK (G:World→Nat→Prop) (g:FuncId) (p:aF→Bool) (l:List aF):Prop:=wQ prog g=true∧∀ s∈l,b8 G g [vs s] (vb (p s))
def cm_each1 (B R:List ec) (K:List (Nat×Nat×Nat)) (g:FuncId) (p:aF→Bool) (l:List aF) (hh:HasOK G g p l) (s:aF) (hs:s∈l):aA prog G 138 [vs s,.ptr B.length 0] ⟨B++(.cells [.jE g []]::R),K⟩
  (fun o st=>o= .ret (vb (!p s))∧st=⟨B++(.cells [.jE g []]::R),K⟩):=by
 have hc:=hh.2 s hs
 have he:=fun q:Prop=>ak (P:=prog) hh.1 q
 refine aA.start func138 rfl ntmps138 (by simp) fun _ ag=>?_
 simp (disch:=first|exact ⟨by kernel_rfl⟩|omega) only [go_sem,seval,cX ag,wd,bC (hc _),he];(repeat' first|apply cq.l|refine aQ.i ⟨?_,rfl⟩)<;>try subst ag
 rfl
def sl_IndexF (B R:List ec) (K:List (Nat×Nat×Nat)) (g:FuncId) (p:aF→Bool) (l:List aF) (hl:l.length≤1099511627776) (hh:HasOK G g p l):aA prog G 205 [vSs l,.jE 138 [.ptr B.length 0]] ⟨B++(.cells [.jE g []]::R),K⟩
  (fun o st=>o= .ret (ai (ixNot p 0 l))∧st=⟨B++(.cells [.jE g []]::R),K⟩):=by
 refine aA.start func205 rfl ntmps205 (by simp) fun _ ag=>?_
 simp only [go_sem,seval,cX ag];all_goals (try subst ag)
 refine AW.zU (fun i:Nat=>[(0,vSs l),(1,.jE 138 [.ptr B.length 0]),(7,ai ↑l.length),(8,ai ↑i)]) (fun _=>[]) (fun _=>[]) (fun i=>i≤l.length∧ixNot p i (l.drop i)=ixNot p 0 l) (fun i=>l.length - i) 0 ⟨by simp,by simp only [go_sem,seval]⟩ (by simp) ?_
 intro i ⟨hi,g1⟩
 rw [ixNot_at] at g1
 by_cases hil:i<l.length
 ·have hc:=cm_each1 (G:=G) B R K g p l hh (l.getD i default) (aB hil)
  cases h1:p (l.getD i default)<;>rw [h1] at hc g1
  all_goals
   simp only [aaM]
   refine Wk.go fun _ ag=>?_;simp (disch:=omega) only [go_sem,seval,cX ag,bC hc];(repeat' first|apply cq.l|refine cE.i fun hc=>?_|refine aQ.i ⟨?_,rfl⟩)<;>try subst ag
   all_goals first|(refine bA ?_;grind)|skip
  refine cB.i ⟨i+1,⟨by simp (disch:=omega) only [go_sem,seval]<;>omega,?_,?_⟩⟩
  ·exact ⟨by omega,by grind⟩
  ·omega
 ·refine Wk.go fun _ ag=>?_;simp (disch:=omega) only [go_sem,seval,cX ag];(repeat' first|apply cq.l|refine cE.i fun hc=>?_|refine aQ.i ⟨?_,rfl⟩)<;>try subst ag
  refine bA ?_;grind
def cm_each (g:FuncId) (p:aF→Bool) (l:List aF) (hs:∀ s∈l,s.length≤1048576) (hl:l.length≤1099511627776) (hh:HasOK G g p l):b8 G 89 [vSs l,.jE g []] (vb (ascF l 0 l&&l.all p)):=by
 intro st;have ha:=i_Ascending (G:=G) l hs hl;have hx:=sl_IndexF (G:=G) st.aj [] st.toks g p l hl hh;have hc:aA prog G 137 [vSs l,.jE 138 [.ptr st.aj.length 0]] ⟨st.aj++(.cells [.jE g []]::[]),st.toks⟩
   (fun o s=>o= .ret (vb (!l.all p))∧s=⟨st.aj++(.cells [.jE g []]::[]),st.toks⟩):=by
  have e:=ixNot_all p l 0
  refine aA.start func137 rfl ntmps137 (by simp) fun _ ag=>?_
  simp only [go_sem,seval,cX ag,bC hx];(repeat' first|apply cq.l|refine aQ.i ⟨?_,rfl⟩)<;>try subst ag
  exact pI e
 cases h1:ascF l 0 l
 ·rw [h1] at ha;refine aA.start func89 rfl ntmps89 (by simp) fun _ ag=>?_;simp (disch:=first|exact ⟨by kernel_rfl⟩|omega) only [go_sem,seval,cX ag,wd,bC (ha _)];(repeat' first|apply cq.l|refine aQ.i ⟨?_,rfl⟩)<;>try subst ag
  rfl
 ·rw [h1] at ha;refine aA.start func89 rfl ntmps89 (by simp) fun _ ag=>?_;simp (disch:=first|exact ⟨by kernel_rfl⟩|omega) only [go_sem,seval,cX ag,wd,bC (ha _),bC hc];(repeat' first|apply cq.l|refine aQ.i ⟨?_,rfl⟩)<;>try subst ag
  refine pI ?_;simp
def labB (s:aF):Bool:=withinF s.length 1 64
def cm_labels1 (s:aF):b8 G 90 [vs s] (vb (labB s)):=by
 intro st;have h:=cm_within (G:=G) s.length 1 64;refine aA.start func90 rfl ntmps90 (by simp) fun _ ag=>?_;simp only [go_sem,seval,cX ag,bC (h _)];(repeat' first|apply cq.l|refine aQ.i ⟨?_,rfl⟩)<;>try subst ag
 rfl
def has_lab (l:List aF):HasOK G 90 labB l:=⟨by kernel_rfl,fun s _=>cm_labels1 s⟩
def has_name (l:List aF) (h:∀ s∈l,s.length≤1048576):HasOK G 32 identF l:=⟨by kernel_rfl,fun s hs=>i_Name s (by have:=h s hs;omega)⟩
def has_path (hg:GM G) (l:List aF) (h:∀ s∈l,s.length≤1048576):HasOK G 82 pathF l:=⟨by kernel_rfl,fun s hs=>cm_path hg s (h s hs)⟩
def ixEq (x:aF):Nat→List aF→Int
 |_,[]=> -1
 |i,s::r=>if x=s then i else ixEq x (i+1) r
def ixEq_at (x:aF) (l:List aF) (i:Nat):ixEq x i (l.drop i)=if i<l.length then (if x=l.getD i default then (i:Int) else ixEq x (i+1) (l.drop (i+1))) else -1:=by
 by_cases h:i<l.length
 ·conv=>lhs;rw [aaT h]
  rw [if_pos h,getD_eq h,ixEq]
 ·rw [aa0 (by omega),if_neg h,ixEq]
def sl_Contains (l:List aF) (x:aF) (hl:l.length≤1099511627776):b8 G 94 [vSs l,vs x] (vb (decide (0≤ixEq x 0 l))):=by
 intro st;have hx:b8 G 142 [vSs l,vs x] (ai (ixEq x 0 l)):=by
  intro st;refine aA.start func142 rfl ntmps142 (by simp) fun _ ag=>?_;simp only [go_sem,seval,cX ag];all_goals (try subst ag)
  refine AW.zU (fun i:Nat=>[(0,vSs l),(1,vs x),(7,ai ↑l.length),(8,ai ↑i)]) (fun _=>[]) (fun _=>[]) (fun i=>i≤l.length∧ixEq x i (l.drop i)=ixEq x 0 l) (fun i=>l.length - i) 0 ⟨by simp,by simp only [go_sem,seval]⟩ (by simp) ?_;intro i ⟨hi,g1⟩;rw [ixEq_at] at g1;refine Wk.go fun _ ag=>?_;simp (disch:=omega) only [go_sem,seval,cX ag];(repeat' first|apply cq.l|apply bg.i|refine cE.i fun hc=>?_|refine aQ.i ⟨?_,rfl⟩)<;>try subst ag
  all_goals first|(refine bA ?_;grind)|skip
  refine cB.i ⟨i+1,⟨by simp (disch:=omega) only [go_sem,seval]<;>omega,?_,?_⟩⟩
  ·exact ⟨by omega,by grind⟩
  ·omega
 refine aA.start func94 rfl ntmps94 (by simp) fun _ ag=>?_;simp only [go_sem,seval,cX ag,bC (hx _)];(repeat' first|apply cq.l|refine aQ.i ⟨?_,rfl⟩)<;>try subst ag
 rfl
abbrev vCk (l:List Jb) (b:Nat):V:= .agg [.d (.sl (l.map Jb.enc)),.mp b]
def lookX_ix (z:V) (o:Option Nat):vq true (some z) (o.map fun i:Nat=>D.int .i64 (i:Int))=some (.cF [match o with|some i=>ai ↑i|none=>z,vb o.isSome]):=by cases o<;>rfl
def cm_names (hg:GM G) (st:St) (b n:Nat) (q:aF→Option Nat) (hB:st.aj[b]?=some (.mp .str n (ixM q))) (l:List Jb) (j:Jb) (gj:gJb j):
  Ly prog G 56 [vCk l b,vJb j] st (fun x:{ x:Int // x=0→q j.id=none }=>ai x.1):=by
 have hp:=cm_path (G:=G) hg j.id gj.id
 have ha:=i_Ascending (G:=G) j.n8 gj.n8.2 (by have:=gj.n8.1;omega)
 have hi:=gj.id
 unfold Ly
 refine aA.start func56 rfl ntmps56 (by simp) fun _ ag=>?_
 simp (disch:=omega) only [go_sem,seval,cX ag,bC (hp _),bC (ha _),JD,JE,ixM_s,lookX_ix,fU hB];(repeat' first|apply cq.l|apply bg.i|refine cE.i fun hc=>?_|refine aQ.i ⟨?_,rfl⟩)<;>try subst ag
 all_goals first|exact ⟨⟨_,fun h=>absurd h (by decide)⟩,rfl⟩|skip
 have hid:q j.id=none:=by
  cases hq:q j.id with
  |none=>rfl
  |some k=>exfalso;simp_all
 refine AW.zU (fun i:Nat=>[(2,.ptr st.aj.length 0),(29,vSs j.n8),(30,ai ↑j.n8.length),(31,ai ↑i)]) (fun _=>[.cells [.d (.sl (l.map Jb.enc)),.mp b],.cells (j.enc.map .d)]) (fun _=>[]) (fun i=>i≤j.n8.length) (fun i=>j.n8.length - i) 0 ⟨by simp,by simp (disch:=omega) only [go_sem,seval]⟩ (by simp) ?_
 intro i hi
 have hbl:=(aao.1 hB).1
 have hnl:=gj.n8.1
 have hn:=fun h:i<j.n8.length=>gj.n8.2 _ (aB h)
 refine Wk.go fun _ ag=>?_;simp (disch:=omega) only [go_sem,seval,cX ag,JD,JE,ixM_s,lookX_ix,fU hB];(repeat' first|apply cq.l|apply bg.i|refine cE.i fun hc=>?_|refine aQ.i ⟨?_,rfl⟩)<;>try subst ag
 all_goals first|exact ⟨⟨_,fun h=>absurd h (by decide)⟩,rfl⟩|exact ⟨⟨_,fun _=>hid⟩,rfl⟩|skip
 cases hq:q (j.n8.getD i default)
 ·rw [hq] at hc;cases hc
 refine cB.i ⟨i+1,⟨by simp (disch:=omega) only [go_sem,seval,hq]<;>omega,?_,?_⟩⟩
 all_goals omega
def cm_labels (st:St) (b n:Nat) (q:aF→Option Nat) (hB:st.aj[b]?=some (.mp .str n (ixM q))) (l:List Jb) (j:Jb) (gj:gJb j):Ly prog G 59 [vCk l b,vJb j] st ai:=by
 have ha:=i_Ascending (G:=G) j.labels gj.labels.2 (by have:=gj.labels.1;omega);have he:=cm_each (G:=G) _ _ j.labels gj.labels.2 (by have:=gj.labels.1;omega) (has_lab j.labels);unfold Ly;refine aA.start func59 rfl ntmps59 (by simp) fun _ ag=>?_;simp (disch:=omega) only [go_sem,seval,cX ag,bC (ha _),bC (he _)];(repeat' first|apply cq.l|apply bg.i|refine cE.i fun hc=>?_|refine aQ.i ⟨?_,rfl⟩)<;>try subst ag
 all_goals exact ⟨_,rfl⟩
def cm_steps (st:St) (b n:Nat) (q:aF→Option Nat) (hB:st.aj[b]?=some (.mp .str n (ixM q))) (l:List Jb) (j:Jb) (gj:gJb j):Ly prog G 58 [vCk l b,vJb j] st ai:=by
 unfold Ly;refine aA.start func58 rfl ntmps58 (by simp) fun _ ag=>?_;simp (disch:=omega) only [go_sem,seval,cX ag];(repeat' first|apply cq.l|apply bg.i|refine cE.i fun hc=>?_|refine aQ.i ⟨?_,rfl⟩)<;>try subst ag
 all_goals first|exact ⟨_,rfl⟩|skip
 refine AW.zU (fun i:Nat=>[(3,.ptr (st.aj.length+1) 0),(12,.d (.sl (j.steps.map Stp.enc))),(13,ai ↑j.steps.length),(14,ai ↑i)]) (fun _=>[.cells [.d (.sl (l.map Jb.enc)),.mp b],.cells (j.enc.map .d)]) (fun _=>[]) (fun i=>i≤j.steps.length) (fun i=>j.steps.length - i) 0 ⟨by simp,by simp only [go_sem,seval]⟩ (by simp) ?_;intro i hi;have hbl:=(aao.1 hB).1;have h1:=cm_within (G:=G) (j.steps.getD i default).op 1 11;have h2:=cm_within (G:=G) (j.steps.getD i default).n 0 1125899906842624;refine Wk.go fun _ ag=>?_;simp (config := { maxSteps := 1000000 }) -implicitDefEqProofs (disch:=first|omega|exact ⟨by kernel_rfl⟩|(simp only [go_sem,aan];try omega)) only [go_sem,seval,cX ag,wd,bC (h1 _),bC (h2 _)];(repeat' first|apply cq.l|apply bg.i|refine cE.i fun hc=>?_|refine aQ.i ⟨?_,rfl⟩)<;>try subst ag
 all_goals first|exact ⟨_,rfl⟩|skip
 all_goals
  refine cB.i ⟨i+1,⟨by simp only [go_sem,seval]<;>omega,?_,?_⟩⟩
  all_goals omega
def cm_numbers (hg:GM G) (st:St) (b n:Nat) (q:aF→Option Nat) (hB:st.aj[b]?=some (.mp .str n (ixM q))) (l:List Jb) (j:Jb) (gj:gJb j):Ly prog G 60 [vCk l b,vJb j] st ai:=by
 have hp:=cm_path (G:=G) hg j.group gj.group;have hw:=fun a b c=>cm_within (G:=G) a b c;unfold Ly;refine aA.body func60 rfl ntmps60 (by simp) ?_;refine AW.seqF [(3,.ptr (st.aj.length+1) 0)] ⟨st.aj++[.cells [.d (.sl (l.map Jb.enc)),.mp b],.cells (j.enc.map .d)],st.toks⟩ (fun K hK=>?_) ?_
 ·refine Wk.go fun _ ag=>?_;simp only [go_sem,seval,cX ag];(repeat' apply cq.l)<;>try subst ag
  exact cB.i (hK _ (by simp only [go_sem,seval]))
 refine AW.seqF [(3,.ptr (st.aj.length+1) 0)] ⟨st.aj++[.cells [.d (.sl (l.map Jb.enc)),.mp b],.cells (j.enc.map .d)],st.toks⟩ (fun K hK=>?_) ?_
 ·refine Wk.go fun _ ag=>?_;simp (disch:=omega) only [go_sem,seval,cX ag,bC (hp _),bC (hw _ _ _ _)];(repeat' first|apply cq.l|apply bg.i|refine cE.i fun hc=>?_|refine aQ.i ⟨?_,rfl⟩)<;>try subst ag
  all_goals first|exact ⟨_,rfl⟩|exact cB.i (hK _ (by simp only [go_sem,seval]))
 refine AW.seqF [(3,.ptr (st.aj.length+1) 0)] ⟨st.aj++[.cells [.d (.sl (l.map Jb.enc)),.mp b],.cells (j.enc.map .d)],st.toks⟩ (fun K hK=>?_) ?_
 ·refine Wk.go fun _ ag=>?_;simp (disch:=omega) only [go_sem,seval,cX ag,bC (hp _),bC (hw _ _ _ _)];(repeat' first|apply cq.l|apply bg.i|refine cE.i fun hc=>?_|refine aQ.i ⟨?_,rfl⟩)<;>try subst ag
  all_goals first|exact ⟨_,rfl⟩|exact cB.i (hK _ (by simp only [go_sem,seval]))
 refine AW.seqF [(3,.ptr (st.aj.length+1) 0)] ⟨st.aj++[.cells [.d (.sl (l.map Jb.enc)),.mp b],.cells (j.enc.map .d)],st.toks⟩ (fun K hK=>?_) ?_
 ·refine Wk.go fun _ ag=>?_;simp (disch:=omega) only [go_sem,seval,cX ag,bC (hp _),bC (hw _ _ _ _)];(repeat' first|apply cq.l|apply bg.i|refine cE.i fun hc=>?_|refine aQ.i ⟨?_,rfl⟩)<;>try subst ag
  all_goals first|exact ⟨_,rfl⟩|exact cB.i (hK _ (by simp only [go_sem,seval]))
 refine Wk.go fun _ ag=>?_;simp only [go_sem,seval,cX ag];all_goals (try subst ag)
 refine AW.zU (fun i:Nat=>[(3,.ptr (st.aj.length+1) 0),(59,.d (.sl (n7 j.retry.classes))),(60,ai ↑j.retry.classes.length),(61,ai ↑i)]) (fun _=>[.cells [.d (.sl (l.map Jb.enc)),.mp b],.cells (j.enc.map .d)]) (fun _=>[]) (fun i=>i≤j.retry.classes.length) (fun i=>j.retry.classes.length - i) 0 ⟨by simp,by simp only [go_sem,seval]⟩ (by simp) ?_;intro i hi;have hbl:=(aao.1 hB).1;have hcl:=gj.retry.classes.1;refine Wk.go fun _ ag=>?_;simp (disch:=omega) only [go_sem,seval,cX ag,bC (hw _ _ _ _)];(repeat' first|apply cq.l|apply bg.i|refine cE.i fun hc=>?_|refine aQ.i ⟨?_,rfl⟩)<;>try subst ag
 all_goals first|exact ⟨_,rfl⟩|skip
 all_goals
  refine cB.i ⟨i+1,⟨by simp (disch:=omega) only [go_sem,seval]<;>omega,?_,?_⟩⟩
  all_goals omega
def declsF (l:List Vr):List Dc:=l.map fun x=>(x.name,tyOf x.value)
def declsF_snoc (l:List Vr) (x:Vr):declsF (l++[x])=declsF l++[(x.name,tyOf x.value)]:=by simp [declsF]
def dcD_fold (a:aF) (t:Ty):D.str a::t.enc=dcD (a,t):=(rfl)
def app_d1 (B:List ec) (K:List (Nat×Nat×Nat)) (x:List Dc) (d:Dc) (hx:x.length≤1048576):
  jt (some 3) true true 179 3 48 [dcD d] (lz K.length (x.map dcD)) ⟨B,K++k9 179 3 (x.map dcD)⟩=some (lz K.length ((x++[d]).map dcD),⟨B,K++k9 179 3 ((x++[d]).map dcD)⟩):=by
 rw [CZ _ _ _ _ _ _ _ (by omega) (by simp) (by simp;omega) (by simp;omega),aaQ];rfl
def cm_vars (st:St) (b n:Nat) (q:aF→Option Nat) (hB:st.aj[b]?=some (.mp .str n (ixM q))) (l:List Jb) (j:Jb) (sj:sJb j):Ly prog G 57 [vCk l b,vJb j] st ai:=by
 have gj:=sj.g;have hvl:=gj.vars.1;have hbl:=(aao.1 hB).1;have hv:=ev_Env (G:=G) j.vars (by omega) (fun d hd=>⟨(gj.vars.2 d hd).name,(gj.vars.2 d hd).value.fit,sj.v d hd⟩);have hp:=mL (G:=G) j.when gj.when sj.e;have hck:=cn_Check (G:=G) j.when (declsF j.vars) (by simpa [declsF] using hvl) (by simpa [declsF] using fun d hd=>(gj.vars.2 d hd).name) gj.when.1 gj.when.2 sj.e;unfold Ly;refine aA.start func57 rfl ntmps57 (by simp) fun _ ag=>?_;simp (disch:=omega) only [go_sem,seval,cX ag,bC (hv _),bC (hp _)];(repeat' first|apply cq.l|apply bg.i|refine cE.i fun hc=>?_|refine aQ.i ⟨?_,rfl⟩)<;>try subst ag
 all_goals first|exact ⟨_,rfl⟩|skip
 refine AW.zU (fun i:Nat=>[(3,.ptr (st.aj.length+1) 0),(7,lz st.toks.length ((declsF (j.vars.take i)).map dcD)),(23,.d (.sl (j.vars.map Vr.enc))),(24,ai ↑j.vars.length),(25,ai ↑i)]) (fun _=>[.cells [.d (.sl (l.map Jb.enc)),.mp b],.cells (j.enc.map .d)]) (fun i=>k9 179 3 ((declsF (j.vars.take i)).map dcD)) (fun i=>i≤j.vars.length) (fun i=>j.vars.length - i) 0 ⟨by simp [declsF,k9],by simp only [go_sem,seval,declsF,List.take_zero,aaI,lz]⟩ (by simp) ?_;intro i hi;by_cases hil:i<j.vars.length
 ·have hm:=aB hil;have hT:=t_Of (G:=G) (j.vars.getD i default).value (gj.vars.2 _ hm).value.fit (sj.v _ hm);have hs:declsF (j.vars.take (i+1))=declsF (j.vars.take i)++[((j.vars.getD i default).name,tyOf (j.vars.getD i default).value)]:=by rw [take_snoc hil,declsF_snoc]
  have hdl:(declsF (j.vars.take i)).length≤1048576:=by simp [declsF];omega
  refine Wk.go fun _ ag=>?_;simp (disch:=first|exact ⟨by kernel_rfl⟩|omega) only [go_sem,seval,cX ag,wd,bC (hT _),dc_one,dcD_fold,app_d1,hdl];(repeat' first|apply cq.l|refine cE.i fun hc=>?_)<;>try subst ag
  refine cB.i ⟨i+1,⟨by simp only [go_sem,seval,hs]<;>omega,?_,?_⟩⟩
  all_goals omega
 ·obtain rfl:i=j.vars.length:=by omega
  rw [aaD];refine Wk.go fun _ ag=>?_;simp (disch:=omega) only [go_sem,seval,cX ag,bC (hck _)];(repeat' first|apply cq.l|refine cE.i fun hc=>?_|refine aQ.i ⟨?_,rfl⟩)<;>try subst ag
  all_goals exact ⟨_,rfl⟩
def gchF (s:aF):Nat×Nat:=
 if s=[] then (0,0) else if (s.getD 0 0).toNat=93∨(s.getD 0 0).toNat=45 then (0,0) else if (s.getD 0 0).toNat≠92 then ((s.getD 0 0).toNat,1)
 else if s.length<2 then (0,0) else ((s.getD 1 0).toNat,2)
def g_char (s:aF) (hs:s.length≤1099511627776):b8 G 376 [vs s] (.cF [.d (.int .u8 ↑(gchF s).1),ai ↑(gchF s).2]):=by
 intro st;by_cases h0:s=[]
 ·subst h0;refine aA.start func376 rfl ntmps376 (by simp) fun _ ag=>?_;simp only [go_sem,seval,cX ag];(repeat' first|apply cq.l|refine aQ.i ⟨?_,rfl⟩)<;>try subst ag
  all_goals rfl
 ·have hl:0<s.length:=abP.2 h0;refine aA.start func376 rfl ntmps376 (by simp) fun _ ag=>?_;simp (disch:=omega) only [go_sem,seval,cX ag,h0];(repeat' first|apply cq.l|apply bg.i|refine cE.i fun hc=>?_|refine aQ.i ⟨?_,rfl⟩)<;>try subst ag
  all_goals first
   |(rw [show gchF s=(0,0) from by simp only [gchF,if_neg h0];grind];rfl)
   |(rw [show gchF s=((s.getD 0 0).toNat,1) from by simp only [gchF,if_neg h0];grind];rfl)
   |(rw [show gchF s=((s.getD 1 0).toNat,2) from by simp only [gchF,if_neg h0];grind];rfl)
