import Derived.Test.YtbcillkajdnljaaGreatDoorV6
import Derived.Lib.AppendStr
import Derived.Maps.Keyed
import Derived.WideMake
set_option linter.all false
namespace Go.Abs
open Go.RowKit
variable {P:Program} {c:Ctx} {w:World} {st:St}
def lU (base:Nat) (t ty e:TypeId) (i:TypeInfo) (z:Value) (ht:P.underlying t=some (.slice e)) (hi:P.info? e=some i) (hz:i.zero=some z)
  (hzs:z.cells.size=i.size)
  (v:Value) (n:Nat) (xs:List Value) (hown:w.ownsRow base e i.size v n xs)
  (a:Addr) (m cp:Nat) (news:List Value) (hl:news.length=m*i.size) (hnews:∀ j u,news[j]?=some u→w.cell? (a.add j)=some u) (h1:∀ u∈news,u.oneCell'=true)
  (hm:0<m) (h63:n+m≤maxLen) (hbytes:(n+m)*i.bytes≤140737488355328) (hbase:base≤w.heap.size):
  ∃ w' row g cap,(Builtin.append_ #[t,t] ty #[v,.slice (some a) m cp]).run P w= .ok (.slice (some ⟨g,0,none⟩) (n+m) cap) w'∧
   w'.ownsRow base e i.size (.slice (some ⟨g,0,none⟩) (n+m) cap) (n+m) (xs++news)∧w.grownBy w' row∧n+m≤cap∧
   ((row=none∧w.heap.size≤g)∨(row=some g∧v.ownBlock=some g)):=by
 have hsmall:n+m≤9223372036854775807:=by simp only [maxLen] at h63;omega
 have hlen:(xs++news).length=(n+m)*i.size:=by rw [aax,hown.1,hl,abd]
 have grown:∀ (old:Nat),old<n+m→
   (w.drew.alloc (.cells (xs.toArray++news.toArray++Builtin.zeroCells z.cells (grownCap w (n+m) old e - (n+m))) e)).ownsRow base e i.size
    (.slice (some ⟨w.heap.size,0,none⟩) (n+m) (grownCap w (n+m) old e)) (n+m) (xs++news)∧
   w.grownBy (w.drew.alloc (.cells (xs.toArray++news.toArray++Builtin.zeroCells z.cells (grownCap w (n+m) old e - (n+m))) e)) none∧n+m≤grownCap w (n+m) old e:=by
  intro old ho
  have hge:=grownCap_ge w (n+m) old e
  have hcm:grownCap w (n+m) old e≤maxLen:=grownCap_le_maxLen w (n+m) old e h63
  refine ⟨⟨hlen,.inr ⟨w.heap.size,_,_,rfl,hbase,heap_alloc_new w.drew _,hge,hcm,?_,?_⟩⟩,⟨rfl,rfl,rfl,by simp,fun k hk _=>heap_alloc_old w.drew _ hk⟩,hge⟩
  ·simp only [abN,aaW,size_zeroCells,hzs,hown.1,hl,←abd]
   congr 1
   omega
  ·simp only [Array.toList_append,aaG]
   rw [←aaG,←hlen]
   exact List.take_left
 rcases hown.2 with ⟨rfl,rfl⟩|⟨g,cap,cur,rfl,hbg,hg,hnc,hcm,hcs,htake⟩
 ·have hx:xs=[]:=abx (by simpa using hown.1)
  subst hx
  have hr:=run_append_nil (P:=P) w t ty e i z ht hi hz a m cp news hl hnews (by omega) (by omega) (by have hb:=hbytes;simp only [aaL] at hb;omega)
  have hgr:=grown 0 (by omega)
  simp only [aaL,aaN,Array.empty_append] at hgr ⊢
  exact ⟨_,none,_,_,hr,hgr.1,hgr.2.1,hgr.2.2,.inl ⟨rfl,aat _⟩⟩
 ·by_cases hroom:n+m≤cap
  ·have hfit:n*i.size+news.length≤cur.size:=by rw [hl,hcs,←abd];exact abp _ hroom
   have hr:=run_append_room (P:=P) w t ty e i ht hi g n cap cur hg a m cp news hl hnews h1 hroom hfit
   refine ⟨_,some g,_,_,hr,⟨hlen,.inr ⟨g,cap,_,rfl,hbg,setRow_heap w g cur _ e _ hg,hroom,hcm,?_,?_⟩⟩,⟨rfl,rfl,rfl,by simp,fun k _ hk=>setRow_other w g k _ (fun e=>hk (by simp [e]))⟩,hroom,.inr ⟨rfl,rfl⟩⟩
   ·simp only [aaW,aax,aan,aar,aaH]
    omega
   ·rw [htake,←hlen]
    exact List.take_left
  ·have holds:∀ j u,xs[j]?=some u→w.cell? ((⟨g,0,none⟩:Addr).add j)=some u:=hown.cells (g:=g) rfl
   have hr:=run_append_grow (P:=P) w t ty e i z ht hi hz ⟨g,0,none⟩ n cap xs hown.1 holds a m cp news hl hnews (by omega) (by omega) (growslice_fits (by omega) hbytes)
   have hgr:=grown cap (by omega)
   exact ⟨_,none,_,_,hr,hgr.1,hgr.2.1,hgr.2.2,.inl ⟨rfl,aat _⟩⟩
def Ctx.e9 (c:Ctx) (e:TypeId) (sz:Nat):Ctx:= { c with tok:=c.tok++[⟨.slice none 0 0,e,sz,0⟩] }
def Ext.e9 (c:Ctx) (e:TypeId) (sz:Nat):Ext c (c.e9 e sz):=
 ⟨fun _ _ _ h=>h,fun _ _ h=>h,fun _ t h=>⟨t,gV h,rfl,aat _,fun _=>rfl⟩,rfl,rfl⟩
def bf.e9 (h:bf c w st) (e:TypeId) {sz:Nat} (hsz:0<sz):bf (c.e9 e sz) w { st with toks:=st.toks++[(e,sz,0)] } where
 cN:=h.cN
 dH:=h.dH
 cI:=h.cI
 mS:=h.mS
 blk:=fun b k B hk hB=>let ⟨o,ho,hr⟩:=h.blk b k B hk hB;⟨o,ho,hr.mono (Ext.e9 c e sz)⟩
 cu:=by simp [Ctx.e9,h.cu]
 cz:=by
  intro id t ht;rcases bH ht with ht|⟨_,rfl⟩
  ·exact h.cz id t ht
  ·exact ⟨hsz,.inr ⟨[],World.ownsRow_nil w _ _ _,fun g hg=>by simp [Value.ownBlock] at hg⟩⟩
 cK:=by
  intro i j s t g hi hj hs ht;rcases bH hi with hi|⟨_,rfl⟩
  ·rcases bH hj with hj|⟨_,rfl⟩
   ·exact h.cK i j s t g hi hj hs ht
   ·simp [Value.ownBlock] at ht
  ·simp [Value.ownBlock] at hs
 cy:=h.cy
 below:=h.below
 cw:=h.cw
def Ctx.aai (c:Ctx) (v:Value) (e:TypeId) (sz:Nat):Ctx:= { c with tok:=c.tok++[⟨v,e,sz,0⟩] }
def Ext.aai (c:Ctx) (v:Value) (e:TypeId) (sz:Nat):Ext c (c.aai v e sz):=
 ⟨fun _ _ _ h=>h,fun _ _ h=>h,fun _ t h=>⟨t,gV h,rfl,aat _,fun _=>rfl⟩,rfl,rfl⟩
def bf.aai (h:bf c w st) (e:TypeId) {sz cap:Nat} (hsz:0<sz) {arr:Array Value} (hcap:cap≤maxLen) (ha:arr.size=cap*sz):
  bf (c.aai (.slice (some ⟨w.heap.size,0,none⟩) 0 cap) e sz) (w.alloc (.cells arr e)) { st with toks:=st.toks++[(e,sz,0)] } where
 cN:=h.cN
 dH:=h.dH
 cI:=h.cI
 mS:=h.mS
 blk:=fun b k B hk hB=>let ⟨o,ho,hr⟩:=h.blk b k B hk hB;⟨o,by rw [heap_alloc_old w _ (h.mult hk)];exact ho,hr.mono (Ext.aai c _ e sz)⟩
 cu:=by simp [Ctx.aai,h.cu]
 cz:=by
  intro id t ht;rcases bH ht with ht|⟨_,rfl⟩
  ·obtain ⟨h0,hd|⟨xs,ho,hg⟩⟩:=h.cz id t ht
   ·exact ⟨h0,.inl hd⟩
   ·exact ⟨h0,.inr ⟨xs,ho.alloc _,hg⟩⟩
  ·refine ⟨hsz,.inr ⟨[],World.ownsRow_made w _ cap h.cw hcap ha,fun g hg=>?_⟩⟩;simp only [Value.ownBlock,aal] at hg;subst hg;refine ⟨fun o ho=>by simp at ho,fun o _=>h.fresh (aat _) o,fun hm=>?_⟩;have hm:w.heap.size∈c.mu:=hm;obtain ⟨i,hi,e⟩:=aaY.1 hm;have:=h.mult (i:=i) (k:=w.heap.size) (by rw [aaw hi];exact congrArg some e);omega
 cK:=by
  intro i j s t g hi hj hs ht;have old:∀ {id:Nat} {t:Tok},c.tok[id]?=some t→t.val.ownBlock=some g→g<w.heap.size:=by
   intro id t ht hb;obtain ⟨h0,hd|⟨xs,ho,hg⟩⟩:=h.cz id t ht
   ·rw [hd.2] at hb;cases hb
   ·exact (ho.lt g hb).2
  rcases bH hi with hi|⟨hil,rfl⟩
  ·rcases bH hj with hj|⟨_,rfl⟩
   ·exact h.cK i j s t g hi hj hs ht
   ·simp only [Value.ownBlock,aal] at ht;have:=old hi hs;omega
  ·rcases bH hj with hj|⟨hjl,rfl⟩
   ·simp only [Value.ownBlock,aal] at hs;have:=old hj ht;omega
   ·omega
 cy:=by
  intro k o v hv;have:=h.cy k o v hv;by_cases hk:k=w.heap.size
  ·subst hk;have hn:c.H w.heap.size o=none:=h.fresh (aat _) o;rw [show c.H w.heap.size o=some v from hv] at hn;cases hn
  ·rw [←this];simp only [World.cell?,World.alloc,Array.getElem?_push];rw [if_neg hk]
 below:=h.below.alloc h.cw _
 cw:=by
  have:=h.cw;simp only [World.size_alloc,Ctx.aai];omega
def Ctx.cM (c:Ctx) (id:Nat) (t:Tok) (g len:Nat) (v:Value) (xs:List Value):Ctx:=
 { c with H:=fun k o=>if k=g∧o<len*t.sz then xs[o]? else c.H k o,tok:=c.tok.set id { t with val:=v,len:=len } }
def bf.cM (h:bf c w st) {id:Nat} {t:Tok} (ht:c.tok[id]?=some t) {old news:List Value} {w':World} {row:Option Nat} {g m cap:Nat}
  (hm:0<m) (hold:w.ownsRow c.base t.e t.sz t.val t.len old)
  (hown:w'.ownsRow c.base t.e t.sz (.slice (some ⟨g,0,none⟩) (t.len+m) cap) (t.len+m) (old++news)) (hgr:w.grownBy w' row)
  (hrow:(row=none∧w.heap.size≤g)∨(row=some g∧t.val.ownBlock=some g)):
  bf (c.cM id t g (t.len+m) (.slice (some ⟨g,0,none⟩) (t.len+m) cap) (old++news)) w' { st with toks:=st.toks.set id (t.e,t.sz,t.len+m) }∧
  Ext c (c.cM id t g (t.len+m) (.slice (some ⟨g,0,none⟩) (t.len+m) cap) (old++news)):=by
 have hid:id<c.tok.length:=(aao.1 ht).1
 obtain ⟨hsz0,hdd|⟨old',hold',hgg⟩⟩:=h.cz id t ht
 ·exfalso
  rcases hold.2 with ⟨_,hn⟩|⟨g1,cap1,cur1,hv,_,_,h1,h2,_⟩
  ·have:=hdd.1;simp only [maxLen] at this;omega
  ·have:=hdd.1;omega
 have hoo:old=old':=by
  rcases hold.2 with ⟨hv,hn⟩|⟨g1,cap1,cur1,hv,_,hg1,_,_,_,htk⟩
  ·have e1:old=[]:=abx (by rw [hold.1,hn];simp);have e2:old'=[]:=abx (by rw [hold'.1,hn];simp);rw [e1,e2]
  ·rcases hold'.2 with ⟨hv',_⟩|⟨g2,cap2,cur2,hv',_,hg2,_,_,_,htk'⟩
   ·rw [hv] at hv';simp at hv'
   ·rw [hv] at hv';simp at hv';obtain ⟨rfl,rfl⟩:=hv';rw [hg1] at hg2;simp at hg2;subst hg2;rw [←htk,←htk']
 subst hoo
 have hgbase:c.base≤g:=(hown.lt g rfl).1
 have hlen:(old++news).length=(t.len+m)*t.sz:=hown.1
 have hmul:(t.len+m)*t.sz=t.len*t.sz+m*t.sz:=abd _ _ _
 have hHg:∀ o v,c.H g o=some v→row=some g∧o<t.len*t.sz∧old[o]?=some v:=by
  intro o v hv;rcases hrow with ⟨_,hf⟩|⟨hr,ho⟩
  ·rw [h.fresh hf] at hv;simp at hv
  ·obtain ⟨h1,h2,_⟩:=hgg g ho;rcases abe o (t.len*t.sz) with hlt|hge
   ·exact ⟨hr,hlt,by rw [←h1 o hlt];exact hv⟩
   ·rw [h2 o hge] at hv;simp at hv
 have hother:∀ k,k<w.heap.size→k≠g→w'.heap[k]?=w.heap[k]?:=by
  intro k hk hne;refine hgr.block k hk fun e=>?_;rcases hrow with ⟨hr,_⟩|⟨hr,_⟩
  ·rw [hr] at e;simp at e
  ·rw [hr] at e;simp at e;exact hne e
 have hgmu:g ∉ c.mu:=by
  intro hmem;obtain ⟨i,hi⟩:=List.mem_iff_getElem?.1 hmem;rcases hrow with ⟨_,hf⟩|⟨_,ho⟩
  ·have:=h.mult hi;omega
  ·exact (hgg g ho).2.2 hmem
 have hgtok:∀ (j:Nat) (s:Tok),c.tok[j]?=some s→s.val.ownBlock=some g→j=id:=by
  intro j s hj hs;rcases hrow with ⟨_,hf⟩|⟨_,ho⟩
  ·have:=(h.BX hj hs).2;omega
  ·exact h.cK j id s t g hj ht hs ho
 have hext:Ext c (c.cM id t g (t.len+m) (.slice (some ⟨g,0,none⟩) (t.len+m) cap) (old++news)):=by
  refine ⟨fun k o v hv=>?_,fun _ _ hk=>hk,fun j s hj=>?_,rfl,rfl⟩
  ·simp only [Ctx.cM];split
   ·rename_i hc;obtain ⟨rfl,_⟩:=hc;obtain ⟨_,hlt,ho⟩:=hHg o v hv;rw [aaz (by rw [hold.1];exact hlt)];exact ho
   ·exact hv
  ·by_cases hji:j=id
   ·subst hji;rw [ht] at hj;have:s=t:=(Option.some.inj hj).symm;subst this;exact ⟨{ s with val:= .slice (some ⟨g,0,none⟩) (s.len+m) cap,len:=s.len+m },by simp only [Ctx.cM];rw [aa4 hid],rfl,by simp,fun e=>by simp at e;omega⟩
   ·exact ⟨s,by simp only [Ctx.cM];rw [aa6 (Ne.symm hji)];exact hj,rfl,aat _,fun _=>rfl⟩
 refine ⟨?_,hext⟩
 refine {
  cN:=h.cN
  dH:=h.dH
  cI:=h.cI
  mS:=?_
  blk:=?_
  cu:=?_
  cz:=?_
  cK:=?_
  cy:=?_
  below:=h.below.grown hgr h.cw ?_
  cw:=abj h.cw hgr.size }
 ·intro i k o hk
  have hne:k≠g:=fun e=>hgmu (e▸aaR hk)
  simp only [Ctx.cM]
  rw [if_neg (fun hc=>hne hc.1)]
  exact h.mS i k o hk
 ·intro b k B hk hB
  have hne:k≠g:=fun e=>hgmu (e▸aaR hk)
  obtain ⟨o,ho,hr⟩:=h.blk b k B hk hB
  exact ⟨o,by rw [hother k (h.mult hk) hne];exact ho,hr.mono hext⟩
 ·simp only [Ctx.cM,List.map_set,h.cu]
 ·intro j s hj
  by_cases hji:j=id
  ·subst hji
   simp only [Ctx.cM,aa4 hid,aal] at hj
   subst hj
   refine ⟨hsz0,.inr ⟨old++news,hown,fun g' hg'=>?_⟩⟩
   simp only [Value.ownBlock,aal] at hg'
   subst hg'
   refine ⟨fun o ho=>by simp only [Ctx.cM];rw [if_pos ⟨by trivial,ho⟩],fun o ho=>?_,hgmu⟩
   simp only [Ctx.cM]
   rw [if_neg (fun hc=>by have:=hc.2;simp only at ho;omega)]
   cases hv:c.H g o with
   |none=>rfl
   |some v=>
    have:=(hHg o v hv).2.1
    simp only at ho
    omega
  ·simp only [Ctx.cM,aa6 (Ne.symm hji)] at hj
   obtain ⟨h0,hd|⟨xs,ho,hg'⟩⟩:=h.cz j s hj
   ·exact ⟨h0,.inl hd⟩
   refine ⟨h0,.inr ⟨xs,ho.kept hgr ?_,fun g' hgb=>?_⟩⟩
   ·cases hb:s.val.ownBlock with
    |none=>exact .inl rfl
    |some b=>
     refine .inr fun e=>?_
     rcases hrow with ⟨hr,_⟩|⟨hr,_⟩
     ·rw [hr] at e;simp at e
     ·rw [hr] at e
      exact hji (hgtok j s hj (by rw [hb,e]))
   ·obtain ⟨h1,h2,h3⟩:=hg' g' hgb
    have hne:g'≠g:=fun e=>hji (hgtok j s hj (by rw [hgb,e]))
    exact ⟨fun o ho=>by simp only [Ctx.cM];rw [if_neg (fun hc=>hne hc.1)];exact h1 o ho,fun o ho=>by simp only [Ctx.cM];rw [if_neg (fun hc=>hne hc.1)];exact h2 o ho,h3⟩
 ·intro i j s u g' hi hj hs hu
  by_cases hii:i=id<;>by_cases hjj:j=id
  ·omega
  ·subst hii
   simp only [Ctx.cM,aa4 hid,aal] at hi
   simp only [Ctx.cM,aa6 (Ne.symm hjj)] at hj
   subst hi
   simp only [Value.ownBlock,aal] at hs
   exact absurd (hgtok j u hj (hs▸hu)) hjj
  ·subst hjj
   simp only [Ctx.cM,aa4 hid,aal] at hj
   simp only [Ctx.cM,aa6 (Ne.symm hii)] at hi
   subst hj
   simp only [Value.ownBlock,aal] at hu
   exact absurd (hgtok i s hi (hu▸hs)) hii
  ·simp only [Ctx.cM,aa6 (Ne.symm hii)] at hi
   simp only [Ctx.cM,aa6 (Ne.symm hjj)] at hj
   exact h.cK i j s u g' hi hj hs hu
 ·intro k o v hv
  simp only [Ctx.cM] at hv
  split at hv
  ·rename_i hc
   obtain ⟨rfl,_⟩:=hc
   have:=hown.cells (g:=k) rfl o v hv
   rwa [addr_add,aaL] at this
  ·rename_i hc
   have hcell:=h.cy k o v hv
   have hlt:=World.block_lt_of_cell? w _ hcell
   by_cases hkg:k=g
   ·subst hkg
    obtain ⟨_,hlt',_⟩:=hHg o v hv
    exact (hc ⟨by simp,by rw [hmul];omega⟩).elim
   ·rw [World.cell?_of_block (w:=w) (hother k hlt hkg)]
    exact hcell
 ·intro k hk
  rcases hrow with ⟨hr,_⟩|⟨hr,_⟩
  ·rw [hr] at hk;simp at hk
  ·rw [hr] at hk;simp at hk;omega
def rowsOK_mem {sz:Nat} {xs:List (List D)} (h:dA sz xs=true) {r:List D} (hr:r∈xs):r.length=sz∧∀ x∈r,x.one=true:=by
 have:=aaE.1 h r hr;simp only [aas,beq_iff_eq,aaE] at this;exact this
def tr {H:GH} (hs:∀ k o v,H k o=some v→w.cell? ⟨k,o,none⟩=some v) {k off m sz:Nat} (vs:Nat→Nat→Value) (hsz:0<sz)
  (h:∀ i j,i<m→j<sz→H k (off+i*sz+j)=some (vs i j)):
  ∃ news:List Value,news.length=m*sz∧(∀ j u,news[j]?=some u→w.cell? ((⟨k,off,none⟩:Addr).add j)=some u)∧∀ i j,i<m→j<sz→news[i*sz+j]?=some (vs i j):=by
 refine ⟨(List.range (m*sz)).map fun q=>vs (q / sz) (q % sz),by simp,fun j u hu=>?_,fun i j hi hj=>?_⟩
 ·have hj:j<m*sz:=by simpa using (aao.1 hu).1
  rw [aaV,List.getElem?_range hj] at hu
  simp only [aaJ,aal] at hu
  have hd:j / sz<m:=Nat.div_lt_of_lt_mul (by rw [Nat.mul_comm];exact hj)
  have:=hs _ _ _ (h (j / sz) (j % sz) hd (Nat.mod_lt _ hsz))
  rw [addr_add,←hu,←this]
  congr 2
  have:=Nat.div_add_mod j sz
  rw [Nat.mul_comm] at this
  omega
 ·have hlt:i*sz+j<m*sz:=by
   have:(i+1)*sz≤m*sz:=abp _ hi;rw [abd] at this;omega
  rw [aaV,List.getElem?_range hlt]
  simp only [aaJ,aal]
  rw [Nat.mul_comm,Nat.mul_add_div hsz,Nat.div_eq_of_lt hj,abE,Nat.mul_add_mod,Nat.mod_eq_of_lt hj]
def mN (hc:bf c w st) {sz2:Nat} {id:Nat} {tk:Tok} (htk:c.tok[id]?=some tk) (hsz:tk.sz=sz2) {es xs:List (List D)} (hlen:es.length=tk.len) (hes:∀ r∈es,r.length=sz2)
  (hval:de c.H tk.val (.sl es)) (hxs:dA sz2 xs=true) {m:Nat} {vs:Nat→Nat→Value} {news:List Value} (h1:xs.length=m) (hmpos:0<m) (hn1:news.length=m*sz2)
  (hn3:∀ i j,i<m→j<sz2→news[i*sz2+j]?=some (vs i j)) (h5:∀ i j,i<m→j<sz2→de c.H (vs i j) ((xs.getD i []).getD j .eX)) {old:List Value}
  (hold:w.ownsRow c.base tk.e tk.sz tk.val tk.len old) (hgg:∀ g,tk.val.ownBlock=some g→(∀ o,o<tk.len*tk.sz→c.H g o=old[o]?)∧(∀ o,tk.len*tk.sz≤o→c.H g o=none)∧g ∉ c.mu)
  {w':World} {row:Option Nat} {g cap:Nat} (hown:w'.ownsRow c.base tk.e tk.sz (.slice (some ⟨g,0,none⟩) (tk.len+m) cap) (tk.len+m) (old++news)) (hgr:w.grownBy w' row) (hcap:tk.len+m≤cap)
  (hrow:(row=none∧w.heap.size≤g)∨(row=some g∧tk.val.ownBlock=some g)):
  ∃ c',Rel c' (.slice (some ⟨g,0,none⟩) (tk.len+m) cap) (.own id (es++xs))∧bf c' w' { st with toks:=st.toks.set id (tk.e,tk.sz,tk.len+m) }∧Ext c c':=by
 obtain ⟨hconf,hext⟩:=hc.cM htk (news:=news) hmpos hold hown hgr hrow
 have hid:id<c.tok.length:=(aao.1 htk).1
 refine ⟨_,?_,hconf,hext⟩
 have hHn:∀ o,o< (tk.len+m)*tk.sz→(c.cM id tk g (tk.len+m) (.slice (some ⟨g,0,none⟩) (tk.len+m) cap) (old++news)).H g o=(old++news)[o]?:=by
  intro o ho;simp only [Ctx.cM];rw [if_pos ⟨by trivial,ho⟩]
 have holdrel:∀ i j,i<tk.len→j<tk.sz→∃ v,old[i*tk.sz+j]?=some v∧de c.H v ((es.getD i []).getD j .eX):=by
  intro i j hi hj;generalize htv:tk.val=tv at hval;cases hval with
  |slnil=>simp at hlen;omega
  |uV a=>simp at hlen;omega
  |sl k1 off1 n1 cap1 Uw vs1 _ a1 a2 a3 a4 a5=>
   have hs1:Uw=tk.sz:=by
    have hi':i<es.length:=by omega
    rw [←a3 es[i] (aaX _),hes es[i] (aaX _)];omega
   subst hs1
   rcases hold.2 with ⟨hv,_⟩|⟨g1,cap2,cur1,hv,_,hg1,_,_,_,_⟩
   ·rw [htv] at hv;simp at hv
   ·have hv2:=hv
    rw [htv] at hv
    simp only [Value.slice.injEq,aal,Addr.mk.injEq] at hv
    obtain ⟨⟨rfl,rfl,_⟩,_,_⟩:=hv
    have b1:=a4 i j (by omega) hj
    have hlt:i*tk.sz+j<tk.len*tk.sz:=by
     have:(i+1)*tk.sz≤tk.len*tk.sz:=abp _ hi;rw [abd] at this;omega
    have b2:=(hgg k1 (by rw [hv2];rfl)).1 _ hlt
    rw [aaL] at b1
    rw [b1] at b2
    exact ⟨vs1 i j,b2.symm,a5 i j (by omega) hj⟩
 have hmul:(tk.len+m)*tk.sz=tk.len*tk.sz+m*tk.sz:=abd _ _ _
 have hcell:∀ i j,i<tk.len+m→j<tk.sz→∃ v,(old++news)[i*tk.sz+j]?=some v∧de c.H v (((es++xs).getD i []).getD j .eX):=by
  intro i j hi hj;by_cases hil:i<tk.len
  ·obtain ⟨v,e1,e2⟩:=holdrel i j hil hj;refine ⟨v,?_,?_⟩
   ·rw [aaz (aao.1 e1).1];exact e1
   ·rw [show (es++xs).getD i []=es.getD i [] by
     simp only [aam];rw [aaz (by omega)]]
    exact e2
  ·have hd:i - tk.len<m:=by omega
   refine ⟨vs (i - tk.len) j,?_,?_⟩
   ·have:=hn3 (i - tk.len) j hd (by omega);have hge:tk.len*tk.sz≤i*tk.sz:=abp _ (by omega);rw [aay (by rw [hold.1];omega),hold.1,←this];congr 1;have:i*tk.sz=(i - tk.len)*tk.sz+tk.len*tk.sz:=by rw [←abd];congr 1;omega
    rw [this,hsz];omega
   ·rw [show (es++xs).getD i []=xs.getD (i - tk.len) [] by
     simp only [aam];rw [aay (by omega),hlen]]
    exact h5 _ _ hd (by omega)
 refine .own _ id _ { tk with val:= .slice (some ⟨g,0,none⟩) (tk.len+m) cap,len:=tk.len+m } ?_ ?_ ?_ ?_ ?_
 ·refine .sl g 0 (tk.len+m) cap tk.sz (fun i j=>((old++news)[i*tk.sz+j]?).getD undef) _ (by simp [hlen,h1]) hcap ?_ ?_ ?_
  ·intro r hr
   rcases abo.1 hr with hr|hr
   ·rw [hes r hr,hsz]
   ·rw [(rowsOK_mem hxs hr).1,hsz]
  ·intro i j hi hj
   obtain ⟨v,e1,_⟩:=hcell i j hi hj
   have hlt:i*tk.sz+j< (tk.len+m)*tk.sz:=by
    have:(i+1)*tk.sz≤(tk.len+m)*tk.sz:=abp _ hi;rw [abd] at this;omega
   rw [aaL,hHn _ hlt,e1]
   rfl
  ·intro i j hi hj
   obtain ⟨v,e1,e2⟩:=hcell i j hi hj
   simp only [e1,aaS]
   exact e2.mono hext.H
 ·simp only [Ctx.cM];rw [aa4 hid]
 ·intro r hr
  rcases abo.1 hr with hr|hr
  ·rw [hes r hr,hsz]
  ·rw [(rowsOK_mem hxs hr).1,hsz]
 ·simp [hlen,h1]
 ·intro _;rfl
def tR (hc:bf c w st) {t ty e:TypeId} {sz by_:Nat} (hsl:mU P t=some (e,sz,by_)) (hz:dy P e=some sz)
  {id:Nat} {tk:Tok} (htk:c.tok[id]?=some tk) (he:tk.e=e) (hsz:tk.sz=sz) {es xs:List (List D)} (hlen:es.length=tk.len) (hes:∀ r∈es,r.length=sz)
  (hval:de c.H tk.val (.sl es)) {xv:Value} (hx:de c.H xv (.sl xs)) (hxs:dA sz xs=true) (hne:xs≠[])
  (hb:(es.length+xs.length)*by_≤rS) (hm:es.length+xs.length≤maxLen):
  ∃ cv w' c',(Builtin.append_ #[t,t] ty #[tk.val,xv]).run P w= .ok cv w'∧Rel c' cv (.own id (es++xs))∧bf c' w' { st with toks:=st.toks.set id (e,sz,es.length+xs.length) }∧Ext c c':=by
 obtain ⟨hu,ie,hie,hsz',hby⟩:=kz hsl
 unfold dy at hz
 obtain ⟨z,hz1,hz2⟩:=aaF.1 hz
 have hz3:ie.zero=some z:=by
  unfold zeroOf at hz1;rw [hie] at hz1;simpa using hz1
 obtain ⟨hsz0,hdd|⟨old,hold,hgg⟩⟩:=hc.cz id tk htk
 ·exfalso;have:=hdd.1;omega
 subst he
 cases hx with
 |slnil=>exact absurd rfl hne
 |uV a=>exact absurd rfl hne
 |sl k off m cap0 sz2 vs _ h1 h2 h3 h4 h5=>
  have hmpos:0<m:=by
   rw [←h1];exact abP.2 hne
  have hsz2:sz2=sz:=by
   obtain ⟨r,hr⟩:=List.exists_mem_of_ne_nil xs hne;rw [←h3 r hr,(rowsOK_mem hxs hr).1]
  subst hsz2
  have hszp:0<sz2:=by omega
  obtain ⟨news,hn1,hn2,hn3⟩:=tr (w:=w) hc.cy vs hszp h4
  have hone:∀ u∈news,u.oneCell'=true:=by
   intro u hu;obtain ⟨q,hq,rfl⟩:=aaY.1 hu;have hq':q<m*sz2:=by omega
   have hd:q / sz2<m:=Nat.div_lt_of_lt_mul (by rw [Nat.mul_comm];exact hq');have hmod:=Nat.mod_lt q hszp;have:=hn3 _ _ hd hmod;have hqe:q / sz2*sz2+q % sz2=q:=by rw [Nat.mul_comm];exact Nat.div_add_mod q sz2
   rw [hqe,aaw hq] at this;simp only [aal] at this;rw [this];refine (h5 _ _ hd hmod).one ?_;have hdx:q / sz2<xs.length:=by omega
   have hmem:xs.getD (q / sz2) []∈xs:=by
    rw [aam,aaw hdx,aaS];exact aaX _
   obtain ⟨hl,ho⟩:=rowsOK_mem hxs hmem;refine ho _ ?_;rw [aam (l:=xs.getD (q / sz2) []),aaw (by omega),aaS];exact aaX _
  have hold':w.ownsRow c.base tk.e ie.size tk.val tk.len old:=by rw [hsz',←hsz];exact hold
  obtain ⟨w',row,g,cap,hrun,hown,hgr,hcap,hrow⟩:=lU (P:=P) c.base t ty tk.e ie z hu hie hz3 (by rw [hz2,hsz']) tk.val tk.len old hold' ⟨k,off,none⟩ m cap0 news (by rw [hn1,hsz']) hn2 hone hmpos
   (by omega) (by rw [hby,←hlen,←h1];exact hb) hc.cw
  rw [hsz',←hsz] at hown
  obtain ⟨c',k1,k2,k3⟩:=mN hc htk hsz hlen hes hval hxs h1 hmpos hn1 hn3 h5 hold hgg hown hgr hcap hrow
  exact ⟨_,w',c',hrun,k1,by rw [hlen,h1,←hsz];exact k2,k3⟩
def nE (base:Nat) (t u ty e:TypeId) (i:TypeInfo) (ht:P.underlying t=some (.slice e)) (hu:P.underlying u=some .string) (hi:P.info? e=some i) (hz:i.zero=some (.int .u8 0))
  (hsize:i.size=1) (hby:i.bytes=1) (v:Value) (n:Nat) (xs:List Value) (hown:w.ownsRow base e 1 v n xs) (s:ByteArray) (hm:0<s.size)
  (h63:n+s.size≤maxLen) (hbytes:n+s.size≤140737488355328) (hbase:base≤w.heap.size):
  ∃ w' row g cap,(Builtin.append_ #[t,u] ty #[v,.string s]).run P w= .ok (.slice (some ⟨g,0,none⟩) (n+s.size) cap) w'∧
   w'.ownsRow base e 1 (.slice (some ⟨g,0,none⟩) (n+s.size) cap) (n+s.size) (xs++Lib.strCells s)∧w.grownBy w' row∧n+s.size≤cap∧
   ((row=none∧w.heap.size≤g)∨(row=some g∧v.ownBlock=some g)):=by
 have hsmall:n+s.size≤9223372036854775807:=by simp only [maxLen] at h63;omega
 have hxl:xs.length=n:=by simpa using hown.1
 have hlen:(xs++Lib.strCells s).length=(n+s.size)*1:=by rw [aax,hxl,Lib.strCells_length,Nat.mul_one]
 have grown:∀ (old:Nat),old<n+s.size→
   (w.drew.alloc (.cells (xs.toArray++(Lib.strCells s).toArray++Builtin.zeroCells (Value.int .u8 0).cells (grownCap w (n+s.size) old e - (n+s.size))) e)).ownsRow base e 1
    (.slice (some ⟨w.heap.size,0,none⟩) (n+s.size) (grownCap w (n+s.size) old e)) (n+s.size) (xs++Lib.strCells s)∧
   w.grownBy (w.drew.alloc (.cells (xs.toArray++(Lib.strCells s).toArray++Builtin.zeroCells (Value.int .u8 0).cells (grownCap w (n+s.size) old e - (n+s.size))) e)) none∧n+s.size≤grownCap w (n+s.size) old e:=by
  intro old ho
  have hge:=grownCap_ge w (n+s.size) old e
  have hcm:grownCap w (n+s.size) old e≤maxLen:=grownCap_le_maxLen w (n+s.size) old e h63
  refine ⟨⟨hlen,.inr ⟨w.heap.size,_,_,rfl,hbase,heap_alloc_new w.drew _,hge,hcm,?_,?_⟩⟩,⟨rfl,rfl,rfl,by simp,fun k hk _=>heap_alloc_old w.drew _ hk⟩,hge⟩
  ·have hz1:(Value.int IntKind.u8 0).cells.size=1:=rfl
   simp only [abN,aaW,size_zeroCells,hz1,hxl,Lib.strCells_length]
   omega
  ·simp only [Array.toList_append,aaG]
   rw [←aaG,←hlen]
   exact List.take_left
 rcases hown.2 with ⟨rfl,rfl⟩|⟨g,cap,cur,rfl,hbg,hg,hnc,hcm,hcs,htake⟩
 ·have hx:xs=[]:=abx hxl
  subst hx
  have hr:=run_append_nil_string (P:=P) w t u ty e i (.int .u8 0) ht hu hi hz s (by omega) (by omega) (by rw [hby];omega)
  have hgr:=grown 0 (by omega)
  simp only [aaL,aaN,Array.empty_append] at hgr ⊢
  have e1:(s.data.map fun b=>Value.int .u8 b.toNat)=(Lib.strCells s).toArray:=by
   apply abA;simp [Lib.strCells]
  rw [e1] at hr
  exact ⟨_,none,_,_,hr,hgr.1,hgr.2.1,hgr.2.2,.inl ⟨rfl,aat _⟩⟩
 ·by_cases hroom:n+s.size≤cap
  ·have hcs':cur.size=cap:=by simpa using hcs
   have hr:=Lib.run_append_room_string (P:=P) w t u ty e i ht hu hi hsize g n cap cur hg s hroom (by omega)
   refine ⟨_,some g,_,_,hr,⟨hlen,.inr ⟨g,cap,_,rfl,hbg,setRow_heap w g cur _ e _ hg,hroom,hcm,?_,?_⟩⟩,⟨rfl,rfl,rfl,by simp,fun k _ hk=>setRow_other w g k _ (fun e=>hk (by simp [e]))⟩,hroom,.inr ⟨rfl,rfl⟩⟩
   ·simp only [aaW,aax,aan,aar,aaH,Lib.strCells_length]
    omega
   ·have ht':cur.toList.take n=xs:=by simpa using htake
    rw [ht',←hlen]
    exact List.take_left
  ·have holds:∀ j u,xs[j]?=some u→w.cell? ((⟨g,0,none⟩:Addr).add j)=some u:=hown.cells (g:=g) rfl
   have hr:=Lib.run_append_grow_string (P:=P) w t u ty e i (.int .u8 0) ht hu hi hz ⟨g,0,none⟩ n cap xs (by rw [hsize];simpa using hxl) holds s (by omega) (by omega) (by rw [hby];exact growslice_fits (by omega) (by omega))
   have hgr:=grown cap (by omega)
   exact ⟨_,none,_,_,hr,hgr.1,hgr.2.1,hgr.2.2,.inl ⟨rfl,aat _⟩⟩
def mR (hc:bf c w st) {t u ty e:TypeId} {by_:Nat} (hsl:mU P t=some (e,1,by_)) (hu:isStr P u=true) (hz:zeroOf P e=some (.int .u8 0)) (hb1:by_=1)
  {id:Nat} {tk:Tok} (htk:c.tok[id]?=some tk) (he:tk.e=e) (hsz:tk.sz=1) {es:List (List D)} {l:List UInt8} (hlen:es.length=tk.len) (hes:∀ r∈es,r.length=1)
  (hval:de c.H tk.val (.sl es)) {s:ByteArray} (hs:s.data.toList=l) (hne:l≠[])
  (hb:(es.length+l.length)*by_≤rS) (hm:es.length+l.length≤maxLen):
  ∃ cv w' c',(Builtin.append_ #[t,u] ty #[tk.val,.string s]).run P w= .ok cv w'∧Rel c' cv (.own id (es++aH l))∧bf c' w' { st with toks:=st.toks.set id (e,1,es.length+l.length) }∧Ext c c':=by
 obtain ⟨hut,ie,hie,hsz',hby'⟩:=kz hsl
 have hstr:P.underlying u=some .string:=by
  unfold isStr at hu;split at hu
  ·assumption
  ·cases hu
 have hz3:ie.zero=some (.int .u8 0):=by
  unfold zeroOf at hz;rw [hie] at hz;simpa using hz
 obtain ⟨hsz0,hdd|⟨old,hold,hgg⟩⟩:=hc.cz id tk htk
 ·exfalso;have:=hdd.1;omega
 subst he
 have hsl':s.size=l.length:=by rw [←hs,aaH];rfl
 have hmpos:0<l.length:=abP.2 hne
 have hold':w.ownsRow c.base tk.e 1 tk.val tk.len old:=by rw [←hsz];exact hold
 obtain ⟨w',row,g,cap,hrun,hown,hgr,hcap,hrow⟩:=nE (P:=P) c.base t u ty tk.e ie hut hstr hie hz3 hsz' (by rw [hby',hb1]) tk.val tk.len old hold' s (by omega) (by omega) (by rw [hsl'];simp only [hb1,Nat.mul_one,rS] at hb;omega) hc.cw
 rw [hsl'] at hrun hown hcap
 have hown':w'.ownsRow c.base tk.e tk.sz (.slice (some ⟨g,0,none⟩) (tk.len+l.length) cap) (tk.len+l.length) (old++Lib.strCells s):=by rw [hsz];exact hown
 have hxs:dA 1 (aH l)=true:=by simp [dA,aH,D.one]
 obtain ⟨c',k1,k2,k3⟩:=mN hc htk hsz hlen hes hval hxs (m:=l.length) (vs:=fun i _=> .int .u8 (l.getD i 0).toNat) (news:=Lib.strCells s) (by simp [aH]) hmpos (by rw [Lib.strCells_length,hsl',Nat.mul_one])
  (fun i j hi hj=>by
   have:j=0:=by omega
   subst this;simp [Lib.strCells,hs,aam,hi])
  (fun i j hi hj=>by
   have:j=0:=by omega
   subst this;simp only [aH,aam,aaV];rw [aaw hi];exact .int _ _) hold hgg hown' hgr hcap hrow
 exact ⟨_,w',c',hrun,k1,by rw [hlen,←hsz];exact k2,k3⟩
def evalMake_sound (hc:bf c w st) {t:TypeId} {l m:Value} {L M Z:V} (hl:Rel c l L) (hm:Rel c m M) {st':St} (h:evalMake P t L M st=some (Z,st')):
  ∃ cv w' c',(Instr.makeSlice t l m).run P w= .ok cv w'∧Rel c' cv Z∧bf c' w' st'∧Ext c c':=by
 unfold evalMake at h
 split at h
 case h_2=>simp at h
 rename_i e sz by_ k n k' m' hsl
 obtain ⟨hu,ie,hie,hsz,hby⟩:=kz hsl
 split at h<;>simp only [aal,aaq,reduceCtorEq] at h
 rename_i hcond
 obtain ⟨rfl,h0,hb,hmx,hpos,hzs⟩:=hcond
 obtain ⟨rfl,rfl⟩:=h
 cases hl with|d _ _ hl=>?_
 cases hl
 cases hm with|d _ _ hm=>?_
 cases hm
 have hzs':(zeroOf P e).isSome=true:=by simpa [dy] using hzs
 obtain ⟨z,hz⟩:=abq.1 hzs'
 have hz3:ie.zero=some z:=by
  unfold zeroOf at hz;rw [hie] at hz;simpa using hz
 have hmaxv:maxLen=9223372036854775807:=by decide
 have hrun:=run_make (P:=P) w t e ie z hu hie hz3 k k' 0 m' (Int.le_refl _) h0 (by
  rw [hby];have h2:((m'.toNat*by_:Nat):Int)≤rS:=by omega
  rw [Int.natCast_mul,Int.toNat_of_nonneg h0,Int.mul_comm] at h2;have:(rS:Int)=140737488355328:=rfl;omega) (by omega)
 refine ⟨_,_,_,hrun,?_,hc.aai e hpos hmx (by rw [size_madeCells,hsz]),Ext.aai c _ e sz⟩
 have hlen:st.toks.length=c.tok.length:=by rw [←hc.cu];simp
 refine .own _ _ _ ⟨.slice (some ⟨w.heap.size,0,none⟩) 0 m'.toNat,e,sz,0⟩ ?_ (by rw [hlen];simp [Ctx.aai]) (by simp) (by simp) (fun _=>rfl)
 exact .sl w.heap.size 0 0 _ 0 (fun _ _=>undef) [] rfl (aaK _) (by simp) (by simp) (by simp)
def bf.setObj (hc:bf c w st) {b k:Nat} {B B':ec} {o o':Obj} (hk:c.mu[b]?=some k) (hB:st.aj[b]?=some B) (hh:w.heap[k]?=some o) (hrel:L2 c o' B'):
  bf c { w with heap:=w.heap.setIfInBounds k o' } (dY st b B'):=by
 have hother:∀ k',k'≠k→({ w with heap:=w.heap.setIfInBounds k o' }:World).heap[k']?=w.heap[k']?:=fun k' hne=>by
  show (w.heap.setIfInBounds k _)[k']?=_;rw [abu (Ne.symm hne)]
 refine {
  cN:=by simp [dY,hc.cN]
  dH:=hc.dH
  cI:=hc.cI
  mS:=hc.mS
  blk:=?_
  cu:=hc.cu
  cz:=?_
  cK:=hc.cK
  cy:=?_
  below:=hc.below.trans ⟨rfl,rfl,rfl,by simp,fun k' hk'=>hother k' (by have:=hc.cI b k hk;omega)⟩
  cw:=by simpa using hc.cw }
 ·intro b' k' B2 hk' hB2
  by_cases hbb:b'=b
  ·subst hbb
   have hkk:k'=k:=by rw [hk] at hk';exact (Option.some.inj hk').symm
   subst hkk
   have hlt:b'<st.aj.length:=(aao.1 hB).1
   simp only [dY,aa4 hlt,aal] at hB2
   subst hB2
   refine ⟨o',?_,hrel⟩
   show (w.heap.setIfInBounds k' _)[k']?=_
   rw [abG (aa8.1 hh).1]
  ·have hne:k'≠k:=fun e=>hbb (hc.dH b' b k (e▸hk') hk)
   simp only [dY,aa6 (Ne.symm hbb)] at hB2
   obtain ⟨o,ho,hrel⟩:=hc.blk b' k' B2 hk' hB2
   exact ⟨o,by rw [hother k' hne];exact ho,hrel⟩
 ·intro id t ht
  obtain ⟨h0,hd|⟨xs,ho,hg⟩⟩:=hc.cz id t ht
  ·exact ⟨h0,.inl hd⟩
  refine ⟨h0,.inr ⟨xs,ho.kept (row:=some k) ⟨rfl,rfl,rfl,by simp,fun k' _ hk'=>hother k' (fun e=>hk' (by rw [e]))⟩ (.inr ?_),hg⟩⟩
  intro e
  exact (hg k e).2.2 (aaR hk)
 ·intro k' o v hv
  have hne:k'≠k:=by
   intro e;subst e;rw [hc.mS b k' o hk] at hv;simp at hv
  have:=hc.cy k' o v hv
  rw [World.cell?_of_block (w:=w) (hother k' hne)]
  exact this
def Ap {t:TypeId} {kd:KK} {e:TypeId} (h:mM P t=some (kd,e)):∃ k,P.underlying t=some (.map k e)∧Maps.Keyed P k∧∀ v,Qb kd v→∃ l,keyOf P k v=some l:=by
 unfold mM at h;split at h
 case h_2=>simp at h
 rename_i k e' hu;split at h<;>simp only [aal,aaq,reduceCtorEq] at h<;>obtain ⟨rfl,rfl⟩:=h
 ·rename_i hk;refine ⟨k,hu,Maps.string_keyed hk,fun v hv=>?_⟩;cases v<;>first|exact hv.elim|skip
  exact ⟨_,WideMaps.keyOf_string_mk hk hv⟩
 ·rename_i q hk;refine ⟨k,hu,Maps.int_keyed hk,fun v hv=>?_⟩;cases v<;>first|exact hv.elim|skip
  obtain ⟨rfl,hw⟩:=hv;exact ⟨_,Maps.keyOf_int_mk hk hw⟩
 ·rename_i hk;refine ⟨k,hu,Maps.bool_keyed hk,fun v hv=>?_⟩;cases v<;>first|exact hv.elim|skip
  exact ⟨_,Maps.keyOf_bool_mk hk _⟩
def Aq {H:GH} {kd:KK} {v:Value} {y:D} (hr:de H v y) (h:zW kd y=true):qj y=some v∧Qb kd v:=by
 cases hr<;>cases kd<;>simp only [zW,aa3,aas,aau] at h
 ·exact ⟨rfl,trivial⟩
 ·exact ⟨rfl,h⟩
 ·rename_i s l e;subst e;exact ⟨rfl,show s.data.size≤maxLen by rw [←aaH];exact h⟩
def vR {x y:D} {v:Value} (hy:qj y=some v):vr x y=true↔qj x=some v:=by
 cases y<;>simp only [qj,aal,reduceCtorEq] at hy<;>subst hy<;>cases x<;>simp [vr,qj]
def MY {es:Array MapEntry} (hn:(es.toList.map (·.key)).Nodup) {x y:MapEntry} (hx:x∈es.toList) (hy:y∈es.toList) (h:x.key=y.key):x=y:=by
 obtain ⟨i,hi,rfl⟩:=aaY.1 hx;obtain ⟨j,hj,rfl⟩:=aaY.1 hy;have:i=j:=by
  refine (List.getElem_inj (h₀:=by simpa using hi) (h₁:=by simpa using hj) hn).1 ?_;simpa using h
 subst this;rfl
def uC (hc:bf c w st) {t:TypeId} (kd:KK):
  (Instr.makeMap t none).run P w= .ok (.map (some w.heap.size)) (w.alloc (.map #[] 0))∧Rel (c.c7 w.heap.size) (.map (some w.heap.size)) (.mp st.aj.length)∧
   bf (c.c7 w.heap.size) (w.alloc (.map #[] 0)) (c7 st (.mp kd 0 fun _=>none)).2∧Ext c (c.c7 w.heap.size):=
 ⟨rfl,.mp _ _ (by simp [Ctx.c7,←hc.cN]),hc.alloc (.mp _ _ _ _ _ ⟨by simp,by simp,by simp,fun _ _ h=>(by cases h),by simp⟩),Ext.c7 c _⟩
def xN (hc:bf c w st) {t:TypeId} {m x:Value} {M X Z:V} {ok:Bool} (hm:Rel c m M) (hx:Rel c x X) (h:iU P t M X ok st=some Z):
  ∃ cv,(Instr.lookup t m x ok).run P w= .ok cv w∧Rel c cv Z:=by
 unfold iU at h
 split at h
 case h_2=>simp at h
 rename_i kd e b y hkk
 split at h
 case h_2=>simp at h
 rename_i kd' n f hB
 split at h
 case isFalse=>simp at h
 rename_i hcd
 obtain ⟨rfl,hkd⟩:=hcd
 obtain ⟨k,hu,K,hkey⟩:=Ap hkk
 cases hm with|mp _ kb hk=>?_
 cases hx with|d _ _ hx=>?_
 obtain ⟨hv,hkK⟩:=Aq hx hkd
 obtain ⟨o,ho,hr⟩:=hc.blk b kb _ hk hB
 cases hr with|mp es clock _ _ _ F=>?_
 obtain ⟨l,hl⟩:=hkey _ hkK
 unfold vq at h
 cases hz:zeroOf P e with
 |none=>rw [hz] at h;simp at h
 |some z=>
  rw [hz] at h
  simp only [aaJ,aal] at h
  have hck:=K.check w es.isEmpty hl
  have two:∀ {a:Value} {A:V} (q:Bool),Rel c a A→Rel c (if ok then .tuple #[a,.bool q] else a) (J2 ok A q):=by
   intro a A q ha;cases ok
   ·exact ha
   ·refine .cF _ _ rfl fun i hi=>?_;have:i=0∨i=1:=by simp at hi;omega
    rcases this with rfl|rfl
    ·exact ha
    ·exact .d _ _ (.bool _)
  rcases K.find w hl es.toList (fun e he=>hkey _ (F.keys e he)) with ⟨h1,h2⟩|⟨j,e0,h1,h2,h3⟩
  ·have hf:f y=none:=by
    cases hf:f y with
    |none=>rfl
    |some d=>
     obtain ⟨x',hx',hk',_⟩:=F.get y d hf
     rw [hv] at hk'
     exact absurd (Option.some.inj hk').symm (h2 x' hx')
   rw [hf] at h
   subst h
   exact ⟨_,by simp [Instr.lookup,run_underlying hu,MapKept.run_getObj_map ho,hck,h1,kU hz,Result.andThen],two false (mO z)⟩
  ·have hm0:e0∈es.toList:=aaR h2
   cases hf:f y with
   |none=>exact absurd hf (F.dom e0 hm0 y (by rw [hv,h3]))
   |some d=>
    obtain ⟨x',hx',hk',hd⟩:=F.get y d hf
    rw [hv] at hk'
    have:x'=e0:=MY F.nodup hx' hm0 (by rw [h3];exact (Option.some.inj hk').symm)
    subst this
    rw [hf] at h
    subst h
    exact ⟨_,by simp [Instr.lookup,run_underlying hu,MapKept.run_getObj_map ho,hck,h1,Result.andThen],two true (.d _ _ hd)⟩
def xO (hc:bf c w st) {t:TypeId} {m x v:Value} {M X Z:V} {st':St} (hm:Rel c m M) (hx:Rel c x X) (hv:Rel c v Z) (h:iV P t M X Z st=some st'):
  ∃ w',(Instr.mapUpdate t m x v).run P w= .ok () w'∧bf c w' st':=by
 unfold iV at h
 split at h
 case h_2=>simp at h
 rename_i kd e b y d hkk hhe
 split at h
 case h_2=>simp at h
 rename_i kd' n f hB
 split at h
 case isFalse=>simp at h
 rename_i hcd
 obtain ⟨rfl,hkd⟩:=hcd
 simp only [aal] at h
 subst h
 obtain ⟨k,hu,K,hkey⟩:=Ap hkk
 cases hm with|mp _ kb hk=>?_
 cases hx with|d _ _ hx=>?_
 have hvd:=tQ hv hhe
 obtain ⟨hy,hkK⟩:=Aq hx hkd
 obtain ⟨o,ho,hr⟩:=hc.blk b kb _ hk hB
 cases hr with|mp es clock _ _ _ F=>?_
 obtain ⟨l,hl⟩:=hkey _ hkK
 have hck:=K.check w false hl
 have hp1:∀ z,qj z=some x→ri f y d z=some d:=fun z hz=>by unfold ri;rw [if_pos ((vR hy).2 hz)]
 have hp2:∀ z,qj z≠some x→ri f y d z=f z:=fun z hz=>by unfold ri;rw [if_neg (fun hh=>hz ((vR hy).1 hh))]
 rcases K.find w hl es.toList (fun e he=>hkey _ (F.keys e he)) with ⟨h1,h2⟩|⟨j,e0,h1,h2,h3⟩
 ·refine ⟨_,by simp [Instr.mapUpdate,run_underlying hu,MapKept.run_getObj_map ho,hck,h1,MapKept.run_setObj_map _ ho,Result.andThen];rfl,hc.setObj hk hB ho (.mp _ _ _ _ _ ?_)⟩
  refine ⟨by simp;exact F.size,?_,?_,?_,?_⟩
  ·intro z hz
   simp only [Array.toList_push,abo,abg] at hz
   rcases hz with hz|rfl
   ·exact F.keys z hz
   ·exact hkK
  ·simp only [Array.toList_push,aaQ,aaB,aaI]
   refine List.nodup_append.2 ⟨F.nodup,by simp,?_⟩
   intro a ha b hb
   simp only [abg] at hb
   subst hb
   obtain ⟨z,hz,rfl⟩:=abm.1 ha
   exact h2 z hz
  ·intro z dz hz
   by_cases hzx:qj z=some x
   ·rw [hp1 z hzx,aal] at hz
    subst hz
    exact ⟨⟨x,v,clock⟩,by simp,hzx,hvd⟩
   ·rw [hp2 z hzx] at hz
    obtain ⟨q,q1,q2,q3⟩:=F.get z dz hz
    exact ⟨q,by simp [q1],q2,q3⟩
  ·intro q hq z hz
   by_cases hzx:qj z=some x
   ·rw [hp1 z hzx];simp
   ·rw [hp2 z hzx]
    simp only [Array.toList_push,abo,abg] at hq
    rcases hq with hq|rfl
    ·exact F.dom q hq z hz
    ·exact absurd hz hzx
 ·have hm0:e0∈es.toList:=aaR h2
  have hj:es[j]?=some e0:=by rw [←aby];exact h2
  have hst:=K.stays w hl
  have hmod:(es.modify j fun e=> { e with key:=x,val:=v }).toList=es.toList.set j { e0 with key:=x,val:=v }:=by
   apply List.ext_getElem?;intro i;rw [aby,abv,List.getElem?_set];by_cases hij:j=i
   ·subst hij;have hlt:j<es.toList.length:=(aao.1 h2).1;simp [hj];simpa using hlt
   ·simp [hij]
  refine ⟨_,by simp [Instr.mapUpdate,run_underlying hu,MapKept.run_getObj_map ho,hck,h1,hj,h3,hst,MapKept.run_setObj_map _ ho,Result.andThen];rfl,hc.setObj hk hB ho (.mp _ _ _ _ _ ?_)⟩
  have hkeys:(es.toList.set j { e0 with key:=x,val:=v }).map (·.key)=es.toList.map (·.key):=by
   apply List.ext_getElem?;intro i;rw [aaV,aaV,List.getElem?_set];by_cases hij:j=i
   ·subst hij;have hlt:j<es.toList.length:=(aao.1 h2).1;simp [h2,h3];simpa using hlt
   ·simp [hij]
  have hmem:∀ q,q∈es.toList.set j { e0 with key:=x,val:=v }→q= { e0 with key:=x,val:=v }∨(q∈es.toList∧q.key≠x):=by
   intro q hq;obtain ⟨i,hi,rfl⟩:=aaY.1 hq;rw [List.getElem_set];by_cases hij:j=i
   ·rw [if_pos hij];exact .inl rfl
   ·rw [if_neg hij];have hi':i<es.toList.length:=by simpa using hi
    refine .inr ⟨aaX _,fun he=>hij ?_⟩;have hlt:j<es.toList.length:=(aao.1 h2).1;refine (List.getElem_inj (h₀:=by simpa using hlt) (h₁:=by simpa using hi') F.nodup).1 ?_;have:=(aao.1 h2).2;simp only [List.getElem_map,this,h3,he]
  have hin:({ e0 with key:=x,val:=v }:MapEntry)∈es.toList.set j { e0 with key:=x,val:=v }:=List.mem_set (aao.1 h2).1 _
  have hoth:∀ q∈es.toList,q.key≠x→q∈es.toList.set j { e0 with key:=x,val:=v }:=by
   intro q hq hne;obtain ⟨i,hi,rfl⟩:=aaY.1 hq;have hij:j≠i:=by
    rintro rfl;have:=(aao.1 h2).2;rw [this] at hne;exact hne h3
   refine aaY.2 ⟨i,by simpa using hi,?_⟩;rw [List.getElem_set,if_neg hij]
  refine ⟨by rw [←aaH,hmod,List.length_set,aaH];have:=F.size;omega,?_,by rw [hmod,hkeys];exact F.nodup,?_,?_⟩
  ·intro q hq
   rw [hmod] at hq
   rcases hmem q hq with rfl|⟨hq,_⟩
   ·exact hkK
   ·exact F.keys q hq
  ·intro z dz hz
   rw [hmod]
   by_cases hzx:qj z=some x
   ·rw [hp1 z hzx,aal] at hz
    subst hz
    exact ⟨_,hin,hzx,hvd⟩
   ·rw [hp2 z hzx] at hz
    obtain ⟨q,q1,q2,q3⟩:=F.get z dz hz
    exact ⟨q,hoth q q1 (fun he=>hzx (by rw [q2,he])),q2,q3⟩
  ·intro q hq z hz
   rw [hmod] at hq
   by_cases hzx:qj z=some x
   ·rw [hp1 z hzx];simp
   ·rw [hp2 z hzx]
    rcases hmem q hq with rfl|⟨hq,_⟩
    ·exact absurd hz hzx
    ·exact F.dom q hq z hz
def qS {t ty e:TypeId} {i:TypeInfo} (hu:P.underlying t=some (.slice e)) (hie:P.info? e=some i) (base:Option Addr) (n cap:Nat) (hn:n≤cap) {xv:Value} (hx:xv= .slice none 0 0∨∃ a cp,xv= .slice (some a) 0 cp):
  (Builtin.append_ #[t,t] ty #[.slice base n cap,xv]).run P w= .ok (.slice base n cap) w:=by
 rcases hx with rfl|⟨a,cp,rfl⟩<;>cases base<;>
  simp [Builtin.append_,run_underlying hu,sizeOf,typeInfo,hie,Builtin.lenOf,Builtin.firstCells,hn,storeCells,loadCells,loadCellsFrom]
def ql (hc:bf c w st) (t ty:TypeId) {s x:Value} {S X Z:V} {st':St} (hs:Rel c s S) (hx:Rel c x X) (h:fu P t S X st=some (Z,st')):
  ∃ cv w' c',(Builtin.append_ #[t,t] ty #[s,x]).run P w= .ok cv w'∧Rel c' cv Z∧bf c' w' st'∧Ext c c':=by
 unfold fu at h
 split at h
 case h_2=>simp at h
 rename_i e sz by_ xs hsl hX
 obtain ⟨hu,ie,hie,_,_⟩:=kz hsl
 split at h
 case isFalse=>simp at h
 rename_i hcond
 obtain ⟨hrows,hsz,hz⟩:=hcond
 have rx:=hx.me hX
 have hempty:xs=[]→x= .slice none 0 0∨∃ a cp,x= .slice (some a) 0 cp:=by
  intro he;subst he;cases rx with
  |slnil=>exact .inl rfl
  |uV a=>exact .inr ⟨_,_,rfl⟩
  |sl k off n cap sz' vs _ h1 _ _ _ _=>exact .inr ⟨_,cap,by rw [←h1];rfl⟩
 split at h
 ·split at h
  case isFalse=>simp at h
  rename_i hb
  cases hs
  split at h
  ·rename_i he
   simp only [aal,aaq] at h
   obtain ⟨rfl,rfl⟩:=h
   have hxs:xs=[]:=by simpa using he
   exact ⟨_,w,c,qS hu hie none 0 0 (aat _) (hempty hxs),.bh,hc,Ext.refl c⟩
  ·rename_i he
   simp only [aal,aaq] at h
   obtain ⟨rfl,rfl⟩:=h
   have hne:xs≠[]:=by simpa using he
   have hc1:=hc.e9 e hsz
   have hlen:st.toks.length=c.tok.length:=by rw [←hc.cu];simp
   have htk:(c.e9 e sz).tok[st.toks.length]?=some ⟨.slice none 0 0,e,sz,0⟩:=by
    rw [hlen];simp [Ctx.e9]
   obtain ⟨cv,w',c',hrun,hrel,hconf,hext⟩:=tR hc1 (ty:=ty) hsl hz htk rfl rfl (es:=[]) (xs:=xs) rfl (by simp) .slnil (rx.mono (Ext.e9 c e sz).H) hrows hne (by simpa using hb.1) (by simpa using hb.2)
   refine ⟨cv,w',c',hrun,by simpa using hrel,?_,(Ext.e9 c e sz).trans hext⟩
   have:(st.toks++[(e,sz,0)]).set st.toks.length (e,sz,xs.length)=st.toks++[(e,sz,xs.length)]:=by simp
   simpa [this] using hconf
 ·rename_i id es
  split at h
  case isFalse=>simp at h
  rename_i hb
  obtain ⟨htoks,hes,hb1,hb2⟩:=hb
  cases hs with|own _ _ _ tk r htk hszr hle heq=>?_
  have htl:tk.e=e∧tk.sz=sz∧tk.len=es.length:=by
   have:=congrArg (fun l=>l[id]?) hc.cu;simp only [aaV,htk,aaJ,htoks,aal,aaq] at this;exact ⟨this.1,this.2.1,this.2.2⟩
  obtain ⟨he1,he2,he3⟩:=htl
  have hval:=heq he3.symm
  split at h
  ·rename_i he
   simp only [aal,aaq] at h
   obtain ⟨rfl,rfl⟩:=h
   have hxs:xs=[]:=by simpa using he
   have hsv:∃ base n cap,s= .slice base n cap∧n≤cap:=by
    cases r with
    |slnil=>exact ⟨_,_,_,rfl,aat _⟩
    |uV a=>exact ⟨_,_,_,rfl,aat _⟩
    |sl k off n cap sz' vs _ h1 h2 _ _ _=>exact ⟨_,_,_,rfl,h2⟩
   obtain ⟨base,n,cap,rfl,hn⟩:=hsv
   exact ⟨_,w,c,qS hu hie base n cap hn (hempty hxs),.own _ _ _ tk r htk hszr hle heq,hc,Ext.refl c⟩
  ·rename_i he
   simp only [aal,aaq] at h
   obtain ⟨rfl,rfl⟩:=h
   have hne:xs≠[]:=by simpa using he
   subst hval
   exact tR hc (ty:=ty) hsl hz htk he1 he2 he3.symm (fun r hr=>by rw [hszr r hr,he2]) r rx hrows hne hb1 hb2
 ·simp at h
def setRow_self {w:World} {g:Nat} {cur:Array Value} {e:TypeId} {f:Nat×Nat} (h:w.heap[g]?=some (.cells cur e f)):w.setRow g cur=w:=by
 have hh:(w.setRow g cur).heap=w.heap:=by
  apply Array.ext_getElem?;intro i;by_cases hi:i=g
  ·subst hi;rw [setRow_heap w i cur cur e f h,h]
  ·exact setRow_other w g i cur hi
 cases w;simp only [World.setRow] at hh ⊢;rw [hh]
def tT (hc:bf c w st) (t u ty:TypeId) {s x:Value} {S X Z:V} {st':St} (hs:Rel c s S) (hx:Rel c x X) (h:oB P t u S X st=some (Z,st')):
  ∃ cv w' c',(Builtin.append_ #[t,u] ty #[s,x]).run P w= .ok cv w'∧Rel c' cv Z∧bf c' w' st'∧Ext c c':=by
 unfold oB at h
 split at h
 case h_2=>simp at h
 rename_i l
 split at h
 case isFalse=>simp at h
 rename_i hcond
 obtain ⟨hu,hok⟩:=hcond
 unfold wh at hok
 split at hok
 case h_2=>cases hok
 rename_i e hsl
 split at hok
 case h_2=>cases hok
 rename_i hz
 cases hx with|d _ _ hx=>?_
 cases hx with|str sb _ hsb=>?_
 obtain ⟨hut,ie,hie,hsz',hby'⟩:=kz hsl
 have hstr:P.underlying u=some .string:=by
  unfold isStr at hu;split at hu
  ·assumption
  ·cases hu
 unfold fu at h
 simp only [hsl,V.me] at h
 split at h
 case isFalse=>simp at h
 have hsl':sb.size=l.length:=by rw [←hsb,aaH];rfl
 have hrl:(aH l).length=l.length:=by simp [aH]
 have hem:(aH l).isEmpty=true↔l=[]:=by cases l<;>simp [aH]
 split at h
 ·split at h
  case isFalse=>simp at h
  rename_i hb
  rw [hrl] at hb
  cases hs
  split at h
  ·rename_i he
   simp only [aal,aaq] at h
   obtain ⟨rfl,rfl⟩:=h
   have hl:l=[]:=hem.1 he
   refine ⟨_,w,c,?_,.bh,hc,Ext.refl c⟩
   have hf:=Lib.run_firstCells_string (P:=P) w 1 sb
   have hsz0:sb.size=0:=by rw [hsl',hl];rfl
   rw [hsz0] at hf
   simp [Builtin.append_,run_underlying hut,run_underlying hstr,sizeOf,typeInfo,hie,hsz',Builtin.lenOf,hsz0,hf]
  ·rename_i he
   simp only [aal,aaq] at h
   obtain ⟨rfl,rfl⟩:=h
   have hne:l≠[]:=fun h=>he (hem.2 h)
   have hc1:=hc.e9 e (sz:=1) (by omega)
   have hlen:st.toks.length=c.tok.length:=by rw [←hc.cu];simp
   have htk:(c.e9 e 1).tok[st.toks.length]?=some ⟨.slice none 0 0,e,1,0⟩:=by
    rw [hlen];simp [Ctx.e9]
   obtain ⟨cv,w',c',hrun,hrel,hconf,hext⟩:=mR hc1 (ty:=ty) hsl hu hz rfl htk rfl rfl (es:=[]) rfl (by simp) .slnil hsb hne (by simpa using hb.1) (by simpa using hb.2)
   refine ⟨cv,w',c',hrun,by simpa using hrel,?_,(Ext.e9 c e 1).trans hext⟩
   have:(st.toks++[(e,1,0)]).set st.toks.length (e,1,l.length)=st.toks++[(e,1,l.length)]:=by simp
   rw [hrl]
   simpa [this] using hconf
 ·rename_i id es
  split at h
  case isFalse=>simp at h
  rename_i hb
  obtain ⟨htoks,hes,hb1,hb2⟩:=hb
  rw [hrl] at hb1 hb2
  cases hs with|own _ _ _ tk r htk hszr hle heq=>?_
  have htl:tk.e=e∧tk.sz=1∧tk.len=es.length:=by
   have:=hc.cu▸htoks;rw [aaV,htk] at this;simpa using this
  obtain ⟨ht1,ht2,ht3⟩:=htl
  have hv:=heq ht3.symm
  subst hv
  split at h
  ·rename_i he
   simp only [aal,aaq] at h
   obtain ⟨rfl,rfl⟩:=h
   have hl:l=[]:=hem.1 he
   have hsz0:sb.size=0:=by rw [hsl',hl];rfl
   have hsc:Lib.strCells sb=[]:=abx (by rw [Lib.strCells_length];exact hsz0)
   refine ⟨tk.val,w,c,?_,.own _ id es tk r htk hszr hle heq,hc,Ext.refl c⟩
   obtain ⟨_,hdd|⟨old,hold,_⟩⟩:=hc.cz id tk htk
   ·exfalso;have:=hdd.1;simp only [ht3] at this;omega
   have hf:=Lib.run_firstCells_string (P:=P) w 1 sb
   rw [hsz0] at hf
   rcases hold.2 with ⟨hv,hn⟩|⟨g,cap,cur,hv,hbg,hg,hnc,hcm,hcs,htake⟩
   ·rw [hv]
    simp [Builtin.append_,run_underlying hut,run_underlying hstr,sizeOf,typeInfo,hie,hsz',Builtin.lenOf,hsz0,hf]
   ·rw [hv]
    have hr:=Lib.run_append_room_string (P:=P) w t u ty tk.e ie (ht1▸hut) hstr (ht1▸hie) hsz' g tk.len cap cur hg sb (by omega) (by rw [hcs,ht2];omega)
    rw [hr,hsz0,hsc]
    simp only [abE,aaM,List.take_append_drop]
    rw [setRow_self (by simpa using hg)]
  ·rename_i he
   simp only [aal,aaq] at h
   obtain ⟨rfl,rfl⟩:=h
   have hne:l≠[]:=fun h=>he (hem.2 h)
   have hes':∀ r∈es,r.length=1:=fun r hr=>by rw [hszr r hr,ht2]
   obtain ⟨cv,w',c',hrun,hrel,hconf,hext⟩:=mR hc (ty:=ty) hsl hu hz rfl htk ht1 ht2 ht3.symm hes' r hsb hne hb1 hb2
   exact ⟨cv,w',c',hrun,hrel,by rw [hrl];exact hconf,hext⟩
 ·simp at h
def tU (hc:bf c w st) (ty:TypeId) {x:Value} {X Z:V} {st':St} (hx:Rel c x X) (h:evalNext X st=some (Z,st')):
  ∃ cv w',(Instr.next x true ty).run P w= .ok cv w'∧Rel c cv Z∧bf c w' st':=by
 unfold evalNext at h
 split at h
 case h_2=>simp at h
 rename_i k
 split at h
 case h_2=>simp at h
 rename_i s pos hB
 cases hx with|ptr _ kk _ hk=>?_
 obtain ⟨s',hh,e⟩:=hc.iterAt hk hB
 have hsize:s'.size=s.length:=by rw [←e,aaH];rfl
 have hs':(⟨s.toArray⟩:ByteArray)=s':=by rw [←e]
 have hget:(getObj kk).run P w= .ok (.stringIter s' pos) w:=by
  simp [getObj,Sem.run,hh]
 split at h<;>simp only [aal,aaq] at h<;>obtain ⟨rfl,rfl⟩:=h
 ·rename_i hlt
  refine ⟨.tuple #[.bool true,goInt pos,.int .i32 (Utf8.decode s' pos).1],_,?_,?_,hc.setIter (pos':=pos+(Utf8.decode ⟨s.toArray⟩ pos).2) hk hB hh e⟩
  ·rw [hs']
   have hset:(setObj kk (.stringIter s' (pos+(Utf8.decode s' pos).2))).run P w= .ok () { w with heap:=w.heap.setIfInBounds kk (.stringIter s' (pos+(Utf8.decode s' pos).2)) }:=by
    simp [setObj,Sem.run,hh]
   simp only [Instr.next,Sem.run_bind,hget,Result.andThen_ok]
   rw [if_pos (by omega)]
   simp only [Sem.run_bind,hset,Result.andThen_ok,Sem.run_pure]
  ·rw [hs']
   refine .cF _ _ rfl fun i hi=>?_
   have:i=0∨i=1∨i=2:=by simp at hi;omega
   rcases this with rfl|rfl|rfl
   ·exact .d _ _ (.bool _)
   ·exact .d _ _ (.int _ _)
   ·exact .d _ _ (.int _ _)
 ·rename_i hlt
  refine ⟨.tuple #[.bool false],w,?_,?_,hc⟩
  ·simp only [Instr.next,Sem.run_bind,hget,Result.andThen_ok]
   rw [if_neg (by omega)]
   rfl
  ·refine .cF _ _ rfl fun i hi=>?_
   have:i=0:=by simpa using hi
   subst this
   exact .d _ _ (.bool _)
def oo {t:TypeId} (h:isIface P t=some false):∃ d,P.underlying t=some d∧∀ ms,d≠ .interface ms:=by
 unfold isIface at h;cases hd:P.underlying t with
 |none=>simp [hd] at h
 |some d=>
  rw [hd] at h
  exact ⟨d,rfl,fun ms e=>by subst e;simp at h⟩
def qm (xt asT:TypeId) (ok:Bool) {x:Value} {X Z:V} (hx:Rel c x X) (h:yI P X asT ok=some Z):
  ∃ cv,(Instr.typeAssert x xt asT ok).run P w= .ok cv w∧Rel c cv Z:=by
 unfold yI at h
 have two:∀ {a b:Value} {A B:V},Rel c a A→Rel c b B→Rel c (.tuple #[a,b]) (.cF [A,B]):=by
  intro a b A B ha hb;refine .cF _ _ rfl fun i hi=>?_;have:i=0∨i=1:=by simp at hi;omega
  rcases this with rfl|rfl
  ·exact ha
  ·exact hb
 split at h
 ·rename_i hif
  obtain ⟨d,hu,hni⟩:=oo hif
  cases hx with|d _ _ hx=>?_
  cases hx
  split at h
  case isFalse=>simp at h
  rename_i hok
  subst hok
  split at h<;>simp only [aal,reduceCtorEq] at h
  rename_i z hz
  subst h
  refine ⟨.tuple #[z,.bool false],?_,two (mO z) (.d _ _ (.bool _))⟩
  unfold Instr.typeAssert
  simp only [Sem.run_bind,run_underlying hu,Result.andThen_ok]
  cases d<;>first|(exact absurd rfl (hni _))|simp [kU hz]
 ·rename_i t v hif
  obtain ⟨d,hu,hni⟩:=oo hif
  cases hx with|d _ _ hx=>?_
  cases hx with|iface _ v' _ hv=>?_
  split at h
  case isFalse=>simp at h
  rename_i ht
  subst ht
  split at h<;>simp only [aal] at h<;>subst h
  ·rename_i hok
   subst hok
   refine ⟨.tuple #[v',.bool true],?_,two (.d _ _ hv) (.d _ _ (.bool _))⟩
   unfold Instr.typeAssert
   simp only [Sem.run_bind,run_underlying hu,Result.andThen_ok]
   cases d<;>first|(exact absurd rfl (hni _))|simp
  ·rename_i hok
   have hok':ok=false:=by simpa using hok
   subst hok'
   refine ⟨v',?_,.d _ _ hv⟩
   unfold Instr.typeAssert
   simp only [Sem.run_bind,run_underlying hu,Result.andThen_ok]
   cases d<;>first|(exact absurd rfl (hni _))|simp
 ·simp at h
def Yw (P:Program) (a:Act) (o:Oper) (w:World) (cv:Value) (w':World):Prop:=
 (execOp a.eval o).run P w= .ok (.value cv) w'∨((execOp a.eval o).run P w= .ok .skip w'∧cv=undef)
def oz (hc:bf c w st) (o:Oper) {a:Act} {fr:Fr} (hf:cC c a.tmps fr) {Z:V} {st':St} (h:evalOp P o fr st=some (Z,st')):
  ∃ cv w' c',Yw P a o w cv w'∧Rel c' cv Z∧bf c' w' st'∧Ext c c':=by
 unfold evalOp at h
 have pure1:∀ {r:Option V} {m:Sem Value},(∀ Z,r=some Z→∃ cv,m.run P w= .ok cv w∧Rel c cv Z)→(execOp a.eval o=(do pure (.value (←m)):Sem Next))→r.map (·,st)=some (Z,st')→
   ∃ cv w' c',Yw P a o w cv w'∧Rel c' cv Z∧bf c' w' st'∧Ext c c':=by
  intro r m hr he hm
  obtain ⟨Z',h1,h2⟩:=aaF.1 hm
  simp only [aaq] at h2
  obtain ⟨rfl,rfl⟩:=h2
  obtain ⟨cv,h3,h4⟩:=hr Z' h1
  exact ⟨cv,w,c,.inl (by rw [he];simp [h3]),h4,hc,Ext.refl c⟩
 split at h
 case h_1 x hop=>
  simp only [aal,aaq] at h
  obtain ⟨rfl,rfl⟩:=h
  exact ⟨a.eval x,w,c,.inl (by simp [execOp,hop]),bJ hf x,hc,Ext.refl c⟩
 case h_2 x hop=>
  simp only [aal,aaq] at h
  obtain ⟨rfl,rfl⟩:=h
  exact ⟨a.eval x,w,c,.inl (by simp [execOp,hop]),bJ hf x,hc,Ext.refl c⟩
 case h_3 cnd x y hop=>
  split at h
  case h_2=>simp at h
  rename_i t ht
  simp only [aal,aaq] at h
  obtain ⟨rfl,rfl⟩:=h
  have hr:=bJ hf cnd
  rw [ht] at hr
  generalize hq:a.eval cnd=q at hr
  cases hr with|d _ _ hr=>?_
  cases hr
  refine ⟨if t then a.eval x else a.eval y,w,c,.inl (by simp [execOp,hop,hq,asBool]),?_,hc,Ext.refl c⟩
  cases t
  ·exact bJ hf y
  ·exact bJ hf x
 case h_4 e hop=>
  split at h
  case h_2=>simp at h
  rename_i cs hcs
  unfold eU at hcs
  obtain ⟨z,hz,hz2⟩:=abM.1 hcs
  simp only [aal,aaq,c7] at h
  obtain ⟨rfl,rfl⟩:=h
  obtain ⟨h1,h2⟩:=ko (c:=c) hz2
  have hb:L2 c (.cells z.cells e (0,0)) (v8 P e cs):=by
   unfold v8;split
   ·exact .tc _ _ _ (by simpa using h1) (fun i hi=>by rw [aK];exact h2 i hi)
   ·exact .cells _ _ _ (by simpa using h1) (fun i hi=>by rw [aK];exact h2 i hi)
  exact ⟨.pointer (some ⟨w.heap.size,0,none⟩),w.alloc (.cells z.cells e),c.c7 w.heap.size,.inl (by simp [execOp,hop,Instr.alloc,kU hz,tP]),.ptr _ _ _ (by simp [Ctx.c7,←hc.cN]),hc.alloc hb,Ext.c7 c _⟩
 case h_5 e x hop=>
  split at h
  case h_2=>simp at h
  rename_i cs hcs
  simp only [aal,aaq,c7] at h
  obtain ⟨rfl,rfl⟩:=h
  obtain ⟨h1,h2⟩:=(bJ hf x).cells hcs
  obtain ⟨k1,k2,k3⟩:=Ao hc e h1 h2
  exact ⟨_,_,_,.inl (by simp [execOp,hop,Instr.box,tP]),k3,k1,k2⟩
 case h_6 t parts hop=>
  exact pure1 (fun Z hZ=>rm t hf parts hZ) (by simp only [execOp,hop]) h
 case h_7 t n parts hop=>
  obtain ⟨Z',h1,h2⟩:=aaF.1 h
  simp only [aaq] at h2
  obtain ⟨rfl,rfl⟩:=h2
  obtain ⟨cv,w',c',h3,h4,h5,h6⟩:=mQ hc t n hf parts h1
  exact ⟨cv,w',c',.inl (by simp only [execOp,hop,Sem.run_bind,h3,Result.andThen_ok,Sem.run_pure]),h4,h5,h6⟩
 case h_8 t x hop=>
  exact pure1 (fun Z hZ=>mb hc t (bJ hf x) hZ) (by simp only [execOp,hop]) h
 case h_9 t x y hop=>
  obtain ⟨gD,h1,h2⟩:=aaF.1 h
  simp only [aaq] at h2
  obtain ⟨rfl,rfl⟩:=h2
  obtain ⟨w',h3,h4⟩:=rj hc t (bJ hf x) (bJ hf y) h1
  exact ⟨undef,w',c,.inr ⟨by simp only [execOp,hop,Sem.run_bind,h3,Result.andThen_ok,Sem.run_pure],rfl⟩,.aU _,h4,Ext.refl c⟩
 case h_10 x hop=>
  have hr:=bJ hf x
  split at h
  ·rename_i b off he
   simp only [aal,aaq] at h
   obtain ⟨rfl,rfl⟩:=h
   rw [he] at hr
   generalize hq:a.eval x=q at hr
   cases hr with|ptr _ k _ hk=>?_
   exact ⟨_,w,c,.inl (by simp [execOp,hop,hq]),.ptr _ _ _ hk,hc,Ext.refl c⟩
  ·rename_i cs off he
   simp only [aal,aaq] at h
   obtain ⟨rfl,rfl⟩:=h
   rw [he] at hr
   generalize hq:a.eval x=q at hr
   cases hr with|ep k base _ vs _ h1 h2=>?_
   exact ⟨_,w,c,.inl (by simp [execOp,hop,hq]),.ep _ _ _ _ _ h1 h2,hc,Ext.refl c⟩
  ·rename_i f cap he
   simp only [aal,aaq] at h
   obtain ⟨rfl,rfl⟩:=h
   rw [he] at hr
   generalize hq:a.eval x=q at hr
   cases hr with|jE _ arr _ h1 h2=>?_
   exact ⟨_,w,c,.inl (by simp [execOp,hop,hq]),.jE _ _ _ h1 h2,hc,Ext.refl c⟩
  ·simp at h
 case h_11 op t x y _ hop=>
  rw [wG] at h
  exact pure1 (fun Z hZ=>xL op t x y (bJ hf x) (bJ hf y) hZ) (by simp only [execOp,hop]) h
 case h_12 op _ x hop=>
  exact pure1 (fun Z hZ=>xM op (bJ hf x) hZ) (by simp only [execOp,hop]) h
 case h_13 s d x hop=>
  exact pure1 (fun Z hZ=>tM hc s d (bJ hf x) hZ) (by simp only [execOp,hop]) h
 case h_14 t x hop=>
  split at h
  case isFalse=>simp at h
  rename_i hif
  obtain ⟨d,h1,h2⟩:=aaF.1 h
  simp only [aaq] at h2
  obtain ⟨rfl,rfl⟩:=h2
  obtain ⟨dd,hu,hni⟩:=oo hif
  have:=tQ (bJ hf x) h1
  refine ⟨.iface t (a.eval x),w,c,.inl ?_,.d _ _ (.iface t _ _ this),hc,Ext.refl c⟩
  have hcon:P.concrete t=true:=by
   unfold Program.concrete;rw [hu];cases dd<;>first|rfl|(exact absurd rfl (hni _))
  simp [execOp,hop,run_makeInterface (P:=P) w t _ hcon]
 case h_15 f first captured hop=>
  split at h
  case isFalse=>simp at h
  rename_i hfirst
  simp only [aal,aaq] at h
  obtain ⟨rfl,rfl⟩:=h
  have hfe:first= #[]:=by simpa using hfirst
  subst hfe
  refine ⟨.func (.func f) #[] (captured.map a.eval),w,c,.inl (by simp [execOp,hop,Instr.makeFunc]),.jE f _ _ (by simp) fun i hi=>?_,hc,Ext.refl c⟩
  simp only [aaC,aaH] at hi
  have e1:(captured.map a.eval).getD i undef=a.eval captured[i]:=by simp [aap,hi]
  have e2:(captured.toList.map (ev fr)).getD i .aU=ev fr captured[i]:=by simp [aam,hi]
  rw [e1,e2]
  exact bJ hf _
 case h_16 t x lo hi hop=>
  exact pure1 (fun Z hZ=>rq t hf (bJ hf x) lo hi hZ) (by simp only [execOp,hop];rfl) h
 case h_17 t x f hop=>
  exact pure1 (fun Z hZ=>jx t f (bJ hf x) hZ) (by simp only [execOp,hop]) h
 case h_18 t x f hop=>
  exact pure1 (fun Z hZ=>ru t f (bJ hf x) hZ) (by simp only [execOp,hop]) h
 case h_19 t x i hop=>
  exact pure1 (fun Z hZ=>nD t (bJ hf x) (bJ hf i) hZ) (by simp only [execOp,hop]) h
 case h_20 t x i hop=>
  exact pure1 (fun Z hZ=>ry t (bJ hf x) (bJ hf i) hZ) (by simp only [execOp,hop]) h
 case h_21 x i hop=>
  exact pure1 (fun Z hZ=>pz i (bJ hf x) hZ) (by simp only [execOp,hop]) h
 case h_22 t x hop=>
  unfold mT at h
  split at h
  case h_2=>simp at h
  rename_i s hs
  split at h
  case isFalse=>simp at h
  rename_i hstr
  simp only [aal,aaq,c7] at h
  obtain ⟨rfl,rfl⟩:=h
  have hr:=bJ hf x
  rw [hs] at hr
  generalize hq:a.eval x=q at hr
  cases hr with|d _ _ hr=>?_
  cases hr with|str s' _ e=>?_
  have hu:=jY hstr
  have hal:=hc.alloc (L2.iter (c:=c) s' s 0 e)
  refine ⟨.pointer (some ⟨w.heap.size,0,none⟩),_,_,.inl ?_,.ptr _ _ _ (by simp [Ctx.c7,←hc.cN]),hal,Ext.c7 c _⟩
  simp [execOp,hop,hq,Instr.range,run_underlying hu]
 case h_23 x hop=>
  obtain ⟨cv,w',h1,h2,h3⟩:=tU (P:=P) hc o.type (bJ hf x) h
  exact ⟨cv,w',c,.inl (by simp only [execOp,hop,Sem.run_bind,h1,Result.andThen_ok,Sem.run_pure]),h2,h3,Ext.refl c⟩
 case h_24 t hop=>
  split at h
  case h_2=>simp at h
  rename_i kd e hkk
  simp only [aal,aaq] at h
  obtain ⟨rfl,rfl⟩:=h
  obtain ⟨h1,h2,h3,h4⟩:=uC (P:=P) hc (t:=t) kd
  exact ⟨_,_,_,.inl (by simp only [execOp,hop];simp [h1]),h2,h3,h4⟩
 case h_25 t m x ok hop=>
  exact pure1 (fun Z hZ=>xN hc (bJ hf m) (bJ hf x) hZ) (by simp only [execOp,hop]) h
 case h_26 t m x v hop=>
  obtain ⟨gD,h1,h2⟩:=aaF.1 h
  simp only [aaq] at h2
  obtain ⟨rfl,rfl⟩:=h2
  obtain ⟨w',h3,h4⟩:=xO hc (bJ hf m) (bJ hf x) (bJ hf v) h1
  exact ⟨undef,w',c,.inr ⟨by simp only [execOp,hop,Sem.run_bind,h3,Result.andThen_ok,Sem.run_pure],rfl⟩,.aU _,h4,Ext.refl c⟩
 case h_27 x t asT ok hop=>
  exact pure1 (fun Z hZ=>qm t asT ok (bJ hf x) hZ) (by simp only [execOp,hop]) h
 case h_28 b args ts hop=>
  unfold dP at h
  have hargs:(args.map a.eval).toList=args.toList.map a.eval:=by simp
  have hexec:∀ m:Sem Value,(builtin b ts o.type (args.map fun| .const _=>true|_=>false) (args.map a.eval)=(do pure (.value (←m)):Sem Next))→execOp a.eval o=(do pure (.value (←m)):Sem Next):=by
   intro m hm;simp only [execOp,hop,resolve,pure_bind,invoke];exact hm
  split at h
  ·rename_i t x hts hargs'
   obtain ⟨y,ys,h1⟩:∃ y ys,args.toList=y::ys:=by cases hq:args.toList with|nil=>simp [hq] at hargs'|cons y ys=>exact ⟨y,ys,rfl⟩
   rw [h1] at hargs'
   simp only [aaB,List.cons.injEq,List.map_eq_nil_iff] at hargs'
   obtain ⟨rfl,rfl⟩:=hargs'
   have ha:args= #[y]:=by apply abA;simpa using h1
   have ht:ts= #[t]:=by apply abA;simpa using hts
   subst ha
   subst ht
   exact pure1 (fun Z hZ=>uB t o.type (bJ hf y) hZ) (hexec _ (by simp [builtin])) h
  ·rename_i t t' s x hts hargs'
   obtain ⟨y,y2,h1⟩:∃ y y2,args.toList=[y,y2]:=by
    match hq:args.toList with
    |[]=>simp [hq] at hargs'
    |[_]=>simp [hq] at hargs'
    |[y,y2]=>exact ⟨y,y2,rfl⟩
    |_::_::_::_=>simp [hq] at hargs'
   rw [h1] at hargs'
   simp only [aaB,aaI,List.cons.injEq,and_true] at hargs'
   obtain ⟨rfl,rfl⟩:=hargs'
   have ha:args= #[y,y2]:=by apply abA;simpa using h1
   split at h
   case isFalse=>
    rename_i t t' htt
    have ht:ts= #[t,t']:=by apply abA;simpa using hts
    subst ha
    subst ht
    obtain ⟨cv,w',c',h3,h4,h5,h6⟩:=tT (P:=P) hc t t' o.type (bJ hf y) (bJ hf y2) h
    refine ⟨cv,w',c',.inl ?_,h4,h5,h6⟩
    rw [hexec (Builtin.append_ #[t,t'] o.type #[a.eval y,a.eval y2]) (by simp [builtin])]
    simp [h3]
   rename_i htt
   subst htt
   have ht:ts= #[t,t]:=by apply abA;simpa using hts
   subst ha
   subst ht
   obtain ⟨cv,w',c',h3,h4,h5,h6⟩:=ql (P:=P) hc t o.type (bJ hf y) (bJ hf y2) h
   refine ⟨cv,w',c',.inl ?_,h4,h5,h6⟩
   rw [hexec (Builtin.append_ #[t,t] o.type #[a.eval y,a.eval y2]) (by simp [builtin])]
   simp [h3]
  ·rename_i x y hargs'
   obtain ⟨y1,y2,h1⟩:∃ y y2,args.toList=[y,y2]:=by
    match hq:args.toList with
    |[]=>simp [hq] at hargs'
    |[_]=>simp [hq] at hargs'
    |[y,y2]=>exact ⟨y,y2,rfl⟩
    |_::_::_::_=>simp [hq] at hargs'
   rw [h1] at hargs'
   simp only [aaB,aaI,List.cons.injEq,and_true] at hargs'
   obtain ⟨rfl,rfl⟩:=hargs'
   have ha:args= #[y1,y2]:=by apply abA;simpa using h1
   subst ha
   refine pure1 (m:=Builtin.max_ ts o.type #[a.eval y1,a.eval y2]) (fun Z hZ=>?_) (hexec _ (by simp [builtin])) h
   unfold oC at hZ
   split at hZ
   case h_2=>simp at hZ
   rename_i k n k' n' e1 e2
   split at hZ<;>simp only [aal,reduceCtorEq] at hZ
   rename_i hk
   subst hk
   subst hZ
   have r1:=bJ hf y1
   have r2:=bJ hf y2
   rw [e1] at r1
   rw [e2] at r2
   generalize a.eval y1=q1 at r1
   generalize a.eval y2=q2 at r2
   cases r1 with|d _ _ r1=>?_
   cases r2 with|d _ _ r2=>?_
   cases r1
   cases r2
   exact ⟨_,run_max_int2 (P:=P) w ts o.type k k n n',.d _ _ (.int _ _)⟩
  ·rename_i x y hargs'
   obtain ⟨y1,y2,h1⟩:∃ y y2,args.toList=[y,y2]:=by
    match hq:args.toList with
    |[]=>simp [hq] at hargs'
    |[_]=>simp [hq] at hargs'
    |[y,y2]=>exact ⟨y,y2,rfl⟩
    |_::_::_::_=>simp [hq] at hargs'
   rw [h1] at hargs'
   simp only [aaB,aaI,List.cons.injEq,and_true] at hargs'
   obtain ⟨rfl,rfl⟩:=hargs'
   have ha:args= #[y1,y2]:=by apply abA;simpa using h1
   subst ha
   refine pure1 (m:=Builtin.min_ ts o.type #[a.eval y1,a.eval y2]) (fun Z hZ=>?_) (hexec _ (by simp [builtin])) h
   unfold DI at hZ
   split at hZ
   case h_2=>simp at hZ
   rename_i k n k' n' e1 e2
   split at hZ<;>simp only [aal,reduceCtorEq] at hZ
   rename_i hk
   subst hk
   subst hZ
   have r1:=bJ hf y1
   have r2:=bJ hf y2
   rw [e1] at r1
   rw [e2] at r2
   generalize a.eval y1=q1 at r1
   generalize a.eval y2=q2 at r2
   cases r1 with|d _ _ r1=>?_
   cases r2 with|d _ _ r2=>?_
   cases r1
   cases r2
   exact ⟨_,run_min_int2 (P:=P) w ts o.type k k n n',.d _ _ (.int _ _)⟩
  ·simp at h
 case h_29 t l cc hop=>
  obtain ⟨cv,w',c',h1,h2,h3,h4⟩:=evalMake_sound (P:=P) hc (bJ hf l) (bJ hf cc) h
  exact ⟨cv,w',c',.inl (by simp only [execOp,hop,Sem.run_bind,h1,Result.andThen_ok,Sem.run_pure]),h2,h3,h4⟩
 case h_30=>simp at h
