/- A step of the proofs of the seat's theorems. -/
import Derived.Test.YthnoiikjfcnlhaaGreatDoorYA
import Derived.Test.YthnoiikjfcnlhaaGreatDoorY9
import Derived.Lib.AppendStr
import Derived.Maps.Keyed
import Derived.WideMake
set_option linter.unusedSimpArgs false
set_option linter.unusedVariables false
namespace Go.Abs
open Go.RowKit
variable {P:Program} {c:Ctx} {w:World} {st:St}
theorem lU (base:Nat) (t ty e:TypeId) (i:TypeInfo) (z:Value) (ht:P.underlying t=some (.slice e)) (hi:P.info? e=some i) (hz:i.zero=some z)
  (hzs:z.cells.size=i.size)
  (v:Value) (n:Nat) (xs:List Value) (hown:w.ownsRow base e i.size v n xs)
  (a:Addr) (m cp:Nat) (news:List Value) (hl:news.length=m*i.size) (hnews:∀ j u,news[j]?=some u→w.cell? (a.add j)=some u) (h1:∀ u∈news,u.oneCell'=true)
  (hm:0<m) (h63:n+m≤maxLen) (hbytes:(n+m)*i.bytes≤140737488355328) (hbase:base≤w.heap.size):
  ∃ w' row g cap,(Builtin.append_ #[t,t] ty #[v,.slice (some a) m cp]).run P w= .ok (.slice (some ⟨g,0,none⟩) (n+m) cap) w'∧
   w'.ownsRow base e i.size (.slice (some ⟨g,0,none⟩) (n+m) cap) (n+m) (xs++news)∧w.grownBy w' row∧n+m≤cap∧
   ((row=none∧w.heap.size≤g)∨(row=some g∧v.ownBlock=some g)):=by
 have hsmall:n+m≤9223372036854775807:=by simp only [maxLen] at h63;omega
 have hlen:(xs++news).length=(n+m)*i.size:=by rw [aak,hown.1,hl,abm]
 have grown:∀ (old:Nat),old<n+m→
   (w.drew.alloc (.cells (xs.toArray++news.toArray++Builtin.zeroCells z.cells (grownCap w (n+m) old e - (n+m))) e)).ownsRow base e i.size
    (.slice (some ⟨w.heap.size,0,none⟩) (n+m) (grownCap w (n+m) old e)) (n+m) (xs++news)∧
   w.grownBy (w.drew.alloc (.cells (xs.toArray++news.toArray++Builtin.zeroCells z.cells (grownCap w (n+m) old e - (n+m))) e)) none∧n+m≤grownCap w (n+m) old e:=by
  intro old ho
  have hge:=grownCap_ge w (n+m) old e
  have hcm:grownCap w (n+m) old e≤maxLen:=grownCap_le_maxLen w (n+m) old e h63
  refine ⟨⟨hlen,.inr ⟨w.heap.size,_,_,rfl,hbase,heap_alloc_new w.drew _,hge,hcm,?_,?_⟩⟩,⟨rfl,rfl,rfl,by simp,fun k hk _=>heap_alloc_old w.drew _ hk⟩,hge⟩
  ·simp only [Array.size_append,abl,size_zeroCells,hzs,hown.1,hl,←abm]
   congr 1
   omega
  ·simp only [Array.toList_append,aau]
   rw [←aau,←hlen]
   exact List.take_left
 rcases hown.2 with ⟨rfl,rfl⟩|⟨g,cap,cur,rfl,hbg,hg,hnc,hcm,hcs,htake⟩
 ·have hx:xs=[]:=abF (by simpa using hown.1)
  subst hx
  have hr:=run_append_nil (P:=P) w t ty e i z ht hi hz a m cp news hl hnews (by omega) (by omega) (by have hb:=hbytes;simp only [aaK] at hb;omega)
  have hgr:=grown 0 (by omega)
  simp only [aaK,aav,Array.empty_append] at hgr ⊢
  exact ⟨_,none,_,_,hr,hgr.1,hgr.2.1,hgr.2.2,.inl ⟨rfl,aan _⟩⟩
 ·by_cases hroom:n+m≤cap
  ·have hfit:n*i.size+news.length≤cur.size:=by rw [hl,hcs,←abm];exact abB _ hroom
   have hr:=run_append_room (P:=P) w t ty e i ht hi g n cap cur hg a m cp news hl hnews h1 hroom hfit
   refine ⟨_,some g,_,_,hr,⟨hlen,.inr ⟨g,cap,_,rfl,hbg,setRow_heap w g cur _ e _ hg,hroom,hcm,?_,?_⟩⟩,⟨rfl,rfl,rfl,by simp,fun k _ hk=>setRow_other w g k _ (fun e=>hk (by simp [e]))⟩,hroom,.inr ⟨rfl,rfl⟩⟩
   ·simp only [abl,aak,aag,aai,aaE]
    omega
   ·rw [htake,←hlen]
    exact List.take_left
  ·have holds:∀ j u,xs[j]?=some u→w.cell? ((⟨g,0,none⟩:Addr).add j)=some u:=hown.cells (g:=g) rfl
   have hr:=run_append_grow (P:=P) w t ty e i z ht hi hz ⟨g,0,none⟩ n cap xs hown.1 holds a m cp news hl hnews (by omega) (by omega) (growslice_fits (by omega) hbytes)
   have hgr:=grown cap (by omega)
   exact ⟨_,none,_,_,hr,hgr.1,hgr.2.1,hgr.2.2,.inl ⟨rfl,aan _⟩⟩
def Ctx.e9 (c:Ctx) (e:TypeId) (sz:Nat):Ctx:= { c with tok:=c.tok++[⟨.slice none 0 0,e,sz,0⟩] }
theorem Ext.e9 (c:Ctx) (e:TypeId) (sz:Nat):Ext c (c.e9 e sz):=
 ⟨fun _ _ _ h=>h,fun _ _ h=>h,fun _ t h=>⟨t,gV h,rfl,aan _,fun _=>rfl⟩,rfl,rfl⟩
theorem bf.e9 (h:bf c w st) (e:TypeId) {sz:Nat} (hsz:0<sz):bf (c.e9 e sz) w { st with toks:=st.toks++[(e,sz,0)] } where
 cN:=h.cN
 dH:=h.dH
 cI:=h.cI
 mS:=h.mS
 blk:=fun b k B hk hB=>let ⟨o,ho,hr⟩:=h.blk b k B hk hB;⟨o,ho,hr.mono (Ext.e9 c e sz)⟩
 cu:=by simp [Ctx.e9,h.cu]
 cz:=by
  intro id t ht
  rcases bH ht with ht|⟨_,rfl⟩
  ·exact h.cz id t ht
  ·exact ⟨hsz,.inr ⟨[],World.ownsRow_nil w _ _ _,fun g hg=>by simp [Value.ownBlock] at hg⟩⟩
 cK:=by
  intro i j s t g hi hj hs ht
  rcases bH hi with hi|⟨_,rfl⟩
  ·rcases bH hj with hj|⟨_,rfl⟩
   ·exact h.cK i j s t g hi hj hs ht
   ·simp [Value.ownBlock] at ht
  ·simp [Value.ownBlock] at hs
 cy:=h.cy
 below:=h.below
 cw:=h.cw
def Ctx.cM (c:Ctx) (id:Nat) (t:Tok) (g len:Nat) (v:Value) (xs:List Value):Ctx:=
 { c with H:=fun k o=>if k=g∧o<len*t.sz then xs[o]? else c.H k o,tok:=c.tok.set id { t with val:=v,len:=len } }
theorem bf.cM (h:bf c w st) {id:Nat} {t:Tok} (ht:c.tok[id]?=some t) {old news:List Value} {w':World} {row:Option Nat} {g m cap:Nat}
  (hm:0<m) (hold:w.ownsRow c.base t.e t.sz t.val t.len old)
  (hown:w'.ownsRow c.base t.e t.sz (.slice (some ⟨g,0,none⟩) (t.len+m) cap) (t.len+m) (old++news)) (hgr:w.grownBy w' row)
  (hrow:(row=none∧w.heap.size≤g)∨(row=some g∧t.val.ownBlock=some g)):
  bf (c.cM id t g (t.len+m) (.slice (some ⟨g,0,none⟩) (t.len+m) cap) (old++news)) w' { st with toks:=st.toks.set id (t.e,t.sz,t.len+m) }∧
  Ext c (c.cM id t g (t.len+m) (.slice (some ⟨g,0,none⟩) (t.len+m) cap) (old++news)):=by
 have hid:id<c.tok.length:=(aam.1 ht).1
 obtain ⟨hsz0,hdd|⟨old',hold',hgg⟩⟩:=h.cz id t ht
 ·exfalso
  rcases hold.2 with ⟨_,hn⟩|⟨g1,cap1,cur1,hv,_,_,h1,h2,_⟩
  ·have:=hdd.1;simp only [maxLen] at this;omega
  ·have:=hdd.1;omega
 have hoo:old=old':=by
  rcases hold.2 with ⟨hv,hn⟩|⟨g1,cap1,cur1,hv,_,hg1,_,_,_,htk⟩
  ·have e1:old=[]:=abF (by rw [hold.1,hn];simp)
   have e2:old'=[]:=abF (by rw [hold'.1,hn];simp)
   rw [e1,e2]
  ·rcases hold'.2 with ⟨hv',_⟩|⟨g2,cap2,cur2,hv',_,hg2,_,_,_,htk'⟩
   ·rw [hv] at hv';simp at hv'
   ·rw [hv] at hv'
    simp at hv'
    obtain ⟨rfl,rfl⟩:=hv'
    rw [hg1] at hg2
    simp at hg2
    subst hg2
    rw [←htk,←htk']
 subst hoo
 have hgbase:c.base≤g:=(hown.lt g rfl).1
 have hlen:(old++news).length=(t.len+m)*t.sz:=hown.1
 have hmul:(t.len+m)*t.sz=t.len*t.sz+m*t.sz:=abm _ _ _
 have hHg:∀ o v,c.H g o=some v→row=some g∧o<t.len*t.sz∧old[o]?=some v:=by
  intro o v hv
  rcases hrow with ⟨_,hf⟩|⟨hr,ho⟩
  ·rw [h.fresh hf] at hv;simp at hv
  ·obtain ⟨h1,h2,_⟩:=hgg g ho
   rcases Nat.lt_or_ge o (t.len*t.sz) with hlt|hge
   ·exact ⟨hr,hlt,by rw [←h1 o hlt];exact hv⟩
   ·rw [h2 o hge] at hv;simp at hv
 have hother:∀ k,k<w.heap.size→k≠g→w'.heap[k]?=w.heap[k]?:=by
  intro k hk hne
  refine hgr.block k hk fun e=>?_
  rcases hrow with ⟨hr,_⟩|⟨hr,_⟩
  ·rw [hr] at e;simp at e
  ·rw [hr] at e;simp at e;exact hne e
 have hgmu:g ∉ c.mu:=by
  intro hmem
  obtain ⟨i,hi⟩:=List.mem_iff_getElem?.1 hmem
  rcases hrow with ⟨_,hf⟩|⟨_,ho⟩
  ·have:=h.mult hi;omega
  ·exact (hgg g ho).2.2 hmem
 have hgtok:∀ (j:Nat) (s:Tok),c.tok[j]?=some s→s.val.ownBlock=some g→j=id:=by
  intro j s hj hs
  rcases hrow with ⟨_,hf⟩|⟨_,ho⟩
  ·have:=(h.BX hj hs).2;omega
  ·exact h.cK j id s t g hj ht hs ho
 have hext:Ext c (c.cM id t g (t.len+m) (.slice (some ⟨g,0,none⟩) (t.len+m) cap) (old++news)):=by
  refine ⟨fun k o v hv=>?_,fun _ _ hk=>hk,fun j s hj=>?_,rfl,rfl⟩
  ·simp only [Ctx.cM]
   split
   ·rename_i hc
    obtain ⟨rfl,_⟩:=hc
    obtain ⟨_,hlt,ho⟩:=hHg o v hv
    rw [aaw (by rw [hold.1];exact hlt)]
    exact ho
   ·exact hv
  ·by_cases hji:j=id
   ·subst hji
    rw [ht] at hj
    have:s=t:=(Option.some.inj hj).symm
    subst this
    exact ⟨{ s with val:= .slice (some ⟨g,0,none⟩) (s.len+m) cap,len:=s.len+m },by simp only [Ctx.cM];rw [aaR hid],rfl,by simp,fun e=>by simp at e;omega⟩
   ·exact ⟨s,by simp only [Ctx.cM];rw [aaW (Ne.symm hji)];exact hj,rfl,aan _,fun _=>rfl⟩
 refine ⟨?_,hext⟩
 refine {
  cN:=h.cN
  dH:=h.dH
  cI:=h.cI
  mS:=?_
  blk:=?_
  cu:=?_
  cz:=?_
  cK:=?_
  cy:=?_
  below:=h.below.grown hgr h.cw ?_
  cw:=aaZ h.cw hgr.size }
 ·intro i k o hk
  have hne:k≠g:=fun e=>hgmu (e▸abe hk)
  simp only [Ctx.cM]
  rw [if_neg (fun hc=>hne hc.1)]
  exact h.mS i k o hk
 ·intro b k B hk hB
  have hne:k≠g:=fun e=>hgmu (e▸abe hk)
  obtain ⟨o,ho,hr⟩:=h.blk b k B hk hB
  exact ⟨o,by rw [hother k (h.mult hk) hne];exact ho,hr.mono hext⟩
 ·simp only [Ctx.cM,List.map_set,h.cu]
 ·intro j s hj
  by_cases hji:j=id
  ·subst hji
   simp only [Ctx.cM,aaR hid,aaf] at hj
   subst hj
   refine ⟨hsz0,.inr ⟨old++news,hown,fun g' hg'=>?_⟩⟩
   simp only [Value.ownBlock,aaf] at hg'
   subst hg'
   refine ⟨fun o ho=>by simp only [Ctx.cM];rw [if_pos ⟨by trivial,ho⟩],fun o ho=>?_,hgmu⟩
   simp only [Ctx.cM]
   rw [if_neg (fun hc=>by have:=hc.2;simp only at ho;omega)]
   cases hv:c.H g o with
   |none=>rfl
   |some v=>
    have:=(hHg o v hv).2.1
    simp only at ho
    omega
  ·simp only [Ctx.cM,aaW (Ne.symm hji)] at hj
   obtain ⟨h0,hd|⟨xs,ho,hg'⟩⟩:=h.cz j s hj
   ·exact ⟨h0,.inl hd⟩
   refine ⟨h0,.inr ⟨xs,ho.kept hgr ?_,fun g' hgb=>?_⟩⟩
   ·cases hb:s.val.ownBlock with
    |none=>exact .inl rfl
    |some b=>
     refine .inr fun e=>?_
     rcases hrow with ⟨hr,_⟩|⟨hr,_⟩
     ·rw [hr] at e;simp at e
     ·rw [hr] at e
      exact hji (hgtok j s hj (by rw [hb,e]))
   ·obtain ⟨h1,h2,h3⟩:=hg' g' hgb
    have hne:g'≠g:=fun e=>hji (hgtok j s hj (by rw [hgb,e]))
    exact ⟨fun o ho=>by simp only [Ctx.cM];rw [if_neg (fun hc=>hne hc.1)];exact h1 o ho,fun o ho=>by simp only [Ctx.cM];rw [if_neg (fun hc=>hne hc.1)];exact h2 o ho,h3⟩
 ·intro i j s u g' hi hj hs hu
  by_cases hii:i=id<;>by_cases hjj:j=id
  ·omega
  ·subst hii
   simp only [Ctx.cM,aaR hid,aaf] at hi
   simp only [Ctx.cM,aaW (Ne.symm hjj)] at hj
   subst hi
   simp only [Value.ownBlock,aaf] at hs
   exact absurd (hgtok j u hj (hs▸hu)) hjj
  ·subst hjj
   simp only [Ctx.cM,aaR hid,aaf] at hj
   simp only [Ctx.cM,aaW (Ne.symm hii)] at hi
   subst hj
   simp only [Value.ownBlock,aaf] at hu
   exact absurd (hgtok i s hi (hu▸hs)) hii
  ·simp only [Ctx.cM,aaW (Ne.symm hii)] at hi
   simp only [Ctx.cM,aaW (Ne.symm hjj)] at hj
   exact h.cK i j s u g' hi hj hs hu
 ·intro k o v hv
  simp only [Ctx.cM] at hv
  split at hv
  ·rename_i hc
   obtain ⟨rfl,_⟩:=hc
   have:=hown.cells (g:=k) rfl o v hv
   rwa [addr_add,aaK] at this
  ·rename_i hc
   have hcell:=h.cy k o v hv
   have hlt:=World.block_lt_of_cell? w _ hcell
   by_cases hkg:k=g
   ·subst hkg
    obtain ⟨_,hlt',_⟩:=hHg o v hv
    exact (hc ⟨by simp,by rw [hmul];omega⟩).elim
   ·rw [World.cell?_of_block (w:=w) (hother k hlt hkg)]
    exact hcell
 ·intro k hk
  rcases hrow with ⟨hr,_⟩|⟨hr,_⟩
  ·rw [hr] at hk;simp at hk
  ·rw [hr] at hk;simp at hk;omega
theorem gu {sz:Nat} {xs:List (List D)} (h:dA sz xs=true) {r:List D} (hr:r∈xs):r.length=sz∧∀ x∈r,x.one=true:=by
 have:=aaz.1 h r hr
 simp only [aap,beq_iff_eq,aaz] at this
 exact this
theorem tr {H:GH} (hs:∀ k o v,H k o=some v→w.cell? ⟨k,o,none⟩=some v) {k off m sz:Nat} (vs:Nat→Nat→Value) (hsz:0<sz)
  (h:∀ i j,i<m→j<sz→H k (off+i*sz+j)=some (vs i j)):
  ∃ news:List Value,news.length=m*sz∧(∀ j u,news[j]?=some u→w.cell? ((⟨k,off,none⟩:Addr).add j)=some u)∧∀ i j,i<m→j<sz→news[i*sz+j]?=some (vs i j):=by
 refine ⟨(List.range (m*sz)).map fun q=>vs (q / sz) (q % sz),by simp,fun j u hu=>?_,fun i j hi hj=>?_⟩
 ·have hj:j<m*sz:=by simpa using (aam.1 hu).1
  rw [aa7,List.getElem?_range hj] at hu
  simp only [abf,aaf] at hu
  have hd:j / sz<m:=Nat.div_lt_of_lt_mul (by rw [Nat.mul_comm];exact hj)
  have:=hs _ _ _ (h (j / sz) (j % sz) hd (Nat.mod_lt _ hsz))
  rw [addr_add,←hu,←this]
  congr 2
  have:=Nat.div_add_mod j sz
  rw [Nat.mul_comm] at this
  omega
 ·have hlt:i*sz+j<m*sz:=by
   have:(i+1)*sz≤m*sz:=abB _ hi
   rw [abm] at this
   omega
  rw [aa7,List.getElem?_range hlt]
  simp only [abf,aaf]
  rw [Nat.mul_comm,Nat.mul_add_div hsz,Nat.div_eq_of_lt hj,Nat.add_zero,Nat.mul_add_mod,Nat.mod_eq_of_lt hj]
theorem mN (hc:bf c w st) {qV:Nat} {id:Nat} {tk:Tok} (htk:c.tok[id]?=some tk) (hsz:tk.sz=qV) {es xs:List (List D)} (hlen:es.length=tk.len) (hes:∀ r∈es,r.length=qV)
  (hval:de c.H tk.val (.sl es)) (hxs:dA qV xs=true) {m:Nat} {vs:Nat→Nat→Value} {news:List Value} (h1:xs.length=m) (hmpos:0<m) (hn1:news.length=m*qV)
  (hn3:∀ i j,i<m→j<qV→news[i*qV+j]?=some (vs i j)) (h5:∀ i j,i<m→j<qV→de c.H (vs i j) ((xs.getD i []).getD j .eX)) {old:List Value}
  (hold:w.ownsRow c.base tk.e tk.sz tk.val tk.len old) (hgg:∀ g,tk.val.ownBlock=some g→(∀ o,o<tk.len*tk.sz→c.H g o=old[o]?)∧(∀ o,tk.len*tk.sz≤o→c.H g o=none)∧g ∉ c.mu)
  {w':World} {row:Option Nat} {g cap:Nat} (hown:w'.ownsRow c.base tk.e tk.sz (.slice (some ⟨g,0,none⟩) (tk.len+m) cap) (tk.len+m) (old++news)) (hgr:w.grownBy w' row) (hcap:tk.len+m≤cap)
  (hrow:(row=none∧w.heap.size≤g)∨(row=some g∧tk.val.ownBlock=some g)):
  ∃ c',Rel c' (.slice (some ⟨g,0,none⟩) (tk.len+m) cap) (.own id (es++xs))∧bf c' w' { st with toks:=st.toks.set id (tk.e,tk.sz,tk.len+m) }∧Ext c c':=by
 obtain ⟨hconf,hext⟩:=hc.cM htk (news:=news) hmpos hold hown hgr hrow
 have hid:id<c.tok.length:=(aam.1 htk).1
 refine ⟨_,?_,hconf,hext⟩
 have hHn:∀ o,o< (tk.len+m)*tk.sz→(c.cM id tk g (tk.len+m) (.slice (some ⟨g,0,none⟩) (tk.len+m) cap) (old++news)).H g o=(old++news)[o]?:=by
  intro o ho
  simp only [Ctx.cM]
  rw [if_pos ⟨by trivial,ho⟩]
 have holdrel:∀ i j,i<tk.len→j<tk.sz→∃ v,old[i*tk.sz+j]?=some v∧de c.H v ((es.getD i []).getD j .eX):=by
  intro i j hi hj
  generalize htv:tk.val=tv at hval
  cases hval with
  |slnil=>simp at hlen;omega
  |uV a=>simp at hlen;omega
  |sl k1 off1 n1 cap1 Uw vs1 _ a1 a2 a3 a4 a5=>
   have hs1:Uw=tk.sz:=by
    have hi':i<es.length:=by omega
    rw [←a3 es[i] (aaU _),hes es[i] (aaU _)]
    omega
   subst hs1
   rcases hold.2 with ⟨hv,_⟩|⟨g1,cap2,cur1,hv,_,hg1,_,_,_,_⟩
   ·rw [htv] at hv;simp at hv
   ·have hv2:=hv
    rw [htv] at hv
    simp only [Value.slice.injEq,aaf,Addr.mk.injEq] at hv
    obtain ⟨⟨rfl,rfl,_⟩,_,_⟩:=hv
    have b1:=a4 i j (by omega) hj
    have hlt:i*tk.sz+j<tk.len*tk.sz:=by
     have:(i+1)*tk.sz≤tk.len*tk.sz:=abB _ hi
     rw [abm] at this
     omega
    have b2:=(hgg k1 (by rw [hv2];rfl)).1 _ hlt
    rw [aaK] at b1
    rw [b1] at b2
    exact ⟨vs1 i j,b2.symm,a5 i j (by omega) hj⟩
 have hmul:(tk.len+m)*tk.sz=tk.len*tk.sz+m*tk.sz:=abm _ _ _
 have hcell:∀ i j,i<tk.len+m→j<tk.sz→∃ v,(old++news)[i*tk.sz+j]?=some v∧de c.H v (((es++xs).getD i []).getD j .eX):=by
  intro i j hi hj
  by_cases hil:i<tk.len
  ·obtain ⟨v,e1,e2⟩:=holdrel i j hil hj
   refine ⟨v,?_,?_⟩
   ·rw [aaw (aam.1 e1).1];exact e1
   ·rw [show (es++xs).getD i []=es.getD i [] by
     simp only [aaj]
     rw [aaw (by omega)]]
    exact e2
  ·have hd:i - tk.len<m:=by omega
   refine ⟨vs (i - tk.len) j,?_,?_⟩
   ·have:=hn3 (i - tk.len) j hd (by omega)
    have hge:tk.len*tk.sz≤i*tk.sz:=abB _ (by omega)
    rw [aaq (by rw [hold.1];omega),hold.1,←this]
    congr 1
    have:i*tk.sz=(i - tk.len)*tk.sz+tk.len*tk.sz:=by rw [←abm];congr 1;omega
    rw [this,hsz]
    omega
   ·rw [show (es++xs).getD i []=xs.getD (i - tk.len) [] by
     simp only [aaj]
     rw [aaq (by omega),hlen]]
    exact h5 _ _ hd (by omega)
 refine .own _ id _ { tk with val:= .slice (some ⟨g,0,none⟩) (tk.len+m) cap,len:=tk.len+m } ?_ ?_ ?_ ?_ ?_
 ·refine .sl g 0 (tk.len+m) cap tk.sz (fun i j=>((old++news)[i*tk.sz+j]?).getD undef) _ (by simp [hlen,h1]) hcap ?_ ?_ ?_
  ·intro r hr
   rcases aaV.1 hr with hr|hr
   ·rw [hes r hr,hsz]
   ·rw [(gu hxs hr).1,hsz]
  ·intro i j hi hj
   obtain ⟨v,e1,_⟩:=hcell i j hi hj
   have hlt:i*tk.sz+j< (tk.len+m)*tk.sz:=by
    have:(i+1)*tk.sz≤(tk.len+m)*tk.sz:=abB _ hi
    rw [abm] at this
    omega
   rw [aaK,hHn _ hlt,e1]
   rfl
  ·intro i j hi hj
   obtain ⟨v,e1,e2⟩:=hcell i j hi hj
   simp only [e1,aba]
   exact e2.mono hext.H
 ·simp only [Ctx.cM];rw [aaR hid]
 ·intro r hr
  rcases aaV.1 hr with hr|hr
  ·rw [hes r hr,hsz]
  ·rw [(gu hxs hr).1,hsz]
 ·simp [hlen,h1]
 ·intro _;rfl
theorem tR (hc:bf c w st) {t ty e:TypeId} {sz by_:Nat} (hsl:mU P t=some (e,sz,by_)) (hz:dy P e=some sz)
  {id:Nat} {tk:Tok} (htk:c.tok[id]?=some tk) (he:tk.e=e) (hsz:tk.sz=sz) {es xs:List (List D)} (hlen:es.length=tk.len) (hes:∀ r∈es,r.length=sz)
  (hval:de c.H tk.val (.sl es)) {xv:Value} (hx:de c.H xv (.sl xs)) (hxs:dA sz xs=true) (hne:xs≠[])
  (hb:(es.length+xs.length)*by_≤ff) (hm:es.length+xs.length≤maxLen):
  ∃ cv w' c',(Builtin.append_ #[t,t] ty #[tk.val,xv]).run P w= .ok cv w'∧Rel c' cv (.own id (es++xs))∧bf c' w' { st with toks:=st.toks.set id (e,sz,es.length+xs.length) }∧Ext c c':=by
 obtain ⟨hu,ie,hie,hsz',hby⟩:=kz hsl
 unfold dy at hz
 obtain ⟨z,hz1,hz2⟩:=aa4.1 hz
 have hz3:ie.zero=some z:=by
  unfold zeroOf at hz1
  rw [hie] at hz1
  simpa using hz1
 obtain ⟨hsz0,hdd|⟨old,hold,hgg⟩⟩:=hc.cz id tk htk
 ·exfalso;have:=hdd.1;omega
 subst he
 cases hx with
 |slnil=>exact absurd rfl hne
 |uV a=>exact absurd rfl hne
 |sl k off m cap0 qV vs _ h1 h2 h3 h4 h5=>
  have hmpos:0<m:=by
   rw [←h1]
   exact List.length_pos_iff.2 hne
  have hsz2:qV=sz:=by
   obtain ⟨r,hr⟩:=List.exists_mem_of_ne_nil xs hne
   rw [←h3 r hr,(gu hxs hr).1]
  subst hsz2
  have hszp:0<qV:=by omega
  obtain ⟨news,hn1,hn2,hn3⟩:=tr (w:=w) hc.cy vs hszp h4
  have hone:∀ u∈news,u.oneCell'=true:=by
   intro u hu
   obtain ⟨q,hq,rfl⟩:=aaT.1 hu
   have hq':q<m*qV:=by omega
   have hd:q / qV<m:=Nat.div_lt_of_lt_mul (by rw [Nat.mul_comm];exact hq')
   have hmod:=Nat.mod_lt q hszp
   have:=hn3 _ _ hd hmod
   have hqe:q / qV*qV+q % qV=q:=by rw [Nat.mul_comm];exact Nat.div_add_mod q qV
   rw [hqe,aax hq] at this
   simp only [aaf] at this
   rw [this]
   refine (h5 _ _ hd hmod).one ?_
   have hdx:q / qV<xs.length:=by omega
   have hmem:xs.getD (q / qV) []∈xs:=by
    rw [aaj,aax hdx,aba]
    exact aaU _
   obtain ⟨hl,ho⟩:=gu hxs hmem
   refine ho _ ?_
   rw [aaj (l:=xs.getD (q / qV) []),aax (by omega),aba]
   exact aaU _
  have hold':w.ownsRow c.base tk.e ie.size tk.val tk.len old:=by rw [hsz',←hsz];exact hold
  obtain ⟨w',row,g,cap,hrun,hown,hgr,hcap,hrow⟩:=lU (P:=P) c.base t ty tk.e ie z hu hie hz3 (by rw [hz2,hsz']) tk.val tk.len old hold' ⟨k,off,none⟩ m cap0 news (by rw [hn1,hsz']) hn2 hone hmpos
   (by omega) (by rw [hby,←hlen,←h1];exact hb) hc.cw
  rw [hsz',←hsz] at hown
  obtain ⟨c',k1,k2,k3⟩:=mN hc htk hsz hlen hes hval hxs h1 hmpos hn1 hn3 h5 hold hgg hown hgr hcap hrow
  exact ⟨_,w',c',hrun,k1,by rw [hlen,h1,←hsz];exact k2,k3⟩
theorem nE (base:Nat) (t u ty e:TypeId) (i:TypeInfo) (ht:P.underlying t=some (.slice e)) (hu:P.underlying u=some .string) (hi:P.info? e=some i) (hz:i.zero=some (.int .u8 0))
  (hsize:i.size=1) (hby:i.bytes=1) (v:Value) (n:Nat) (xs:List Value) (hown:w.ownsRow base e 1 v n xs) (s:ByteArray) (hm:0<s.size)
  (h63:n+s.size≤maxLen) (hbytes:n+s.size≤140737488355328) (hbase:base≤w.heap.size):
  ∃ w' row g cap,(Builtin.append_ #[t,u] ty #[v,.string s]).run P w= .ok (.slice (some ⟨g,0,none⟩) (n+s.size) cap) w'∧
   w'.ownsRow base e 1 (.slice (some ⟨g,0,none⟩) (n+s.size) cap) (n+s.size) (xs++Lib.strCells s)∧w.grownBy w' row∧n+s.size≤cap∧
   ((row=none∧w.heap.size≤g)∨(row=some g∧v.ownBlock=some g)):=by
 have hsmall:n+s.size≤9223372036854775807:=by simp only [maxLen] at h63;omega
 have hxl:xs.length=n:=by simpa using hown.1
 have hlen:(xs++Lib.strCells s).length=(n+s.size)*1:=by rw [aak,hxl,Lib.strCells_length,Nat.mul_one]
 have grown:∀ (old:Nat),old<n+s.size→
   (w.drew.alloc (.cells (xs.toArray++(Lib.strCells s).toArray++Builtin.zeroCells (Value.int .u8 0).cells (grownCap w (n+s.size) old e - (n+s.size))) e)).ownsRow base e 1
    (.slice (some ⟨w.heap.size,0,none⟩) (n+s.size) (grownCap w (n+s.size) old e)) (n+s.size) (xs++Lib.strCells s)∧
   w.grownBy (w.drew.alloc (.cells (xs.toArray++(Lib.strCells s).toArray++Builtin.zeroCells (Value.int .u8 0).cells (grownCap w (n+s.size) old e - (n+s.size))) e)) none∧n+s.size≤grownCap w (n+s.size) old e:=by
  intro old ho
  have hge:=grownCap_ge w (n+s.size) old e
  have hcm:grownCap w (n+s.size) old e≤maxLen:=grownCap_le_maxLen w (n+s.size) old e h63
  refine ⟨⟨hlen,.inr ⟨w.heap.size,_,_,rfl,hbase,heap_alloc_new w.drew _,hge,hcm,?_,?_⟩⟩,⟨rfl,rfl,rfl,by simp,fun k hk _=>heap_alloc_old w.drew _ hk⟩,hge⟩
  ·have hz1:(Value.int IntKind.u8 0).cells.size=1:=rfl
   simp only [Array.size_append,abl,size_zeroCells,hz1,hxl,Lib.strCells_length]
   omega
  ·simp only [Array.toList_append,aau]
   rw [←aau,←hlen]
   exact List.take_left
 rcases hown.2 with ⟨rfl,rfl⟩|⟨g,cap,cur,rfl,hbg,hg,hnc,hcm,hcs,htake⟩
 ·have hx:xs=[]:=abF hxl
  subst hx
  have hr:=run_append_nil_string (P:=P) w t u ty e i (.int .u8 0) ht hu hi hz s (by omega) (by omega) (by rw [hby];omega)
  have hgr:=grown 0 (by omega)
  simp only [aaK,aav,Array.empty_append] at hgr ⊢
  have e1:(s.data.map fun b=>Value.int .u8 b.toNat)=(Lib.strCells s).toArray:=by
   apply Array.ext'
   simp [Lib.strCells]
  rw [e1] at hr
  exact ⟨_,none,_,_,hr,hgr.1,hgr.2.1,hgr.2.2,.inl ⟨rfl,aan _⟩⟩
 ·by_cases hroom:n+s.size≤cap
  ·have hcs':cur.size=cap:=by simpa using hcs
   have hr:=Lib.run_append_room_string (P:=P) w t u ty e i ht hu hi hsize g n cap cur hg s hroom (by omega)
   refine ⟨_,some g,_,_,hr,⟨hlen,.inr ⟨g,cap,_,rfl,hbg,setRow_heap w g cur _ e _ hg,hroom,hcm,?_,?_⟩⟩,⟨rfl,rfl,rfl,by simp,fun k _ hk=>setRow_other w g k _ (fun e=>hk (by simp [e]))⟩,hroom,.inr ⟨rfl,rfl⟩⟩
   ·simp only [abl,aak,aag,aai,aaE,Lib.strCells_length]
    omega
   ·have ht':cur.toList.take n=xs:=by simpa using htake
    rw [ht',←hlen]
    exact List.take_left
  ·have holds:∀ j u,xs[j]?=some u→w.cell? ((⟨g,0,none⟩:Addr).add j)=some u:=hown.cells (g:=g) rfl
   have hr:=Lib.run_append_grow_string (P:=P) w t u ty e i (.int .u8 0) ht hu hi hz ⟨g,0,none⟩ n cap xs (by rw [hsize];simpa using hxl) holds s (by omega) (by omega) (by rw [hby];exact growslice_fits (by omega) (by omega))
   have hgr:=grown cap (by omega)
   exact ⟨_,none,_,_,hr,hgr.1,hgr.2.1,hgr.2.2,.inl ⟨rfl,aan _⟩⟩
theorem mR (hc:bf c w st) {t u ty e:TypeId} {by_:Nat} (hsl:mU P t=some (e,1,by_)) (hu:isStr P u=true) (hz:zeroOf P e=some (.int .u8 0)) (hb1:by_=1)
  {id:Nat} {tk:Tok} (htk:c.tok[id]?=some tk) (he:tk.e=e) (hsz:tk.sz=1) {es:List (List D)} {l:List UInt8} (hlen:es.length=tk.len) (hes:∀ r∈es,r.length=1)
  (hval:de c.H tk.val (.sl es)) {s:ByteArray} (hs:s.data.toList=l) (hne:l≠[])
  (hb:(es.length+l.length)*by_≤ff) (hm:es.length+l.length≤maxLen):
  ∃ cv w' c',(Builtin.append_ #[t,u] ty #[tk.val,.string s]).run P w= .ok cv w'∧Rel c' cv (.own id (es++aH l))∧bf c' w' { st with toks:=st.toks.set id (e,1,es.length+l.length) }∧Ext c c':=by
 obtain ⟨hut,ie,hie,hsz',hby'⟩:=kz hsl
 have hstr:P.underlying u=some .string:=by
  unfold isStr at hu
  split at hu
  ·assumption
  ·cases hu
 have hz3:ie.zero=some (.int .u8 0):=by
  unfold zeroOf at hz
  rw [hie] at hz
  simpa using hz
 obtain ⟨hsz0,hdd|⟨old,hold,hgg⟩⟩:=hc.cz id tk htk
 ·exfalso;have:=hdd.1;omega
 subst he
 have hsl':s.size=l.length:=by rw [←hs,aaE];rfl
 have hmpos:0<l.length:=List.length_pos_iff.2 hne
 have hold':w.ownsRow c.base tk.e 1 tk.val tk.len old:=by rw [←hsz];exact hold
 obtain ⟨w',row,g,cap,hrun,hown,hgr,hcap,hrow⟩:=nE (P:=P) c.base t u ty tk.e ie hut hstr hie hz3 hsz' (by rw [hby',hb1]) tk.val tk.len old hold' s (by omega) (by omega) (by rw [hsl'];simp only [hb1,Nat.mul_one,ff] at hb;omega) hc.cw
 rw [hsl'] at hrun hown hcap
 have hown':w'.ownsRow c.base tk.e tk.sz (.slice (some ⟨g,0,none⟩) (tk.len+l.length) cap) (tk.len+l.length) (old++Lib.strCells s):=by rw [hsz];exact hown
 have hxs:dA 1 (aH l)=true:=by simp [dA,aH,D.one]
 obtain ⟨c',k1,k2,k3⟩:=mN hc htk hsz hlen hes hval hxs (m:=l.length) (vs:=fun i _=> .int .u8 (l.getD i 0).toNat) (news:=Lib.strCells s) (by simp [aH]) hmpos (by rw [Lib.strCells_length,hsl',Nat.mul_one])
  (fun i j hi hj=>by
   have:j=0:=by omega
   subst this
   simp [Lib.strCells,hs,aaj,hi])
  (fun i j hi hj=>by
   have:j=0:=by omega
   subst this
   simp only [aH,aaj,aa7]
   rw [aax hi]
   exact .int _ _) hold hgg hown' hgr hcap hrow
 exact ⟨_,w',c',hrun,k1,by rw [hlen,←hsz];exact k2,k3⟩
theorem bf.setObj (hc:bf c w st) {b k:Nat} {B B':aJ} {o o':Obj} (hk:c.mu[b]?=some k) (hB:st.aj[b]?=some B) (hh:w.heap[k]?=some o) (hrel:eS c o' B'):
  bf c { w with heap:=w.heap.setIfInBounds k o' } (dY st b B'):=by
 have hother:∀ k',k'≠k→({ w with heap:=w.heap.setIfInBounds k o' }:World).heap[k']?=w.heap[k']?:=fun k' hne=>by
  show (w.heap.setIfInBounds k _)[k']?=_
  rw [Array.getElem?_setIfInBounds_ne (Ne.symm hne)]
 refine {
  cN:=by simp [dY,hc.cN]
  dH:=hc.dH
  cI:=hc.cI
  mS:=hc.mS
  blk:=?_
  cu:=hc.cu
  cz:=?_
  cK:=hc.cK
  cy:=?_
  below:=hc.below.trans ⟨rfl,rfl,rfl,by simp,fun k' hk'=>hother k' (by have:=hc.cI b k hk;omega)⟩
  cw:=by simpa using hc.cw }
 ·intro b' k' B2 hk' hB2
  by_cases hbb:b'=b
  ·subst hbb
   have hkk:k'=k:=by rw [hk] at hk';exact (Option.some.inj hk').symm
   subst hkk
   have hlt:b'<st.aj.length:=(aam.1 hB).1
   simp only [dY,aaR hlt,aaf] at hB2
   subst hB2
   refine ⟨o',?_,hrel⟩
   show (w.heap.setIfInBounds k' _)[k']?=_
   rw [Array.getElem?_setIfInBounds_self_of_lt (aa5.1 hh).1]
  ·have hne:k'≠k:=fun e=>hbb (hc.dH b' b k (e▸hk') hk)
   simp only [dY,aaW (Ne.symm hbb)] at hB2
   obtain ⟨o,ho,hrel⟩:=hc.blk b' k' B2 hk' hB2
   exact ⟨o,by rw [hother k' hne];exact ho,hrel⟩
 ·intro id t ht
  obtain ⟨h0,hd|⟨xs,ho,hg⟩⟩:=hc.cz id t ht
  ·exact ⟨h0,.inl hd⟩
  refine ⟨h0,.inr ⟨xs,ho.kept (row:=some k) ⟨rfl,rfl,rfl,by simp,fun k' _ hk'=>hother k' (fun e=>hk' (by rw [e]))⟩ (.inr ?_),hg⟩⟩
  intro e
  exact (hg k e).2.2 (abe hk)
 ·intro k' o v hv
  have hne:k'≠k:=by
   intro e
   subst e
   rw [hc.mS b k' o hk] at hv
   simp at hv
  have:=hc.cy k' o v hv
  rw [World.cell?_of_block (w:=w) (hother k' hne)]
  exact this
theorem Ap {t:TypeId} {kd:KK} {e:TypeId} (h:mM P t=some (kd,e)):∃ k,P.underlying t=some (.map k e)∧Maps.Keyed P k∧∀ v,Qb kd v→∃ l,keyOf P k v=some l:=by
 unfold mM at h
 split at h
 case h_2=>simp at h
 rename_i k e' hu
 split at h<;>simp only [aaf,aaA,reduceCtorEq] at h<;>obtain ⟨rfl,rfl⟩:=h
 ·rename_i hk
  refine ⟨k,hu,Maps.string_keyed hk,fun v hv=>?_⟩
  cases v<;>first|exact hv.elim|skip
  exact ⟨_,WideMaps.keyOf_string_mk hk hv⟩
 ·rename_i q hk
  refine ⟨k,hu,Maps.int_keyed hk,fun v hv=>?_⟩
  cases v<;>first|exact hv.elim|skip
  obtain ⟨rfl,hw⟩:=hv
  exact ⟨_,Maps.keyOf_int_mk hk hw⟩
 ·rename_i hk
  refine ⟨k,hu,Maps.bool_keyed hk,fun v hv=>?_⟩
  cases v<;>first|exact hv.elim|skip
  exact ⟨_,Maps.keyOf_bool_mk hk _⟩
theorem Aq {H:GH} {kd:KK} {v:Value} {y:D} (hr:de H v y) (h:zW kd y=true):qj y=some v∧Qb kd v:=by
 cases hr<;>cases kd<;>simp only [zW,aay,aap,aal] at h
 ·exact ⟨rfl,trivial⟩
 ·exact ⟨rfl,h⟩
 ·rename_i s l e
  subst e
  exact ⟨rfl,show s.data.size≤maxLen by rw [←aaE];exact h⟩
theorem vR {x y:D} {v:Value} (hy:qj y=some v):vr x y=true↔qj x=some v:=by
 cases y<;>simp only [qj,aaf,reduceCtorEq] at hy<;>subst hy<;>cases x<;>simp [vr,qj]
theorem MY {es:Array MapEntry} (hn:(es.toList.map (·.key)).Nodup) {x y:MapEntry} (hx:x∈es.toList) (hy:y∈es.toList) (h:x.key=y.key):x=y:=by
 obtain ⟨i,hi,rfl⟩:=aaT.1 hx
 obtain ⟨j,hj,rfl⟩:=aaT.1 hy
 have:i=j:=by
  refine (List.getElem_inj (h₀:=by simpa using hi) (h₁:=by simpa using hj) hn).1 ?_
  simpa using h
 subst this
 rfl
theorem uC (hc:bf c w st) {t:TypeId} (kd:KK):
  (Instr.makeMap t none).run P w= .ok (.map (some w.heap.size)) (w.alloc (.map #[] 0))∧Rel (c.c7 w.heap.size) (.map (some w.heap.size)) (.mp st.aj.length)∧
   bf (c.c7 w.heap.size) (w.alloc (.map #[] 0)) (c7 st (.mp kd 0 fun _=>none)).2∧Ext c (c.c7 w.heap.size):=
 ⟨rfl,.mp _ _ (by simp [Ctx.c7,←hc.cN]),hc.alloc (.mp _ _ _ _ _ ⟨by simp,by simp,by simp,fun _ _ h=>(by cases h),by simp⟩),Ext.c7 c _⟩
theorem xN (hc:bf c w st) {t:TypeId} {m x:Value} {M X Z:V} {ok:Bool} (hm:Rel c m M) (hx:Rel c x X) (h:iU P t M X ok st=some Z):
  ∃ cv,(Instr.lookup t m x ok).run P w= .ok cv w∧Rel c cv Z:=by
 unfold iU at h
 split at h
 case h_2=>simp at h
 rename_i kd e b y hkk
 split at h
 case h_2=>simp at h
 rename_i kd' n f hB
 split at h
 case isFalse=>simp at h
 rename_i hcd
 obtain ⟨rfl,hkd⟩:=hcd
 obtain ⟨k,hu,K,hkey⟩:=Ap hkk
 cases hm with|mp _ kb hk=>?_
 cases hx with|d _ _ hx=>?_
 obtain ⟨hv,hkK⟩:=Aq hx hkd
 obtain ⟨o,ho,hr⟩:=hc.blk b kb _ hk hB
 cases hr with|mp es clock _ _ _ F=>?_
 obtain ⟨l,hl⟩:=hkey _ hkK
 unfold vq at h
 cases hz:zeroOf P e with
 |none=>rw [hz] at h;simp at h
 |some z=>
  rw [hz] at h
  simp only [abf,aaf] at h
  have hck:=K.check w es.isEmpty hl
  have two:∀ {a:Value} {A:V} (q:Bool),Rel c a A→Rel c (if ok then .tuple #[a,.bool q] else a) (J2 ok A q):=by
   intro a A q ha
   cases ok
   ·exact ha
   ·refine .cF _ _ rfl fun i hi=>?_
    have:i=0∨i=1:=by simp at hi;omega
    rcases this with rfl|rfl
    ·exact ha
    ·exact .d _ _ (.bool _)
  rcases K.find w hl es.toList (fun e he=>hkey _ (F.keys e he)) with ⟨h1,h2⟩|⟨j,e0,h1,h2,h3⟩
  ·have hf:f y=none:=by
    cases hf:f y with
    |none=>rfl
    |some d=>
     obtain ⟨x',hx',hk',_⟩:=F.get y d hf
     rw [hv] at hk'
     exact absurd (Option.some.inj hk').symm (h2 x' hx')
   rw [hf] at h
   subst h
   exact ⟨_,by simp [Instr.lookup,run_underlying hu,MapKept.run_getObj_map ho,hck,h1,kU hz,Result.andThen],two false (mO z)⟩
  ·have hm0:e0∈es.toList:=abe h2
   cases hf:f y with
   |none=>exact absurd hf (F.dom e0 hm0 y (by rw [hv,h3]))
   |some d=>
    obtain ⟨x',hx',hk',hd⟩:=F.get y d hf
    rw [hv] at hk'
    have:x'=e0:=MY F.nodup hx' hm0 (by rw [h3];exact (Option.some.inj hk').symm)
    subst this
    rw [hf] at h
    subst h
    exact ⟨_,by simp [Instr.lookup,run_underlying hu,MapKept.run_getObj_map ho,hck,h1,Result.andThen],two true (.d _ _ hd)⟩
theorem xO (hc:bf c w st) {t:TypeId} {m x v:Value} {M X Z:V} {st':St} (hm:Rel c m M) (hx:Rel c x X) (hv:Rel c v Z) (h:iV P t M X Z st=some st'):
  ∃ w',(Instr.mapUpdate t m x v).run P w= .ok () w'∧bf c w' st':=by
 unfold iV at h
 split at h
 case h_2=>simp at h
 rename_i kd e b y d hkk hhe
 split at h
 case h_2=>simp at h
 rename_i kd' n f hB
 split at h
 case isFalse=>simp at h
 rename_i hcd
 obtain ⟨rfl,hkd⟩:=hcd
 simp only [aaf] at h
 subst h
 obtain ⟨k,hu,K,hkey⟩:=Ap hkk
 cases hm with|mp _ kb hk=>?_
 cases hx with|d _ _ hx=>?_
 have hvd:=tQ hv hhe
 obtain ⟨hy,hkK⟩:=Aq hx hkd
 obtain ⟨o,ho,hr⟩:=hc.blk b kb _ hk hB
 cases hr with|mp es clock _ _ _ F=>?_
 obtain ⟨l,hl⟩:=hkey _ hkK
 have hck:=K.check w false hl
 have hp1:∀ z,qj z=some x→ri f y d z=some d:=fun z hz=>by unfold ri;rw [if_pos ((vR hy).2 hz)]
 have hp2:∀ z,qj z≠some x→ri f y d z=f z:=fun z hz=>by unfold ri;rw [if_neg (fun hh=>hz ((vR hy).1 hh))]
 rcases K.find w hl es.toList (fun e he=>hkey _ (F.keys e he)) with ⟨h1,h2⟩|⟨j,e0,h1,h2,h3⟩
 ·refine ⟨_,by simp [Instr.mapUpdate,run_underlying hu,MapKept.run_getObj_map ho,hck,h1,MapKept.run_setObj_map _ ho,Result.andThen];rfl,hc.setObj hk hB ho (.mp _ _ _ _ _ ?_)⟩
  refine ⟨by simp;exact F.size,?_,?_,?_,?_⟩
  ·intro z hz
   simp only [Array.toList_push,aaV,abj] at hz
   rcases hz with hz|rfl
   ·exact F.keys z hz
   ·exact hkK
  ·simp only [Array.toList_push,abD,aaJ,abw]
   refine List.nodup_append.2 ⟨F.nodup,by simp,?_⟩
   intro a ha b hb
   simp only [abj] at hb
   subst hb
   obtain ⟨z,hz,rfl⟩:=abg.1 ha
   exact h2 z hz
  ·intro z dz hz
   by_cases hzx:qj z=some x
   ·rw [hp1 z hzx,aaf] at hz
    subst hz
    exact ⟨⟨x,v,clock⟩,by simp,hzx,hvd⟩
   ·rw [hp2 z hzx] at hz
    obtain ⟨q,q1,q2,q3⟩:=F.get z dz hz
    exact ⟨q,by simp [q1],q2,q3⟩
  ·intro q hq z hz
   by_cases hzx:qj z=some x
   ·rw [hp1 z hzx];simp
   ·rw [hp2 z hzx]
    simp only [Array.toList_push,aaV,abj] at hq
    rcases hq with hq|rfl
    ·exact F.dom q hq z hz
    ·exact absurd hz hzx
 ·have hm0:e0∈es.toList:=abe h2
  have hj:es[j]?=some e0:=by rw [←Array.getElem?_toList];exact h2
  have hst:=K.stays w hl
  have hmod:(es.modify j fun e=> { e with key:=x,val:=v }).toList=es.toList.set j { e0 with key:=x,val:=v }:=by
   apply List.ext_getElem?
   intro i
   rw [Array.getElem?_toList,abr,List.getElem?_set]
   by_cases hij:j=i
   ·subst hij
    have hlt:j<es.toList.length:=(aam.1 h2).1
    simp [hj];simpa using hlt
   ·simp [hij]
  refine ⟨_,by simp [Instr.mapUpdate,run_underlying hu,MapKept.run_getObj_map ho,hck,h1,hj,h3,hst,MapKept.run_setObj_map _ ho,Result.andThen];rfl,hc.setObj hk hB ho (.mp _ _ _ _ _ ?_)⟩
  have hkeys:(es.toList.set j { e0 with key:=x,val:=v }).map (·.key)=es.toList.map (·.key):=by
   apply List.ext_getElem?
   intro i
   rw [aa7,aa7,List.getElem?_set]
   by_cases hij:j=i
   ·subst hij
    have hlt:j<es.toList.length:=(aam.1 h2).1
    simp [h2,h3];simpa using hlt
   ·simp [hij]
  have hmem:∀ q,q∈es.toList.set j { e0 with key:=x,val:=v }→q= { e0 with key:=x,val:=v }∨(q∈es.toList∧q.key≠x):=by
   intro q hq
   obtain ⟨i,hi,rfl⟩:=aaT.1 hq
   rw [List.getElem_set]
   by_cases hij:j=i
   ·rw [if_pos hij];exact .inl rfl
   ·rw [if_neg hij]
    have hi':i<es.toList.length:=by simpa using hi
    refine .inr ⟨aaU _,fun he=>hij ?_⟩
    have hlt:j<es.toList.length:=(aam.1 h2).1
    refine (List.getElem_inj (h₀:=by simpa using hlt) (h₁:=by simpa using hi') F.nodup).1 ?_
    have:=(aam.1 h2).2
    simp only [List.getElem_map,this,h3,he]
  have hin:({ e0 with key:=x,val:=v }:MapEntry)∈es.toList.set j { e0 with key:=x,val:=v }:=List.mem_set (aam.1 h2).1 _
  have hoth:∀ q∈es.toList,q.key≠x→q∈es.toList.set j { e0 with key:=x,val:=v }:=by
   intro q hq hne
   obtain ⟨i,hi,rfl⟩:=aaT.1 hq
   have hij:j≠i:=by
    rintro rfl
    have:=(aam.1 h2).2
    rw [this] at hne
    exact hne h3
   refine aaT.2 ⟨i,by simpa using hi,?_⟩
   rw [List.getElem_set,if_neg hij]
  refine ⟨by rw [←aaE,hmod,aa1,aaE];have:=F.size;omega,?_,by rw [hmod,hkeys];exact F.nodup,?_,?_⟩
  ·intro q hq
   rw [hmod] at hq
   rcases hmem q hq with rfl|⟨hq,_⟩
   ·exact hkK
   ·exact F.keys q hq
  ·intro z dz hz
   rw [hmod]
   by_cases hzx:qj z=some x
   ·rw [hp1 z hzx,aaf] at hz
    subst hz
    exact ⟨_,hin,hzx,hvd⟩
   ·rw [hp2 z hzx] at hz
    obtain ⟨q,q1,q2,q3⟩:=F.get z dz hz
    exact ⟨q,hoth q q1 (fun he=>hzx (by rw [q2,he])),q2,q3⟩
  ·intro q hq z hz
   rw [hmod] at hq
   by_cases hzx:qj z=some x
   ·rw [hp1 z hzx];simp
   ·rw [hp2 z hzx]
    rcases hmem q hq with rfl|⟨hq,_⟩
    ·exact absurd hz hzx
    ·exact F.dom q hq z hz
end Go.Abs
