import Derived.Test.YtbcillkajdnljaaGreatDoorV5
import Derived.Laws.StructEq
set_option linter.all false
namespace Go.Abs
open Go.RowKit
variable {P:Program} {c:Ctx} {w:World} {st:St}
def F4 {t:TypeId} {n:Nat} (h:ef P t=some n):∃ i,P.info? t=some i∧i.size=n:=by
 unfold ef at h;cases hi:P.info? t with
 |none=>simp [hi] at h
 |some i=>exact ⟨i,rfl,by simpa [hi] using h⟩
def gl {t:TypeId} {n:Nat} (h:ef P t=some n) (w:World):(sizeOf t).run P w= .ok n w:=by
 obtain ⟨i,hi,hs⟩:=F4 h;simp [sizeOf,typeInfo,hi,hs]
def lP {t:TypeId} {b:Bool} (h:dx P t=some b) (w:World):(isAgg t).run P w= .ok b w:=by
 unfold dx at h;cases hd:P.underlying t with
 |none=>simp [hd] at h
 |some d=>
  rw [hd] at h
  simp only [isAgg,Sem.run_bind,run_underlying hd,Result.andThen_ok]
  cases d<;>simp_all
def kU {t:TypeId} {z:Value} (h:zeroOf P t=some z) (w:World):(zeroValue t).run P w= .ok z w:=by
 unfold zeroOf at h;cases hi:P.info? t with
 |none=>simp [hi] at h
 |some i=>
  rw [hi] at h
  simp only [abB] at h
  simp [zeroValue,typeInfo,hi,h]
def jY {t:TypeId} (h:isStr P t=true):P.underlying t=some .string:=by
 unfold isStr at h;split at h<;>simp_all
def F5 {t:TypeId} (h:isBool P t=true):P.underlying t=some .bool:=by
 unfold isBool at h;split at h<;>simp_all
def DJ {t:TypeId} {k:IntKind} (h:ud P t=some k):P.underlying t=some (.int k):=by
 unfold ud at h;split at h<;>simp_all
def kz {t e:TypeId} {sz by_:Nat} (h:mU P t=some (e,sz,by_)):P.underlying t=some (.slice e)∧∃ i,P.info? e=some i∧i.size=sz∧i.bytes=by_:=by
 unfold mU at h;split at h
 ·rename_i e' he;cases hi:P.info? e' with
  |none=>simp [hi] at h
  |some i=>
   rw [hi] at h
   simp at h
   obtain ⟨rfl,rfl,rfl⟩:=h
   exact ⟨he,i,hi,rfl,rfl⟩
 ·simp at h
def nA {t e:TypeId} (h:P.underlying t=some (.slice e)):P.underlying t=some (.slice (P.elem t)):=by
 simp [Program.elem,h]
def toList_eq (s:ByteArray):s.toList=s.data.toList:=ByteArray.toList_eq s
def jq (op:BinOp) (t:TypeId) (xo yo:Operand) (x y:Value) (h1:x.oneCell'=true) (h2:x≠ .nilIface) (w:World):
  (eqGuard op t xo yo x y).run P w= .ok () w:=by
 unfold eqGuard
 cases x<;>cases op<;>cases y<;>simp_all [Value.oneCell']
def CF (op:BinOp) (t:TypeId) {x y:Value} {a b r:D} (hx:de c.H x a) (hy:de c.H y b) (h:kD op a b=some r):
  x.oneCell'=true∧x≠ .nilIface∧∃ cv,(binOp op t x y).run P w= .ok cv w∧de c.H cv r:=by
 cases hx<;>cases hy<;>simp only [kD,reduceCtorEq] at h
 case int.int k n k' m=>
  refine ⟨rfl,by simp,?_⟩
  cases op
  case shl=>simp only at h;split at h<;>simp only [aal,reduceCtorEq] at h;subst h;exact ⟨_,by simp [binOp,Op.shift,shlI, *],.int _ _⟩
  case shr=>simp only at h;split at h<;>simp only [aal,reduceCtorEq] at h;subst h;exact ⟨_,by simp [binOp,Op.shift,shrI, *],.int _ _⟩
  all_goals simp only at h
  all_goals by_cases hk:k=k'
  all_goals first
   |(rw [if_neg hk] at h;cases h;done)
   |(rw [if_pos hk] at h;subst hk)
  all_goals try simp only [aal] at h
  all_goals first
   |(subst h;refine ⟨_,?_,.int _ _⟩;simp [binOp,Op.intArith];done)
   |(subst h;refine ⟨_,?_,.int _ _⟩;simp [binOp,Op.intBits,Ta];done)
   |(subst h;refine ⟨_,?_,.bool _⟩;simp [binOp,Op.intCmp];done)
   |(split at h<;>simp only [aal,reduceCtorEq] at h;subst h;exact ⟨_,by simp [binOp,Op.intDiv, *],.int _ _⟩)
 case str.str s l hl s' l' hl'=>
  refine ⟨rfl,by simp,?_⟩
  subst hl
  subst hl'
  cases op<;>simp only [aal,reduceCtorEq] at h
  case add=>
   split at h<;>simp only [aal,reduceCtorEq] at h
   rename_i hle
   subst h
   have h':s.size+s'.size≤9223372036854775807:=by
    simp only [NY,aaH] at hle;have e1:s.data.size=s.size:=rfl;have e2:s'.data.size=s'.size:=rfl;omega
   refine ⟨.string (s++s'),?_,.str _ _ (by simp)⟩
   have:=run_string_add_sum (P:=P) w s s' h'
   simpa [binOp] using this
  all_goals
   subst h
   refine ⟨_,?_,.bool _⟩
   simp only [binOp,Op.stringOp,toList_eq]
   first|rfl|simp
def uz (op:BinOp) (t:TypeId) (xo yo:Operand) {x y:Value} {X Y Z:V} (hx:Rel c x X) (hy:Rel c y Y) (h:evalBin P op t X Y=some Z):
  ∃ cv,(do eqGuard op t xo yo x y;binOp op t x y:Sem Value).run P w= .ok cv w∧Rel c cv Z:=by
 unfold evalBin at h
 split at h
 ·rename_i a b
  cases hx with|d _ _ hx=>?_
  cases hy with|d _ _ hy=>?_
  cases hx
  cases hy
  split at h
  ·rename_i hb
   have hu:=F5 hb
   split at h<;>simp only [aal,reduceCtorEq] at h<;>subst h
   ·refine ⟨.bool (a==b),?_,.d _ _ (.bool _)⟩
    simp only [Sem.run_bind,jq (P:=P) _ t xo yo (.bool a) _ rfl (by simp),Result.andThen_ok,run_eql_bool (P:=P) w t a b hu]
   ·refine ⟨.bool (!(a==b)),?_,.d _ _ (.bool _)⟩
    simp only [Sem.run_bind,jq (P:=P) _ t xo yo (.bool a) _ rfl (by simp),Result.andThen_ok,run_neq_bool (P:=P) w t a b hu]
  ·simp at h
 ·rename_i a b _
  cases hx with|d _ _ hx=>?_
  cases hy with|d _ _ hy=>?_
  cases hr:kD op a b with
  |none=>simp [hr] at h
  |some r=>
   rw [hr] at h
   simp only [aaJ,aal] at h
   subst h
   obtain ⟨h1,h2,cv,h3,h4⟩:=CF (P:=P) (w:=w) op t hx hy hr
   exact ⟨cv,by simp only [Sem.run_bind,jq (P:=P) _ t xo yo _ _ h1 h2,Result.andThen_ok,h3],.d _ _ h4⟩
 ·simp at h
def vN {t:TypeId} (h:isIface P t=some true):P.underlying t=some (.interface (P.methodsAt t)):=by
 unfold isIface at h;unfold Program.methodsAt;cases hu:P.underlying t with
 |none=>simp [hu] at h
 |some d=>cases d<;>simp_all
def eqF_cons {d:Nat} {xs ys:Array Value} {f:Field} {fs:List Field} {w:World} {a b:Value} {r:Bool} (hn:(f.name== "_")=false) (hg:dx P f.type=some false) (ha:xs[f.offset]?=some a) (hb:ys[f.offset]?=some b)
  (he:(Op.equalIn d f.type a b).run P w= .ok r w):(Op.eqFields d xs ys (f::fs)).run P w=if r=true then (Op.eqFields d xs ys fs).run P w else .ok false w:=by
 have hn':f.name≠ "_" :=by simpa using hn
 rw [Op.eqFields,if_pos hn']
 simp only [Sem.run_bind,part,lP hg,Result.andThen_ok,aa3,if_false,ha,hb,Sem.run_pure,he]
 cases r<;>simp [Sem.run_pure]
def rel_d {q:Value} {x:D} (h:Rel c q (.d x)):de c.H q x:=by cases h;assumption
def agg3 {p:Value} {x y z:D} (h:Rel c p (.agg [.d x,.d y,.d z])):∃ u v w,p= .agg #[u,v,w]∧de c.H u x∧de c.H v y∧de c.H w z:=by
 cases h with
 |agg cs _ hl hr=>
  have h0:=hr 0 (by simp)
  have h1:=hr 1 (by simp)
  have h2:=hr 2 (by simp)
  simp only [abi,abI] at h0 h1 h2
  have hs:cs.size=3:=by simpa using hl
  have e:cs= #[cs.getD 0 undef,cs.getD 1 undef,cs.getD 2 undef]:=by
   apply Array.ext
   ·simp [hs]
   ·intro i hi _;have:i=0∨i=1∨i=2:=by omega
    rcases this with rfl|rfl|rfl<;>simp [aap,hs]
  exact ⟨_,_,_,congrArg Value.agg e,rel_d h0,rel_d h1,rel_d h2⟩
def eqFld_sound {f:Field} {i:Nat} {a b:D} {u v:Value} {r:Bool} (hu:de c.H u a) (hv:de c.H v b) (h:eqFld P f i a b=some r) (w:World):
  (f.name== "_")=false∧f.offset=i∧dx P f.type=some false∧(Op.equalIn 9999 f.type u v).run P w= .ok r w:=by
 unfold eqFld at h
 split at h
 ·simp at h
 rename_i hn
 simp only [aaU,bne_iff_ne,ne_eq,not_or,Decidable.not_not,Bool.not_eq_true] at hn
 refine ⟨hn.1,hn.2,?_⟩
 split at h
 ·rename_i ht
  simp only [aal] at h
  subst h
  cases hu with|str s _ hs=>cases hv with|str s' _ hs'=>
   refine ⟨by simp [dx,ht],?_⟩
   have:=run_equalIn_string (P:=P) w 9998 f.type s s' ht
   rw [this,←hs,←hs',ByteArray.toList_eq,ByteArray.toList_eq]
 ·rename_i ht
  split at h
  ·rename_i hk
   subst hk
   simp only [aal] at h
   subst h
   cases hu;cases hv
   exact ⟨by simp [dx,ht],run_equalIn_int w 9998 f.type _ _ _ _ ht⟩
  ·simp at h
 ·simp at h
def eq3_sound {t:TypeId} {x y:Value} {a b:List V} {r:Bool} (hx:Rel c x (.agg a)) (hy:Rel c y (.agg b)) (xo yo:Operand) (h:eq3 P t a b=some r):
  (eqGuard .neq t xo yo x y).run P w= .ok () w∧(binOp .neq t x y).run P w= .ok (.bool (!r)) w:=by
 unfold eq3 at h
 split at h
 ·simp at h
 rename_i hq
 simp only [aaU,not_or,Bool.not_eq_true] at hq
 split at h
 ·rename_i fs a0 a1 a2 b0 b1 b2 hu
  split at h
  ·rename_i f0 f1 f2 hfs
   split at h
   ·rename_i r0 r1 r2 e0 e1 e2
    simp only [aal] at h
    subst h
    obtain ⟨u,v,z,rfl,p0,p1,p2⟩:=agg3 hx
    obtain ⟨u',v',z',rfl,q0,q1,q2⟩:=agg3 hy
    obtain ⟨n0,o0,g0,s0⟩:=eqFld_sound p0 q0 e0 w
    obtain ⟨n1,o1,g1,s1⟩:=eqFld_sound p1 q1 e1 w
    obtain ⟨n2,o2,g2,s2⟩:=eqFld_sound p2 q2 e2 w
    have hf:P.fieldsOf t=fs:=by simp [Program.fieldsOf,hu]
    refine ⟨run_eqGuard_agg w .neq t xo yo _ _ hq.2,?_⟩
    rw [run_neq_struct,run_equalIn_agg w 9999 t _ _ (by rw [hf];exact hu) hq.1,hf,hfs,eqF_cons n0 g0 (by rw [o0];rfl) (by rw [o0];rfl) s0]
    rw [eqF_cons n1 g1 (by rw [o1];rfl) (by rw [o1];rfl) s1,eqF_cons n2 g2 (by rw [o2];rfl) (by rw [o2];rfl) s2]
    cases r0<;>cases r1<;>cases r2<;>simp [Op.eqFields]
   ·simp at h
  ·simp at h
 ·simp at h
def uA (op:BinOp) (t:TypeId) (xo yo:Operand) {x y:Value} {X Y Z:V} (hx:Rel c x X) (hy:Rel c y Y) (h:kZ P op t (mc xo||mc yo) X Y=some Z):
  ∃ cv,(do eqGuard op t xo yo x y;binOp op t x y:Sem Value).run P w= .ok cv w∧Rel c cv Z:=by
 unfold kZ at h
 split at h
 ·cases hx with|d _ _ hx=>?_
  cases hy with|d _ _ hy=>?_
  cases hx with|nz u v=>?_
  cases hy
  unfold AP at h
  split at h
  ·rename_i hi
   have hu:=vN hi
   simp only [if_true] at h
   split at h<;>simp only [aal,reduceCtorEq] at h<;>subst h
   ·exact ⟨_,by simp only [Sem.run_bind,jq (P:=P) _ t xo yo (.iface u v) _ rfl (by simp),Result.andThen_ok,run_eql_held_nil (P:=P) w t u v hu],.d _ _ (.bool _)⟩
   ·exact ⟨.bool true,by simp only [Sem.run_bind,jq (P:=P) _ t xo yo (.iface u v) _ rfl (by simp),Result.andThen_ok,run_neq_held_nil (P:=P) w t u v hu],.d _ _ (.bool true)⟩
  ·simp at h
 ·cases hx with|d _ _ hx=>?_
  cases hy with|d _ _ hy=>?_
  cases hx
  cases hy
  unfold AP at h
  split at h
  ·rename_i hi
   have hu:=vN hi
   split at h
   ·rename_i hk
    have hg:∀ op,(eqGuard op t xo yo .nilIface .nilIface).run P w= .ok () w:=by
     intro op;unfold eqGuard;cases xo<;>cases yo<;>cases op<;>simp_all [mc]
    split at h<;>simp only [aal,reduceCtorEq] at h<;>subst h
    ·exact ⟨_,by simp only [Sem.run_bind,hg,Result.andThen_ok,run_eql_nil_nil (P:=P) w t hu],.d _ _ (.bool _)⟩
    ·exact ⟨.bool false,by simp only [Sem.run_bind,hg,Result.andThen_ok,run_neq_nil_nil (P:=P) w t hu],.d _ _ (.bool false)⟩
   ·simp at h
  ·simp at h
 ·split at h
  ·obtain ⟨r,hr,rfl⟩:=aaF.1 h
   obtain ⟨h1,h2⟩:=eq3_sound (w:=w) hx hy xo yo hr
   exact ⟨.bool (!r),by simp only [Sem.run_bind,h1,h2,Result.andThen_ok],.d _ _ (.bool _)⟩
  ·simp at h
 ·simp at h
def xL (op:BinOp) (t:TypeId) (xo yo:Operand) {x y:Value} {X Y Z:V} (hx:Rel c x X) (hy:Rel c y Y) (h:(evalBin P op t X Y).or (kZ P op t (mc xo||mc yo) X Y)=some Z):
  ∃ cv,(do eqGuard op t xo yo x y;binOp op t x y:Sem Value).run P w= .ok cv w∧Rel c cv Z:=by
 cases hb:evalBin P op t X Y with
 |some z=>rw [hb] at h;simp only [Option.some_or,aal] at h;subst h;exact uz op t xo yo hx hy hb
 |none=>rw [hb] at h;simp only [Option.none_or] at h;exact uA op t xo yo hx hy h
def wG (a b:Option V) (st:St):G0 a b st=(a.or b).map (·,st):=by cases a<;>rfl
def xM (op:UnOp) {x:Value} {X Z:V} (hx:Rel c x X) (h:evalUn op X=some Z):∃ cv,(Op.unary op x).run P w= .ok cv w∧Rel c cv Z:=by
 unfold evalUn at h;split at h<;>simp only [aal,reduceCtorEq] at h<;>subst h
 ·cases hx with|d _ _ hx=>?_
  cases hx;exact ⟨_,rfl,.d _ _ (.bool _)⟩
 ·cases hx with|d _ _ hx=>?_
  cases hx;exact ⟨_,rfl,.d _ _ (.int _ _)⟩
 ·cases hx with|d _ _ hx=>?_
  cases hx;exact ⟨_,by simp [Op.unary,Op.intBits,Ta],.d _ _ (.int _ _)⟩
def F6 {H:GH} (hs:∀ k o v,H k o=some v→w.cell? ⟨k,o,none⟩=some v) {v:Value} {es:List (List D)} {l:List UInt8} (r:de H v (.sl es)) (hb:bytesOf es=some l):
  ∃ s,(Conv.bytesToString v).run P w= .ok (.string s) w∧s.data.toList=l:=by
 cases r with
 |slnil=>
  simp only [bytesOf,aal] at hb
  subst hb
  exact ⟨.empty,rfl,rfl⟩
 |uV a=>
  simp only [bytesOf,aal] at hb
  subst hb
  exact ⟨.empty,rfl,rfl⟩
 |sl k off n cap sz vs es h1 h2 h3 h4 h5=>
  have key:∀ (es:List (List D)) (l:List UInt8),bytesOf es=some l→∃ ns:List Int,es=ns.map (fun n=>[D.int .u8 n])∧l=ns.map (fun n=>UInt8.ofNat n.toNat):=by
   intro es;induction es with
   |nil=>intro l h;simp only [bytesOf,aal] at h;exact ⟨[],rfl,h.symm⟩
   |cons r rs ih=>
    intro l h
    simp only [bytesOf] at h
    split at h<;>simp only [aal,reduceCtorEq] at h
    rename_i b l' hb hl
    obtain ⟨ns,e1,e2⟩:=ih l' hl
    unfold byteOf at hb
    split at hb<;>simp only [aal,reduceCtorEq] at hb
    rename_i n
    exact ⟨n::ns,by simp [e1],by simp [←h,←hb,e2]⟩
  obtain ⟨ns,e1,e2⟩:=key es l hb
  subst e1
  simp only [aaC] at h1
  have hcell:∀ j v,(ns.map (Value.int .u8))[j]?=some v→w.cell? ((⟨k,off,none⟩:Addr).add j)=some v:=by
   intro j v hv;have hj:j<ns.length:=by
    have:=(aao.1 hv).1;simpa using this
   have hsz:sz=1:=by
    have:=h3 [D.int .u8 ns[0]] (abm.2 ⟨ns[0],aaX _,rfl⟩);simpa using this.symm
   subst hsz;have ha:=hs _ _ _ (h4 j 0 (by omega) (by omega));have hr:=h5 j 0 (by omega) (by omega);simp only [aam,aaV,aaw hj,aaJ,aaS,abw] at hr;simp only [aaV,aaw hj,aaJ,aal] at hv;have hadd:(⟨k,off,none⟩:Addr).add j=⟨k,off+j*1+0,none⟩:=by unfold Addr.add;split<;>simp_all
   rw [hadd,ha,←hv];generalize vs j 0=q at hr;cases hr;rfl
  have hl:=run_loadCells_list (P:=P) w ⟨k,off,none⟩ (ns.map (Value.int .u8)) hcell
  simp only [aaC,h1] at hl
  refine ⟨_,run_bytesToString (P:=P) w _ n cap ns hl,?_⟩
  rw [e2]
  have fold:∀ (ns:List Int) (s:ByteArray),(ns.foldl (fun r n=>r.push (UInt8.ofNat n.toNat)) s).data.toList=s.data.toList++ns.map (fun n=>UInt8.ofNat n.toNat):=by
   intro ns;induction ns with
   |nil=>intro s;simp
   |cons n ns ih=>intro s;simp only [List.foldl_cons,ih];simp [ByteArray.push]
  rw [fold]
  simp
def CG {t:TypeId} (h:isBytes P t=true):∃ e,P.underlying t=some (.slice e)∧P.underlying e=some (.int .u8):=by
 unfold isBytes at h;split at h
 ·rename_i e he;split at h
  ·rename_i hu;exact ⟨e,he,hu⟩
  ·simp at h
 ·simp at h
def tM (hc:bf c w st) (src dst:TypeId) {x:Value} {X Z:V} (hx:Rel c x X) (h:evalConv P src dst X=some Z):
  ∃ cv,(convert src dst x).run P w= .ok cv w∧Rel c cv Z:=by
 unfold evalConv at h
 split at h
 ·cases hx with|d _ _ hx=>?_
  cases hx
  rename_i k n
  split at h<;>simp only [aal,reduceCtorEq] at h
  rename_i ks k' hs hd
  subst h
  refine ⟨.int k' (k'.wrap n),?_,.d _ _ (.int _ _)⟩
  have hs':=DJ hs
  have hd':=DJ hd
  simp [convert,run_underlying hs',run_underlying hd',Conv.intToInt]
 ·cases hx with|d _ _ hx=>?_
  cases hx with|str s l e=>?_
  split at h<;>simp only [aal,reduceCtorEq] at h
  rename_i hsd
  simp only [aas] at hsd
  subst h
  refine ⟨.string s,?_,.d _ _ (.str s _ e)⟩
  have hs':=jY hsd.1
  have hd':=jY hsd.2
  simp [convert,run_underlying hs',run_underlying hd']
 ·split at h
  ·rename_i es he
   split at h
   ·rename_i hb
    simp only [aas] at hb
    obtain ⟨e,h1,h2⟩:=CG hb.1
    have h3:=jY hb.2
    cases hl:bytesOf es with
    |none=>simp [hl] at h
    |some l=>
     rw [hl] at h
     simp only [aaJ,aal] at h
     subst h
     have r:=hx.me he
     obtain ⟨s,hr,hs⟩:=F6 (P:=P) (w:=w) hc.cy r hl
     refine ⟨.string s,?_,.d _ _ (.str s l hs)⟩
     have:∃ a n k,x= .slice a n k:=by cases r<;>exact ⟨_,_,_,rfl⟩
     obtain ⟨a,n,k,rfl⟩:=this
     rw [run_convert_bytes_string (P:=P) w src dst e a n k h1 h2 h3]
     exact hr
   ·simp at h
  ·simp at h
def addr_add (k off j:Nat):(⟨k,off,none⟩:Addr).add j=⟨k,off+j,none⟩:=by unfold Addr.add;split<;>simp_all
def lV {t:TypeId} {sz:Nat} (hb:dx P t=some true) (hz:ef P t=some sz) (k off:Nat) (f:Nat→Value) (h:∀ j,j<sz→w.cell? ⟨k,off+j,none⟩=some (f j)):
  (loadVar t ⟨k,off,none⟩).run P w= .ok (.agg ((List.range sz).map f).toArray) w:=by
 have hl:=run_loadCells (P:=P) w ⟨k,off,none⟩ sz f (fun j hj=>by rw [addr_add];exact h j hj)
 simp only [loadVar,Sem.run_bind,lP hb,Result.andThen_ok,if_true,gl hz,hl,Sem.run_pure]
def lW {t:TypeId} (hb:dx P t=some false) (a:Addr) (v:Value) (h:w.cell? a=some v):(loadVar t a).run P w= .ok v w:=by
 simp [loadVar,lP hb,h]
def nO (n:Nat) (f:Nat→Value) (i:Nat) (hi:i<n):((List.range n).map f).toArray.getD i undef=f i:=by
 simp [aap,hi]
def bf.rowAt (hc:bf c w st) {b k:Nat} {B:ec} {cs:List V} (hk:c.mu[b]?=some k) (hB:st.aj[b]?=some B) (hrow:B.row=some cs):
  ∃ arr elem,w.heap[k]?=some (.cells arr elem (0,0))∧arr.size=cs.length∧(∀ i,i<cs.length→Rel c (arr.getD i undef) (cs.getD i .aU))∧(∀ e cs',B= .tc e cs'→elem=e):=by
 obtain ⟨o,ho,hr⟩:=hc.blk b k _ hk hB
 cases hr with
 |cells arr elem cs' hs hr=>simp only [ec.row,aal] at hrow;subst hrow;exact ⟨arr,elem,ho,hs,hr,fun e cs' h=>by cases h⟩
 |tc arr elem cs' hs hr=>simp only [ec.row,aal] at hrow;subst hrow;exact ⟨arr,elem,ho,hs,hr,fun e cs' h=>by cases h;rfl⟩
 |iter s l pos e=>simp [ec.row] at hrow
 |mp es clock kd n f hf=>simp [ec.row] at hrow
def mP {α:Type} (l:List α) (off sz i:Nat) (d:α) (hi:i<sz):((l.drop off).take sz).getD i d=l.getD (off+i) d:=by
 simp [aam,hi,List.getElem?_drop]
def jM (t:TypeId) (a:Addr) (w:World):(Instr.loadAt t (.pointer (some a))).run P w=(loadVar t a).run P w:=by
 simp only [Instr.loadAt,Instr.sureAddr,Sem.run_bind,Sem.run_pure,Result.andThen_ok]
def mb (hc:bf c w st) (t:TypeId) {av:Value} {A Z:V} (ha:Rel c av A) (h:bn P t A st=some Z):
  ∃ cv,(Instr.loadAt t av).run P w= .ok cv w∧Rel c cv Z:=by
 unfold bn at h
 split at h
 case h_2=>simp at h
 rename_i b sz hb hz
 split at h
 ·rename_i k off
  split at h
  case h_2=>simp at h
  rename_i cs hBr
  obtain ⟨B,hB,hrow⟩:=abM.1 hBr
  cases ha with|ptr _ kk _ hk=>?_
  obtain ⟨arr,elem,hh,hs,hr,_⟩:=hc.rowAt hk hB hrow
  have hcell:∀ j,j<cs.length→w.cell? ⟨kk,j,none⟩=some (arr.getD j undef):=by
   intro j hj;simp [World.cell?,hh,aap,hs▸hj]
  unfold iL at h
  split at h
  ·rename_i hbt
   subst hbt
   split at h<;>simp only [aal,reduceCtorEq] at h
   rename_i hle
   subst h
   refine ⟨_,(jM t _ w).trans (lV hb hz kk off (fun j=>arr.getD (off+j) undef) (fun j hj=>hcell _ (by omega))),?_⟩
   ·refine .agg _ _ (by simp;omega) fun i hi=>?_
    simp only [aan,aar] at hi
    rw [nO _ _ _ (by omega),mP _ _ _ _ _ (by omega)]
    exact hr _ (by omega)
  ·rename_i hbt
   have hbt':b=false:=by simpa using hbt
   subst hbt'
   have hlt:off<cs.length:=(aao.1 h).1
   refine ⟨_,(jM t _ w).trans (lW hb _ _ (hcell off hlt)),?_⟩
   ·have:=hr off hlt
    rwa [show cs.getD off .aU=Z by simp [aam,h]] at this
 ·rename_i cs off
  cases ha with|ep kk base _ vs _ h1 h2=>?_
  have hcell:∀ j,j<cs.length→w.cell? ⟨kk,base+j,none⟩=some (vs j):=fun j hj=>hc.cy _ _ _ (h1 j hj)
  unfold pG at h
  split at h
  ·rename_i hbt
   subst hbt
   split at h<;>simp only [aal,reduceCtorEq] at h
   rename_i hle
   subst h
   refine ⟨_,(jM t _ w).trans (lV hb hz kk (base+off) (fun j=>vs (off+j)) (fun j hj=>by rw [abt];exact hcell _ (by omega))),?_⟩
   ·refine .agg _ _ (by simp;omega) fun i hi=>?_
    simp only [aaC,aan,aar] at hi
    rw [nO _ _ _ (by omega)]
    rw [show (((cs.drop off).take sz).map V.d).getD i .aU= .d (cs.getD (off+i) .eX) by
     simp only [aam,aaV,abl,List.getElem?_drop];rw [if_pos (by omega),aaw (by omega)];rfl]
    exact .d _ _ (h2 _ (by omega))
  ·rename_i hbt
   have hbt':b=false:=by simpa using hbt
   subst hbt'
   cases hx:cs[off]? with
   |none=>simp [hx] at h
   |some x=>
    rw [hx] at h
    simp only [aaJ,aal] at h
    subst h
    have hlt:off<cs.length:=(aao.1 hx).1
    refine ⟨_,(jM t _ w).trans (lW hb _ _ (hcell off hlt)),?_⟩
    ·have:=h2 off hlt
     rw [show cs.getD off .eX=x by simp [aam,hx]] at this
     exact .d _ _ this
 ·simp at h
def cQ {α:Type} (l:List α) (off:Nat) (x:List α) (h:off+x.length≤l.length):(splice l off x).length=l.length:=by
 simp [splice];omega
def BL {α:Type} (l:List α) (off:Nat) (x:List α) (d:α) (h:off+x.length≤l.length) (i:Nat):
  (splice l off x).getD i d=if i<off then l.getD i d else if i<off+x.length then x.getD (i - off) d else l.getD i d:=by
 unfold splice
 simp only [aam]
 by_cases h1:i<off
 ·rw [if_pos h1,aaG,aaz (by simp;omega),abl,if_pos h1]
 ·rw [if_neg h1]
  by_cases h2:i<off+x.length
  ·rw [if_pos h2,aaz (by simp;omega),aay (by simp;omega)]
   simp only [aan]
   rw [Nat.min_eq_left (by omega)]
  ·rw [if_neg h2,aay (by simp;omega)]
   simp only [aax,aan,List.getElem?_drop]
   rw [Nat.min_eq_left (by omega)]
   congr 2
   omega
def bf.setRow (hc:bf c w st) {b k:Nat} {cs':List V} {arr arr':Array Value} {elem:TypeId} (hk:c.mu[b]?=some k) {B B2:ec} (hB:st.aj[b]?=some B)
  (hh:w.heap[k]?=some (.cells arr elem (0,0))) (hs:arr'.size=cs'.length) (hr:∀ i,i<cs'.length→Rel c (arr'.getD i undef) (cs'.getD i .aU)) (hB2:B2= .cells cs'∨B2= .tc elem cs'):
  bf c (w.setRow k arr') (dY st b B2) where
 cN:=by simp [dY,hc.cN]
 dH:=hc.dH
 cI:=hc.cI
 mS:=hc.mS
 blk:=by
  intro b' k' B' hk' hB';by_cases hbb:b'=b
  ·subst hbb;have hkk:k'=k:=by rw [hk] at hk';exact (Option.some.inj hk').symm
   subst hkk;have hlt:b'<st.aj.length:=(aao.1 hB).1;simp only [dY,aa4 hlt,aal] at hB';subst hB';refine ⟨_,setRow_heap w k' arr arr' elem (0,0) hh,?_⟩;rcases hB2 with rfl|rfl
   ·exact .cells _ _ _ hs hr
   ·exact .tc _ _ _ hs hr
  ·have hne:k'≠k:=fun e=>hbb (hc.dH b' b k (e▸hk') hk);simp only [dY,aa6 (Ne.symm hbb)] at hB';obtain ⟨o,ho,hrel⟩:=hc.blk b' k' B' hk' hB';exact ⟨o,by rw [setRow_other w k k' arr' hne];exact ho,hrel⟩
 cu:=hc.cu
 cz:=by
  intro id t ht;obtain ⟨h0,hd|⟨xs,ho,hg⟩⟩:=hc.cz id t ht
  ·exact ⟨h0,.inl hd⟩
  refine ⟨h0,.inr ⟨xs,ho.kept (row:=some k) ⟨rfl,rfl,rfl,by simp,fun k' _ hk'=>setRow_other w k k' _ (fun e=>hk' (by rw [e]))⟩ (.inr ?_),hg⟩⟩;intro e;exact (hg k e).2.2 (aaR hk)
 cK:=hc.cK
 cy:=by
  intro k' o v hv;have hne:k'≠k:=by
   intro e;subst e;rw [hc.mS b k' o hk] at hv;simp at hv
  have:=hc.cy k' o v hv;rw [World.cell?_of_block (w:=w) (setRow_other w k k' arr' hne)];exact this
 below:=hc.below.trans ⟨rfl,rfl,rfl,by simp,fun k' hk'=>setRow_other w k k' _ (by have:=hc.cI b k hk;omega)⟩
 cw:=by simpa using hc.cw
def rj (hc:bf c w st) (t:TypeId) {av xv:Value} {A X:V} {st':St} (ha:Rel c av A) (hx:Rel c xv X) (h:iJ P t A X st=some st'):
  ∃ w',(Instr.storeAt t av xv).run P w= .ok () w'∧bf c w' st':=by
 unfold iJ at h
 split at h
 case h_2=>simp at h
 rename_i k off sz l hz hl
 split at h
 case isFalse=>simp at h
 rename_i hcond
 obtain ⟨hlen,hone⟩:=hcond
 split at h
 case h_2=>simp at h
 rename_i B hB
 unfold putBlk at h
 split at h
 case h_2=>simp at h
 rename_i cs hrow
 split at h<;>simp only [aal,reduceCtorEq] at h
 rename_i hle
 subst h
 cases ha with|ptr _ kk _ hk=>?_
 obtain ⟨arr,elem,hh,hs,hr,hty⟩:=hc.rowAt hk hB hrow
 have hB2:B.putRow (splice cs off l)= .cells (splice cs off l)∨B.putRow (splice cs off l)= .tc elem (splice cs off l):=by
  cases B with
  |cells cs=>exact .inl rfl
  |tc e cs'=>exact .inr (by rw [hty e cs' rfl];rfl)
  |iter s pos=>simp [ec.row] at hrow
  |mp kd n f=>simp [ec.row] at hrow
 obtain ⟨hxs,hxr⟩:=hx.cells hl
 have hst:=run_storeCells_at P kk off elem xv.cells.toList 0 arr w hh (by simp [hxs];omega) (by
  intro v hv;obtain ⟨i,hi,rfl⟩:=aaY.1 hv;have hi':i<l.length:=by simpa [hxs] using hi
  have h1:=hxr i hi';have h2:(l.getD i .aU).one=true:=by
   rw [aam,aaw hi',aaS];exact aaE.1 hone _ (aaX _)
  have:=h1.one h2;rw [aap,aaZ (by omega),aaS] at this;simpa using this)
 simp only [abE] at hst
 refine ⟨_,?_,hc.setRow hk hB hh (cs':=splice cs off l) (arr':=(splice arr.toList off xv.cells.toList).toArray) ?_ ?_ hB2⟩
 ·simp only [Instr.storeAt,Instr.sureAddr,Sem.run_bind,Sem.run_pure,Result.andThen_ok,storeVar,gl hz]
  rw [if_neg (by rw [hxs,hlen];simp)]
  simpa [splice] using hst
 ·simp [cQ arr.toList off xv.cells.toList (by simp [hs,hxs];omega),cQ cs off l (by omega),hs]
 ·intro i hi
  rw [cQ cs off l (by omega)] at hi
  rw [aK,BL arr.toList off xv.cells.toList undef (by simp [hs,hxs];omega) i,BL cs off l .aU (by omega) i]
  simp only [aaH,hxs]
  split
  ·rw [←aK];exact hr i hi
  ·split
   ·rw [←aK];exact hxr _ (by omega)
   ·rw [←aK];exact hr i hi
def tP (t:TypeId) (v:Value) (w:World):(newVar t v).run P w= .ok ⟨w.heap.size,0,none⟩ (w.alloc (.cells v.cells t)):=(rfl)
def Ao (hc:bf c w st) (t:TypeId) {v:Value} {cs:List V} (hs:v.cells.size=cs.length) (hr:∀ i,i<cs.length→Rel c (v.cells.getD i undef) (cs.getD i .aU)):
  bf (c.c7 w.heap.size) (w.alloc (.cells v.cells t)) (c7 st (.cells cs)).2∧Ext c (c.c7 w.heap.size)∧
   Rel (c.c7 w.heap.size) (.pointer (some ⟨w.heap.size,0,none⟩)) (c7 st (.cells cs)).1:=
 ⟨hc.alloc (.cells _ _ _ hs hr),Ext.c7 c _,.ptr _ _ _ (by simp [Ctx.c7,←hc.cN])⟩
theorem qQ (off:Nat):∀ (vs:List Value) (j:Nat) (arr:Array Value),off+j+vs.length≤arr.size→
  ((vs.zipIdx j).foldl (fun cs x=>cs.setIfInBounds (off+x.2) x.1) arr).toList=splice arr.toList (off+j) vs
 |[],j,arr,_=>by simp [splice]
 |v::r,j,arr,h=>by
  simp only [List.zipIdx_cons,List.foldl_cons];have hlen:off+(j+1)+r.length≤(arr.setIfInBounds (off+j) v).size:=by simp at h ⊢;omega
  rw [qQ off r (j+1) _ hlen];have e:=list_seg_step arr.toList (off+j) v r (by simp at h ⊢;omega);simp only [Array.toList_setIfInBounds,splice];simpa [abt] using e
def vO (cells:Array Value) (v:Value) (off:Nat) (h:off+v.cells.size≤cells.size):
  (v.cells.zipIdx.foldl (fun cs (x:Value×Nat)=>cs.setIfInBounds (off+x.2) x.1) cells).toList=splice cells.toList off v.cells.toList:=by
 rw [←Array.foldl_toList,Array.toList_zipIdx]
 exact qQ off v.cells.toList 0 cells (by simpa using h)
def CH {arr:Array Value} {cs:List V} (hs:arr.size=cs.length) (hr:∀ i,i<cs.length→Rel c (arr.getD i undef) (cs.getD i .aU))
  {v:Value} {l:List V} (hl:v.cells.size=l.length) (hlr:∀ i,i<l.length→Rel c (v.cells.getD i undef) (l.getD i .aU)) {off:Nat} (hle:off+l.length≤cs.length)
  {arr':Array Value} (ha:arr'.toList=splice arr.toList off v.cells.toList):
  arr'.size=(splice cs off l).length∧∀ i,i< (splice cs off l).length→Rel c (arr'.getD i undef) ((splice cs off l).getD i .aU):=by
 have hle':off+v.cells.toList.length≤arr.toList.length:=by simp [hs,hl];omega
 have hsz:arr'.size=(splice cs off l).length:=by
  rw [cQ cs off l hle,←aaH,ha,cQ _ _ _ hle'];simp [hs]
 refine ⟨hsz,fun i hi=>?_⟩
 rw [cQ cs off l hle] at hi
 rw [aK,ha,BL arr.toList off v.cells.toList undef hle' i,BL cs off l .aU hle i]
 simp only [aaH,hl]
 split
 ·rw [←aK];exact hr i hi
 ·split
  ·rw [←aK];exact hlr _ (by omega)
  ·rw [←aK];exact hr i hi
def CI {t:TypeId} {i off sz:Nat} {b:Bool} (h:k8 P t i=some (off,sz,b)):
  ∃ fs f,P.underlying t=some (.struct fs)∧fs[i]?=some f∧ef P f.type=some sz∧dx P f.type=some b∧f.offset=off:=by
 unfold k8 at h
 split at h
 ·rename_i fs hu
  split at h
  ·rename_i f hf
   split at h<;>simp only [aal,aaq,reduceCtorEq] at h
   rename_i s b' h1 h2
   obtain ⟨rfl,rfl,rfl⟩:=h
   exact ⟨fs,f,hu,hf,h1,h2,rfl⟩
  ·simp at h
 ·simp at h
def CJ (fs:Array Field) (h:(fs.toList.all fun f=>(ef P f.type).isSome)=true) (w:World):
  (fs.mapM fun f=>do pure (f.offset,←sizeOf f.type):Sem (Array (Nat×Nat))).run P w= .ok (fs.map fun f=>(f.offset,(ef P f.type).getD 0)) w:=by
 rw [Array.mapM_eq_mapM_toList]
 have key:∀ l:List Field,(l.all fun f=>(ef P f.type).isSome)=true→
   (l.mapM (fun f=>do pure (f.offset,←sizeOf f.type):Field→Sem (Nat×Nat))).run P w= .ok (l.map fun f=>(f.offset,(ef P f.type).getD 0)) w:=by
  intro l
  induction l with
  |nil=>intro _;simp
  |cons f r ih=>
   intro h
   simp only [List.all_cons,aas] at h
   obtain ⟨n,hn⟩:=abq.1 h.1
   simp only [List.mapM_cons,Sem.run_bind,gl hn,Result.andThen_ok,Sem.run_pure,ih h.2,aaB,hn,aaS]
 have:=key fs.toList h
 simp only [Sem.run_map,this,Result.andThen_ok]
 congr 1
 apply abA
 simp
theorem qR {t:TypeId} {fs:Array Field} (hu:P.underlying t=some (.struct fs)) {a:Act} {fr:Fr} (hf:cC c a.tmps fr):
  ∀ (parts:List (Nat×Operand)) (cs:List V) (arr:Array Value),arr.size=cs.length→(∀ i,i<cs.length→Rel c (arr.getD i undef) (cs.getD i .aU))→
   ∀ {cs':List V},jN P t fr cs parts=some cs'→
   ∃ arr',Instr.fill (fun i=>(fs.map fun f=>(f.offset,(ef P f.type).getD 0))[i]?) arr (parts.map fun p=>(p.1,a.eval p.2))=some arr'∧
    arr'.size=cs'.length∧∀ i,i<cs'.length→Rel c (arr'.getD i undef) (cs'.getD i .aU)
 |[],cs,arr,hs,hr,cs',h=>by
  simp only [jN,aal] at h;subst h;exact ⟨arr,rfl,hs,hr⟩
 |(i,x)::rest,cs,arr,hs,hr,cs',h=>by
  simp only [jN] at h;split at h
  case h_2=>simp at h
  rename_i off sz b l hfl hl;split at h
  case isFalse=>simp at h
  rename_i hcond;obtain ⟨hlen,hle⟩:=hcond;obtain ⟨fs',f,hu',hff,hsz,_,hoff⟩:=CI hfl;rw [hu] at hu';have:fs=fs':=by simpa using hu'
  subst this;obtain ⟨hvs,hvr⟩:=(bJ hf x).cells hl;have hplace:(fs.map fun f=>(f.offset,(ef P f.type).getD 0))[i]?=some (off,sz):=by
   simp [Array.getElem?_map,hff,hoff,hsz]
  have hstep:=vO arr (a.eval x) off (by rw [hvs,hs];exact hle);obtain ⟨h1,h2⟩:=CH (c:=c) hs hr hvs hvr hle hstep;obtain ⟨arr',h3,h4,h5⟩:=qR hu hf rest (splice cs off l) _ h1 h2 h;refine ⟨arr',?_,h4,h5⟩;simp only [aaB,Instr.fill,hplace];rw [if_neg (by rw [hvs,hlen,hs];simp;omega)];exact h3
def rm (t:TypeId) {a:Act} {fr:Fr} (hf:cC c a.tmps fr) (parts:Array (Nat×Operand)) {Z:V} (h:jF P t fr parts.toList=some Z):
  ∃ cv,(Instr.build t (parts.map fun p=>(p.1,a.eval p.2))).run P w= .ok cv w∧Rel c cv Z:=by
 unfold jF at h
 split at h
 case isFalse=>simp at h
 rename_i hst
 split at h
 case h_2=>simp at h
 rename_i cs hz
 unfold eU at hz
 cases hzz:zeroOf P t with
 |none=>simp [hzz] at hz
 |some z=>
  rw [hzz] at hz
  simp only [abB] at hz
  unfold isStruct at hst
  split at hst
  case h_2=>simp at hst
  rename_i fs hu
  obtain ⟨hcl,hcr⟩:=ko (c:=c) hz
  cases hfv:jN P t fr cs parts.toList with
  |none=>simp [hfv] at h
  |some cs'=>
   rw [hfv] at h
   simp only [aaJ,aal] at h
   subst h
   obtain ⟨arr',h1,h2,h3⟩:=qR hu hf parts.toList cs z.cells (by simpa using hcl) (fun i hi=>by rw [aK];exact hcr i hi) hfv
   refine ⟨.agg arr',?_,.agg _ _ h2 h3⟩
   simp only [Instr.build,Sem.run_bind,kU hzz,Result.andThen_ok,run_underlying hu,CJ fs hst]
   rw [abL,h1]
   simp
def CK {v:Value} {x:V} {l:List D} (r:Rel c v x) (h:x.cellsD=some l):v.cells.size=l.length∧∀ i,i<l.length→de c.H (v.cells.getD i undef) (l.getD i .eX):=by
 unfold V.cellsD at h;cases hx:x.cells with
 |none=>simp [hx] at h
 |some vs=>
  rw [hx] at h
  simp only [abB] at h
  obtain ⟨h1,h2⟩:=r.cells hx
  obtain ⟨h3,h4⟩:=tL (c:=c) h
  refine ⟨h1.trans h3,fun i hi=>?_⟩
  rw [aK]
  exact h4 (vs:=v.cells.toList) (fun j hj=>by rw [←aK];exact h2 j hj) i hi
theorem nP {sz:Nat} {fr:Fr}:∀ {parts:List (Nat×Operand)} {i:Nat} {rs:List (List D)},rowsOf sz fr i parts=some rs→rs.length=parts.length∧∀ r∈rs,r.length=sz
 |[],i,rs,h=>by simp only [rowsOf,aal] at h;subst h;simp
 |(j,x)::rest,i,rs,h=>by
  simp only [rowsOf] at h;split at h
  case isFalse=>simp at h
  split at h
  case h_2=>simp at h
  rename_i l rs' h1 h2;split at h<;>simp only [aal,reduceCtorEq] at h;rename_i hl;subst h;obtain ⟨h3,h4⟩:=nP h2;exact ⟨by simp [h3],by simpa [hl] using h4⟩
theorem vP {a:Act} {fr:Fr} (hf:cC c a.tmps fr) {sz:Nat}:
  ∀ (parts:List (Nat×Operand)) (i:Nat) (arr:Array Value) {rs:List (List D)},rowsOf sz fr i parts=some rs→(i+parts.length)*sz≤arr.size→
   ∃ arr',Instr.fill (fun i=>some (i*sz,sz)) arr (parts.map fun p=>(p.1,a.eval p.2))=some arr'∧arr'.size=arr.size∧
    (∀ q,q<i*sz→arr'.getD q undef=arr.getD q undef)∧
    ∀ m j,m<rs.length→j<sz→de c.H (arr'.getD ((i+m)*sz+j) undef) ((rs.getD m []).getD j .eX)
 |[],i,arr,rs,h,_=>by
  simp only [rowsOf,aal] at h;subst h;exact ⟨arr,rfl,rfl,fun _ _=>rfl,fun m j hm=>by simp at hm⟩
 |(j,x)::rest,i,arr,rs,h,hle=>by
  simp only [rowsOf] at h;split at h
  case isFalse=>simp at h
  rename_i hij;subst hij;split at h
  case h_2=>simp at h
  rename_i l rs' h1 h2;split at h<;>simp only [aal,reduceCtorEq] at h;rename_i hl;subst h;obtain ⟨hvs,hvr⟩:=CK (bJ hf x) h1;have hmul:(i+(rest.length+1))*sz=i*sz+sz+rest.length*sz:=by
   rw [abd,abd];omega
  have hfit:i*sz+(a.eval x).cells.size≤arr.size:=by
   rw [hvs,hl];simp only [aav] at hle;rw [hmul] at hle;exact abj (Nat.le_add_right _ _) hle
  have hstep:=vO arr (a.eval x) (i*sz) hfit;generalize harr1:((a.eval x).cells.zipIdx.foldl (fun cs (y:Value×Nat)=>cs.setIfInBounds (i*sz+y.2) y.1) arr)=arr1 at hstep;have hfit':i*sz+(a.eval x).cells.toList.length≤arr.toList.length:=by simpa using hfit
  have hsz1:arr1.size=arr.size:=by
   rw [←aaH,hstep,cQ _ _ _ hfit'];simp
  have hget:∀ q,arr1.getD q undef=if q<i*sz then arr.getD q undef else if q<i*sz+sz then (a.eval x).cells.getD (q - i*sz) undef else arr.getD q undef:=by
   intro q;rw [aK,hstep,BL _ _ _ undef hfit' q];simp only [aaH,hvs,hl,←aK]
  obtain ⟨arr',h3,h4,h5,h6⟩:=vP hf rest (i+1) arr1 h2 (by rw [hsz1];simp only [aav] at hle;rw [show i+1+rest.length=i+(rest.length+1) by omega];exact hle);refine ⟨arr',?_,h4.trans hsz1,fun q hq=>?_,fun m j hm hj=>?_⟩
  ·simp only [aaB,Instr.fill];rw [if_neg (by rw [hvs,hl] at hfit ⊢;simp;omega)];exact (congrArg (fun z=>Instr.fill _ z _) harr1).trans h3
  ·rw [h5 q (by rw [abd];omega),hget,if_pos hq]
  ·cases m with
   |zero=>
    rw [show (i+0)*sz+j=i*sz+j by simp,h5 _ (by rw [abd];omega),hget,if_neg (by omega),if_pos (by omega)]
    have:=hvr j (by omega)
    simpa using this
   |succ m=>
    have:=h6 m j (by simpa using hm) hj
    rw [show i+(m+1)=i+1+m by omega]
    simpa using this
def evalBuildSlice_at (hc:bf c w st) (t:TypeId) (n:Nat) {a:Act} {fr:Fr} (hf:cC c a.tmps fr) (parts:Array (Nat×Operand)) {Z:V} (h:eW P t n fr parts.toList=some Z):
  ∃ e sz by_ rs arr',mU P t=some (e,sz,by_)∧Z= .d (.sl rs)∧rs.length=n∧(∀ r∈rs,r.length=sz)∧0<sz∧arr'.size=n*sz∧n*sz≤16777216∧
   (Instr.buildSlice t n (parts.map fun p=>(p.1,a.eval p.2))).run P w= .ok (.slice (some ⟨w.heap.size,0,none⟩) n n) (w.alloc (.cells arr' e))∧de (c.kT w.heap.size arr').H (.slice (some ⟨w.heap.size,0,none⟩) n n) (.sl rs):=by
 unfold eW at h
 split at h
 case h_2=>simp at h
 rename_i e sz by_ hsl
 obtain ⟨hu,ie,hie,hsz,_⟩:=kz hsl
 split at h
 case isFalse=>simp at h
 rename_i hcond
 obtain ⟨hpn,hsmall,hpos,hzs⟩:=hcond
 have hzs':(zeroOf P e).isSome=true:=by simpa [dy] using hzs
 obtain ⟨z,hz⟩:=abq.1 hzs'
 cases hr:rowsOf sz fr 0 parts.toList with
 |none=>simp [hr] at h
 |some rs=>
  rw [hr] at h
  simp only [aaJ,aal] at h
  subst h
  obtain ⟨hrl,hrs⟩:=nP hr
  obtain ⟨arr',h3,h4,_,h6⟩:=vP hf parts.toList 0 ((Array.range (n*sz)).map (fun i=>(if n*sz=0 then (#[]:Array Value) else z.cells)[i % (if n*sz=0 then (#[]:Array Value) else z.cells).size]!)) hr (by simp [hpn])
  have hsz4:arr'.size=n*sz:=by rw [h4];simp
  refine ⟨e,sz,by_,rs,arr',hsl,rfl,by rw [hrl,hpn],hrs,hpos,hsz4,hsmall,?_,?_⟩
  ·have hle:¬ (n*ie.size>2^24):=by rw [hsz];omega
   simp only [Instr.buildSlice,Sem.run_bind,run_underlying hu,Result.andThen_ok,sizeOf,typeInfo,run_program,hie,Sem.run_pure,hsz]
   rw [if_neg (by rw [hsz] at hle;exact hle)]
   by_cases h0:n*sz=0
   ·simp only [h0,if_true] at h3 ⊢
    rw [pure_bind,abL,h3]
    simp [newRow]
   ·simp only [h0,if_false] at h3 ⊢
    simp only [Sem.run_bind,kU hz,Sem.run_pure,Result.andThen_ok]
    rw [abL,h3]
    simp [newRow]
  ·have hln:rs.length=n:=by rw [hrl,hpn]
   refine .sl w.heap.size 0 n n sz (fun i j=>arr'.getD (i*sz+j) undef) rs hln (aat _) hrs (fun i j hi hj=>?_) (fun i j hi hj=>?_)
   ·have hlt:0+i*sz+j<arr'.size:=by
     rw [hsz4];have:(i+1)*sz≤n*sz:=abp _ hi;rw [abd] at this;omega
    simp only [Ctx.kT,if_true]
    rw [aaZ hlt]
    simp [aap,show i*sz+j<arr'.size by omega]
   ·have:=h6 i j (by omega) hj
    simp only [aaL] at this
    exact this.mono (hc.xK arr').H
def mQ (hc:bf c w st) (t:TypeId) (n:Nat) {a:Act} {fr:Fr} (hf:cC c a.tmps fr) (parts:Array (Nat×Operand)) {Z:V} (h:eW P t n fr parts.toList=some Z):
  ∃ cv w' c',(Instr.buildSlice t n (parts.map fun p=>(p.1,a.eval p.2))).run P w= .ok cv w'∧Rel c' cv Z∧bf c' w' st∧Ext c c':=by
 obtain ⟨e,sz,by_,rs,arr',_,rfl,_,_,_,_,_,h1,h2⟩:=evalBuildSlice_at hc t n hf parts h
 exact ⟨_,_,_,h1,.d _ _ h2,hc.kT arr' e,hc.xK arr'⟩
def vQ {o:Option Operand} {fr:Fr} {a:Act} (hf:cC c a.tmps fr) {dflt l:Nat} (h:bound fr dflt o=some l) {y:Nat} (hy:l≤y) (code:BoundsCode):
  (match o.map a.eval with|some v=>Instr.sliceBound v y code|none=>pure dflt:Sem Nat).run P w= .ok l w:=by
 cases o with
 |none=>simp only [bound,aal] at h;subst h;simp
 |some x=>
  simp only [bound] at h
  split at h
  case h_2=>simp at h
  rename_i k n hx
  split at h<;>simp only [aal,reduceCtorEq] at h
  rename_i h0
  subst h
  have hr:=bJ hf x
  rw [hx] at hr
  simp only [aaJ]
  generalize a.eval x=q at hr ⊢
  cases hr with|d _ _ hr=>?_
  cases hr
  exact run_sliceBound (P:=P) w k n y code h0 (by omega)
def gQ {lo hi:Option Operand} {fr:Fr} {a:Act} (hf:cC c a.tmps fr) {len cap l h:Nat} (hl:bound fr 0 lo=some l) (hh:bound fr len hi=some h) (h1:l≤h) (h2:h≤cap) (b:Bool):
  (Instr.sliceBounds b len cap (lo.map a.eval) (hi.map a.eval) none).run P w= .ok (l,h,cap) w:=by
 have e1:=vQ (P:=P) (w:=w) hf hh (y:=cap) h2 (if b then .sliceAcap else .sliceAlen)
 have e2:=vQ (P:=P) (w:=w) hf hl (y:=h) h1 .sliceB
 unfold Instr.sliceBounds
 cases lo<;>cases hi<;>simp_all
def rq (t:TypeId) {a:Act} {fr:Fr} (hf:cC c a.tmps fr) {x:Value} {X Z:V} (hx:Rel c x X) (lo hi:Option Operand) (h:Lx P t X fr lo hi=some Z):
  ∃ cv,(Instr.sliceAt t x (lo.map a.eval) (hi.map a.eval) none).run P w= .ok cv w∧Rel c cv Z:=by
 unfold Lx at h
 split at h
 ·cases hx with|d _ _ hx=>?_
  cases hx with|str s _ e=>?_
  split at h
  case isFalse=>simp at h
  rename_i hs
  have hu:=jY hs
  split at h
  case h_2=>simp at h
  rename_i l hh hl hhh
  split at h<;>simp only [aal,reduceCtorEq] at h
  rename_i hcond
  subst h
  have hsize:s.size=(s.data.toList).length:=by rw [aaH];rfl
  rw [←e] at hhh hcond ⊢
  rw [←hsize] at hhh hcond
  refine ⟨.string (s.extract l hh),?_,.d _ _ (.str _ _ ?_)⟩
  ·rw [run_sliceAt_string (P:=P) w t _ _ _ _ hu]
   simp [Instr.slice,run_underlying hu,gQ (P:=P) (w:=w) hf hl hhh hcond.1 hcond.2]
  ·rw [ByteArray.data_extract,Array.toList_extract,List.extract_eq_take_drop,List.drop_take]
 ·split at h
  case h_3=>simp at h
  case h_2=>
   rename_i q hno hsl
   obtain ⟨e,sz,by_⟩:=q
   obtain ⟨hu,ie,hie,hsz,_⟩:=kz hsl
   split at h
   case h_2=>simp at h
   rename_i b n cap _
   split at h
   case h_2=>simp at h
   rename_i hh hl hhh
   split at h<;>simp only [aal,reduceCtorEq] at h
   rename_i hcond
   subst h
   cases hx with|win _ kk _ _ hk hn=>?_
   have hsizeOf:∀ w,(sizeOf e).run P w= .ok sz w:=fun w=>by simp [sizeOf,typeInfo,hie,hsz]
   refine ⟨.slice (some ⟨kk,0,none⟩) hh cap,?_,.win _ _ _ _ hk (by omega)⟩
   rw [run_sliceAt_slice (P:=P) w t _ _ _ _ (nA hu)]
   simp only [Instr.slice,Sem.run_bind,run_underlying hu,Result.andThen_ok,gQ (P:=P) (w:=w) hf hl hhh (aaK _) (show hh≤cap by omega),hsizeOf,Sem.run_pure,aaJ,addr_add]
   simp
  rename_i es e sz by_ he hsl
  obtain ⟨hu,ie,hie,hsz,_⟩:=kz hsl
  split at h
  case h_2=>simp at h
  rename_i l hh hl hhh
  split at h<;>simp only [aal,reduceCtorEq] at h
  rename_i hcond
  obtain ⟨hlh,hhe,hall⟩:=hcond
  subst h
  have r:=hx.me he
  have hsizeOf:∀ w,(sizeOf e).run P w= .ok sz w:=fun w=>by simp [sizeOf,typeInfo,hie,hsz]
  cases r with
  |slnil=>
   simp only [aaA,Nat.le_zero_eq] at hhe hhh
   subst hhe
   simp only [Nat.le_zero_eq] at hlh
   subst hlh
   refine ⟨.slice none 0 0,?_,.d _ _ (by simpa using de.slnil)⟩
   rw [run_sliceAt_slice (P:=P) w t _ _ _ _ (nA hu)]
   simp only [Instr.slice,Sem.run_bind,run_underlying hu,Result.andThen_ok,gQ (P:=P) (w:=w) hf hl hhh (aat 0) (aat 0),hsizeOf,Sem.run_pure]
   simp
  |uV a=>
   simp only [aaA,Nat.le_zero_eq] at hhe hhh
   subst hhe
   simp only [Nat.le_zero_eq] at hlh
   subst hlh
   refine ⟨.slice (some a) 0 0,?_,.d _ _ (by simpa using de.uV a)⟩
   rw [run_sliceAt_slice (P:=P) w t _ _ _ _ (nA hu)]
   simp only [Instr.slice,Sem.run_bind,run_underlying hu,Result.andThen_ok,gQ (P:=P) (w:=w) hf hl hhh (aat 0) (aat 0),hsizeOf,Sem.run_pure]
   simp
  |sl k off n cap sz' vs es h1 h2 h3 h4 h5=>
   subst h1
   refine ⟨.slice (if cap=l then some ⟨k,off,none⟩ else some ⟨k,off+l*sz,none⟩) (hh - l) (cap - l),?_,.d _ _ ?_⟩
   ·rw [run_sliceAt_slice (P:=P) w t _ _ _ _ (nA hu)]
    simp only [Instr.slice,Sem.run_bind,run_underlying hu,Result.andThen_ok,gQ (P:=P) (w:=w) hf hl hhh hlh (abj hhe h2),hsizeOf,Sem.run_pure,aaJ,addr_add]
   ·by_cases hcl:cap=l
    ·rw [if_pos hcl]
     have:hh - l=0:=by omega
     rw [this,show (es.take hh).drop l=[] by apply List.drop_eq_nil_of_le;simp;omega]
     exact .sl k off 0 (cap - l) 0 (fun _ _=>undef) [] rfl (aaK _) (by simp) (by simp) (by simp)
    ·rw [if_neg hcl]
     refine .sl k (off+l*sz) (hh - l) (cap - l) sz (fun i j=>vs (l+i) j) _ ?_ (by omega) ?_ ?_ ?_
     ·simp;omega
     ·intro r hr
      have hr':r∈es:=List.mem_of_mem_take (List.mem_of_mem_drop hr)
      simpa using aaE.1 hall r hr'
     ·intro i j hi hj
      have hlt:l+i<es.length:=by omega
      have hsz':sz'=sz:=by
       have e1:=h3 es[l+i] (aaX _);have e2:=aaE.1 hall es[l+i] (aaX _);simp at e2;omega
      have:=h4 (l+i) j hlt (by omega)
      rw [←this,hsz',abd]
      congr 1
      omega
     ·intro i j hi hj
      have hlt:l+i<es.length:=by omega
      have hsz':sz'=sz:=by
       have e1:=h3 es[l+i] (aaX _);have e2:=aaE.1 hall es[l+i] (aaX _);simp at e2;omega
      have:=h5 (l+i) j hlt (by omega)
      rw [show ((es.take hh).drop l).getD i []=es.getD (l+i) [] by
       simp only [aam,List.getElem?_drop,abl];rw [if_pos (by omega)]]
      exact this
def jx (t:TypeId) (f:Nat) {x:Value} {X Z:V} (hx:Rel c x X) (h:xT P t X f=some Z):
  ∃ cv,(Instr.fieldAt t x f).run P w= .ok cv w∧Rel c cv Z:=by
 unfold xT at h
 split at h
 case h_2=>simp at h
 rename_i off sz b hfl
 obtain ⟨fs,fd,hu,hff,hsz,_,rfl⟩:=CI hfl
 split at h
 case isTrue=>simp at h
 rename_i h0
 have hrun:∀ k o,(Instr.fieldAt t (.pointer (some ⟨k,o,none⟩)) f).run P w= .ok (.pointer (some ⟨k,o+fd.offset,none⟩)) w:=by
  intro k o;simp only [Instr.fieldAt,Sem.run_bind,run_underlying hu,Result.andThen_ok,hff,Instr.sureAddr,Sem.run_pure,fieldPlace,gl hsz];rw [if_neg h0];simp [addr_add]
 split at h<;>simp only [aal,reduceCtorEq] at h<;>subst h
 ·cases hx with|ptr _ kk _ hk=>?_
  exact ⟨_,hrun _ _,.ptr _ _ _ hk⟩
 ·cases hx with|ep kk base _ vs _ h1 h2=>?_
  exact ⟨_,hrun _ _,by rw [abt];exact .ep kk base _ vs _ h1 h2⟩
def ru (t:TypeId) (f:Nat) {x:Value} {X Z:V} (hx:Rel c x X) (h:iK P t X f=some Z):
  ∃ cv,(Instr.field t x f).run P w= .ok cv w∧Rel c cv Z:=by
 unfold iK at h
 split at h
 case h_2=>simp at h
 rename_i off sz b cs hfl hcs
 obtain ⟨fs,fd,hu,hff,hsz,hb,rfl⟩:=CI hfl
 obtain ⟨hs,hr⟩:=hx.cells hcs
 have hagg:∃ arr,x= .agg arr∧iL b cs fd.offset sz=some Z:=by
  split at h
  ·cases hx with|agg arr _ _ _=>exact ⟨arr,rfl,h⟩
  ·cases hx with|d _ _ hx=>?_
   cases hx with|agg arr _ _ _=>exact ⟨arr,rfl,h⟩
  ·simp at h
 obtain ⟨arr,rfl,hl⟩:=hagg
 simp only [Value.cells] at hs hr
 unfold iL at hl
 split at hl
 ·rename_i hbt
  subst hbt
  split at hl<;>simp only [aal,reduceCtorEq] at hl
  rename_i hle
  subst hl
  refine ⟨.agg (arr.extract fd.offset (fd.offset+sz)),?_,.agg _ _ (by simp;omega) fun i hi=>?_⟩
  ·simp only [Instr.field,Sem.run_bind,run_underlying hu,Result.andThen_ok,hff,asAgg,Sem.run_pure,part,lP hb,if_true,gl hsz]
  ·simp only [aan,aar] at hi
   rw [mP _ _ _ _ _ (by omega)]
   have:=hr (fd.offset+i) (by omega)
   rwa [show (arr.extract fd.offset (fd.offset+sz)).getD i undef=arr.getD (fd.offset+i) undef by
    simp only [aap];rw [Array.getElem?_extract_of_lt (by omega),aaZ (by omega)]]
 ·rename_i hbt
  have hbt':b=false:=by simpa using hbt
  subst hbt'
  have hlt:fd.offset<cs.length:=(aao.1 hl).1
  obtain ⟨v,hv⟩:∃ v,arr[fd.offset]?=some v:=⟨_,aaZ (by omega)⟩
  refine ⟨v,?_,?_⟩
  ·simp only [Instr.field,Sem.run_bind,run_underlying hu,Result.andThen_ok,hff,asAgg,Sem.run_pure,part,lP hb]
   simp [hv]
  ·have:=hr _ hlt
   rwa [show cs.getD fd.offset .aU=Z by simp [aam,hl],show arr.getD fd.offset undef=v by simp [aap,hv]] at this
def Qc {t:TypeId} {m sz:Nat} {b:Bool} (h:Uh P t=some (m,sz,b)):∃ e,P.underlying t=some (.array m e)∧ef P e=some sz:=by
 unfold Uh at h;split at h
 ·rename_i n e hu;split at h<;>simp only [aal,aaq,reduceCtorEq] at h;rename_i s b' h1 h2;obtain ⟨rfl,rfl,rfl⟩:=h;exact ⟨e,hu,h1⟩
 ·simp at h
def nD (t:TypeId) {x i:Value} {X I Z:V} (hx:Rel c x X) (hi:Rel c i I) (h:aI P t X I=some Z):
  ∃ cv,(Instr.indexAt t x i).run P w= .ok cv w∧Rel c cv Z:=by
 unfold aI at h
 split at h
 case h_2=>simp at h
 rename_i k n
 cases hi with|d _ _ hi=>?_
 cases hi
 split at h
 case isFalse=>simp at h
 rename_i h0
 split at h
 ·rename_i es e sz by_ he hsl
  obtain ⟨hu,ie,hie,hsz,_⟩:=kz hsl
  split at h<;>simp only [aal,reduceCtorEq] at h
  rename_i hcond
  obtain ⟨hlt,hall⟩:=hcond
  subst h
  have r:=hx.me he
  cases r with
  |slnil=>simp at hlt
  |uV a=>simp at hlt
  |sl k' off m cap sz' vs es h1 h2 h3 h4 h5=>
   subst h1
   have hg:es.getD n.toNat []=es[n.toNat]:=by simp [aam,hlt]
   have hlen:(es.getD n.toNat []).length=sz:=by
    have:=aaE.1 hall es[n.toNat] (aaX _);rw [hg];simpa using this
   have hsz':sz'=sz:=by
    have e1:=h3 es[n.toNat] (aaX _);rw [←hlen,hg,e1]
   subst hsz'
   refine ⟨.pointer (some ⟨k',off+n.toNat*sz',none⟩),?_,?_⟩
   ·simp only [Instr.indexAt,asIntOf,Sem.run_bind,Sem.run_pure,Result.andThen_ok,run_underlying hu]
    rw [if_pos ⟨h0,by omega⟩]
    simp [sizeOf,typeInfo,hie,hsz,addr_add]
   ·have:=Rel.ep (c:=c) k' (off+n.toNat*sz') 0 (vs n.toNat) (es.getD n.toNat []) (fun j hj=>h4 n.toNat j hlt (by omega)) (fun j hj=>h5 n.toNat j hlt (by omega))
    simpa using this
 ·rename_i hno
  have arr_run:∀ kk o m sz b,Uh P t=some (m,sz,b)→n<m→(Instr.indexAt t (.pointer (some ⟨kk,o,none⟩)) (.int k n)).run P w= .ok (.pointer (some ⟨kk,o+n.toNat*sz,none⟩)) w:=by
   intro kk o m sz b har hlt;obtain ⟨e,hu,hsz⟩:=Qc har;simp only [Instr.indexAt,asIntOf,Sem.run_bind,Sem.run_pure,Result.andThen_ok,run_underlying hu,Instr.sureAddr];rw [if_pos ⟨h0,hlt⟩];simp [gl hsz,addr_add]
  split at h
  ·rename_i kb off m sz b har
   split at h<;>simp only [aal,reduceCtorEq] at h
   rename_i hlt
   subst h
   cases hx with|ptr _ kk _ hk=>?_
   exact ⟨_,arr_run _ _ _ _ _ har hlt,.ptr _ _ _ hk⟩
  ·rename_i cs off m sz b har
   split at h<;>simp only [aal,reduceCtorEq] at h
   rename_i hlt
   subst h
   cases hx with|ep kk base _ vs _ h1 h2=>?_
   exact ⟨_,arr_run _ _ _ _ _ har hlt,by rw [abt];exact .ep kk base _ vs _ h1 h2⟩
  ·split at h
   case h_2=>simp at h
   rename_i b m cap _ _ q e sz by_ hsl
   obtain ⟨hu,ie,hie,hsz,_⟩:=kz hsl
   split at h<;>simp only [aal,reduceCtorEq] at h
   rename_i hlt
   subst h
   cases hx with|win _ kk _ _ hk hn=>?_
   refine ⟨.pointer (some ⟨kk,0+n.toNat*sz,none⟩),?_,by rw [aaL];exact .ptr _ _ _ hk⟩
   simp only [Instr.indexAt,asIntOf,Sem.run_bind,Sem.run_pure,Result.andThen_ok,run_underlying hu]
   rw [if_pos ⟨h0,by omega⟩]
   simp [sizeOf,typeInfo,hie,hsz,addr_add]
  ·simp at h
def ry (t:TypeId) {x i:Value} {X I Z:V} (hx:Rel c x X) (hi:Rel c i I) (h:kC P t X I=some Z):
  ∃ cv,(Instr.index t x i).run P w= .ok cv w∧Rel c cv Z:=by
 unfold kC at h
 split at h
 case h_2=>simp at h
 rename_i k n s
 cases hi with|d _ _ hi=>?_
 cases hi
 cases hx with|d _ _ hx=>?_
 cases hx with|str s' _ e=>?_
 split at h
 case isFalse=>simp at h
 rename_i hcond
 simp only [aas,aau] at hcond
 have hu:=jY hcond.1
 cases hb:s[n.toNat]? with
 |none=>simp [hb] at h
 |some b=>
  rw [hb] at h
  simp only [aaJ,aal] at h
  subst h
  have hlt:n.toNat<s.length:=(aao.1 hb).1
  have hsize:s'.size=s.length:=by rw [←e,aaH];rfl
  refine ⟨_,?_,.d _ _ (.int .u8 b.toNat)⟩
  rw [run_index_string (P:=P) w t s' k n hu,dif_pos ⟨hcond.2,by omega⟩]
  congr 3
  have:s'.data.toList[n.toNat]?=some b:=by rw [e];exact hb
  rw [aby] at this
  obtain ⟨h2,h3⟩:=aa8.1 this
  clear this
  exact congrArg UInt8.toNat h3
def pz {x:Value} {X Z:V} (i:Nat) (hx:Rel c x X) (h:ji X i=some Z):∃ cv,(Instr.extract x i).run P w= .ok cv w∧Rel c cv Z:=by
 unfold ji at h;split at h
 case h_2=>simp at h
 rename_i vs;cases hx with|cF arr _ hs hr=>?_
 have hlt:i<vs.length:=(aao.1 h).1;obtain ⟨v,hv⟩:∃ v,arr[i]?=some v:=⟨_,aaZ (by omega)⟩;refine ⟨v,?_,?_⟩
 ·simp only [Instr.extract,hv,Sem.run_pure]
 ·have:=hr i hlt
  rwa [show vs.getD i .aU=Z by simp [aam,h],show arr.getD i undef=v by simp [aap,hv]] at this
def uB (t ty:TypeId) {x:Value} {X Z:V} (hx:Rel c x X) (h:gN P t X=some Z):∃ cv,(Builtin.len_ #[t] ty #[x]).run P w= .ok cv w∧Rel c cv Z:=by
 unfold gN at h;split at h
 ·cases hx with|d _ _ hx=>?_
  cases hx with|str s _ e=>?_
  split at h<;>simp only [aal,reduceCtorEq] at h;rename_i hs;subst h;refine ⟨_,run_len_string (P:=P) w t ty s (jY hs),.d _ _ ?_⟩;rw [←e,aaH];exact .int _ _
 ·split at h
  case h_3=>simp at h
  ·simp only [aal] at h;rename_i es q he hsl;obtain ⟨e,sz,by_⟩:=q;obtain ⟨hu,_⟩:=kz hsl;subst h;have r:=hx.me he;cases r with
   |slnil=>exact ⟨_,run_len_slice (P:=P) w t ty none 0 0 (nA hu),.d _ _ (.int _ _)⟩
   |uV a=>exact ⟨_,run_len_slice (P:=P) w t ty _ 0 0 (nA hu),.d _ _ (.int _ _)⟩
   |sl k off n cap sz vs es h1 h2 h3 h4 h5=>
    subst h1
    exact ⟨_,run_len_slice (P:=P) w t ty _ _ _ (nA hu),.d _ _ (.int _ _)⟩
  rename_i q hno hsl;obtain ⟨e,sz,by_⟩:=q;obtain ⟨hu,_⟩:=kz hsl;split at h<;>simp only [aal,reduceCtorEq] at h;subst h;cases hx with|win _ kk _ _ hk hn=>?_
  exact ⟨_,run_len_slice (P:=P) w t ty _ _ _ (nA hu),.d _ _ (.int _ _)⟩
def tQ {x:Value} {X:V} {d:D} (hx:Rel c x X) (h:X.held=some d):de c.H x d:=by
 unfold V.held at h;split at h
 ·rename_i cs;cases hx with|agg arr _ hs hr=>?_
  cases hd:oE cs with
  |none=>simp [hd] at h
  |some l=>
   rw [hd] at h
   simp only [aaJ,aal] at h
   subst h
   obtain ⟨h1,h2⟩:=tL (c:=c) hd
   exact .agg _ _ (hs.trans h1) fun i hi=>by
    rw [aK];exact h2 (vs:=arr.toList) (fun j hj=>by rw [←aK];exact hr j hj) i hi
 ·exact hx.me h
def bf.iterAt (hc:bf c w st) {b k:Nat} {s:List UInt8} {pos:Nat} (hk:c.mu[b]?=some k) (hB:st.aj[b]?=some (.iter s pos)):
  ∃ s':ByteArray,w.heap[k]?=some (.stringIter s' pos)∧s'.data.toList=s:=by
 obtain ⟨o,ho,hr⟩:=hc.blk b k _ hk hB
 cases hr with
 |iter s' _ _ e=>exact ⟨s',ho,e⟩
def bf.setIter (hc:bf c w st) {b k:Nat} {s:List UInt8} {pos pos':Nat} {s':ByteArray} (hk:c.mu[b]?=some k) (hB:st.aj[b]?=some (.iter s pos))
  (hh:w.heap[k]?=some (.stringIter s' pos)) (e:s'.data.toList=s):
  bf c { w with heap:=w.heap.setIfInBounds k (.stringIter s' pos') } (dY st b (.iter s pos')):=by
 have hother:∀ k',k'≠k→({ w with heap:=w.heap.setIfInBounds k (.stringIter s' pos') }:World).heap[k']?=w.heap[k']?:=fun k' hne=>by
  show (w.heap.setIfInBounds k _)[k']?=_;rw [abu (Ne.symm hne)]
 refine {
  cN:=by simp [dY,hc.cN]
  dH:=hc.dH
  cI:=hc.cI
  mS:=hc.mS
  blk:=?_
  cu:=hc.cu
  cz:=?_
  cK:=hc.cK
  cy:=?_
  below:=hc.below.trans ⟨rfl,rfl,rfl,by simp,fun k' hk'=>hother k' (by have:=hc.cI b k hk;omega)⟩
  cw:=by simpa using hc.cw }
 ·intro b' k' B' hk' hB'
  by_cases hbb:b'=b
  ·subst hbb
   have hkk:k'=k:=by rw [hk] at hk';exact (Option.some.inj hk').symm
   subst hkk
   have hlt:b'<st.aj.length:=(aao.1 hB).1
   simp only [dY,aa4 hlt,aal] at hB'
   subst hB'
   refine ⟨.stringIter s' pos',?_,.iter _ _ _ e⟩
   show (w.heap.setIfInBounds k' _)[k']?=_
   rw [abG (aa8.1 hh).1]
  ·have hne:k'≠k:=fun e=>hbb (hc.dH b' b k (e▸hk') hk)
   simp only [dY,aa6 (Ne.symm hbb)] at hB'
   obtain ⟨o,ho,hrel⟩:=hc.blk b' k' B' hk' hB'
   exact ⟨o,by rw [hother k' hne];exact ho,hrel⟩
 ·intro id t ht
  obtain ⟨h0,hd|⟨xs,ho,hg⟩⟩:=hc.cz id t ht
  ·exact ⟨h0,.inl hd⟩
  refine ⟨h0,.inr ⟨xs,ho.kept (row:=some k) ⟨rfl,rfl,rfl,by simp,fun k' _ hk'=>hother k' (fun e=>hk' (by rw [e]))⟩ (.inr ?_),hg⟩⟩
  intro e
  exact (hg k e).2.2 (aaR hk)
 ·intro k' o v hv
  have hne:k'≠k:=by
   intro e;subst e;rw [hc.mS b k' o hk] at hv;simp at hv
  have:=hc.cy k' o v hv
  rw [World.cell?_of_block (w:=w) (hother k' hne)]
  exact this
