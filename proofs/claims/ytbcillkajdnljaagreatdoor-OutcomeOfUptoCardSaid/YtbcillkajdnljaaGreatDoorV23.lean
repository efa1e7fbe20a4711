import Derived.Test.YtbcillkajdnljaaGreatDoorV22
set_option linter.all false
section
namespace Go.En
open Go.RowKit
open Go.Abs (addr_add aK ef F4 gl dx lP zeroOf dy kU isStr jY F5 ud DJ mU kz nA isBytes CG mP rS isIface oo KK Qb mM Ap Yw tP toList_eq)
variable {P:Program} {c:C} {w:World} {s:S}
def appendL_sound {D:Nat→Prop} (hc:bf c w s) {id:Nat} (hid:c id=none) (hlt:id<s.nx) (hD:D id) {t u e ty:TypeId} {es by_ m:Nat} (hsl:mU P t=some (e,es,by_)) {x y:Value} {X Z:V} {l:List V} {s':S} {ns:List Value}
  (hx:Rel c x X) (hy:Yld P t u e es by_ y m ns w) (hns:aag c ns.toArray l) (h:appendL P e es by_ m l X s id=some (Z,s')):
  ∃ cv w' c',(Builtin.append_ #[t,u] ty #[x,y]).run P w= .ok cv w'∧Rel c' cv Z∧Step D c s w c' s' w':=by
 obtain ⟨hu,i,hi,hsz,hby⟩:=kz hsl
 unfold appendL at h
 split at h
 ·rename_i hm
  subst hm
  split at h<;>simp only [aal,aaq,reduceCtorEq] at h<;>obtain ⟨rfl,rfl⟩:=h
  ·cases hx
   exact ⟨_,w,c,hy.none i none 0 0 ty hu hi hsz rfl (aat _) (fun _=>rfl),.bh,.refl hc⟩
  ·have hx':=hx
   cases hx with|sl a _ _ _ _ cap _ h1 h2 h3 h4=>?_
   exact ⟨_,w,c,hy.none i (some a) _ cap ty hu hi hsz rfl h1 (fun h=>by cases h),hx',.refl hc⟩
 ·rename_i hm
  split at h
  case isTrue=>simp at h
  rename_i hcond
  simp only [not_or,Bool.not_eq_false,Decidable.not_not] at hcond
  obtain ⟨hes,hone,hlen⟩:=hcond
  split at h
  ·cases hx
   have hg:=h
   unfold growV at hg
   split at hg
   case isFalse=>simp at hg
   rename_i hgc
   obtain ⟨z,hz,hzs⟩:=zeroSz_eq hgc.2.2
   have hr:=hy.grow i z none 0 0 [] ty hu hi (zero_info hz hi) hsz hby (run_firstCells_none w.drew es 0 0 0) (by omega) hgc.2.1 hgc.1
   obtain ⟨c',h1,h2⟩:=grow_sound (D:=D) (P:=P) (cap:=0) hc hid hlt hD h hi hz hsz hns (by rw [hy.len];simp) (by omega)
   simp only [aaN] at hr
   exact ⟨_,_,c',hr,h1,h2⟩
  ·rename_i b off n es' co
   split at h
   case isFalse=>simp at h
   rename_i he
   subst he
   split at h
   case h_2=>simp at h
   rename_i old hold
   have hx':=hx
   rcases elems_sound hc hx hold with ⟨h0,_⟩|⟨_,_,_,_,_,a,cap,h1,rfl,hol,vs,hvl,hvr,hvc⟩
   ·cases h0
   cases h1
   cases hx with|sl _ _ _ _ _ _ _ a1 a2 a3 a4=>?_
   have hgrow:∀ {qq:Bool} {s1:S},bf c w s1→id<s1.nx→growV P e qq es' n m by_ (old++l) s1 id=some (Z,s')→cap<n+m→
     ∃ cv w' c',(Builtin.append_ #[t,u] ty #[.slice (some a) n cap,y]).run P w= .ok cv w'∧Rel c' cv Z∧Step D c s1 w c' s' w':=by
    intro qq s1 hc1 hlt1 h hcap
    have hg:=h
    unfold growV at hg
    split at hg
    case isFalse=>simp at hg
    rename_i hgc
    obtain ⟨z,hz,hzs⟩:=zeroSz_eq hgc.2.2
    have hr:=hy.grow i z (some a) n cap vs ty hu hi (zero_info hz hi) hsz hby (run_firstCells_some w.drew es' n a n cap vs hvl (by simpa using hvc)) hcap hgc.2.1 hgc.1
    obtain ⟨c',h1,h2⟩:=grow_sound (D:=D) (P:=P) (cap:=cap) hc1 hid hlt1 hD h hi hz hsz (hvr.append hns) (by rw [aax,hvl,hy.len,abd]) hcap
    exact ⟨_,_,c',hr,h1,h2⟩
   split at h
   ·rename_i cc
    have hcc:=a3 cc rfl
    subst hcc
    split at h
    ·rename_i hroom
     obtain ⟨s1,h1,h2⟩:=aaF.1 h
     simp only [aaq] at h2
     obtain ⟨rfl,rfl⟩:=h2
     obtain ⟨k,o,z,e1,rfl,e3⟩:=a4 (by omega)
     obtain ⟨w',hst,hstep⟩:=store_sound (P:=P) (D:=D) hc e1 (vs:=ns.toArray) hns h1
     refine ⟨_,w',c,hy.room i _ n cap w' ty hu hi hsz hroom (by rw [addr_add,abt];simpa using hst),?_,hstep⟩
     exact .sl _ _ _ _ _ _ _ hroom a2 a3 fun _=>⟨k,o,z,e1,rfl,e3⟩
    ·rename_i hroom
     exact hgrow hc hlt h (by omega)
   ·split at h
    case h_2=>simp at h
    rename_i e' qz cs hB'
    split at h
    case isFalse=>simp at h
    rename_i hee
    subst hee
    have hB:=get_row hB'
    by_cases hroom:n+m≤cap
    ·obtain ⟨k,o,z,e1,rfl,e3⟩:=a4 (by omega)
     obtain ⟨arr,hh,hq0,hasz,hoz,har⟩:=hc.rowGet e1 hB'
     have hg:=h
     unfold growV at hg
     split at hg<;>simp only [aal,aaq,reduceCtorEq] at hg
     obtain ⟨rfl,rfl⟩:=hg
     have hnsl:ns.length=l.length:=by simpa using hns.1
     have hle1:(n+m)*es'≤cap*es':=abp _ hroom
     rw [abd] at hle1
     have hold':∀ j,j<n*es'→off+j<cs.length∧old.getD j .aU=cs.getD (off+j) .aU:=by
      unfold elems at hold;simp only at hold;split at hold
      ·rename_i h0;subst h0;intro j hj;simp at hj
      ·rw [hB] at hold;simp only at hold;split at hold<;>simp only [aal,reduceCtorEq] at hold;rename_i hle;subst hold;exact fun j hj=>⟨by omega,mP _ _ _ _ _ hj⟩
     have hst:=run_storeCells_at P k (o+(off+n*es')) e' ns 0 arr w hh (by omega) (by
      intro v hv;obtain ⟨j,hj,rfl⟩:=aaY.1 hv;have hj':j<l.length:=by omega
      have q1:=hns.2 j hj';have q2:(l.getD j .aU).one=true:=by
       rw [aam,aaw hj',aaS];exact aaE.1 hone _ (aaX _)
      have:=q1.one q2;rw [aap,aaZ (by simpa using hj),aaS] at this;simpa using this)
     simp only [abE] at hst
     refine ⟨_,_,_,hy.room i _ n cap _ ty hu hi hsz hroom (by rw [addr_add,abt];exact hst),?_,
      Step.reuse (off:=off) (ne:=n*es') (q:=qz&& (off==0)) hc (fun hq=>by simp only [aas,beq_iff_eq] at hq;have:=hq0 hq.1;omega) hid hlt hD e1 hB hol hold' (by rw [←hnsl,hy.len];omega) hh hasz har hns (by rw [show o+off+n*es'=o+(off+n*es') by omega];rfl)⟩
     exact .sl _ _ _ _ _ _ _ hroom a2 (fun x hx=>by cases hx) fun _=>⟨k,o+off,z,if_pos rfl,rfl,by omega⟩
    ·obtain ⟨cv,w',c',h1,h2,h3⟩:=hgrow (hc.killB b) (by exact hlt) h (by omega)
     exact ⟨cv,w',c',h1,h2,(Step.kill hc b).trans h3⟩
  ·simp at h
def zeroCells_rel {z:Array Value} {l:List V} (h:aag c z l) (n:Nat):aag c (Builtin.zeroCells z n) (rep n l):=by
 have:=rep_rel h n;rw [←h.1] at this;exact this
def Yld.ofZeros {t u e:TypeId} {es by_:Nat} {k:IntKind} {n:Int} {z:Value} (hsl:mU P t=some (e,es,by_)) {q:IntKind} (hk:ud P u=some q) (h0:0≤n) (h1:n≤16777216) (h2:n.toNat*by_≤rS)
  (hz:zeroOf P e=some z) (hzs:z.cells.size=es) (hes:0<es):Yld P t u e es by_ (.int k n) n.toNat (Builtin.zeroCells z.cells n.toNat).toList w:=by
 obtain ⟨hu,i,hi,hsz,hby⟩:=kz hsl
 have hki:=DJ hk
 have wl:IntKind.i64.wrap n=n:=by rw [IntKind.wrap_i64];omega
 have n1:¬ n<0:=by omega
 have hnn:(n.toNat:Int)=n:=Int.toNat_of_nonneg h0
 have n2:¬ (281474976710656<n*(i.bytes:Int)):=by
  have h4:n.toNat*i.bytes≤140737488355328:=by rw [hby];exact h2
  have h3:((n.toNat*i.bytes:Nat):Int)≤140737488355328:=by omega
  rw [Int.natCast_mul,hnn] at h3;omega
 have hzi:=zero_info hz hi
 have hlen:(Builtin.zeroCells z.cells n.toNat).toList.length=n.toNat*es:=by rw [aaH,size_zeroCells,hzs]
 by_cases hn0:n=0
 ·subst hn0
  have hnil:Builtin.zeroCells z.cells (0:Int).toNat= #[]:=by apply abA;exact abx (by rw [hlen];simp)
  rw [hnil]
  refine ⟨by simp,?_,?_,?_⟩
  ·intro i' a nn cap w' ty hu' hi' hs' hroom hst
   rw [hi] at hi'
   cases hi'
   cases hst
   simp only [Int.toNat_zero,abE] at hroom ⊢
   simp [Builtin.append_,run_underlying hu,run_underlying hki,sizeOf,typeInfo,hi,asInt,asIntOf,wl,hroom,storeCells]
  ·intro i' z' base nn cap olds ty hu' hi' hz' hs' hb' hold hg hmax hbb
   rw [hi] at hi'
   cases hi'
   rw [hzi] at hz'
   cases hz'
   have hfit:=growslice_fits (bytes:=i.bytes) hg (by rw [hby];exact hbb)
   simp only [Int.toNat_zero,abE] at hg hmax hfit ⊢
   have hn:¬ (nn≤cap):=by omega
   have h63':¬ (9223372036854775807< (nn:Int)):=by simp only [maxLen] at hmax;omega
   have h48':¬ (281474976710656<Builtin.nextslicecap nn cap*i.bytes):=by omega
   simp [Builtin.append_,run_underlying hu,run_underlying hki,sizeOf,typeInfo,zeroValue,hzi,hi,asInt,asIntOf,wl,hsz,hn,h63',h48',Question.forced,hold,newRow,grownCap]
  ·intro i' base nn cap ty hu' hi' hs' hm hle hb
   rw [hi] at hi'
   cases hi'
   cases base<;>simp [Builtin.append_,run_underlying hu,run_underlying hki,sizeOf,typeInfo,hi,asInt,asIntOf,wl,hle,storeCells]
 ·have h5:¬ (n.toNat=0):=by omega
  have hmx:max n 0=n:=by omega
  have hne:¬ (n.toNat*es=0):=Nat.ne_of_gt (Nat.mul_pos (by omega) hes)
  refine ⟨hlen,?_,?_,fun _ _ _ _ _ _ _ _ hm=>absurd hm h5⟩
  ·intro i' a nn cap w' ty hu' hi' hs' hroom hst
   rw [hi] at hi'
   cases hi'
   simp [Builtin.append_,run_underlying hu,run_underlying hki,sizeOf,typeInfo,zeroValue,hzi,hi,asInt,asIntOf,wl,n1,n2,hroom,hsz,hne,hst]
  ·intro i' z' base nn cap olds ty hu' hi' hz' hs' hb' hold hg hmax hbb
   rw [hi] at hi'
   cases hi'
   rw [hzi] at hz'
   cases hz'
   have hfit:=growslice_fits (bytes:=i.bytes) hg (by rw [hby];exact hbb)
   have hn:¬ (nn+n.toNat≤cap):=by omega
   have h63':¬ (9223372036854775807< ((nn:Int)+n)):=by simp only [maxLen] at hmax;omega
   have h48':¬ (281474976710656<Builtin.nextslicecap (nn+n.toNat) cap*i.bytes):=by omega
   simp [Builtin.append_,run_underlying hu,run_underlying hki,sizeOf,typeInfo,zeroValue,hzi,hi,asInt,asIntOf,wl,n1,n2,hsz,hmx,hne,hn,h63',h48',Question.forced,hold,newRow,grownCap]
   congr 2
   apply abA
   simp [aaG]
def ql {D:Nat→Prop} (hc:bf c w s) {id:Nat} (hid:c id=none) (hlt:id<s.nx) (hD:D id) {t u ty:TypeId} {x y:Value} {X Y Z:V} {s':S}
  (hx:Rel c x X) (hy:Rel c y Y) (h:fu P t u X Y s id=some (Z,s')):
  ∃ cv w' c',(Builtin.append_ #[t,u] ty #[x,y]).run P w= .ok cv w'∧Rel c' cv Z∧Step D c s w c' s' w':=by
 unfold fu at h
 split at h
 case h_2=>simp at h
 rename_i e es by_ hsl
 split at h
 ·rename_i k n
  cases hy
  split at h
  case isFalse=>simp at h
  rename_i hcond
  obtain ⟨hk,h0,h1,h2,hes,hzs⟩:=hcond
  obtain ⟨q,hq⟩:=abq.1 hk
  split at h
  case h_2=>simp at h
  rename_i z hz
  obtain ⟨zv,hzz,hzr⟩:=zeroCs_eq (c:=c) hz
  obtain ⟨zv',hz1,hz2⟩:=zeroSz_eq hzs
  rw [hzz] at hz1
  cases hz1
  exact appendL_sound hc hid hlt hD hsl hx (Yld.ofZeros (k:=k) hsl hq h0 h1 h2 hzz hz2 hes) (by simpa using zeroCells_rel hzr n.toNat) h
 ·split at h
  case h_2=>simp at h
  rename_i l hl
  split at h
  case isFalse=>simp at h
  rename_i hcond
  obtain ⟨hes,hone⟩:=hcond
  obtain ⟨m,ns,h1,h2,h3,_,_⟩:=news_sound (P:=P) (D:=D) (t:=t) (e:=e) (by_:=by_) hc hy hl hes hone
  rw [h3,Nat.mul_div_cancel _ hes] at h
  exact appendL_sound hc hid hlt hD hsl hx h1 h2 h
def evalCopy_sound {D:Nat→Prop} (hc:bf c w s) {t u ty:TypeId} {x y:Value} {X Y Z:V} {s':S}
  (hx:Rel c x X) (hy:Rel c y Y) (h:evalCopy P t u X Y s=some (Z,s')):
  ∃ cv w',(Builtin.copy_ #[t,u] ty #[x,y]).run P w= .ok cv w'∧Rel c cv Z∧Step D c s w c s' w':=by
 unfold evalCopy at h
 split at h
 case h_2=>simp at h
 rename_i e es by_ hsl
 obtain ⟨hu,i,hi,hsz,hby⟩:=kz hsl
 have hsizeOf:∀ w,(sizeOf e).run P w= .ok es w:=fun w=>by simp [sizeOf,typeInfo,hi,hsz]
 split at h
 ·split at h
  case h_2=>simp at h
  rename_i l hl
  split at h
  case isFalse=>simp at h
  rename_i hcond
  simp only [aal,aaq] at h
  obtain ⟨rfl,rfl⟩:=h
  cases hx
  obtain ⟨m,ns,_,h2,h3,hs,hpre⟩:=news_sound (P:=P) (D:=D) (t:=t) (e:=e) (by_:=by_) hc hy hl hcond.1 hcond.2
  refine ⟨goInt 0,w,?_,.int _ _,.refl hc⟩
  have hf:=hpre 0 (aaK _)
  simp [Builtin.copy_,run_underlying hu,hs.len,hsizeOf,hf]
 ·rename_i b off n es' co
  split at h
  case h_2=>simp at h
  rename_i l hl
  split at h
  case isFalse=>simp at h
  rename_i hcond
  obtain ⟨rfl,hes,hone,hdiv⟩:=hcond
  obtain ⟨m,ns,_,h2,h3,hs,hpre⟩:=news_sound (P:=P) (D:=D) (t:=t) (e:=e) (by_:=by_) hc hy hl hes hone
  have hm:l.length / es'=m:=by rw [h3,Nat.mul_div_cancel _ hes]
  rw [hm] at h
  cases hx with|sl a _ _ _ _ cap _ a1 a2 a3 a4=>?_
  have hf:=hpre (min m n) (Nat.min_le_left _ _)
  split at h
  ·rename_i h0
   simp only [aal,aaq] at h
   obtain ⟨rfl,rfl⟩:=h
   rw [Nat.min_comm] at h0
   refine ⟨goInt 0,w,?_,.int _ _,.refl hc⟩
   rw [h0] at hf
   simp only [Nat.zero_mul,List.take_zero] at hf
   have hmn:Nat.min m n=0:=h0
   simp [Builtin.copy_,run_underlying hu,hs.len,hsizeOf,hmn,hf,storeCells]
  ·rename_i h0
   obtain ⟨s1,h4,h5⟩:=aaF.1 h
   simp only [aaq] at h5
   obtain ⟨rfl,rfl⟩:=h5
   obtain ⟨k,o,z,e1,rfl,e3⟩:=a4 (by omega)
   have hrel:aag c (ns.take (min n m*es')).toArray (l.take (min n m*es')):=by
    have hnl:ns.length=l.length:=by simpa using h2.1
    refine ⟨by simp [hnl],fun j hj=>?_⟩;simp only [aan] at hj;have:=h2.2 j (by omega);rw [aK] at this ⊢;simpa [aam,abl,show j<min n m*es' by omega] using this
   obtain ⟨w',hst,hstep⟩:=store_sound (P:=P) (D:=D) hc e1 hrel h4
   refine ⟨goInt (min n m:Nat),w',?_,.int _ _,hstep⟩
   rw [Nat.min_comm m n] at hf
   have hmn:Nat.min m n=min n m:=Nat.min_comm m n
   simp only [List.toList_toArray] at hst
   simp [Builtin.copy_,run_underlying hu,hs.len,hsizeOf,hmn,hf,hst]
 ·simp at h
def evalClear_sound {D:Nat→Prop} (hc:bf c w s) {t ty:TypeId} {x:Value} {X Z:V} {s':S} (hx:Rel c x X) (h:evalClear P t X s=some (Z,s')):
  ∃ w',(Builtin.clear_ #[t] ty #[x]).run P w= .ok (.tuple #[]) w'∧Rel c (.tuple #[]) Z∧Step D c s w c s' w':=by
 unfold evalClear at h
 split at h
 ·cases hx
  split at h
  case isFalse=>simp at h
  rename_i hsl
  simp only [aal,aaq] at h
  obtain ⟨rfl,rfl⟩:=h
  obtain ⟨q,hq⟩:=abq.1 hsl
  obtain ⟨e,es,by_⟩:=q
  exact ⟨w,by simp [Builtin.clear_,run_underlying (kz hq).1],.aU _,.refl hc⟩
 ·rename_i b off n es co
  split at h
  case h_2=>simp at h
  rename_i e sz by_ hsl
  obtain ⟨hu,i,hi,hsz,hby⟩:=kz hsl
  split at h
  case isFalse=>simp at h
  rename_i he
  subst he
  split at h
  case h_2=>simp at h
  rename_i z hz
  obtain ⟨zv,hzz,hzr⟩:=zeroCs_eq (c:=c) hz
  cases hx with|sl a _ _ _ _ cap _ a1 a2 a3 a4=>?_
  split at h
  ·rename_i h0
   subst h0
   simp only [aal,aaq] at h
   obtain ⟨rfl,rfl⟩:=h
   exact ⟨w,by simp [Builtin.clear_,run_underlying hu],.aU _,.refl hc⟩
  ·rename_i h0
   split at h
   case isFalse=>simp at h
   rename_i hzl
   obtain ⟨s1,h4,h5⟩:=aaF.1 h
   simp only [aaq] at h5
   obtain ⟨rfl,rfl⟩:=h5
   obtain ⟨k,o,zz,e1,rfl,e3⟩:=a4 (by omega)
   obtain ⟨w',hst,hstep⟩:=store_sound (P:=P) (D:=D) hc e1 (zeroCells_rel hzr n) h4
   refine ⟨w',?_,.aU _,hstep⟩
   obtain ⟨m,rfl⟩:∃ m,n=m+1:=⟨n - 1,by omega⟩
   simp [Builtin.clear_,run_underlying hu,kU hzz,hst]
 ·simp at h
def two_rel {a b:Value} {A B:V} (ha:Rel c a A) (hb:Rel c b B):Rel c (.tuple #[a,b]) (.cF [A,B]):=by
 refine .cF _ _ rfl fun i hi=>?_;have:i=0∨i=1:=by simp at hi;omega
 rcases this with rfl|rfl
 ·exact ha
 ·exact hb
def uB (hc:bf c w s) (t ty:TypeId) {x:Value} {X Z:V} (hx:Rel c x X) (h:gN P t s X=some Z):∃ cv,(Builtin.len_ #[t] ty #[x]).run P w= .ok cv w∧Rel c cv Z:=by
 unfold gN at h;split at h
 ·cases hx with|str q _ e=>?_
  split at h<;>simp only [aal,reduceCtorEq] at h;rename_i hs;subst h;refine ⟨_,run_len_string (P:=P) w t ty q (jY hs),?_⟩;rw [←e,aaH];exact .int _ _
 ·split at h<;>simp only [aal,reduceCtorEq] at h;rename_i hsl;subst h;cases hx;obtain ⟨q,hq⟩:=abq.1 hsl;obtain ⟨e,es,by_⟩:=q;exact ⟨_,run_len_slice (P:=P) w t ty none 0 0 (nA (kz hq).1),.int _ _⟩
 ·split at h<;>simp only [aal,reduceCtorEq] at h;rename_i hsl;subst h;obtain ⟨q,hq⟩:=abq.1 hsl;obtain ⟨e,es,by_⟩:=q;cases hx with|sl a _ _ _ _ cap _ a1 a2 a3 a4=>?_
  exact ⟨_,run_len_slice (P:=P) w t ty _ _ _ (nA (kz hq).1),.int _ _⟩
 ·split at h
  case h_2=>simp at h
  rename_i q hkk;obtain ⟨kd,e⟩:=q;obtain ⟨k,hu,_⟩:=Ap hkk;simp only [aal] at h;subst h;cases hx;exact ⟨_,by simp [Builtin.len_,run_underlying hu];rfl,.int _ _⟩
 ·split at h
  case h_2=>simp at h
  rename_i b _ q hkk;obtain ⟨kd,e⟩:=q;obtain ⟨k,hu,_⟩:=Ap hkk;split at h<;>simp only [aal,reduceCtorEq] at h;rename_i es hB;subst h;cases hx with|mp _ kk z hk=>?_
  obtain ⟨obj,ho,hr⟩:=hc.blk b kk 0 z _ hk hB;cases hr with|map ces clock _ _ h1=>?_;refine ⟨goInt ces.size,?_,by rw [←h1.length,aaH];exact .int _ _⟩;simp [Builtin.len_,run_underlying hu,MapKept.run_getObj_map ho]
 ·simp at h
def evalCap_sound (t ty:TypeId) {x:Value} {X Z:V} (hx:Rel c x X) (h:evalCap P t X=some Z):∃ cv,(Builtin.cap_ #[t] ty #[x]).run P w= .ok cv w∧Rel c cv Z:=by
 unfold evalCap at h;split at h
 case h_2=>simp at h
 rename_i q hsl;obtain ⟨e,es,by_⟩:=q;have hu:=nA (kz hsl).1;split at h<;>simp only [aal,reduceCtorEq] at h<;>subst h
 ·cases hx;exact ⟨_,run_cap_slice (P:=P) w t ty none 0 0 hu,.int _ _⟩
 ·cases hx with|sl a _ _ _ _ cap _ a1 a2 a3 a4=>?_
  rename_i cc;have:=a3 cc rfl;subst this;exact ⟨_,run_cap_slice (P:=P) w t ty _ _ _ hu,.int _ _⟩
def tU {D:Nat→Prop} (hc:bf c w s) (ty:TypeId) {x:Value} {X Z:V} {s':S} (hx:Rel c x X) (h:evalNext X s=some (Z,s')):
  ∃ cv w',(Instr.next x true ty).run P w= .ok cv w'∧Rel c cv Z∧Step D c s w c s' w':=by
 unfold evalNext at h
 split at h
 case h_2=>simp at h
 rename_i b
 split at h
 case h_2=>simp at h
 rename_i l pos hB
 cases hx with|ptr _ k o z _ hk=>?_
 obtain ⟨obj,ho,hr⟩:=hc.blk b k o z _ hk hB
 cases hr with|iter q _ _ _ e=>?_
 have hsize:q.size=l.length:=by rw [←e,aaH];rfl
 have hs':(⟨l.toArray⟩:ByteArray)=q:=by rw [←e]
 have hget:(getObj k).run P w= .ok (.stringIter q pos) w:=by
  simp [getObj,Sem.run,ho]
 have hlt:=(hc.lt b k 0 z hk).2
 split at h<;>simp only [aal,aaq] at h<;>obtain ⟨rfl,rfl⟩:=h
 ·rename_i hp
  refine ⟨.tuple #[.bool true,goInt pos,.int .i32 (Utf8.decode q pos).1],{ w with heap:=w.heap.setIfInBounds k (.stringIter q (pos+(Utf8.decode q pos).2)) },?_,?_,?_⟩
  ·have hset:(setObj k (.stringIter q (pos+(Utf8.decode q pos).2))).run P w= .ok () { w with heap:=w.heap.setIfInBounds k (.stringIter q (pos+(Utf8.decode q pos).2)) }:=by
    simp [setObj,Sem.run,ho]
   simp only [abE,Instr.next,Sem.run_bind,hget,Result.andThen_ok]
   rw [if_pos (by omega)]
   simp only [Sem.run_bind,hset,Result.andThen_ok,Sem.run_pure]
  ·rw [hs']
   refine .cF _ _ rfl fun i hi=>?_
   have:i=0∨i=1∨i=2:=by simp at hi;omega
   rcases this with rfl|rfl|rfl
   ·exact .bool _
   ·exact .int _ _
   ·exact .int _ _
  ·rw [hs']
   refine Step.write (obj:= .stringIter q (pos+(Utf8.decode q pos).2)) hc hk (by rw [hB];simp) ?_ (.iter q l _ z e) rfl rfl rfl (by simp) fun k' hne=>?_
   ·show (w.heap.setIfInBounds k _)[k]?=_
    rw [abG hlt]
   ·show (w.heap.setIfInBounds k _)[k']?=_
    rw [abu (Ne.symm hne)]
 ·rename_i hp
  refine ⟨.tuple #[.bool false],w,?_,.cF _ _ rfl fun i hi=>?_,.refl hc⟩
  ·simp only [abE,Instr.next,Sem.run_bind,hget,Result.andThen_ok]
   rw [if_neg (by omega)]
   rfl
  ·have:i=0:=by simp at hi;omega
   subst this
   exact .bool _
def qm (xt as_:TypeId) (ok:Bool) {x:Value} {X Z:V} (hx:Rel c x X) (h:yI P X as_ ok=some Z):
  ∃ cv,(Instr.typeAssert x xt as_ ok).run P w= .ok cv w∧Rel c cv Z:=by
 unfold yI at h
 split at h
 ·rename_i hif
  obtain ⟨d,hu,hni⟩:=oo hif
  cases hx
  split at h
  case isFalse=>simp at h
  rename_i hok
  subst hok
  obtain ⟨z,hz,rfl⟩:=aaF.1 h
  refine ⟨.tuple #[z,.bool false],?_,two_rel (mO z) (.bool _)⟩
  unfold Instr.typeAssert
  simp only [Sem.run_bind,run_underlying hu,Result.andThen_ok]
  cases d<;>first|(exact absurd rfl (hni _))|simp [kU hz]
 ·rename_i t v hif
  obtain ⟨d,hu,hni⟩:=oo hif
  cases hx with|iface _ v' _ hv=>?_
  split at h
  ·rename_i ht
   subst ht
   split at h<;>simp only [aal] at h<;>subst h
   ·rename_i hok
    subst hok
    refine ⟨.tuple #[v',.bool true],?_,two_rel hv (.bool _)⟩
    unfold Instr.typeAssert
    simp only [Sem.run_bind,run_underlying hu,Result.andThen_ok]
    cases d<;>first|(exact absurd rfl (hni _))|simp
   ·rename_i hok
    have hok':ok=false:=by simpa using hok
    subst hok'
    refine ⟨v',?_,hv⟩
    unfold Instr.typeAssert
    simp only [Sem.run_bind,run_underlying hu,Result.andThen_ok]
    cases d<;>first|(exact absurd rfl (hni _))|simp
  ·rename_i ht
   split at h
   case isFalse=>simp at h
   rename_i hok
   subst hok
   obtain ⟨z,hz,rfl⟩:=aaF.1 h
   refine ⟨.tuple #[z,.bool false],?_,two_rel (mO z) (.bool _)⟩
   unfold Instr.typeAssert
   simp only [Sem.run_bind,run_underlying hu,Result.andThen_ok]
   cases d<;>first|(exact absurd rfl (hni _))|simp [kU hz,ht]
 ·simp at h
def evalMake_sound {D:Nat→Prop} (hc:bf c w s) {id:Nat} (hid:c id=none) (hlt:id<s.nx) (hD:D id) (t:TypeId) {l m:Value} {L M Z:V} {s':S} (hl:Rel c l L) (hm:Rel c m M) (h:evalMake P t L M s id=some (Z,s')):
  ∃ cv w' c',(Instr.makeSlice t l m).run P w= .ok cv w'∧Rel c' cv Z∧Step D c s w c' s' w':=by
 unfold evalMake at h
 split at h
 case h_2=>simp at h
 rename_i e sz by_ k n k' n' hsl
 obtain ⟨hu,i,hi,hsz,hby⟩:=kz hsl
 cases hl
 cases hm
 split at h
 case h_2=>simp at h
 rename_i z hz
 obtain ⟨zv,hzz,hzr⟩:=zeroCs_eq (c:=c) hz
 split at h<;>simp only [aal,aaq,reduceCtorEq] at h
 rename_i hcond
 obtain ⟨rfl,rfl⟩:=h
 obtain ⟨h0,h1,h2,h3,h4,h5⟩:=hcond
 have hnn:(n'.toNat:Int)=n':=Int.toNat_of_nonneg (by omega)
 have hb:(i.bytes:Int)*n'≤281474976710656:=by
  have h6:n'.toNat*i.bytes≤140737488355328:=by rw [hby];exact h2
  have h7:((n'.toNat*i.bytes:Nat):Int)≤140737488355328:=by omega
  rw [Int.natCast_mul,hnn,Int.mul_comm] at h7;omega
 have hle:n'.toNat*1≤n'.toNat*sz:=Nat.mul_le_mul_left _ h4
 have hr:=run_makeSlice (P:=P) w t e i zv hu hi (zero_info hzz hi) k k' n n' h0 h1 (by rw [hsz];exact h3) hb (by omega)
 have hz2:zv.cells.size=sz:=by rw [hzr.1,h5]
 refine ⟨_,_,_,hr,sl_new (z:=n'.toNat*sz) (by omega) (by simp only [maxLen];omega) (fun x hx=>by simpa using hx) (aat _),Step.alloc hc hid hlt hD (.cells _ e true 0 _ _ (fun _=>rfl) ?_ ?_ ?_)⟩
 ·rw [size_madeCells,hsz]
 ·rw [rep_length,h5];simp
 ·intro j hj
  rw [aaL]
  have:=(rep_rel hzr n'.toNat).2 j hj
  rw [h5] at this
  rw [hsz]
  exact this
def descK:KK→TypeDesc
 | .str=> .string
 | .int q=> .int q
 | .bool=> .bool
def mapKK_desc {t:TypeId} {kd:KK} {e k:TypeId} (h:mM P t=some (kd,e)) (hu:P.underlying t=some (.map k e)):P.underlying k=some (descK kd):=by
 unfold mM at h;rw [hu] at h;simp only at h;split at h<;>simp only [aal,aaq,reduceCtorEq] at h<;>obtain ⟨rfl,_⟩:=h<;>assumption
def keyOK_K {kd:KK} {x:Value} {X:V} (hx:Rel c x X) (h:keyOK kd X=true):Qb kd x:=by
 cases kd<;>cases hx<;>simp only [keyOK,aa3,aas,aau] at h
 ·rename_i q l e;show q.size≤maxLen;have:q.size=l.length:=by rw [←e,aaH];rfl
  omega
 ·obtain ⟨rfl,h⟩:=h;exact ⟨rfl,h⟩
 ·trivial
def bytes_beq (q q':ByteArray):(q==q')=(q.data.toList==q'.data.toList):=by
 cases q with|mk a=>?_
 cases q' with|mk b=>?_
 cases a with|mk a=>?_
 cases b with|mk b=>?_
 show ByteArray.beq _ _=_;simp [ByteArray.beq]
def same_of {kd:KK} {x k:Value} {X K:V} {b:Bool} (hx:Rel c x X) (hk:Rel c k K) (ho:keyOK kd X=true) (h:vr X K=some b):Instr.sameNow (descK kd) x k=some b∧(b=true→k=x):=by
 unfold vr at h;split at h
 ·cases hx with|str q l e=>?_
  cases hk with|str q' l' e'=>?_
  cases kd<;>simp only [keyOK,aa3] at ho;simp only [aal] at h;subst h;subst e;subst e';have hq:=bytes_beq q q';refine ⟨by simp only [descK,Instr.sameNow,hq],fun h=>?_⟩;rw [beq_iff_eq] at h;have:q=q':=by
   cases q;cases q';simpa using h
  rw [this]
 ·cases hx;cases hk;split at h<;>simp only [aal,reduceCtorEq] at h;rename_i hkk;subst hkk;subst h;cases kd<;>simp only [keyOK,aa3] at ho;refine ⟨by simp [descK,Instr.sameNow],fun h=>?_⟩;rw [beq_iff_eq] at h;rw [h]
 ·cases hx;cases hk;cases kd<;>simp only [keyOK,aa3] at ho;simp only [aal] at h;subst h;refine ⟨by simp [descK,Instr.sameNow],fun h=>?_⟩;rw [beq_iff_eq] at h;rw [h]
 ·simp at h
theorem find_sound {kd:KK} {x:Value} {X:V} (hx:Rel c x X) (ho:keyOK kd X=true):∀ {es:List MapEntry} {l:List (V×V)} (i:Nat),RelM c es l→∀ {r:Option (Nat×V)},findI X l i=some r→
  (r=none∧Instr.findNow (descK kd) x es i=some none)∨∃ j v cv e,r=some (i+j,v)∧Instr.findNow (descK kd) x es i=some (some (i+j,cv))∧Rel c cv v∧es[j]?=some e∧e.key=x
 |[],[],i,_,r,h=>by
  simp only [findI,aal] at h;exact .inl ⟨h.symm,rfl⟩
 |e::es,(k,v)::l,i,hr,r,h=>by
  obtain ⟨h1,h2,h3⟩:=hr;simp only [findI] at h;split at h
  ·rename_i hq;simp only [aal] at h;obtain ⟨a1,a2⟩:=same_of hx h1 ho hq;exact .inr ⟨0,v,e.val,e,h.symm,by simp only [Instr.findNow,a1];rfl,h2,rfl,a2 rfl⟩
  ·rename_i hq;obtain ⟨a1,_⟩:=same_of hx h1 ho hq;rcases find_sound hx ho (i+1) h3 h with ⟨b1,b2⟩|⟨j,v',cv,e',b1,b2,b3,b4,b5⟩
   ·exact .inl ⟨b1,by simp only [Instr.findNow,a1];exact b2⟩
   ·refine .inr ⟨j+1,v',cv,e',?_,?_,b3,by simpa using b4,b5⟩
    ·rw [b1,show i+1+j=i+(j+1) by omega]
    ·simp only [Instr.findNow,a1];rw [b2,show i+1+j=i+(j+1) by omega]
  ·simp at h
 |[],_::_,_,hr,_,_=>hr.elim
 |_::_,[],_,hr,_,_=>hr.elim
def findKey_run {k:TypeId} {kd:KK} {x:Value} {es:List MapEntry} {r:Option (Nat×Value)} (hu:P.underlying k=some (descK kd)) (h:Instr.findNow (descK kd) x es 0=some r) (w:World):(Instr.findKey k x es).run P w= .ok r w:=by
 simp only [Instr.findKey,Sem.run_bind,run_underlying hu,Result.andThen_ok,h,Sem.run_pure]
def evalLookup_sound (hc:bf c w s) {t:TypeId} {m x:Value} {M X Z:V} {ok:Bool} (hm:Rel c m M) (hx:Rel c x X) (h:iU P t M X ok s=some Z):
  ∃ cv,(Instr.lookup t m x ok).run P w= .ok cv w∧Rel c cv Z:=by
 unfold iU at h
 split at h
 case h_2=>simp at h
 rename_i kd e hkk
 split at h
 case isFalse=>simp at h
 rename_i ho
 obtain ⟨k,hu,K,hkey⟩:=Ap hkk
 have hd:=mapKK_desc hkk hu
 obtain ⟨l,hl⟩:=hkey _ (keyOK_K hx ho)
 have two:∀ {a:Value} {A:V} (q:Bool),Rel c a A→Rel c (if ok then .tuple #[a,.bool q] else a) (if ok then .cF [A,.bool q] else A):=by
  intro a A q ha;cases ok
  ·exact ha
  ·exact two_rel ha (.bool _)
 have key:∀ (es:Array MapEntry) (lv:List (V×V)),RelM c es.toList lv→(Instr.lookup t m x ok).run P w=(do
    Instr.checkKey es.isEmpty 10000 k x
    let (v,q)←match←Instr.findKey k x es.toList with
     |some (_,v)=>pure (v,true)
     |none=>pure (←zeroValue e,false)
    pure (if ok then .tuple #[v,.bool q] else v):Sem Value).run P w→∀ {r:Option (Nat×V)},findI X lv 0=some r→
   (match r,zeroOf P e with
    |some (_,v),_=>some (if ok then V.cF [v,.bool true] else v)
    |none,some z=>some (if ok then V.cF [ofConst z,.bool false] else ofConst z)
    |none,none=>none)=some Z→∃ cv,(Instr.lookup t m x ok).run P w= .ok cv w∧Rel c cv Z:=by
  intro es lv hr hrun r hf hz
  have hck:=K.check w es.isEmpty hl
  rcases find_sound hx ho 0 hr hf with ⟨rfl,a2⟩|⟨j,v,cv,e0,rfl,a2,a3,_,_⟩
  ·have a4:=findKey_run (P:=P) hd a2 w
   cases hzz:zeroOf P e with
   |none=>rw [hzz] at hz;simp at hz
   |some z=>
    rw [hzz] at hz
    simp only [aal] at hz
    subst hz
    refine ⟨_,?_,two false (mO z)⟩
    rw [hrun]
    simp [hck,a4,kU hzz,Result.andThen]
  ·have a4:=findKey_run (P:=P) hd a2 w
   simp only [aal] at hz
   subst hz
   refine ⟨_,?_,two true a3⟩
   rw [hrun]
   simp [hck,a4,Result.andThen]
 cases M with
 |An=>
  cases hm
  refine key #[] [] trivial (by simp [Instr.lookup,run_underlying hu];rfl) (r:=none) rfl ?_
  cases hzz:zeroOf P e<;>simp_all
 |mp b=>
  simp only at h
  cases hm with|mp _ kk z hk=>?_
  cases hB:s.h.get b with
  |none=>rw [hB] at h;simp at h
  |some bb=>
   rw [hB] at h
   cases bb with
   |map lv=>
    obtain ⟨obj,hob,hr⟩:=hc.blk b kk 0 z _ hk hB
    cases hr with|map ces clock _ _ h1=>?_
    simp only at h
    cases hf:findI X lv 0 with
    |none=>rw [hf] at h;simp at h
    |some r=>
     rw [hf] at h
     refine key ces lv h1 (by simp [Instr.lookup,run_underlying hu,MapKept.run_getObj_map hob];rfl) hf ?_
     cases r with
     |none=>cases hzz:zeroOf P e<;>simp_all
     |some q=>obtain ⟨q1,q2⟩:=q;simpa using h
   |cells _=>simp at h
   |ro _=>simp at h
   |iter _ _=>simp at h
 |_=>simp at h
def RelM.set {x v:Value} {X Z:V} (hx:Rel c x X) (hv:Rel c v Z):∀ {es:List MapEntry} {l:List (V×V)} (j:Nat) {e:MapEntry},RelM c es l→es[j]?=some e→RelM c (es.set j { e with key:=x,val:=v }) (l.set j (X,Z))
 |[],[],j,e,_,h=>by simp at h
 |e0::es,p::l,0,e,hr,h=>⟨hx,hv,hr.2.2⟩
 |e0::es,p::l,j+1,e,hr,h=>⟨hr.1,hr.2.1,RelM.set hx hv j hr.2.2 (by simpa using h)⟩
 |[],_::_,_,_,hr,_=>hr.elim
 |_::_,[],_,_,hr,_=>hr.elim
theorem RelM.snoc {e:MapEntry} {p:V×V} (h1:Rel c e.key p.1) (h2:Rel c e.val p.2):∀ {es:List MapEntry} {l:List (V×V)},RelM c es l→RelM c (es++[e]) (l++[p])
 |[],[],_=>⟨h1,h2,trivial⟩
 |_::_,_::_,hr=>⟨hr.1,hr.2.1,RelM.snoc h1 h2 hr.2.2⟩
 |[],_::_,hr=>hr.elim
 |_::_,[],hr=>hr.elim
def Step.setObj {D:Nat→Prop} (hc:bf c w s) {b k z:Nat} {x y:B} {obj obj':Obj} (hk:c b=some (k,0,z)) (hB:s.h.get b=some x) (hr:BRel c obj' 0 z y):
  Step D c s w c (s.put b y) { w with heap:=w.heap.setIfInBounds k obj' }:=by
 have hlt:=(hc.lt b k 0 z hk).2
 refine Step.write (obj:=obj') hc hk (by rw [hB];simp) ?_ hr rfl rfl rfl (by simp) fun k' hne=>?_
 ·show (w.heap.setIfInBounds k _)[k]?=_
  rw [abG hlt]
 ·show (w.heap.setIfInBounds k _)[k']?=_
  rw [abu (Ne.symm hne)]
def evalMapPut_sound {D:Nat→Prop} (hc:bf c w s) {t:TypeId} {m x v:Value} {M X Z:V} {s':S} (hm:Rel c m M) (hx:Rel c x X) (hv:Rel c v Z) (h:iV P t M X Z s=some s'):
  ∃ w',(Instr.mapUpdate t m x v).run P w= .ok () w'∧Step D c s w c s' w':=by
 unfold iV at h
 split at h
 case h_2=>simp at h
 rename_i kd e b hkk
 split at h
 case isFalse=>simp at h
 rename_i ho
 split at h
 case h_2=>simp at h
 rename_i lv hB
 obtain ⟨k,hu,K,hkey⟩:=Ap hkk
 have hd:=mapKK_desc hkk hu
 obtain ⟨l,hl⟩:=hkey _ (keyOK_K hx ho)
 cases hm with|mp _ kk z hk=>?_
 obtain ⟨obj,hob,hr⟩:=hc.blk b kk 0 z _ hk hB
 cases hr with|map ces clock _ _ h1=>?_
 have hck:=K.check w false hl
 cases hf:findI X lv 0 with
 |none=>rw [hf] at h;simp at h
 |some r=>
  rw [hf] at h
  rcases find_sound hx ho 0 h1 hf with ⟨rfl,a2⟩|⟨j,v0,cv,e0,rfl,a2,a3,a4,a5⟩
  ·have a6:=findKey_run (P:=P) hd a2 w
   simp only [aal] at h
   subst h
   refine ⟨_,by simp [Instr.mapUpdate,run_underlying hu,MapKept.run_getObj_map hob,hck,a6,MapKept.run_setObj_map _ hob,Result.andThen];rfl,Step.setObj (obj:= .map ces clock) hc hk hB (.map _ _ _ _ ?_)⟩
   rw [Array.toList_push]
   exact RelM.snoc hx hv h1
  ·have a6:=findKey_run (P:=P) hd a2 w
   simp only [aaL,aal] at h a6
   subst h
   have hj:ces[j]?=some e0:=by rw [←aby];exact a4
   have hst:=K.stays w hl
   have hmod:(ces.modify j fun e=> { e with key:=x,val:=v }).toList=ces.toList.set j { e0 with key:=x,val:=v }:=by
    apply List.ext_getElem?;intro i;rw [aby,abv,List.getElem?_set];by_cases hij:j=i
    ·subst hij;have hlt:j<ces.toList.length:=(aao.1 a4).1;simp [hj];simpa using hlt
    ·simp [hij]
   refine ⟨_,by simp [Instr.mapUpdate,run_underlying hu,MapKept.run_getObj_map hob,hck,a6,hj,a5,hst,MapKept.run_setObj_map _ hob,Result.andThen];rfl,Step.setObj (obj:= .map ces clock) hc hk hB (.map _ _ _ _ ?_)⟩
   rw [hmod]
   exact RelM.set hx hv j h1 a4
theorem bytes_ints:∀ {cs:List V} {l:List UInt8},bytesOf cs=some l→∃ ns:List Int,l=ns.map (fun n=>UInt8.ofNat n.toNat)∧cs=ns.map (fun n=>V.int .u8 n)
 |[],l,h=>by simp only [bytesOf,aal] at h;subst h;exact ⟨[],rfl,rfl⟩
 |r::rs,l,h=>by
  simp only [bytesOf] at h;split at h<;>simp only [aal,reduceCtorEq] at h;rename_i b l' hb hl;subst h;obtain ⟨ns,e1,e2⟩:=bytes_ints hl;unfold byteOf at hb;split at hb<;>simp only [aal,reduceCtorEq] at hb;rename_i n;exact ⟨n::ns,by simp [e1,hb],by simp [e2]⟩
def bytes_len {cs:List V} {l:List UInt8} (h:bytesOf cs=some l):l.length=cs.length:=by
 induction cs generalizing l with
 |nil=>simp only [bytesOf,aal] at h;subst h;rfl
 |cons r rs ih=>
  simp only [bytesOf] at h
  split at h<;>simp only [aal,reduceCtorEq] at h
  rename_i b l' hb hl
  subst h
  simp [ih hl]
def run_unsafeString_at (pt it ty e:TypeId) (hp:P.underlying pt=some (.pointer e)) (hc:P.cellsOf e=1) (g cells:Nat) (hsh:w.shape? g=some (e,cells)) (l:List UInt8) (h0:l≠[]) (hn:l.length≤cells) (h63:l.length≤9223372036854775807)
  (ns:List Int) (hns:l=ns.map (fun n=>UInt8.ofNat n.toNat)) (hcell:∀ j n,ns[j]?=some n→w.cell? ((⟨g,0,none⟩:Addr).add j)=some (.int .u8 n)):
  (Builtin.unsafeString_ #[pt,it] ty #[.pointer (some ⟨g,0,none⟩),.int .i64 l.length]).run P w= .ok (.string ⟨l.toArray⟩) (w.freeze ⟨g,0,none⟩ l.length):=by
 have hl:l.length≠0:=by simpa using h0
 have hlb:∀ (ns:List Int) (a:Addr) (acc:ByteArray),(∀ j n,ns[j]?=some n→w.cell? (a.add j)=some (.int .u8 n))→(loadBytes a acc ns.length).run P w= .ok ⟨acc.data++(ns.map (fun n=>UInt8.ofNat n.toNat)).toArray⟩ w:=by
  intro ns;induction ns with
  |nil=>intro a acc _;simp [loadBytes]
  |cons n ns ih=>
   intro a acc h
   have h1:=h 0 n rfl
   have ha:a.add 0=a:=by simp [Addr.add]
   rw [ha] at h1
   have h2:=ih (a.add 1) (acc.push n.toNat.toUInt8) (fun j m hj=>by
    have:=h (j+1) m (by simpa using hj);rw [show (a.add 1).add j=a.add (j+1) by
     unfold Addr.add;by_cases hj0:j=0
     ·subst hj0;simp
     ·simp [hj0];omega]
    exact this)
   have hload:(load a).run P w= .ok (.int .u8 n) w:=by simp [load,Sem.run,h1]
   simp only [aav,loadBytes,Sem.run_bind,hload,Result.andThen_ok,h2]
   congr 2
   apply abA
   simp [ByteArray.push]
 have hlb':=hlb ns ⟨g,0,none⟩ .empty hcell
 have hlen:ns.length=l.length:=by rw [hns];simp
 rw [hlen,←hns] at hlb'
 have hlies:=Lib.liesAt_bytes (P:=P) hc (cells / P.cellsOf e) l.length (by rw [hc];simpa using hn)
 have h63':¬ (9223372036854775807:Int)< (l.length:Int):=by omega
 have hdef:Builtin.unsafeString_ #[pt,it] ty #[.pointer (some ⟨g,0,none⟩),.int .i64 l.length]=
   (do
    let n←asInt (.int .i64 l.length)
    if n<0 then runtimePanic (.error "unsafe.String: len out of range")
    if n>IntKind.i64.max then unsupported (.unsafePointer "String: a length above the largest int")
    if n=0 then pure (.string .empty)
    else if←variablesAt ⟨g,0,none⟩ (←elemOf pt) n.toNat then do
     let s←loadBytes ⟨g,0,none⟩ .empty n.toNat
     freeze ⟨g,0,none⟩ n.toNat
     pure (.string s)
    else unsupported (.unsafePointer "String: not so many bytes at ptr")):=rfl
 rw [hdef]
 have hmax:IntKind.i64.max=9223372036854775807:=rfl
 have hneg:¬ (l.length:Int)<0:=by omega
 have hfin:(⟨ByteArray.empty.data++l.toArray⟩:ByteArray)=⟨l.toArray⟩:=by congr 1;apply abA;simp
 rw [hfin] at hlb'
 simp [asInt,asIntOf,hmax,h63',hneg,hl,variablesAt,hsh,elemOf,run_underlying hp,hlies,hlb']
def Step.freeze {D:Nat→Prop} (hc:bf c w s) {b k o z:Nat} (hk:c b=some (k,o,z)) (hl:s.h.get b≠none) (a:Addr) (ha:a.block=k) (n:Nat):Step D c s w c (s.kill b) (w.freeze a n):=by
 have hother:∀ j,j≠k→(w.freeze a n).heap[j]?=w.heap[j]?:=by
  intro j hj;unfold World.freeze;split
  ·rfl
  ·simp only [abv];rw [if_neg (by omega)]
 have hsz:(w.freeze a n).heap.size=w.heap.size:=by
  unfold World.freeze;split<;>simp
 have hos:(w.freeze a n).os=w.os∧(w.freeze a n).tape=w.tape∧(w.freeze a n).output=w.output:=by
  unfold World.freeze;split<;>exact ⟨rfl,rfl,rfl⟩
 have hk':=hc.killB b;refine ⟨Ext.refl c,⟨fun x k' o' z' h=>?_,hk'.inj,fun x k' o' z' y h hy=>?_⟩,⟨hos.1,hos.2.1,hos.2.2,by omega,fun j hj hb=>hother j ?_⟩,fun _ h h'=>absurd h h',fun _ _ _ _ h h'=>(by rw [h] at h';cases h'),fun x _ h2=>?_,aat _⟩
 ·have:=hk'.lt x k' o' z' h;exact ⟨this.1,by rw [hsz];exact this.2⟩
 ·obtain ⟨obj,h1,h2⟩:=hk'.blk x k' o' z' y h hy;refine ⟨obj,?_,h2⟩;rw [hother k' ?_]
  ·exact h1
  ·rintro rfl;rw [get_kill] at hy;split at hy
   ·cases hy
   ·rename_i hne;exact hne (hc.inj x b k' o' o z' z h hk (by rw [hy];simp) hl)
 ·rintro rfl;exact hl (hb b o z hk)
 ·rw [get_kill] at h2;split at h2
  ·simp at h2
  ·exact h2
def evalUStr_sound {D:Nat→Prop} (hc:bf c w s) {pt nt ty:TypeId} {x y:Value} {X Y Z:V} {s':S} (hx:Rel c x X) (hy:Rel c y Y) (h:evalUStr P pt X Y s=some (Z,s')):
  ∃ cv w',(Builtin.unsafeString_ #[pt,nt] ty #[x,y]).run P w= .ok cv w'∧Rel c cv Z∧Step D c s w c s' w':=by
 unfold evalUStr at h
 split at h
 case h_2=>simp at h
 rename_i e hp
 split at h
 ·rename_i b m
  split at h
  case h_2=>simp at h
  rename_i e' cs hB
  split at h
  case isFalse=>simp at h
  rename_i hcond
  obtain ⟨rfl,hce,h0,hle,h63⟩:=hcond
  split at h
  case h_2=>simp at h
  rename_i l hl
  simp only [aal,aaq] at h
  obtain ⟨rfl,rfl⟩:=h
  cases hy
  cases hx with|ptr _ k o z _ hk=>?_
  obtain ⟨arr,hh,hq,hsz,hoz,hr⟩:=hc.rowGet hk hB
  have ho:=hq rfl
  subst ho
  have hll:l.length=m.toNat:=by rw [bytes_len hl];simp;omega
  have hmm:(l.length:Int)=m:=by omega
  obtain ⟨ns,hns,hcs⟩:=bytes_ints hl
  have hrun:=run_unsafeString_at (P:=P) (w:=w) pt nt ty e' hp hce k arr.size (by simp [World.shape?,hh]) l (by intro hn;rw [hn] at hll;simp at hll;omega) (by rw [hsz,hll];omega) (by omega) ns hns (fun j n hj=>by
   have hjl:j<ns.length:=(aao.1 hj).1;have hnl:ns.length=m.toNat:=by rw [←hll,hns];simp
   have h1:=hr j (by omega);rw [addr_add,aaL];have h2:cs.getD j .aU= .int .u8 n:=by
    have:(cs.take m.toNat)[j]?=some (.int .u8 n):=by rw [hcs,aaV,hj];rfl
    rw [abl,if_pos (by omega)] at this;simp [aam,this]
   rw [aaL,h2] at h1;have h3:w.cell? ⟨k,j,none⟩=some (arr.getD j undef):=by simp [World.cell?,hh,aap,show j<arr.size by omega]
   rw [h3];generalize arr.getD j undef=q at h1;cases h1;rfl)
  rw [hmm] at hrun
  refine ⟨_,_,hrun,.str _ _ (by simp),Step.freeze hc hk (by rw [hB];simp) _ rfl _⟩
 ·simp only [aal,aaq] at h
  obtain ⟨rfl,rfl⟩:=h
  cases hx
  cases hy
  exact ⟨_,w,Lib.run_unsafeString_none w pt nt ty none,.str _ _ (by rfl),.refl hc⟩
 ·simp at h
end Go.En
end
section
namespace Go.En
open Go.RowKit
open Go.Abs (addr_add aK zeroOf kU isIface oo mM Ap Yw tP jY)
variable {P:Program} {c:C} {w:World} {s:S}
theorem evs_map (fr:Fr):∀ l:List Operand,evs fr l=l.map (ev fr)
 |[]=>rfl
 |x::r=>by simp [evs,evs_map fr r]
def args1 {fr:Fr} {args:Array Operand} {x:V} (h:evs fr args.toList=[x]):∃ y,args= #[y]∧ev fr y=x:=by
 rw [evs_map] at h
 match hq:args.toList with
 |[]=>simp [hq] at h
 |[y]=>exact ⟨y,by apply abA;simpa using hq,by simpa [hq] using h⟩
 |_::_::_=>simp [hq] at h
def args2 {fr:Fr} {args:Array Operand} {x x':V} (h:evs fr args.toList=[x,x']):∃ y y',args= #[y,y']∧ev fr y=x∧ev fr y'=x':=by
 rw [evs_map] at h
 match hq:args.toList with
 |[]=>simp [hq] at h
 |[_]=>simp [hq] at h
 |[y,y']=>exact ⟨y,y',by apply abA;simpa using hq,by simpa [hq] using h⟩
 |_::_::_::_=>simp [hq] at h
def types1 {ts:Array TypeId} {t:TypeId} (h:ts.toList=[t]):ts= #[t]:=by apply abA;simpa using h
def types2 {ts:Array TypeId} {t u:TypeId} (h:ts.toList=[t,u]):ts= #[t,u]:=by apply abA;simpa using h
def evalMinMax_sound (mx:Bool) (ts:Array TypeId) (ty:TypeId) {x y:Value} {X Y Z:V} (hx:Rel c x X) (hy:Rel c y Y) (h:evalMinMax mx X Y=some Z):
  ∃ cv,(if mx then Builtin.max_ ts ty #[x,y] else Builtin.min_ ts ty #[x,y]).run P w= .ok cv w∧Rel c cv Z:=by
 unfold evalMinMax at h
 split at h
 case h_2=>simp at h
 rename_i k n k' n'
 cases hx
 cases hy
 split at h<;>simp only [aal,reduceCtorEq] at h
 rename_i hk
 subst hk
 subst h
 cases mx
 ·refine ⟨_,run_min_int2 (P:=P) w ts ty k k n n',?_⟩
  have:(if (if false=true then decide (n'>n) else decide (n'<n))=true then n' else n)=(if n'<n then n' else n):=by simp
  rw [this]
  exact .int _ _
 ·refine ⟨_,run_max_int2 (P:=P) w ts ty k k n n',?_⟩
  have:(if (if true=true then decide (n'>n) else decide (n'<n))=true then n' else n)=(if n'>n then n' else n):=by simp
  rw [this]
  exact .int _ _
def evalBuiltin_sound {D:Nat→Prop} (hc:bf c w s) {id:Nat} (hid:c id=none) (hlt:id<s.nx) (hD:D id) (b:Builtin) (ts:Array TypeId) (ty:TypeId) (cs:Array Bool) {a:Act} {fr:Fr} (hf:cC c a.tmps fr) (args:Array Operand) {Z:V} {s':S}
  (h:dP P b ts.toList (evs fr args.toList) s id=some (Z,s')):
  ∃ cv w' c',(builtin b ts ty cs (args.map a.eval)).run P w= .ok (.value cv) w'∧Rel c' cv Z∧Step D c s w c' s' w':=by
 have pure1:∀ {r:Option V} {m:Sem Value},(∀ Z,r=some Z→∃ cv,m.run P w= .ok cv w∧Rel c cv Z)→(builtin b ts ty cs (args.map a.eval)=(do pure (.value (←m)):Sem Next))→r.map (·,s)=some (Z,s')→
   ∃ cv w' c',(builtin b ts ty cs (args.map a.eval)).run P w= .ok (.value cv) w'∧Rel c' cv Z∧Step D c s w c' s' w':=by
  intro r m hr he hm
  obtain ⟨Z',h1,h2⟩:=aaF.1 hm
  simp only [aaq] at h2
  obtain ⟨rfl,rfl⟩:=h2
  obtain ⟨cv,h3,h4⟩:=hr Z' h1
  exact ⟨cv,w,c,by rw [he];simp [h3],h4,.refl hc⟩
 unfold dP at h
 split at h
 ·rename_i t x hts hargs
  obtain ⟨y,rfl,rfl⟩:=args1 hargs
  have:=types1 hts
  subst this
  exact pure1 (fun Z hZ=>uB hc t ty (bJ hf y) hZ) (by simp [builtin]) h
 ·rename_i t x hts hargs
  obtain ⟨y,rfl,rfl⟩:=args1 hargs
  have:=types1 hts
  subst this
  exact pure1 (fun Z hZ=>evalCap_sound t ty (bJ hf y) hZ) (by simp [builtin]) h
 ·rename_i t u x y hts hargs
  obtain ⟨y1,y2,rfl,rfl,rfl⟩:=args2 hargs
  have:=types2 hts
  subst this
  obtain ⟨cv,w',c',h1,h2,h3⟩:=ql (P:=P) (ty:=ty) hc hid hlt hD (bJ hf y1) (bJ hf y2) h
  exact ⟨cv,w',c',by simp [builtin,h1],h2,h3⟩
 ·rename_i t u x y hts hargs
  obtain ⟨y1,y2,rfl,rfl,rfl⟩:=args2 hargs
  have:=types2 hts
  subst this
  obtain ⟨cv,w',h1,h2,h3⟩:=evalCopy_sound (P:=P) (D:=D) (ty:=ty) hc (bJ hf y1) (bJ hf y2) h
  exact ⟨cv,w',c,by simp [builtin,h1],h2,h3⟩
 ·rename_i t x hts hargs
  obtain ⟨y,rfl,rfl⟩:=args1 hargs
  have:=types1 hts
  subst this
  obtain ⟨w',h1,h2,h3⟩:=evalClear_sound (P:=P) (D:=D) (ty:=ty) hc (bJ hf y) h
  exact ⟨_,w',c,by simp [builtin,h1],h2,h3⟩
 ·rename_i x y hargs
  obtain ⟨y1,y2,rfl,rfl,rfl⟩:=args2 hargs
  exact pure1 (fun Z hZ=>evalMinMax_sound (P:=P) true ts ty (bJ hf y1) (bJ hf y2) hZ) (by simp [builtin]) h
 ·rename_i x y hargs
  obtain ⟨y1,y2,rfl,rfl,rfl⟩:=args2 hargs
  exact pure1 (fun Z hZ=>evalMinMax_sound (P:=P) false ts ty (bJ hf y1) (bJ hf y2) hZ) (by simp [builtin]) h
 ·rename_i t x hts hargs
  obtain ⟨y,rfl,rfl⟩:=args1 hargs
  have:=types1 hts
  subst this
  have hr:=bJ hf y
  split at h
  ·rename_i he
   simp only [aal,aaq] at h
   obtain ⟨rfl,rfl⟩:=h
   rw [he] at hr
   generalize hq:a.eval y=q at hr
   cases hr
   exact ⟨_,w,c,by simp [builtin,hq,Lib.run_unsafeSliceData_nil w],.eX,.refl hc⟩
  ·rename_i b' off n es co he
   simp only [aal,aaq] at h
   obtain ⟨rfl,rfl⟩:=h
   rw [he] at hr
   generalize hq:a.eval y=q at hr
   cases hr with|sl aa _ _ _ _ cap _ a1 a2 a3 a4=>?_
   obtain ⟨k,o,z,e1,rfl,e3⟩:=a4 (by omega)
   exact ⟨_,w,c,by simp [builtin,hq,Lib.run_unsafeSliceData_row w #[t] ty ⟨k,o+off,none⟩ (n+1) cap (by omega)],.ptr _ _ _ _ _ e1,.refl hc⟩
  ·simp at h
 ·rename_i pt nt x n hts hargs
  obtain ⟨y1,y2,rfl,rfl,rfl⟩:=args2 hargs
  have:=types2 hts
  subst this
  obtain ⟨cv,w',h1,h2,h3⟩:=evalUStr_sound (P:=P) (D:=D) (nt:=nt) (ty:=ty) hc (bJ hf y1) (bJ hf y2) h
  exact ⟨cv,w',c,by simp [builtin,h1],h2,h3⟩
 ·simp at h
def oz {D:Nat→Prop} (hc:bf c w s) {id:Nat} (hid:c id=none) (hlt:id<s.nx) (hD:D id) (o:Oper) {a:Act} {fr:Fr} (hf:cC c a.tmps fr) {Z:V} {s':S} (h:evalOp P o.op fr s id=some (Z,s')):
  ∃ cv w' c',Yw P a o w cv w'∧Rel c' cv Z∧Step D c s w c' s' w':=by
 unfold evalOp at h
 have pure1:∀ {r:Option V} {m:Sem Value},(∀ Z,r=some Z→∃ cv,m.run P w= .ok cv w∧Rel c cv Z)→(execOp a.eval o=(do pure (.value (←m)):Sem Next))→r.map (·,s)=some (Z,s')→
   ∃ cv w' c',Yw P a o w cv w'∧Rel c' cv Z∧Step D c s w c' s' w':=by
  intro r m hr he hm
  obtain ⟨Z',h1,h2⟩:=aaF.1 hm
  simp only [aaq] at h2
  obtain ⟨rfl,rfl⟩:=h2
  obtain ⟨cv,h3,h4⟩:=hr Z' h1
  exact ⟨cv,w,c,.inl (by rw [he];simp [h3]),h4,.refl hc⟩
 split at h
 case h_1 x hop=>
  simp only [aal,aaq] at h
  obtain ⟨rfl,rfl⟩:=h
  exact ⟨a.eval x,w,c,.inl (by simp [execOp,hop]),bJ hf x,.refl hc⟩
 case h_2 x hop=>
  simp only [aal,aaq] at h
  obtain ⟨rfl,rfl⟩:=h
  exact ⟨a.eval x,w,c,.inl (by simp [execOp,hop]),bJ hf x,.refl hc⟩
 case h_3 cnd x y hop=>
  split at h
  case h_2=>simp at h
  rename_i t ht
  simp only [aal,aaq] at h
  obtain ⟨rfl,rfl⟩:=h
  have hr:=bJ hf cnd
  rw [ht] at hr
  generalize hq:a.eval cnd=q at hr
  cases hr
  refine ⟨if t then a.eval x else a.eval y,w,c,.inl (by simp [execOp,hop,hq,asBool]),?_,.refl hc⟩
  cases t
  ·exact bJ hf y
  ·exact bJ hf x
 case h_4 e hop=>
  split at h
  case h_2=>simp at h
  rename_i cs hcs
  simp only [aal,aaq] at h
  obtain ⟨rfl,rfl⟩:=h
  obtain ⟨z,hz,hzr⟩:=zeroCs_eq (c:=c) hcs
  exact ⟨.pointer (some ⟨w.heap.size,0,none⟩),w.alloc (.cells z.cells e),_,.inl (by simp [execOp,hop,Instr.alloc,kU hz,tP]),.ptr _ _ 0 z.cells.size 0 C.push_self,
   Step.alloc hc hid hlt hD (.cells _ e true 0 _ _ (fun _=>rfl) rfl (by rw [aaL,hzr.1];exact aat _) fun i hi=>by rw [aaL];exact hzr.2 i hi)⟩
 case h_5 e x hop=>
  split at h
  case h_2=>simp at h
  rename_i cs hcs
  simp only [aal,aaq] at h
  obtain ⟨rfl,rfl⟩:=h
  have hzr:=(bJ hf x).cells hcs
  exact ⟨.pointer (some ⟨w.heap.size,0,none⟩),w.alloc (.cells (a.eval x).cells e),_,.inl (by simp [execOp,hop,Instr.box,tP]),.ptr _ _ 0 (a.eval x).cells.size 0 C.push_self,
   Step.alloc hc hid hlt hD (.cells _ e true 0 _ _ (fun _=>rfl) rfl (by rw [aaL,hzr.1];exact aat _) fun i hi=>by rw [aaL];exact hzr.2 i hi)⟩
 case h_6 t parts hop=>
  exact pure1 (fun Z hZ=>rm t hf parts hZ) (by simp only [execOp,hop]) h
 case h_7 t n parts hop=>
  obtain ⟨cv,w',c',h3,h4,h5⟩:=mQ (P:=P) hc hid hlt hD t n hf parts h
  exact ⟨cv,w',c',.inl (by simp only [execOp,hop,Sem.run_bind,h3,Result.andThen_ok,Sem.run_pure]),h4,h5⟩
 case h_8 t x hop=>
  exact pure1 (fun Z hZ=>mb hc t (bJ hf x) hZ) (by simp only [execOp,hop]) h
 case h_9 t x y hop=>
  obtain ⟨gD,h1,h2⟩:=aaF.1 h
  simp only [aaq] at h2
  obtain ⟨rfl,rfl⟩:=h2
  obtain ⟨w',h3,h4⟩:=rj (P:=P) (D:=D) hc t (bJ hf x) (bJ hf y) h1
  exact ⟨undef,w',c,.inr ⟨by simp only [execOp,hop,Sem.run_bind,h3,Result.andThen_ok,Sem.run_pure],rfl⟩,.aU _,h4⟩
 case h_10 x hop=>
  have hr:=bJ hf x
  split at h
  ·rename_i b off he
   simp only [aal,aaq] at h
   obtain ⟨rfl,rfl⟩:=h
   rw [he] at hr
   generalize hq:a.eval x=q at hr
   cases hr with|ptr _ k o z _ hk=>?_
   exact ⟨_,w,c,.inl (by simp [execOp,hop,hq]),.ptr _ _ _ _ _ hk,.refl hc⟩
  ·rename_i f cap he
   simp only [aal,aaq] at h
   obtain ⟨rfl,rfl⟩:=h
   rw [he] at hr
   generalize hq:a.eval x=q at hr
   cases hr with|jE _ arr _ h1 h2=>?_
   exact ⟨_,w,c,.inl (by simp [execOp,hop,hq]),.jE _ _ _ h1 h2,.refl hc⟩
  ·simp at h
 case h_11 op t x y _ hop=>
  exact pure1 (fun Z hZ=>uz op t x y (bJ hf x) (bJ hf y) hZ) (by simp only [execOp,hop]) h
 case h_12 op _ x hop=>
  exact pure1 (fun Z hZ=>xM op (bJ hf x) hZ) (by simp only [execOp,hop]) h
 case h_13 s1 d x hop=>
  obtain ⟨cv,w',c',h3,h4,h5⟩:=tM (P:=P) hc hid hlt hD s1 d (bJ hf x) h
  exact ⟨cv,w',c',.inl (by simp only [execOp,hop,Sem.run_bind,h3,Result.andThen_ok,Sem.run_pure]),h4,h5⟩
 case h_14 t x hop=>
  split at h
  case isFalse=>simp at h
  rename_i hif
  simp only [aal,aaq] at h
  obtain ⟨rfl,rfl⟩:=h
  obtain ⟨dd,hu,hni⟩:=oo hif
  refine ⟨.iface t (a.eval x),w,c,.inl ?_,.iface t _ _ (bJ hf x),.refl hc⟩
  have hcon:P.concrete t=true:=by
   unfold Program.concrete;rw [hu];cases dd<;>first|rfl|(exact absurd rfl (hni _))
  simp [execOp,hop,run_makeInterface (P:=P) w t _ hcon]
 case h_15 f first captured hop=>
  split at h
  case isFalse=>simp at h
  rename_i hfirst
  simp only [aal,aaq] at h
  obtain ⟨rfl,rfl⟩:=h
  have hfe:first= #[]:=by simpa using hfirst
  subst hfe
  refine ⟨.func (.func f) #[] (captured.map a.eval),w,c,.inl (by simp [execOp,hop,Instr.makeFunc]),.jE f _ _ (by simp [evs_map]) fun i hi=>?_,.refl hc⟩
  rw [evs_map] at hi ⊢
  simp only [aaC,aaH] at hi
  have e1:(captured.map a.eval).getD i undef=a.eval captured[i]:=by simp [aap,hi]
  have e2:(captured.toList.map (ev fr)).getD i .aU=ev fr captured[i]:=by simp [aam,hi]
  rw [e1,e2]
  exact bJ hf _
 case h_16 t x lo hi hop=>
  exact pure1 (fun Z hZ=>rq t hf (bJ hf x) lo hi hZ) (by simp only [execOp,hop];rfl) h
 case h_17 t x lo hi mx hop=>
  exact pure1 (fun Z hZ=>evalSlice3_sound t hf (bJ hf x) lo hi mx hZ) (by simp only [execOp,hop];rfl) h
 case h_18 t x f hop=>
  exact pure1 (fun Z hZ=>jx t f (bJ hf x) hZ) (by simp only [execOp,hop]) h
 case h_19 t x f hop=>
  exact pure1 (fun Z hZ=>ru t f (bJ hf x) hZ) (by simp only [execOp,hop]) h
 case h_20 t x i hop=>
  exact pure1 (fun Z hZ=>nD t (bJ hf x) (bJ hf i) hZ) (by simp only [execOp,hop]) h
 case h_21 t x i hop=>
  exact pure1 (fun Z hZ=>ry t (bJ hf x) (bJ hf i) hZ) (by simp only [execOp,hop]) h
 case h_22 x i hop=>
  exact pure1 (fun Z hZ=>pz i (bJ hf x) hZ) (by simp only [execOp,hop]) h
 case h_23 t x hop=>
  unfold mT at h
  split at h
  case h_2=>simp at h
  rename_i l hl
  split at h
  case isFalse=>simp at h
  rename_i hstr
  simp only [aal,aaq] at h
  obtain ⟨rfl,rfl⟩:=h
  have hr:=bJ hf x
  rw [hl] at hr
  generalize hq:a.eval x=q at hr
  cases hr with|str s' _ e=>?_
  have hu:=jY hstr
  refine ⟨.pointer (some ⟨w.heap.size,0,none⟩),_,_,.inl ?_,.ptr _ _ 0 0 0 C.push_self,Step.alloc hc hid hlt hD (.iter s' l 0 0 e)⟩
  simp [execOp,hop,hq,Instr.range,run_underlying hu]
 case h_24 x hop=>
  obtain ⟨cv,w',h1,h2,h3⟩:=tU (P:=P) (D:=D) hc o.type (bJ hf x) h
  exact ⟨cv,w',c,.inl (by simp only [execOp,hop,Sem.run_bind,h1,Result.andThen_ok,Sem.run_pure]),h2,h3⟩
 case h_25 t hop=>
  split at h
  case h_2=>simp at h
  simp only [aal,aaq] at h
  obtain ⟨rfl,rfl⟩:=h
  refine ⟨.map (some w.heap.size),w.alloc (.map #[] 0),_,.inl ?_,.mp _ _ 0 C.push_self,Step.alloc hc hid hlt hD (.map #[] 0 0 [] trivial)⟩
  have h1:(Instr.makeMap t none).run P w= .ok (.map (some w.heap.size)) (w.alloc (.map #[] 0)):=rfl
  simp only [execOp,hop]
  simp [h1]
 case h_26 t m x ok hop=>
  exact pure1 (fun Z hZ=>evalLookup_sound hc (bJ hf m) (bJ hf x) hZ) (by simp only [execOp,hop]) h
 case h_27 t m x v hop=>
  obtain ⟨gD,h1,h2⟩:=aaF.1 h
  simp only [aaq] at h2
  obtain ⟨rfl,rfl⟩:=h2
  obtain ⟨w',h3,h4⟩:=evalMapPut_sound (P:=P) (D:=D) hc (bJ hf m) (bJ hf x) (bJ hf v) h1
  exact ⟨undef,w',c,.inr ⟨by simp only [execOp,hop,Sem.run_bind,h3,Result.andThen_ok,Sem.run_pure],rfl⟩,.aU _,h4⟩
 case h_28 x t as_ ok hop=>
  exact pure1 (fun Z hZ=>qm t as_ ok (bJ hf x) hZ) (by simp only [execOp,hop]) h
 case h_29 b args ts hop=>
  obtain ⟨cv,w',c',h1,h2,h3⟩:=evalBuiltin_sound (P:=P) hc hid hlt hD b ts o.type (args.map fun| .const _=>true|_=>false) hf args h
  refine ⟨cv,w',c',.inl ?_,h2,h3⟩
  simp only [execOp,hop,resolve,pure_bind,invoke]
  exact h1
 case h_30 t l cc hop=>
  obtain ⟨cv,w',c',h1,h2,h3⟩:=evalMake_sound (P:=P) hc hid hlt hD t (bJ hf l) (bJ hf cc) h
  exact ⟨cv,w',c',.inl (by simp only [execOp,hop,Sem.run_bind,h1,Result.andThen_ok,Sem.run_pure]),h2,h3⟩
 case h_31=>simp at h
end Go.En
end
section
namespace Go.En
open Go.RowKit
open Go.Abs (addr_add aK Yw iy put_defers)
variable {P:Program} {c:C} {w:World} {s:S}
def DRel (c:C) (d:Deferred) (x:FuncId×List V):Prop:=∃ cap,d.target= .fn (.func x.1) cap∧aag c (d.args++cap) x.2
def DsRel (c:C):List Deferred→List (FuncId×List V)→Prop
 |[],[]=>True
 |d::ds,x::xs=>DRel c d x∧DsRel c ds xs
 |_,_=>False
theorem DsRel.mono {c c':C} (h:Ext c c'):∀ {ds:List Deferred} {xs:List (FuncId×List V)},DsRel c ds xs→DsRel c' ds xs
 |[],[],_=>trivial
 |_::_,_::_,r=>⟨let ⟨cap,h1,h2⟩:=r.1;⟨cap,h1,h2.mono h⟩,DsRel.mono h r.2⟩
 |[],_::_,r=>r.elim
 |_::_,[],r=>r.elim
structure FRel (c:C) (a:Act) (f:F):Prop where
 tm:cC c a.tmps f.tm
 sz:a.tmps.size=f.n
 ds:DsRel c a.defers f.ds
def FRel.mono {c c':C} (h:Ext c c') {a:Act} {f:F} (r:FRel c a f):FRel c' a f:=⟨r.tm.mono h,r.sz,r.ds.mono h⟩
def FRel.put {a:Act} {f f':F} {d:Option Tmp} {v:Value} {x:V} (r:FRel c a f) (h:f.put d x=some f') (hv:Rel c v x):FRel c (a.put d v) f':=by
 rw [F.put_eq] at h;split at h
 ·rename_i i;split at h<;>simp only [aal,reduceCtorEq] at h;rename_i hi;subst h;have hi':i<f.n:=by simpa [Nat.blt_eq] using hi
  exact ⟨r.tm.put (by rw [r.sz];exact hi') hv,(iy _ _ _).trans r.sz,by rw [put_defers];exact r.ds⟩
 ·simp only [aal] at h;subst h;exact ⟨r.tm,r.sz,r.ds⟩
def put_n {f f':F} {d:Option Tmp} {x:V} (h:f.put d x=some f'):f'.n=f.n∧f'.ds=f.ds:=by
 rw [F.put_eq] at h;split at h
 ·split at h<;>simp only [aal,reduceCtorEq] at h;subst h;exact ⟨rfl,rfl⟩
 ·simp only [aal] at h;subst h;exact ⟨rfl,rfl⟩
def ZC {all:Array Oper} {o:Oper} {a:Act} {fr:Fr} (hf:cC c a.tmps fr) {b:Bool} (h:goes all o fr=some b):Region.wanted o (yielded all a.tmps)=b:=by
 unfold goes at h;unfold Region.wanted;split at h
 ·rename_i hg;simp only [aal] at h;rw [hg,←h]
 ·rename_i j want hg;rw [hg];split at h
  case h_2=>simp at h
  rename_i d hd;have hget:a.tmps[d]?=some (a.tmps.getD d undef)∨a.tmps[d]?=none∧a.tmps.getD d undef=undef:=by
   rw [aap];cases a.tmps[d]?<;>simp
  split at h<;>simp only [aal,reduceCtorEq] at h
  ·rename_i t ht;have hr:=hf d _ ht;have hv:a.tmps[d]?=some (.bool t):=by
    rcases hget with hq|⟨hq,hu⟩
    ·rw [hq];generalize a.tmps.getD d undef=q at hr;cases hr;rfl
    ·rw [hu] at hr;cases hr
   simp only [yielded,hd,abB,hv,←h];cases t<;>cases want<;>rfl
  ·rename_i ht;have hr:=hf d _ ht;have hv:a.tmps[d]?=none∨∃ arr,a.tmps[d]?=some (.tuple arr):=by
    rcases hget with hq|⟨hq,hu⟩
    ·rw [hq];generalize a.tmps.getD d undef=q at hr;cases hr;exact .inr ⟨_,rfl⟩
    ·exact .inl hq
   rcases hv with hv|⟨arr,hv⟩<;>simp only [yielded,hd,abB,hv,←h]<;>rfl
def Rel.Uk:Rel c undef (.cF []):= .cF _ _ rfl (by simp)
def RetQ (c:C) (s:S) (w:World) (v:V) (s':S):Ending→World→Prop:=fun e w'=>∃ cv c',e= .returned cv∧Rel c' cv v∧Step (fun b=>s.nx≤b) c s w c' s' w'
def CallOK (P:Program) (g:FuncId) (args:List V) (s:S) (v:V) (s':S):Prop:=
 ∀ (c:C) (w:World) (cargs:Array Value),bf c w s→aag c cargs args→
  ((∀ w,(callFunc g cargs).run P w= .ok (.enter g cargs) w)∧Calls P g cargs w (RetQ c s w v s'))∨∃ cv w',(callFunc g cargs).run P w= .ok (.value cv) w'∧RetQ c s w v s' (.returned cv) w'
def bf.bump (hc:bf c w s):bf c w ⟨s.nx+1,s.h⟩:=⟨fun b k o z h=>by have:=hc.lt b k o z h;exact ⟨by simp only;omega,this.2⟩,hc.inj,hc.blk⟩
def bf.none_of (hc:bf c w s) {b:Nat} (h:s.nx≤b):c b=none:=by
 cases hb:c b with
 |none=>rfl
 |some x=>
  obtain ⟨k,o,z⟩:=x
  have:=(hc.lt b k o z hb).1
  omega
def Step.bump {D:Nat→Prop} {c':C} {s':S} {w':World} (h:Step D c ⟨s.nx+1,s.h⟩ w c' s' w'):Step D c s w c' s' w':=
 ⟨h.ext,h.DS,⟨h.keeps.os,h.keeps.tape,h.keeps.output,h.keeps.size,h.keeps.block⟩,h.dom,h.fresh,h.live,by have:=h.nx;simp only at this;omega⟩
def Step.later {c' c'':C} {s' s'':S} {w' w'':World} (h:Step (fun b=>s.nx≤b) c s w c' s' w') (k:Step (fun b=>s'.nx≤b) c' s' w' c'' s'' w''):Step (fun b=>s.nx≤b) c s w c'' s'' w'':=
 h.trans (k.mono fun b hb=>abj h.nx hb)
def evs_rel {a:Act} {fr:Fr} (hf:cC c a.tmps fr) (args:Array Operand) {arr:Array Value} {cap:List V} (hs:arr.size=cap.length) (hr:∀ i,i<cap.length→Rel c (arr.getD i undef) (cap.getD i .aU)):
  aag c (args.map a.eval++arr) (evs fr args.toList++cap):=by
 rw [evs_map]
 refine ⟨by simp [hs],fun i hi=>?_⟩
 simp only [aax,aaC,aaH] at hi
 by_cases hlt:i<args.size
 ·rw [show (args.map a.eval++arr).getD i undef=a.eval args[i] by
   simp [aap,abr,hlt]]
  rw [show (args.toList.map (ev fr)++cap).getD i .aU=ev fr args[i] by
   simp [aam,List.getElem?_append,hlt]]
  exact bJ hf _
 ·rw [show (args.map a.eval++arr).getD i undef=arr.getD (i - args.size) undef by
   simp [aap,abr,hlt]]
  rw [show (args.toList.map (ev fr)++cap).getD i .aU=cap.getD (i - args.size) .aU by
   simp [aam,List.getElem?_append,hlt]]
  exact hr _ (by omega)
def callOp_wp {Q:Exit→Act→World→Prop} {g:FuncId} {args:Array Operand} {ats:Array TypeId} {x:Operand} {cap:List V} {v:V} {s':S} {f f':F} {a:Act} {o:Oper} (hc:bf c w s) (hf:FRel c a f)
  (ho:o.op= .call { callee:= .value x,args:=args,argTypes:=ats }) (hx:ev f.tm x= .jE g cap) (hcall:CallOK P g (evs f.tm args.toList++cap) s v s') (hp:f.put o.dst v=some f') {K:Act→World→Prop}
  (hK:∀ c' w' a',Step (fun b=>s.nx≤b) c s w c' s' w'→FRel c' a' f'→K a' w'):o.wp P a w K Q:=by
 have hxr:=bJ hf.tm x
 rw [hx] at hxr
 generalize hq:a.eval x=q at hxr
 cases hxr with|jE _ arr _ hs hr=>?_
 unfold Oper.wp
 have hargs:=evs_rel hf.tm args hs hr
 have hexec:execOp a.eval o=callFunc g (args.map a.eval++arr):=by
  simp only [execOp,ho,resolve,hq,Deferred.ofValue,pure_bind,invoke];simp
 rw [hexec]
 rcases hcall c w _ hc hargs with ⟨h1,h2⟩|⟨cv,w',h1,cv',c',h2,h3,h4⟩
 ·rw [h1,Oper.upon_enter]
  refine h2.mono ?_
  rintro e w' ⟨cv,c',rfl,h3,h4⟩
  exact hK c' w' _ h4 ((hf.mono h4.ext).put hp h3)
 ·rw [h1]
  cases h2
  exact hK c' w' _ h4 ((hf.mono h4.ext).put hp h3)
def evalOp_wp {Q:Exit→Act→World→Prop} {v:V} {s':S} {f f':F} {a:Act} {o:Oper} {id:Nat} {D:Nat→Prop} (hc:bf c w s) (hid:c id=none) (hlt:id<s.nx) (hD:D id) (hf:FRel c a f) (he:evalOp P o.op f.tm s id=some (v,s'))
  (hp:f.put o.dst v=some f') {K:Act→World→Prop} (hK:∀ c' w' a',Step D c s w c' s' w'→FRel c' a' f'→K a' w'):o.wp P a w K Q:=by
 obtain ⟨cv,w',c',hr,hv,hstep⟩:=oz (P:=P) (D:=D) hc hid hlt hD o hf.tm he
 have hk:K (a.put o.dst cv) w':=hK c' w' _ hstep ((hf.mono hstep.ext).put hp hv)
 unfold Oper.wp
 rcases hr with hr|⟨hr,rfl⟩<;>rw [hr]<;>exact hk
theorem runOps_sound {call:FuncId→List V→S→Option (V×S)} (hcall:∀ g args s v s',call g args s=some (v,s')→CallOK P g args s v s') {all:Array Oper} {Q:Exit→Act→World→Prop}:
  ∀ {l:List Oper} {f:F} {s:S} {f':F} {s':S},runOps P call all l f s=some (f',s')→∀ {c:C} {w:World} {a:Act},bf c w s→FRel c a f→
   (∀ c' w' a',Step (fun b=>s.nx≤b) c s w c' s' w'→FRel c' a' f'→Q .normal a' w')→wpList P all Q l a w
 |[],f,s,f',s',h,c,w,a,hc,hf,hQ=>by
  simp only [runOps,aal,aaq] at h;obtain ⟨rfl,rfl⟩:=h;exact wpList_nil (hQ c w a (.refl hc) hf)
 |o::r,f,s,f',s',h,c,w,a,hc,hf,hQ=>by
  simp only [runOps] at h;split at h
  ·simp at h
  ·rename_i hg;split at h
   case h_2=>simp at h
   rename_i f1 hp;unfold wpList;rw [if_neg (by rw [ZC hf.tm hg];simp)];exact runOps_sound hcall h hc (hf.put hp .Uk) hQ
  ·rename_i hg;unfold wpList;rw [if_pos (ZC hf.tm hg)];refine .inl ?_;split at h
   ·rename_i x args ats ho;split at h
    case h_2=>simp at h
    rename_i g cap hx;split at h
    case h_2=>simp at h
    rename_i v s1 hr;split at h
    case h_2=>simp at h
    rename_i f1 hp;exact callOp_wp hc hf ho hx (hcall _ _ _ _ _ hr) hp fun c' w' a' hst hf'=>runOps_sound hcall h hst.DS hf' fun c'' w'' a'' hst' hf''=>hQ c'' w'' a'' (hst.later hst') hf''
   ·rename_i x args ats ho;split at h
    case h_2=>simp at h
    rename_i g cap hx hd;have hxr:=bJ hf.tm x;rw [hx] at hxr;generalize hq:a.eval x=q at hxr;cases hxr with|jE _ arr _ hs hr=>?_
    have hargs:=evs_rel hf.tm args hs hr;unfold Oper.wp;have hexec:(execOp a.eval o).run P w= .ok (.defer { target:= .fn (.func g) arr,args:=args.map a.eval }) w:=by
     simp [execOp,ho,resolve,hq,Deferred.ofValue]
    rw [hexec,Oper.upon_defer];refine runOps_sound hcall h hc ⟨?_,?_,?_⟩ hQ
    ·rw [hd];exact hf.tm
    ·rw [hd];exact hf.sz
    ·rw [hd];exact ⟨⟨arr,rfl,hargs⟩,hf.ds⟩
   ·split at h
    case h_2=>simp at h
    rename_i v s1 he;split at h
    case h_2=>simp at h
    rename_i f1 hp;exact evalOp_wp (D:=fun b=>s.nx≤b) hc.bump (hc.none_of (aat _)) (by simp) (aat _) hf he hp fun c' w' a' hst hf'=>
     runOps_sound hcall h hst.DS hf' fun c'' w'' a'' hst' hf''=>hQ c'' w'' a'' (hst.bump.later hst') hf''
def Step.frame {D:Nat→Prop} {t u v:S} {c':C} {w':World} (hc:bf c w t) (hnx:s.nx=t.nx) (hsub:∀ b,s.h.get b=none∨s.h.get b=t.h.get b) (h:Step D c s w c' u w')
  (hv1:∀ b,c b≠none→s.h.get b=none→v.h.get b=t.h.get b) (hv2:∀ b,c' b≠none→(c b=none∨s.h.get b≠none)→v.h.get b=u.h.get b) (hvn:v.nx=u.nx):Step D c t w c' v w':=by
 have live:∀ {b},s.h.get b≠none→t.h.get b≠none:=fun {b} hb=>by
  rcases hsub b with h1|h1
  ·exact absurd h1 hb
  ·rw [←h1];exact hb
 have some_of:∀ {b:Nat} {x},c' b=some x→c b≠none→c b=some x:=by
  intro b x h1 h2;cases hb:c b with
  |none=>exact absurd hb h2
  |some y=>rw [h.ext b y hb] at h1;rw [←h1]
 have apart:∀ {b b' k o o' z z'},c b=some (k,o,z)→s.h.get b=none→t.h.get b≠none→c' b'=some (k,o',z')→(c b'=none∨s.h.get b'≠none)→False:=by
  intro b b' k o o' z z' h1 h2 h3 h4 h5;by_cases hb':c b'=none
  ·rcases h.fresh b' k o' z' h4 hb' with h6|⟨b2,o2,z2,h6,h7⟩
   ·have:=(hc.lt b k o z h1).2;omega
   ·have:=hc.inj b b2 k o o2 z z2 h1 h6 h3 (live h7);rw [←this] at h7;exact h7 h2
  ·have h5:=h5.resolve_left hb';have:=hc.inj b b' k o o' z z' h1 (some_of h4 hb') h3 (live h5);rw [←this] at h5;exact h5 h2
 refine ⟨h.ext,⟨fun b k o z hb=>?_,fun b b' k o o' z z' h1 h2 l1 l2=>?_,fun b k o z x hb hx=>?_⟩,⟨h.keeps.os,h.keeps.tape,h.keeps.output,h.keeps.size,fun k hk hb=>h.keeps.block k hk fun b o z hcb=>?_⟩,h.dom,fun b k o z h1 h2=>?_,fun b h1 h2=>?_,?_⟩
 ·have:=h.DS.lt b k o z hb
  exact ⟨by rw [hvn];exact this.1,this.2⟩
 ·by_cases e1:c b≠none∧s.h.get b=none
  ·rw [hv1 b e1.1 e1.2] at l1
   by_cases e2:c b'≠none∧s.h.get b'=none
   ·rw [hv1 b' e2.1 e2.2] at l2
    exact hc.inj b b' k o o' z z' (some_of h1 e1.1) (some_of h2 e2.1) l1 l2
   ·exact (apart (some_of h1 e1.1) e1.2 l1 h2 (by by_cases q:c b'=none;exact .inl q;exact .inr fun h0=>e2 ⟨q,h0⟩)).elim
  ·have e1':c b=none∨s.h.get b≠none:=by by_cases q:c b=none;exact .inl q;exact .inr fun h0=>e1 ⟨q,h0⟩
   by_cases e2:c b'≠none∧s.h.get b'=none
   ·rw [hv1 b' e2.1 e2.2] at l2
    exact (apart (some_of h2 e2.1) e2.2 l2 h1 e1').elim
   ·have e2':c b'=none∨s.h.get b'≠none:=by by_cases q:c b'=none;exact .inl q;exact .inr fun h0=>e2 ⟨q,h0⟩
    rw [hv2 b (by rw [h1];simp) e1'] at l1
    rw [hv2 b' (by rw [h2];simp) e2'] at l2
    exact h.DS.inj b b' k o o' z z' h1 h2 l1 l2
 ·by_cases e1:c b≠none∧s.h.get b=none
  ·rw [hv1 b e1.1 e1.2] at hx
   have hcb:=some_of hb e1.1
   obtain ⟨obj,h1,h2⟩:=hc.blk b k o z x hcb hx
   refine ⟨obj,?_,h2.mono h.ext⟩
   rw [h.keeps.block k (hc.lt b k o z hcb).2 fun b2 o2 z2 h3=>?_]
   ·exact h1
   ·by_cases q:s.h.get b2=none
    ·exact q
    ·have:=hc.inj b b2 k o o2 z z2 hcb h3 (by rw [hx];simp) (live q)
     rw [←this] at q
     exact absurd e1.2 q
  ·have e1':c b=none∨s.h.get b≠none:=by by_cases q:c b=none;exact .inl q;exact .inr fun h0=>e1 ⟨q,h0⟩
   rw [hv2 b (by rw [hb];simp) e1'] at hx
   exact h.DS.blk b k o z x hb hx
 ·have h1:=hb b o z hcb
  rcases hsub b with h2|h2
  ·exact h2
  ·rw [h2];exact h1
 ·rcases h.fresh b k o z h1 h2 with h3|⟨b',o',z',h3,h4⟩
  ·exact .inl h3
  ·exact .inr ⟨b',o',z',h3,live h4⟩
 ·by_cases q:s.h.get b=none
  ·rw [hv1 b h1 q] at h2;exact h2
  ·exact live q
 ·rw [hvn,←hnx];exact h.nx
def bf.sub {t:S} (hc:bf c w t) (hnx:s.nx=t.nx) (hsub:∀ b,s.h.get b=none∨s.h.get b=t.h.get b):bf c w s:=by
 have live:∀ {b},s.h.get b≠none→t.h.get b≠none:=fun {b} hb=>by
  rcases hsub b with h1|h1
  ·exact absurd h1 hb
  ·rw [←h1];exact hb
 refine ⟨fun b k o z h=>by rw [hnx];exact hc.lt b k o z h,fun b b' k o o' z z' h1 h2 l1 l2=>hc.inj b b' k o o' z z' h1 h2 (live l1) (live l2),fun b k o z x h hx=>?_⟩;rcases hsub b with h1|h1
 ·rw [h1] at hx;cases hx
 ·exact hc.blk b k o z x h (by rw [←h1];exact hx)
section congr
variable {fr fr':Fr}
theorem fill_congr {place:Nat→Option (Nat×Nat)}:∀ (ps:List (Nat×Operand)) (cs:List V),(∀ p∈ps,ev fr p.2=ev fr' p.2)→fill place fr cs ps=fill place fr' cs ps
 |[],_,_=>rfl
 |(i,x)::r,cs,h=>by
  have h1:ev fr x=ev fr' x:=h (i,x) (by simp);have h2:=fun cs=>fill_congr (place:=place) r cs fun p hp=>h p (by simp [hp]);simp only [fill,h1,h2]
def qw (dflt:Nat) (o:Option Operand) (h:∀ x∈o,ev fr x=ev fr' x):bound fr dflt o=bound fr' dflt o:=by
 cases o with
 |none=>rfl
 |some x=>simp only [bound,h x rfl]
def evs_congr (l:List Operand) (h:∀ x∈l,ev fr x=ev fr' x):evs fr l=evs fr' l:=by
 rw [evs_map,evs_map];exact abQ h
def evalOp_congr (o:Op) {id:Nat} (h:∀ x∈o.operands,ev fr x=ev fr' x):evalOp P o fr s id=evalOp P o fr' s id:=by
 cases o<;>simp only [Op.operands] at h<;>simp only [evalOp]
 case build t ps=>
  have hp:∀ p∈ps.toList,ev fr p.2=ev fr' p.2:=fun p hp=>h p.2 (by simp;exact ⟨p.1,by simpa using hp⟩)
  simp only [jF,fun place cs=>fill_congr (place:=place) ps.toList cs hp]
 case buildSlice t n ps=>
  have hp:∀ p∈ps.toList,ev fr p.2=ev fr' p.2:=fun p hp=>h p.2 (by simp;exact ⟨p.1,by simpa using hp⟩)
  simp only [eW,fun place cs=>fill_congr (place:=place) ps.toList cs hp]
 case makeFunc fn first captured=>
  have:evs fr captured.toList=evs fr' captured.toList:=evs_congr _ fun x hx=>h x (by simp at hx;simp [hx])
  cases fn<;>simp only [this]
 case slice t x lo hi mx=>
  have hx:=h x (by simp)
  have hlo:=fun d=>qw (fr:=fr) (fr':=fr') d lo fun y hy=>h y (by simp at hy;simp [hy])
  have hhi:=fun d=>qw (fr:=fr) (fr':=fr') d hi fun y hy=>h y (by simp at hy;simp [hy])
  have hmx:=fun d=>qw (fr:=fr) (fr':=fr') d mx fun y hy=>h y (by simp at hy;simp [hy])
  cases mx<;>cases hi<;>simp only [Lx,evalSlice3,hx,hlo,hhi,hmx]
 case call c=>
  obtain ⟨callee,args,ats⟩:=c
  have:evs fr args.toList=evs fr' args.toList:=evs_congr _ fun x hx=>h x (by simp at hx;simp [Call.operands,hx])
  cases callee<;>simp only [this]
 case next x b=>cases b<;>simp_all
 case makeMap t r=>cases r<;>rfl
 case pick c a b=>simp only [h c (by simp),h a (by simp),h b (by simp)]
 all_goals (first|rfl|(simp_all;done))
end congr
def jj {α β:Type} {o:Option α} {s s':β} {v:α} (h:o.map (·,s)=some (v,s')):s'=s∧o=some v:=by
 cases o<;>simp_all
def wF {o:Op} {fr:Fr} {s s':S} {id:Nat} {v:V} (hq:kind o=0) (h:evalOp P o fr s id=some (v,s')):s'=s∧∀ s1 id1,evalOp P o fr s1 id1=some (v,s1):=by
 cases o<;>(try (simp [kind] at hq;done))<;>simp only [evalOp] at h ⊢
 case call c=>
  obtain ⟨callee,args,ats⟩:=c
  cases callee with
  |builtin b=>
   cases b<;>(try (simp [kind] at hq;done))<;>simp only [dP] at h ⊢ <;>
   ·split at h<;>first
     |(obtain ⟨rfl,h2⟩:=jj h;exact ⟨rfl,fun s1 id1=>by simp_all⟩)
     |simp_all
  |_=>simp [kind] at hq
 case nilCheck x=>split at h<;>simp_all
 case pick a b c=>split at h<;>simp_all
 case makeFunc fn first captured=>cases fn<;>simp_all
 case makeInterface t x=>split at h<;>simp_all
 case slice t x lo hi mx=>
  cases mx with
  |none=>obtain ⟨rfl,h2⟩:=jj h;exact ⟨rfl,fun s1 id1=>by simp only [];rw [h2];rfl⟩
  |some z=>
   cases hi with
   |none=>simp at h
   |some y=>obtain ⟨rfl,h2⟩:=jj h;exact ⟨rfl,fun s1 id1=>by simp only [];rw [h2];rfl⟩
 all_goals first
  |(obtain ⟨rfl,h2⟩:=jj h;exact ⟨rfl,fun s1 id1=>by rw [h2];rfl⟩)
  |simp_all
def evalOp_alloc {o:Op} {fr:Fr} {s s':S} {id:Nat} {v:V} (hq:kind o=2) (h:evalOp P o fr s id=some (v,s')):∃ x,s'=s.put id x∧∀ s1,evalOp P o fr s1 id=some (v,s1.put id x):=by
 cases o<;>(try (simp [kind] at hq;done))<;>simp only [evalOp] at h ⊢
 case call c=>
  obtain ⟨callee,args,ats⟩:=c
  cases callee with
  |builtin b=>cases b<;>simp [kind] at hq
  |_=>simp [kind] at hq
 case alloc e=>
  split at h<;>simp only [aal,aaq,reduceCtorEq] at h
  obtain ⟨rfl,rfl⟩:=h
  exact ⟨_,rfl,fun s1=>rfl⟩
 case box e x=>
  split at h<;>simp only [aal,aaq,reduceCtorEq] at h
  obtain ⟨rfl,rfl⟩:=h
  exact ⟨_,rfl,fun s1=>rfl⟩
 case buildSlice t n ps=>
  simp only [eW] at h ⊢
  split at h
  case h_2=>simp at h
  split at h
  case h_2=>simp at h
  split at h
  case isFalse=>simp at h
  rename_i hcond
  split at h<;>simp only [aal,aaq,reduceCtorEq] at h
  obtain ⟨rfl,rfl⟩:=h
  exact ⟨_,rfl,fun s1=>by rw [if_pos hcond]⟩
 case makeMap t r=>
  cases r with
  |some z=>simp at h
  |none=>
   simp only at h ⊢
   split at h<;>simp only [aal,aaq,reduceCtorEq] at h
   obtain ⟨rfl,rfl⟩:=h
   exact ⟨_,rfl,fun s1=>rfl⟩
 case makeSlice t l m=>
  unfold evalMake at h ⊢
  split at h
  case h_2=>simp at h
  split at h
  case h_2=>simp at h
  split at h<;>simp only [aal,aaq,reduceCtorEq] at h
  rename_i hcond
  obtain ⟨rfl,rfl⟩:=h
  exact ⟨_,rfl,fun s1=>by simp only [*];simp⟩
 case range t x=>
  unfold mT at h ⊢
  split at h
  case h_2=>simp at h
  split at h<;>simp only [aal,aaq,reduceCtorEq] at h
  rename_i hcond
  obtain ⟨rfl,rfl⟩:=h
  exact ⟨_,rfl,fun s1=>by simp only [*];simp⟩
def iZ {o:Op} {fr:Fr} {s s':S} {id:Nat} {v:V} (hq:kind o=1) (h:evalOp P o fr s id=some (v,s')):s'=s:=by
 cases o<;>(try (simp [kind] at hq;done))<;>simp only [evalOp] at h
 case call c=>
  obtain ⟨callee,args,ats⟩:=c
  cases callee with
  |builtin b=>
   cases b<;>(try (simp [kind] at hq;done))
   simp only [dP] at h
   split at h<;>first
    |exact (jj h).1
    |simp_all
  |_=>simp [kind] at hq
 all_goals exact (jj h).1
