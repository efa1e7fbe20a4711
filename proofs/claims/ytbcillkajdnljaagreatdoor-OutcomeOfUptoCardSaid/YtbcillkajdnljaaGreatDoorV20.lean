import Derived.Test.YtbcillkajdnljaaGreatDoorV19
set_option linter.all false
set_option maxHeartbeats 8000000
set_option maxRecDepth 20000
namespace Go.Proofs.YtbcillkajdnljaaGreatDoor
open Tryz
open Go.Abs
attribute [local irreducible] AW OX GQ bK bO bz aY aA
variable {G:World→Nat→Prop}
def app_key (B:List ec) (K:List (Nat×Nat×Nat)) (k:aF) (l:List aF) (hl:l.length≤1048576):
  Bt prog (some (9,1,16)) (some (.sl (bt l))) (.own K.length [[.str k]]) ⟨B,K++[(9,1,1)]⟩=some (.own K.length (bt (k::l)),⟨B,K++[(9,1,(k::l).length)]⟩):=by
 have hz:dy prog 9=some 1:=by kernel_rfl
 have hm:maxLen=9223372036854775807:=by decide
 have hr:dA 1 (bt l)=true:=by simp [dA,bt,D.one]
 have he:(bt l).length=l.length:=iP l
 rw [mV,hz,hr]
 simp only [jt]
 rw [if_pos ⟨trivial,by omega,trivial⟩,if_pos ⟨by simp,by rfl,by simp [rS,he];omega,by simp [he,hm];omega⟩]
 cases l with
 |nil=>simp [bt]
 |cons a r=>simp [bt];omega
def cm_caches (ga:GA G) (st:St) (b n:Nat) (q:aF→Option Nat) (hB:st.aj[b]?=some (.mp .str n (ixM q))) (l:List Jb) (j:Jb) (gj:gJb j):Ly prog G 95 [vCk l b,vJb j] st ai:=by
 have hbl:=(aao.1 hB).1;have hcl:=gj.caches.1;unfold Ly;refine aA.start func95 rfl ntmps95 (by simp) fun _ ag=>?_;simp (disch:=omega) only [go_sem,seval,cX ag];all_goals (try subst ag)
 refine AW.zU (fun i:Nat=>[(14,.d (.sl (j.caches.map Csh.enc))),(15,ai ↑j.caches.length),(16,ai ↑i)]) (fun _=>[.cells [.d (.sl (l.map Jb.enc)),.mp b],.cells (j.enc.map .d)]) (fun _=>[]) (fun i=>i≤j.caches.length) (fun i=>j.caches.length - i) 0 ⟨by simp,by simp (disch:=omega) only [go_sem,seval]⟩ (by simp) ?_;intro i hi;by_cases hil:i<j.caches.length
 ·have gc:=gj.caches.2 _ (aB hil);generalize hx:j.caches.getD i default=x at gc;have hrl:=gc.restore.1;have hpt:=fun st=>cm_patterns (G:=G) x.files gc.files st;refine AW.cutN 2 rfl fun K hK _ ag=>?_;simp (disch:=omega) only [go_sem,seval,cX ag];(repeat' first|apply cq.l|refine cE.i fun hc=>?_)<;>try subst ag
  refine cB.i (hK _ _ ?_);refine AW.oA fun K2 hK2=>?_;refine AW.block ?_;refine AW.cutN 1 rfl fun K hK _ ag=>?_;simp (disch:=omega) only [go_sem,seval,cX ag,hx];(repeat' apply cq.l)<;>try subst ag
  refine cB.i (hK _ _ ?_);refine AW.oA fun K3 hK3=>?_;refine AW.oA fun K4 hK4=>?_;have ha:=fun bl=>app_key bl st.toks x.key x.restore hrl;refine AW.regL 2 (by rfl) (by simp (disch:=omega) only [go_sem,seval];try exact rfl) fun K5 hK5=>OPW.mkL (e:=9) (sz:=1) (by_:=16) (rs:=[[.str x.key]]) (by rfl) (by rfl) (by simp (disch:=omega) only [go_sem,seval];try exact rfl) (by simp (disch:=omega) only [go_sem,seval]) (hK5 _ _ (OW.endR (by simp (disch:=omega) only [go_sem,seval,ha,aav,aaA];try exact rfl) (KT (hK4 _ _ ?_))));refine Wk.go fun _ ag=>?_;simp (disch:=omega) only [go_sem,seval,cX ag];all_goals (try subst ag)
  refine AW.zU (fun k:Nat=>[(6,.ptr (st.aj.length+2) 0),(14,.d (.sl (j.caches.map Csh.enc))),(15,ai ↑j.caches.length),(16,ai ↑i),(25,.own st.toks.length (bt (x.key::x.restore))),(26,ai ↑(x.key::x.restore).length),(27,ai ↑k)]) (fun _=>[.cells [.d (.sl (l.map Jb.enc)),.mp b],.cells (j.enc.map .d),.cells (x.enc.map .d)]) (fun _=>[(9,1,(x.key::x.restore).length)]) (fun k=>k≤(x.key::x.restore).length) (fun k=>(x.key::x.restore).length - k) 0 ⟨by simp,by simp (disch:=omega) only [go_sem,seval]⟩ (by simp) ?_;have hks:∀ s∈x.key::x.restore,s.length≤1048576:=fun s hs=>by
   rcases abc.1 hs with rfl|hs
   ·exact gc.key
   ·exact gc.restore.2 s hs
  have hkl:(x.key::x.restore).length≤1048577:=by simp only [aav];omega
  generalize x.key::x.restore=ks at hks hkl;intro k hk;by_cases hkk:k<ks.length
  ·have hp:=fun st=>ip_Parts (G:=G) ga (ks.getD k default) (hks _ (aB hkk)) st;refine Wk.go fun _ ag=>?_;simp (disch:=omega) only [go_sem,seval,cX ag,yT (hp _),ptV,wr];(repeat' first|apply cq.l|apply bg.i|refine cE.i fun hc=>?_|refine aQ.i ⟨?_,rfl⟩|refine fB.i fun j=>?_)<;>try subst ag
   ·exact ⟨_,rfl⟩
   refine cB.i ⟨k+1,⟨by simp (disch:=omega) only [go_sem,seval,aas,aau]<;>omega,?_,?_⟩⟩
   all_goals omega
  ·refine Wk.go fun _ ag=>?_;simp (disch:=omega) only [go_sem,seval,cX ag];(repeat' first|apply cq.l|refine cE.i fun hc=>?_)<;>try subst ag
   refine cB.i (hK3 _ _ ?_);refine Wk.go fun _ ag=>?_;simp (disch:=omega) only [go_sem,seval,cX ag,yT (hpt _),wr];(repeat' first|apply cq.l|apply bg.i|refine cE.i fun hc=>?_|refine aQ.i ⟨?_,rfl⟩|refine fB.i fun j=>?_)<;>try subst ag
   ·exact ⟨_,rfl⟩
   refine cB.i (hK2 _ _ ?_);refine Wk.go fun _ ag=>?_;simp (disch:=omega) only [go_sem,seval,cX ag];(repeat' apply cq.l)<;>try subst ag
   refine cB.i ⟨i+1,⟨by simp (disch:=omega) only [go_sem,seval]<;>omega,?_,?_⟩⟩
   all_goals omega
 ·refine Wk.go fun _ ag=>?_;simp (disch:=omega) only [go_sem,seval,cX ag];(repeat' first|apply cq.l|refine cE.i fun hc=>?_|refine aQ.i ⟨?_,rfl⟩)<;>try subst ag
  all_goals exact ⟨_,rfl⟩
def cm_rest (ga:GA G) (gm:GM G) (st:St) (b n:Nat) (q:aF→Option Nat) (hB:st.aj[b]?=some (.mp .str n (ixM q))) (l:List Jb) (j:Jb) (gj:gJb j):Ly prog G 63 [vCk l b,vJb j] st ai:=by
 have hw:=fun a b c=>cm_within (G:=G) a b c;have he:=fun (p:aF→Bool) g (ks:List aF) (h:gKs ks) (hh:HasOK G g p ks)=>cm_each (G:=G) g p ks h.2 (by have:=h.1;omega) hh;have e1:=he _ _ j.e6 gj.e6 (has_name _ gj.e6.2);have e2:=he _ _ j.secrets gj.secrets (has_name _ gj.secrets.2);have e3:=he _ _ j.gate.xF gj.gate.xF (has_name _ gj.gate.xF.2);have e4:=he _ _ j.tests gj.tests (has_path gm _ gj.tests.2);have hn:=i_Name (G:=G) j.aah (by have:=gj.aah;omega);have hcc:=cm_caches (G:=G) ga ⟨st.aj++[.cells [.d (.sl (l.map Jb.enc)),.mp b],.cells (j.enc.map .d)],st.toks⟩ b n q (fU hB) l j gj;have ha:=gj.gate.xF.1;unfold Ly;refine aA.body func63 rfl ntmps63 (by simp) ?_;refine AW.cutE 3 (τ:=Unit) (fun _=>True) (fun _=>[(3,.ptr (st.aj.length+1) 0)]) (fun _=>⟨st.aj++[.cells [.d (.sl (l.map Jb.enc)),.mp b],.cells (j.enc.map .d)],st.toks⟩) rfl (fun K hK _ ag=>?_) fun _ _=>?_
 ·simp (disch:=omega) only [go_sem,seval,cX ag,bC (e1 _),bC (e2 _),yT hcc,wr];(repeat' first|apply cq.l|apply bg.i|refine cE.i fun hc=>?_|refine aQ.i ⟨?_,rfl⟩|refine fB.i fun j=>?_)<;>try subst ag
  all_goals first|exact ⟨_,rfl⟩|exact cB.i (hK () _ trivial (by simp only [go_sem,seval]))
 refine AW.cutE 1 (τ:=Unit) (fun _=>True) (fun _=>[(3,.ptr (st.aj.length+1) 0)]) (fun _=>⟨st.aj++[.cells [.d (.sl (l.map Jb.enc)),.mp b],.cells (j.enc.map .d)],st.toks⟩) rfl (fun K hK _ ag=>?_) fun _ _=>?_
 ·simp (disch:=omega) only [go_sem,seval,cX ag,bC (hn _)];(repeat' first|apply cq.l|apply bg.i|refine cE.i fun hc=>?_|refine aQ.i ⟨?_,rfl⟩)<;>try subst ag
  all_goals first|exact ⟨_,rfl⟩|exact cB.i (hK () _ trivial (by simp only [go_sem,seval]))
 refine AW.cutE 1 (τ:=Unit) (fun _=>True) (fun _=>[(3,.ptr (st.aj.length+1) 0),(6,.ptr (st.aj.length+2) 0)]) (fun _=>⟨st.aj++[.cells [.d (.sl (l.map Jb.enc)),.mp b],.cells (j.enc.map .d),.cells (j.gate.enc.map .d)],st.toks⟩) rfl (fun K hK _ ag=>?_) fun _ _=>?_
 ·simp only [go_sem,seval,cX ag];(repeat' apply cq.l)<;>try subst ag
  all_goals exact cB.i (hK () _ trivial (by simp only [go_sem,seval]))
 refine AW.oA fun K hK=>?_;refine AW.block ?_;refine AW.ifB [(3,.ptr (st.aj.length+1) 0),(6,.ptr (st.aj.length+2) 0)] ⟨st.aj++[.cells [.d (.sl (l.map Jb.enc)),.mp b],.cells (j.enc.map .d),.cells (j.gate.enc.map .d)],st.toks⟩ rfl (fun K hK _ ag=>?_) ?_ ?_
 ·simp (disch:=omega) only [go_sem,seval,cX ag];(repeat' first|apply cq.l|apply bg.i|refine cE.i fun hc=>?_)<;>try subst ag
  all_goals exact cB.i (hK _ _ ⟨rfl,by simp only [go_sem,seval]⟩)
 ·refine Wk.go fun _ ag=>?_;simp only [go_sem,seval,cX ag];(repeat' first|apply cq.l|refine aQ.i ⟨?_,rfl⟩)<;>try subst ag
  all_goals exact ⟨_,rfl⟩
 refine AW.ifB [(3,.ptr (st.aj.length+1) 0),(6,.ptr (st.aj.length+2) 0)] ⟨st.aj++[.cells [.d (.sl (l.map Jb.enc)),.mp b],.cells (j.enc.map .d),.cells (j.gate.enc.map .d)],st.toks⟩ rfl (fun K hK _ ag=>?_) ?_ ?_
 ·simp (disch:=omega) only [go_sem,seval,cX ag,bC (e3 _)];(repeat' first|apply cq.l|apply bg.i|refine cE.i fun hc=>?_)<;>try subst ag
  all_goals exact cB.i (hK _ _ ⟨rfl,by simp only [go_sem,seval]⟩)
 ·refine Wk.go fun _ ag=>?_;simp only [go_sem,seval,cX ag];(repeat' first|apply cq.l|refine aQ.i ⟨?_,rfl⟩)<;>try subst ag
  all_goals exact ⟨_,rfl⟩
 refine AW.ifB [(3,.ptr (st.aj.length+1) 0),(6,.ptr (st.aj.length+2) 0)] ⟨st.aj++[.cells [.d (.sl (l.map Jb.enc)),.mp b],.cells (j.enc.map .d),.cells (j.gate.enc.map .d)],st.toks⟩ rfl (fun K hK _ ag=>?_) ?_ ?_
 ·simp (disch:=omega) only [go_sem,seval,cX ag,bC (hw _ _ _ _)];(repeat' first|apply cq.l|apply bg.i|refine cE.i fun hc=>?_)<;>try subst ag
  all_goals exact cB.i (hK _ _ ⟨rfl,by simp only [go_sem,seval]⟩)
 ·refine Wk.go fun _ ag=>?_;simp only [go_sem,seval,cX ag];(repeat' first|apply cq.l|refine aQ.i ⟨?_,rfl⟩)<;>try subst ag
  all_goals exact ⟨_,rfl⟩
 refine AW.ifB [(3,.ptr (st.aj.length+1) 0),(6,.ptr (st.aj.length+2) 0)] ⟨st.aj++[.cells [.d (.sl (l.map Jb.enc)),.mp b],.cells (j.enc.map .d),.cells (j.gate.enc.map .d)],st.toks⟩ rfl (fun K hK _ ag=>?_) ?_ ?_
 ·simp only [go_sem,seval,cX ag,bC (e4 _)];(repeat' apply cq.l)<;>try subst ag
  all_goals exact cB.i (hK _ _ ⟨rfl,by simp only [go_sem,seval]⟩)
 ·refine Wk.go fun _ ag=>?_;simp only [go_sem,seval,cX ag];(repeat' first|apply cq.l|refine aQ.i ⟨?_,rfl⟩)<;>try subst ag
  all_goals exact ⟨_,rfl⟩
 refine AW.ifB [(3,.ptr (st.aj.length+1) 0),(6,.ptr (st.aj.length+2) 0)] ⟨st.aj++[.cells [.d (.sl (l.map Jb.enc)),.mp b],.cells (j.enc.map .d),.cells (j.gate.enc.map .d)],st.toks⟩ rfl (fun K hK _ ag=>?_) ?_ ?_
 ·simp (disch:=omega) only [go_sem,seval,cX ag,bC (hw _ _ _ _)];(repeat' first|apply cq.l|apply bg.i|refine cE.i fun hc=>?_)<;>try subst ag
  all_goals exact cB.i (hK _ _ ⟨rfl,by simp only [go_sem,seval]⟩)
 ·refine Wk.go fun _ ag=>?_;simp only [go_sem,seval,cX ag];(repeat' first|apply cq.l|refine aQ.i ⟨?_,rfl⟩)<;>try subst ag
  all_goals exact ⟨_,rfl⟩
 refine Wk.go fun _ ag=>?_;simp only [go_sem,seval,cX ag];(repeat' apply cq.l)<;>try subst ag
 refine cB.i (hK _ _ ?_);refine Wk.go fun _ ag=>?_;simp only [go_sem,seval,cX ag];(repeat' first|apply cq.l|refine aQ.i ⟨?_,rfl⟩)<;>try subst ag
 all_goals exact ⟨_,rfl⟩
def mk_sb:mM prog 155=some (.str,4):=by kernel_rfl
def zv_bool:zeroV prog 4=some (vb false):=by kernel_rfl
def c_CloneS0:b8 G 140 [.d (.sl [])] (.d (.sl [])):=by
 intro st;have hz:dy prog 9=some 1:=by kernel_rfl
 have ha:=fun bl=>app_new (P:=prog) 9 1 16 bl st.toks [] hz (by decide) rfl (by decide) (by decide);refine aA.body func140 rfl ntmps140 (by simp) ?_;refine AW.oA fun K hK=>?_;refine Wk.go fun _ ag=>?_;simp (disch:=omega) only [go_sem,seval,cX ag];(repeat' apply cq.l)<;>try subst ag
 refine cB.i (hK _ _ ?_);refine AW.oA fun K2 hK2=>?_;refine AW.oA fun K3 hK3=>?_;refine AW.regL 1 (by rfl) (by simp (disch:=omega) only [go_sem,seval];try exact rfl) fun K4 hK4=>OPW.nilEq (e:=9) (sz:=1) (by_:=16) (es:=[]) (by rfl) (by rfl) (by simp (disch:=omega) only [go_sem,seval]) (by simp (disch:=omega) only [go_sem,seval]) fun b hb=>hK4 _ _ (OW.endR (by rfl) (KT (hK3 _ _ ?_)));cases b
 ·refine Wk.go fun _ ag=>?_;simp (disch:=omega) only [go_sem,seval,cX ag];(repeat' apply cq.l)<;>try subst ag
  refine cB.i (hK2 _ _ ?_);refine AW.oA fun K5 hK5=>?_;refine AW.regL 0 (by rfl) (by rfl) fun K6 hK6=>OPW.mk0 (e:=9) (sz:=1) (by_:=16) (by rfl) (by rfl) (by simp (disch:=omega) only [go_sem,seval]) (by kernel_rfl) (by decide) (hK6 _ _ (OW.endR (by simp (disch:=omega) only [go_sem,seval,ha];try exact rfl) (KT (hK5 _ _ ?_))));refine Wk.go fun _ ag=>?_;simp (disch:=omega) only [go_sem,seval,cX ag];(repeat' first|apply cq.l|refine aQ.i ⟨?_,rfl⟩)<;>try subst ag
  rfl
 ·refine Wk.go fun _ ag=>?_;simp (disch:=omega) only [go_sem,seval,cX ag];(repeat' first|apply cq.l|refine aQ.i ⟨?_,rfl⟩)<;>try subst ag
  rfl
theorem sub_len:∀ {s U:List aF},s.Nodup→s ⊆ U→s.length≤U.length
 |[],_,_,_=>aaK _
 |a::s,U,hn,hs=>by
  have ha:a∈U:=hs (by simp);obtain ⟨h1,h2⟩:=List.nodup_cons.1 hn;have:=sub_len h2 (U:=U.erase a) fun x hx=>(List.mem_erase_of_ne (by rintro rfl;exact h1 hx)).2 (hs (by simp [hx]));rw [List.length_erase_of_mem ha] at this;have:=List.length_pos_of_mem ha;simp only [aav];omega
structure Wl where
 stk:List aF
 tail:List V
 cap:Nat
 seen:List aF
 n:Nat
def Wl.cs (x:Wl):List V:=x.stk.map (fun s=> .d (.str s))++x.tail
structure Wl.ok (U:List aF) (x:Wl):Prop where
 sub:x.stk ⊆ U
 ssub:x.seen ⊆ U
 nd:x.seen.Nodup
 len:x.cs.length=x.cap
 cap:x.cap≤maxLen
 w:∀ N M,V.within.all N M x.tail=true
 few:x.stk.length≤(x.seen.length+1)*1048576
def Wl.cs_w {x:Wl} (h:∀ N M,V.within.all N M x.tail=true) (N M:Nat):V.within.all N M x.cs=true:=by
 refine cS.2 fun i hi=>?_;unfold Wl.cs at hi ⊢;rw [aax,aaC] at hi;rw [aam];by_cases h1:i<x.stk.length
 ·rw [aaz (by rw [aaC];exact h1),aaw (by rw [aaC];exact h1),List.getElem_map];rfl
 ·rw [aay (by rw [aaC];omega),←aam,aaC];exact cS.1 (h N M) _ (by omega)
def lookX_ix0 (o:Option Nat):vq false (some (ai 0)) (o.map fun i:Nat=>D.int .i64 (i:Int))=some (ai ↑(o.getD 0)):=by cases o<;>rfl
def lkA_b (n:Nat) (f:D→Option D) (s:aF) (h:s.length≤9223372036854775807):T4 prog (some (.str,4)) (some (.mp .str n f)) (.str s) false=vq false (some (vb false)) (f (.str s)):=by
 rw [Ts _ _ _ _ _ h,zv_bool]
theorem all_d (N M:Nat):∀ ds:List D,V.within.all N M (ds.map .d)=true
 |[]=>rfl
 |_::r=>all_d N M r
def Wl.pop (s1:List aF) (s:aF) (tail:List V) (cap:Nat) (seen:List aF) (m:Nat):Wl.cs ⟨s1++[s],tail,cap,seen,m⟩=Wl.cs ⟨s1,.d (.str s)::tail,cap,seen,m⟩:=by simp [Wl.cs]
def Wl.top (s1:List aF) (s:aF) (tail:List V) (cap:Nat) (seen:List aF) (m:Nat):(Wl.cs ⟨s1,.d (.str s)::tail,cap,seen,m⟩)[s1.length]?=some (.d (.str s)):=by
 rw [Wl.cs,aay (by rw [aaC];exact aat _),aaC,Nat.sub_self];rfl
def winCs_S (a l:List aF) (m:Nat):winCs (a.map fun s=> .d (.str s)) (bt l) m=(a++l).map (fun s=> .d (.str s))++List.replicate (m - (a.length+l.length)) .aU:=by
 have h:(bt l).flatten=l.map D.str:=by induction l<;>simp_all [bt]
 simp [winCs,h]
def rep_w (k N M:Nat):V.within.all N M (List.replicate k .aU)=true:=by
 refine cS.2 fun i hi=>?_;rw [aam,List.getElem?_replicate];split<;>rfl
def cm_above (st:St) (b n:Nat) (q:aF→Option Nat) (hB:st.aj[b]?=some (.mp .str n (ixM q))) (l:List Jb) (hq:∀ s,(q s).getD 0<l.length) (hl:∀ x∈l,gJb x) (hU:(allN l).length≤1048576) (jb:Jb) (hj:jb∈l):
  aA prog G 92 [vCk l b,vJb jb] st (fun o s=>∃ x:Nat×List aF,o= .ret (.mp (st.aj.length+2))∧s=⟨st.aj++[.cells [.d (.sl (l.map Jb.enc)),.mp b],.cells (jb.enc.map .d),.mp .str x.1 (seM x.2)],st.toks⟩):=by
 have gj:=hl jb hj
 have hbl:=(aao.1 hB).1
 have hjU:∀ x∈l,x.n8 ⊆ allN l:=fun x hx y hy=>List.mem_flatMap.2 ⟨x,hx,hy⟩
 by_cases h0:jb.n8=[]
 ·have hc:=c_CloneS0 (G:=G)
  have e0:bt jb.n8=[]:=by rw [h0];rfl
  refine aA.startN func92 rfl ntmps92 (by simp) fun _ ag=>?_
  simp (disch:=omega) only [go_sem,seval,cX ag,mk_sb,e0,bC (hc _)];(repeat' apply cq.l)<;>try subst ag
  refine AW.zU (fun _:Unit=>[(5,.mp (st.aj.length+2)),(6,.d (.sl []))]) (fun _=>[.cells [.d (.sl (l.map Jb.enc)),.mp b],.cells (jb.enc.map .d),.mp .str 0 (seM [])]) (fun _=>[]) (fun _=>True) (fun _=>0) () ⟨by simp [seM_nil],by simp (disch:=omega) only [go_sem,seval]⟩ trivial ?_
  intro _ _
  refine Wk.go fun _ ag=>?_;simp (disch:=omega) only [go_sem,seval,cX ag];(repeat' apply cq.l)<;>try subst ag
  refine retB [.cells [.d (.sl (l.map Jb.enc)),.mp b],.cells (jb.enc.map .d),.mp .str 0 (seM [])] [] ⟨by simp [abF],by simp⟩ ?_ ⟨rfl,rfl,by simp [eD,V.within]⟩ ⟨(0,[]),rfl,by simp⟩
  simp [ec.within,V.within,V.within.all,all_d];omega
 have hC:=(c_CloneS (G:=G) jb.n8 h0 (by have:=gj.n8.1;omega) ⟨st.aj++[.cells [.d (.sl (l.map Jb.enc)),.mp b],.cells (jb.enc.map .d),.mp .str 0 fun _=>none],st.toks⟩).mono (R':=fun o s=>∃ x:{ c:Nat // jb.n8.length≤c∧c≤maxLen },o= .ret (.win (st.aj.length+3) jb.n8.length x.1)∧s=⟨st.aj++[.cells [.d (.sl (l.map Jb.enc)),.mp b],.cells (jb.enc.map .d),.mp .str 0 fun _=>none,.tc 9 (winCs [] (bt jb.n8) (x.1*1))],st.toks⟩) (by
  rintro o s ⟨c,h1,h2,rfl,rfl⟩;exact ⟨⟨c,h1,h2⟩,by simp,by simp⟩)
 refine aA.startN func92 rfl ntmps92 (by simp) fun _ ag=>?_
 simp (disch:=omega) only [go_sem,seval,cX ag,mk_sb,CQ_xs hC,wr];(repeat' first|apply cq.l|refine fB.i fun j=>?_)<;>try subst ag
 have hjl:=j.2
 refine AW.zU (fun x:Wl=>[(2,.ptr st.aj.length 0),(5,.mp (st.aj.length+2)),(6,.win (st.aj.length+3) x.stk.length x.cap)]) (fun x=>[.cells [.d (.sl (l.map Jb.enc)),.mp b],.cells (jb.enc.map .d),.mp .str x.n (seM x.seen),.tc 9 x.cs]) (fun _=>[]) (fun x=>x.ok (allN l)) (fun x=>((allN l).length - x.seen.length)*1048577+x.stk.length)
  ⟨jb.n8,List.replicate (j.1 - jb.n8.length) .aU,j.1,[],0⟩ ⟨by have:=winCs_S [] jb.n8 j.1;simp only [aaI] at this;simp [seM_nil,Wl.cs,this],by simp (disch:=omega) only [go_sem,seval]⟩ ?_ ?_
 ·refine ⟨hjU jb hj,by simp,by simp,?_,hjl.2,rep_w _,?_⟩
  ·simp [Wl.cs];omega
  ·have:=gj.n8.1
   simp;omega
 rintro ⟨stk,tail,cap,seen,m⟩ ⟨x1,x2,x3,x4,x5,x6,x7⟩
 simp only at x1 x2 x3 x4 x5 x6 x7
 have hsl:=sub_len x3 x2
 rcases List.eq_nil_or_concat stk with rfl|⟨s1,s,hst⟩
 ·refine Wk.go fun _ ag=>?_;simp (disch:=omega) only [go_sem,seval,cX ag];(repeat' apply cq.l)<;>try subst ag
  refine retB [.cells [.d (.sl (l.map Jb.enc)),.mp b],.cells (jb.enc.map .d),.mp .str m (seM seen)] [] ⟨by simp [abF],by simp⟩ ?_ ⟨rfl,rfl,by simp [eD,V.within]⟩ ⟨(m,seen),rfl,by simp⟩
  simp [ec.within,V.within,V.within.all,all_d];omega
 rw [List.concat_eq_append] at hst
 subst hst
 have hsU:s∈allN l:=x1 (by simp)
 have hs:s.length≤1048576:=by
  obtain ⟨x,hx,hy⟩:=List.mem_flatMap.1 hsU;exact (hl x hx).n8.2 s hy
 have e1:((s1.length+1:Nat):Int) - 1=(s1.length:Int):=by omega
 rw [Wl.pop] at x4 ⊢
 rw [aax,aav,aaA] at x7
 have x1s:s1 ⊆ allN l:=fun y hy=>x1 (by simp [hy])
 have xt:∀ N M,V.within.all N M (.d (.str s)::tail)=true:=fun N M=>by rw [V.within.all,x6];rfl
 have hw:=fun N M=>Wl.cs_w (x:=⟨s1,.d (.str s)::tail,cap,seen,m⟩) xt N M
 have hk:s1.length+1≤cap:=by
  have:=x4;simp only [Wl.cs,aax,aaC,aav] at this;omega
 by_cases hin:s∈seen
 ·refine Wk.go fun _ ag=>?_;simp (disch:=omega) only [go_sem,seval,cX ag,mk_sb,lkA_b,seM_in hin,e1,Int.toNat_natCast,Nat.mul_one,Wl.top];(repeat' first|apply cq.l|refine cE.i fun hc=>?_)<;>try subst ag
  refine cB.i ⟨⟨s1,.d (.str s)::tail,cap,seen,m⟩,⟨by simp (disch:=omega) only [go_sem,seval,hw,aax,aav,aaA,aas,aau,all_d]<;>omega,?_,?_⟩⟩
  ·exact ⟨x1s,x2,x3,x4,x5,xt,by simp only;omega⟩
  ·simp only [aax,aav,aaA];omega
 refine AW.cutN 1 rfl fun K hK _ ag=>?_
 simp (disch:=omega) only [go_sem,seval,cX ag];(repeat' first|apply cq.l|refine cE.i fun hc=>?_)<;>try subst ag
 refine cB.i (hK _ _ ?_)
 refine AW.block ?_
 refine AW.cutN 3 rfl fun K hK _ ag=>?_
 simp (disch:=omega) only [go_sem,seval,cX ag,mk_sb,lkA_b,seM_out hin,e1,Int.toNat_natCast,Nat.mul_one,Wl.top];(repeat' apply cq.l)<;>try subst ag
 refine cB.i (hK _ _ ?_)
 refine AW.condT (by simp (disch:=omega) only [go_sem,seval];try exact rfl) ?_
 refine AW.cutN 1 rfl fun K hK _ ag=>?_
 simp (disch:=omega) only [go_sem,seval,cX ag,mk_sb,seM_put];(repeat' apply cq.l)<;>try subst ag
 refine cB.i (hK _ _ ?_)
 have hcs:Wl.cs ⟨s1,.d (.str s)::tail,cap,s::seen,m+1⟩=Wl.cs ⟨s1,.d (.str s)::tail,cap,seen,m⟩:=rfl
 have hqs:=hq s
 have gx:=hl _ (aB hqs)
 have hnl:=gx.n8.1
 have hss:s::seen ⊆ allN l:=fun y hy=>(abc.1 hy).elim (fun h=>h▸hsU) fun h=>x2 h
 have hsn:seen.length+1≤(allN l).length:=sub_len (s:=s::seen) (List.nodup_cons.2 ⟨hin,x3⟩) hss
 by_cases hn0:(l.getD ((q s).getD 0) default).n8=[]
 ·refine AW.regL 10 (by rfl) (by simp (disch:=omega) only [go_sem,seval,JD,Ts,JE,ixM_s,lookX_ix0,fU hB];try exact rfl) fun K5 hK5=>OPW.appW0 (e:=9) (sz:=1) (by_:=16) (b:=st.aj.length+3) (k:=s1.length) (cap:=cap) (by rfl) (by rfl) (by simp (disch:=omega) only [go_sem,seval]) (by simp (disch:=omega) only [go_sem,seval]) (by simp (disch:=omega) only [go_sem,seval,hn0];first|done|rfl) (hK5 _ _ (OW.endR (by simp (disch:=omega) only [go_sem,seval];try exact rfl) (Hx (thenQ_rd ?_))))
  refine cB.i ⟨⟨s1,.d (.str s)::tail,cap,s::seen,m+1⟩,⟨by simp (disch:=omega) only [go_sem,seval,hw,hcs,aax,aav,aaA,aas,aau,all_d]<;>omega,?_,?_⟩⟩
  ·exact ⟨x1s,hss,List.nodup_cons.2 ⟨hin,x3⟩,x4,x5,xt,by simp only [aav];omega⟩
  ·simp only [aax,aav,aaA];omega
 have hxs:bt (l.getD ((q s).getD 0) default).n8≠[]:=by simpa [bt] using hn0
 have hxl:(bt (l.getD ((q s).getD 0) default).n8).length=(l.getD ((q s).getD 0) default).n8.length:=iP _
 have hm:maxLen=9223372036854775807:=by decide
 have hT:(Wl.cs ⟨s1,.d (.str s)::tail,cap,seen,m⟩).take (s1.length*1)=s1.map fun s=> .d (.str s):=by simp [Wl.cs]
 have hsub:(l.getD ((q s).getD 0) default).n8 ⊆ allN l:=hjU _ (aB hqs)
 refine AW.regL 10 (by rfl) (by simp (disch:=omega) only [go_sem,seval,JD,Ts,JE,ixM_s,lookX_ix0,fU hB];try exact rfl) fun K5 hK5=>OPW.appW (e:=9) (sz:=1) (by_:=16) (M:=[.cells [.d (.sl (l.map Jb.enc)),.mp b],.cells (jb.enc.map .d),.mp .str (m+1) (seM (s::seen))]) (K:=st.toks) (cs:=Wl.cs ⟨s1,.d (.str s)::tail,cap,seen,m⟩) (k:=s1.length) (cap:=cap) (xs:=bt (l.getD ((q s).getD 0) default).n8) (by rfl) (by rfl) (by simp (disch:=omega) only [go_sem,seval]) (by kernel_rfl) (by decide) (by simp) (aat _) ?_ (by simp (disch:=omega) only [go_sem,seval]) (by simp (disch:=omega) only [go_sem,seval]) (by rw [x4];omega) x5 ?_ (by simp [dA,bt,D.one]) hxs (by simp only [rS,hxl];omega) (by omega) [(2,.ptr st.aj.length 0),(5,.mp (st.aj.length+2))] ?_
  fun cap' hc1 hc2=>hK5 _ _ (OW.endR (by simp (disch:=omega) only [go_sem,seval];try exact rfl) (Hx (thenQ_rd ?_)))
 ·simp [ec.within,V.within,V.within.all,all_d];omega
 ·rw [hT];exact Wl.cs_w (x:=⟨s1,[],0,[],0⟩) (fun _ _=>rfl) _ _|>fun h=>by simpa [Wl.cs] using h
 ·intro p hp
  simp only [abc,List.not_mem_nil,or_false] at hp
  rcases hp with rfl|rfl
  ·exact ⟨by simp (disch:=omega) only [go_sem,seval],by simp (disch:=omega) only [go_sem,seval];first|done|simp [V.within]⟩
  ·exact ⟨by simp (disch:=omega) only [go_sem,seval],by simp (disch:=omega) only [go_sem,seval];first|done|simp [V.within]⟩
 have hcs2:winCs (s1.map fun s=> .d (.str s)) (bt (l.getD ((q s).getD 0) default).n8) (cap'*1)=Wl.cs ⟨s1++(l.getD ((q s).getD 0) default).n8,List.replicate (cap'*1 - (s1.length+(l.getD ((q s).getD 0) default).n8.length)) .aU,cap',s::seen,m+1⟩:=winCs_S _ _ _
 rw [hxl] at hc1
 have hw2:=fun N M=>Wl.cs_w (x:=⟨s1++(l.getD ((q s).getD 0) default).n8,List.replicate (cap'*1 - (s1.length+(l.getD ((q s).getD 0) default).n8.length)) .aU,cap',s::seen,m+1⟩) (rep_w _) N M
 refine cB.i ⟨⟨s1++(l.getD ((q s).getD 0) default).n8,List.replicate (cap'*1 - (s1.length+(l.getD ((q s).getD 0) default).n8.length)) .aU,cap',s::seen,m+1⟩,⟨by simp (disch:=omega) only [go_sem,seval,hT,hcs2,hw2,aax,aav,aaA,aas,aau,all_d]<;>omega,?_,?_⟩⟩
 ·refine ⟨fun y hy=>(abo.1 hy).elim (fun h=>x1s h) fun h=>hsub h,hss,List.nodup_cons.2 ⟨hin,x3⟩,?_,hc2,rep_w _,?_⟩
  ·simp only [Wl.cs,aax,aaC,List.length_replicate];omega
  ·simp only [aax,aav];omega
 ·simp only [aax,aav,aaA];omega
theorem lastF_is (s:aF) (b:UInt8):∀ n,lastF s b n= -1∨∃ k:Nat,lastF s b n=k∧k<n
 |0=> .inl rfl
 |n+1=>by
  rw [lastF];split
  ·exact .inr ⟨n,rfl,by omega⟩
  ·rcases lastF_is s b n with h|⟨k,h,hk⟩
   ·exact .inl h
   ·exact .inr ⟨k,h,by omega⟩
def cm_uses (st:St) (b n:Nat) (q:aF→Option Nat) (hB:st.aj[b]?=some (.mp .str n (ixM q))) (l:List Jb) (hq:∀ s,(q s).getD 0<l.length) (hl:∀ x∈l,gJb x) (hU:(allN l).length≤1048576) (jb:Jb) (hj:jb∈l):
  Ly prog G 62 [vCk l b,vJb jb] st ai:=by
 have gj:=hl jb hj
 have hul:=gj.uses.1
 have hbl:=(aao.1 hB).1
 have ha:=i_Ascending (G:=G) jb.uses gj.uses.2 (by omega)
 have hA:=cm_above (G:=G) ⟨st.aj++[.cells [.d (.sl (l.map Jb.enc)),.mp b],.cells (jb.enc.map .d)],st.toks⟩ b n q (fU hB) l hq hl hU jb hj
 simp only [aax,aav,aaA,aaG,aaP,aaN,aaL,abt,Nat.reduceAdd] at hA
 unfold Ly
 refine aA.start func62 rfl ntmps62 (by simp) fun _ ag=>?_
 simp (disch:=omega) only [go_sem,seval,cX ag,bC (ha _),CQ_xs hA,wr];(repeat' first|apply cq.l|apply bg.i|refine cE.i fun hc=>?_|refine aQ.i ⟨?_,rfl⟩|refine fB.i fun j=>?_)<;>try subst ag
 all_goals first|exact ⟨_,rfl⟩|skip
 refine AW.zU (fun i:Nat=>[(2,.ptr st.aj.length 0),(5,.mp (st.aj.length+4)),(21,vSs jb.uses),(22,ai ↑jb.uses.length),(23,ai ↑i)]) (fun _=>[.cells [.d (.sl (l.map Jb.enc)),.mp b],.cells (jb.enc.map .d),.cells [.d (.sl (l.map Jb.enc)),.mp b],.cells (jb.enc.map .d),.mp .str j.1 (seM j.2)]) (fun _=>[]) (fun i=>i≤jb.uses.length) (fun i=>jb.uses.length - i) 0 ⟨by simp,by simp only [go_sem,seval]⟩ (by simp) ?_
 intro i hi
 by_cases hil:i<jb.uses.length
 ·have hs:=gj.uses.2 _ (aB hil)
  generalize hx:jb.uses.getD i default=s at hs
  have h1:=st_Last (G:=G) s (by omega)
  rcases lastF_is s 47 s.length with hk|⟨k,hk,hk2⟩
  ·rw [hk] at h1
   refine Wk.go fun _ ag=>?_;simp (disch:=first|exact ⟨by kernel_rfl⟩|omega) only [go_sem,seval,cX ag,wd,hx,bC (h1 _)];(repeat' first|apply cq.l|refine cE.i fun hc=>?_|refine aQ.i ⟨?_,rfl⟩)<;>try subst ag
   all_goals exact ⟨_,rfl⟩
  ·rw [hk] at h1
   have htl:(s.take k).length≤1048576:=by rw [aan];omega
   have hqk:=hq (s.take k)
   have gx:=hl _ (aB hqk)
   have ho:=gx.e6.1
   have hC:=sl_Contains (G:=G) (l.getD ((q (s.take k)).getD 0) default).e6 (s.drop (k+1)) (by omega)
   have hB2:=fun L=>fU (m:=L) hB
   by_cases hin:s.take k∈j.2
   ·refine Wk.go fun _ ag=>?_;simp (disch:=first|exact ⟨by kernel_rfl⟩|omega) only [go_sem,seval,cX ag,wd,hx,bC (h1 _),mk_sb,JD,Ts,JE,zv_bool,seM_in hin,ixM_s,lookX_ix0,hB2,bC (hC _)];(repeat' first|apply cq.l|apply bg.i|refine cE.i fun hc=>?_|refine aQ.i ⟨?_,rfl⟩)<;>try subst ag
    all_goals first|exact ⟨_,rfl⟩|skip
    refine cB.i ⟨i+1,⟨by simp only [go_sem,seval,aas,aau]<;>omega,?_,?_⟩⟩
    all_goals omega
   ·refine Wk.go fun _ ag=>?_;simp (disch:=first|exact ⟨by kernel_rfl⟩|omega) only [go_sem,seval,cX ag,wd,hx,bC (h1 _),mk_sb,lkA_b,seM_out hin];(repeat' first|apply cq.l|refine cE.i fun hc=>?_|refine aQ.i ⟨?_,rfl⟩)<;>try subst ag
    all_goals exact ⟨_,rfl⟩
 ·refine Wk.go fun _ ag=>?_;simp (disch:=omega) only [go_sem,seval,cX ag];(repeat' first|apply cq.l|refine cE.i fun hc=>?_|refine aQ.i ⟨?_,rfl⟩)<;>try subst ag
  all_goals exact ⟨_,rfl⟩
def take_sn {α:Type} [Inhabited α] (l:List α) (i:Nat) (h:i<l.length):l.take (i+1)=l.take i++[l.getD i default]:=by
 rw [List.take_succ,aaw h,aam,aaw h];rfl
def cm_second (ga:GA G) (gm:GM G) (st:St) (b n:Nat) (q:aF→Option Nat) (hB:st.aj[b]?=some (.mp .str n (ixM q))) (l:List Jb) (hq:∀ s,(q s).getD 0<l.length) (hl:∀ x∈l,gJb x) (hU:(allN l).length≤1048576) (jb:Jb) (hj:jb∈l):
  Ly prog G 34 [vCk l b,vJb jb] st ai:=by
 have gj:=hl jb hj
 have h1:=fun st=>cm_patterns (G:=G) jb.gP gj.gP st
 have h2:=cm_uses (G:=G) ⟨st.aj++[.cells [.d (.sl (l.map Jb.enc)),.mp b],.cells (jb.enc.map .d)],st.toks⟩ b n q (fU hB) l hq hl hU jb hj
 have h3:=cm_rest (G:=G) ga gm ⟨st.aj++[.cells [.d (.sl (l.map Jb.enc)),.mp b],.cells (jb.enc.map .d)],st.toks⟩ b n q (fU hB) l jb gj
 unfold Ly
 refine aA.start func34 rfl ntmps34 (by simp) fun _ ag=>?_
 simp (disch:=omega) only [go_sem,seval,cX ag,yT (h1 _),yT h2,yT h3,wr];(repeat' first|apply cq.l|apply bg.i|refine cE.i fun hc=>?_|refine aQ.i ⟨?_,rfl⟩|refine fB.i fun j=>?_)<;>try subst ag
 all_goals exact ⟨_,rfl⟩
def cm_first (gm:GM G) (st:St) (b n:Nat) (q:aF→Option Nat) (hB:st.aj[b]?=some (.mp .str n (ixM q))) (l:List Jb) (jb:Jb) (sj:sJb jb):
  Ly prog G 33 [vCk l b,vJb jb] st (fun x:{ x:Int // x=0→q jb.id=none }=>ai x.1):=by
 have gj:=sj.g
 have h1:=cm_names (G:=G) gm ⟨st.aj++[.cells [.d (.sl (l.map Jb.enc)),.mp b],.cells (jb.enc.map .d)],st.toks⟩ b n q (fU hB) l jb gj
 have h2:=cm_vars (G:=G) ⟨st.aj++[.cells [.d (.sl (l.map Jb.enc)),.mp b],.cells (jb.enc.map .d)],st.toks⟩ b n q (fU hB) l jb sj
 have h3:=cm_steps (G:=G) ⟨st.aj++[.cells [.d (.sl (l.map Jb.enc)),.mp b],.cells (jb.enc.map .d)],st.toks⟩ b n q (fU hB) l jb gj
 have h4:=cm_labels (G:=G) ⟨st.aj++[.cells [.d (.sl (l.map Jb.enc)),.mp b],.cells (jb.enc.map .d)],st.toks⟩ b n q (fU hB) l jb gj
 have h5:=cm_numbers (G:=G) gm ⟨st.aj++[.cells [.d (.sl (l.map Jb.enc)),.mp b],.cells (jb.enc.map .d)],st.toks⟩ b n q (fU hB) l jb gj
 unfold Ly
 refine aA.start func33 rfl ntmps33 (by simp) fun _ ag=>?_
 simp (disch:=omega) only [go_sem,seval,cX ag,yT h1,yT h2,yT h3,yT h4,yT h5,wr];(repeat' first|apply cq.l|apply bg.i|refine cE.i fun hc=>?_|refine aQ.i ⟨?_,rfl⟩|refine fB.i fun j=>?_)<;>try subst ag
 all_goals exact ⟨⟨_,fun e=>(‹{ x:Int // x=0→q jb.id=none }›).2 (by omega)⟩,rfl⟩
def cm_ValidN (ga:GA G) (gm:GM G) (p:Pln) (sp:sPln p) (st:St):
  Ly prog G 13 [vPln p] st (fun x:{ x:Int // x=0→(p.jobs.map Jb.id).Nodup }=>ai x.1):=by
 have hn:=i_Name (G:=G) p.name (by have:=sp.name;omega)
 have hl:=sp.len
 unfold Ly
 refine aA.start func13 rfl ntmps13 (by simp) fun _ ag=>?_
 simp (disch:=omega) only [go_sem,seval,cX ag,bC (hn _),JD];(repeat' first|refine cq.l ?_|refine bg.i ?_ ?_|refine cE.i fun hc=>?_|refine aQ.i ⟨?_,rfl⟩|refine aZ.i ?_ ?_|refine cB.o ?_);all_goals (try subst ag)
 all_goals first|exact ⟨⟨_,fun h=>absurd h (by decide)⟩,rfl⟩|skip
 refine AW.zU (fun x:Nat×Nat×(aF→Option Nat)=>[(3,.ptr (st.aj.length+2) 0),(21,.d (.sl (p.jobs.map Jb.enc))),(22,ai ↑p.jobs.length),(23,ai ↑x.1)]) (fun x=>[.cells (p.enc.map .d),.mp .str x.2.1 (ixM x.2.2),.cells [.d (.sl (p.jobs.map Jb.enc)),.mp (st.aj.length+1)]]) (fun _=>[])
  (fun x=>x.1≤p.jobs.length∧(∀ s i,x.2.2 s=some i→i<p.jobs.length)∧(∀ k,k<x.1→x.2.2 (p.jobs.getD k default).id≠none)∧((p.jobs.take x.1).map Jb.id).Nodup) (fun x=>p.jobs.length - x.1) (0,0,fun _=>none) ⟨by simp [ixM_nil],by simp (disch:=first|omega|(simp only [go_sem,aan,aar];try omega)) only [go_sem,seval]⟩ ⟨by simp,by simp⟩ ?_
 rintro ⟨i,n,q⟩ ⟨hi,hq,hd,hu⟩
 simp only at hi hq hd hu
 by_cases hil:i<p.jobs.length
 ·have hm:=aB hil
  have sj:=sp.jobs _ hm
  have hid:=sj.g.id
  have hq0:∀ s,(q s).getD 0<p.jobs.length:=fun s=>by
   cases hs:q s with
   |none=>simp only [Option.getD_none];omega
   |some k=>exact hq s k hs
  have ht:=take_sn p.jobs i hil
  generalize hx:p.jobs.getD i default=jb at hm sj hid ht
  have h1:=cm_first (G:=G) gm ⟨st.aj++[.cells (p.enc.map .d),.mp .str n (ixM q),.cells [.d (.sl (p.jobs.map Jb.enc)),.mp (st.aj.length+1)],.cells (jb.enc.map .d)],st.toks⟩ (st.aj.length+1) n q (by simp) p.jobs jb sj
  have h2:=cm_second (G:=G) ga gm ⟨st.aj++[.cells (p.enc.map .d),.mp .str n (ixM q),.cells [.d (.sl (p.jobs.map Jb.enc)),.mp (st.aj.length+1)],.cells (jb.enc.map .d)],st.toks⟩ (st.aj.length+1) n q (by simp) p.jobs hq0 (fun j hj=>(sp.jobs j hj).g) sp.n8 jb hm
  refine Wk.go fun _ ag=>?_;simp (disch:=omega) only [go_sem,seval,cX ag,hx,JD,ixM_put,yT h1,yT h2,wr];(repeat' first|refine cq.l ?_|refine bg.i ?_ ?_|refine cE.i fun hc=>?_|refine aQ.i ⟨?_,rfl⟩|refine aZ.i ?_ ?_|refine cB.o ?_|refine dU.i ?_|refine aQ.i ?_|refine fB.i fun j=>?_);all_goals (try subst ag)
  all_goals first|exact ⟨⟨_,fun h=>absurd h (by omega)⟩,rfl⟩|skip
  have hf:=(‹{ x:Int // x=0→q jb.id=none }›).2 (by omega)
  refine cB.i ⟨(i+1,n+1,fun x=>if x=jb.id then some i else q x),⟨by simp (disch:=omega) only [go_sem,seval,aas,aau]<;>omega,?_,?_⟩⟩
  ·refine ⟨by simp only;omega,fun s k hs=>?_,fun k hk=>?_,?_⟩
   ·simp only at hs
    split at hs
    ·cases hs;exact hil
    ·exact hq s k hs
   ·simp only
    by_cases hki:k<i
    ·split
     ·simp
     ·exact hd k hki
    ·obtain rfl:k=i:=by simp only at hk;omega
     rw [hx,if_pos rfl];simp
   ·simp only [ht,aaQ,aaB,aaI]
    refine List.nodup_append.2 ⟨hu,by simp,?_⟩
    intro a ha b hb hab
    simp only [abg] at hb
    subst hab hb
    obtain ⟨y,hy,e⟩:=abm.1 ha
    obtain ⟨k,hk,e2⟩:=aaY.1 hy
    simp only [aan] at hk
    refine hd k (by omega) ?_
    rw [List.getElem_take] at e2
    rw [show p.jobs.getD k default=y by rw [aam,aaw (by omega)];exact e2,e]
    exact hf
  ·simp only;omega
 ·refine Wk.go fun _ ag=>?_;simp (disch:=omega) only [go_sem,seval,cX ag];(repeat' first|refine cq.l ?_|refine bg.i ?_ ?_|refine cE.i fun hc=>?_|refine aQ.i ⟨?_,rfl⟩|refine aZ.i ?_ ?_|refine cB.o ?_);all_goals (try subst ag)
  obtain rfl:i=p.jobs.length:=by omega
  rw [aaD] at hu
  all_goals exact ⟨⟨_,fun _=>hu⟩,rfl⟩
def l_great50 (l:List Jrs) (h:l.length≤1048576∧∀ y∈l,gJrs y) (st:St):Ly prog G 5 [.d (.sl (l.map Jrs.enc))] st vb:=by
 have h1:=h.1;unfold Ly;refine aA.start func5 rfl ntmps5 (by simp) fun _ ag=>?_;simp (disch:=omega) only [go_sem,seval,cX ag];(repeat' first|apply cq.l|apply bg.i|refine cE.i fun hc=>?_|refine aQ.i ⟨?_,rfl⟩)<;>try subst ag
 all_goals first|exact ⟨_,rfl⟩|skip
 refine AW.lp (fun i:Nat=>[(0,.d (.sl (l.map Jrs.enc))),(3,ai ↑i)]) (fun i=>i≤l.length) (fun i=>l.length - i) 0 (by simp (disch:=omega) only [go_sem,seval]<;>omega) (by simp) ?_;intro i hi;by_cases hil:i<l.length
 ·have hj:=h.2 _ (aB hil);have j1:=hj.result.gP.1;have j2:=hj.result.e6.1;have j3:=hj.result.tests.1;have j4:=hj.result.child;refine Wk.go fun _ ag=>?_;simp (disch:=omega) only [go_sem,seval,cX ag];(repeat' first|apply cq.l|apply bg.i|refine cE.i fun hc=>?_|refine aQ.i ⟨?_,rfl⟩)<;>try subst ag
  all_goals first|exact ⟨_,rfl⟩|skip
  refine cB.i ⟨i+1,⟨by simp (disch:=omega) only [go_sem,seval]<;>omega,?_,?_⟩⟩
  all_goals omega
 ·refine Wk.go fun _ ag=>?_;simp (disch:=omega) only [go_sem,seval,cX ag];(repeat' first|apply cq.l|refine cE.i fun hc=>?_|refine aQ.i ⟨?_,rfl⟩)<;>try subst ag
  all_goals exact ⟨_,rfl⟩
def timeF (n:Int):Bool:=decide (0≤n)&&decide (n≤1125899906842624)
def at_time (n:Int):b8 G 96 [ai n] (vb (timeF n)):=by
 intro st;refine aA.start func96 rfl ntmps96 (by simp) fun _ ag=>?_;simp (disch:=first|exact ⟨by kernel_rfl⟩|omega) only [go_sem,seval,cX ag,wd];(repeat' first|apply cq.l|apply bg.i|refine cE.i fun hc=>?_|refine aQ.i ⟨?_,rfl⟩)<;>try subst ag
 all_goals
  refine pI ?_
  rw [abk]
  simp only [timeF,aas,aau,aa3,false_iff]
  omega
def endF (s c:Int):Bool:=if s=2 then decide (1≤c)&&decide (c≤7) else (decide (s=1)||decide (s=4))&&decide (c=0)
def at_ended (s c:Int):b8 G 97 [ai s,ai c] (vb (endF s c)):=by
 intro st;refine aA.start func97 rfl ntmps97 (by simp) fun _ ag=>?_;simp (disch:=first|exact ⟨by kernel_rfl⟩|omega) only [go_sem,seval,cX ag,wd];(repeat' first|apply cq.l|apply bg.i|refine cE.i fun hc=>?_|refine aQ.i ⟨?_,rfl⟩)<;>try subst ag
 all_goals
  refine pI ?_
  rw [abk]
  simp only [endF]
  grind
def at_right (l:List Atm) (h:l.length≤1048576∧∀ y∈l,gAtm y) (i:Nat) (hi:i<l.length) (st:St):Ly prog G 64 [.d (.sl (l.map Atm.enc)),ai ↑i] st vb:=by
 have h1:=h.1;have t:=fun n=>at_time (G:=G) n;have e:=fun s c=>at_ended (G:=G) s c;unfold Ly;refine aA.body func64 rfl ntmps64 (by simp) ?_;refine AW.cutE 4 (τ:=Atm) (fun _=>True) (fun _=>[(0,.d (.sl (l.map Atm.enc))),(1,ai ↑i),(5,.ptr st.aj.length 0),(6,.ptr (st.aj.length+1) 0)]) (fun b=>⟨st.aj++[.cells ((l.getD i default).enc.map .d),.cells (b.enc.map .d)],st.toks⟩) rfl (fun K hK _ ag=>?_) fun b _=>?_
 ·simp (disch:=omega) only [go_sem,seval,cX ag];(repeat' first|apply cq.l|apply bg.i|refine cE.i fun hc=>?_)<;>try subst ag
  ·exact cB.i (hK _ _ trivial (by simp (disch:=first|omega|(simp only [go_sem,aan,aar];try omega)) only [go_sem,seval]))
  ·exact cB.i (hK ⟨0,0,[],0,0,2,0⟩ _ trivial (by simp (disch:=first|omega|(simp only [go_sem,aan,aar];try omega)) only [go_sem,seval]))
 generalize l.getD i default=a;refine AW.oA fun K2 hK2=>?_;refine AW.ifB [(0,.d (.sl (l.map Atm.enc))),(1,ai ↑i),(5,.ptr st.aj.length 0),(6,.ptr (st.aj.length+1) 0)] ⟨st.aj++[.cells (a.enc.map .d),.cells (b.enc.map .d)],st.toks⟩ rfl (fun K hK _ ag=>?_) ?_ ?_
 ·simp (config := { maxSteps := 1000000 }) -implicitDefEqProofs (disch:=first|omega|exact ⟨by kernel_rfl⟩|(simp only [go_sem,aan];try omega)) only [go_sem,seval,cX ag,wd,bC (t _ _)];(repeat' first|apply cq.l|apply bg.i|refine cE.i fun hc=>?_)<;>try subst ag
  all_goals exact cB.i (hK _ _ ⟨rfl,by simp (disch:=first|omega|(simp only [go_sem,aan,aar];try omega)) only [go_sem,seval]⟩)
 ·refine Wk.go fun _ ag=>?_;simp (disch:=omega) only [go_sem,seval,cX ag];(repeat' first|apply cq.l|refine aQ.i ⟨?_,rfl⟩)<;>try subst ag
  all_goals exact ⟨_,rfl⟩
 ·refine Wk.go fun _ ag=>?_;simp (disch:=omega) only [go_sem,seval,cX ag];(repeat' apply cq.l)<;>try subst ag
  refine cB.i (hK2 _ _ ?_);refine Wk.go fun _ ag=>?_;simp (disch:=omega) only [go_sem,seval,cX ag,bC (e _ _ _)];(repeat' first|apply cq.l|apply bg.i|refine cE.i fun hc=>?_|refine aQ.i ⟨?_,rfl⟩)<;>try subst ag
  all_goals exact ⟨_,rfl⟩
def at_Valid (l:List Atm) (h:l.length≤1048576∧∀ y∈l,gAtm y) (st:St):Ly prog G 35 [.d (.sl (l.map Atm.enc))] st ai:=by
 have h1:=h.1;unfold Ly;refine aA.start func35 rfl ntmps35 (by simp) fun _ ag=>?_;simp (disch:=omega) only [go_sem,seval,cX ag];(repeat' first|apply cq.l|apply bg.i|refine cE.i fun hc=>?_|refine aQ.i ⟨?_,rfl⟩)<;>try subst ag
 all_goals first|exact ⟨_,rfl⟩|skip
 refine AW.lp (fun i:Nat=>[(0,.d (.sl (l.map Atm.enc))),(8,ai ↑l.length),(9,ai ↑i)]) (fun i=>i≤l.length) (fun i=>l.length - i) 0 (by simp (disch:=omega) only [go_sem,seval]<;>omega) (by simp) ?_;intro i hi;by_cases hil:i<l.length
 ·have hr:=fun s=>at_right (G:=G) l h i hil s;refine Wk.go fun _ ag=>?_;simp (disch:=omega) only [go_sem,seval,cX ag,wr,yT (hr _)];(repeat' first|apply cq.l|apply bg.i|refine cE.i fun hc=>?_|refine aQ.i ⟨?_,rfl⟩|refine fB.i fun j=>?_)<;>try subst ag
  all_goals first|exact ⟨_,rfl⟩|skip
  refine cB.i ⟨i+1,⟨by simp (disch:=omega) only [go_sem,seval]<;>omega,?_,?_⟩⟩
  all_goals omega
 ·refine Wk.go fun _ ag=>?_;simp (disch:=omega) only [go_sem,seval,cX ag];(repeat' first|apply cq.l|refine cE.i fun hc=>?_|refine aQ.i ⟨?_,rfl⟩)<;>try subst ag
  all_goals exact ⟨_,rfl⟩
def at_last (l:List Atm) (h:l.length≤1048576) (st:St):Ly prog G 65 [.d (.sl (l.map Atm.enc))] st vAtm:=by
 unfold Ly;refine aA.start func65 rfl ntmps65 (by simp) fun _ ag=>?_;simp (disch:=omega) only [go_sem,seval,cX ag];(repeat' first|apply cq.l|apply bg.i|refine cE.i fun hc=>?_|refine aQ.i ⟨?_,rfl⟩)<;>try subst ag
 ·exact ⟨⟨0,0,[],0,0,2,0⟩,rfl⟩
 ·exact ⟨_,rfl⟩
def at_Current (l:List Atm) (h:l.length≤1048576) (st:St):Ly prog G 36 [.d (.sl (l.map Atm.enc))] st (fun x:Atm×Bool=> .cF [vAtm x.1,vb x.2]):=by
 have hl:=fun s=>at_last (G:=G) l h s;unfold Ly;refine aA.start func36 rfl ntmps36 (by simp) fun _ ag=>?_;simp (disch:=omega) only [go_sem,seval,cX ag,wr,yT (hl _)];(repeat' first|apply cq.l|apply bg.i|refine cE.i fun hc=>?_|refine aQ.i ⟨?_,rfl⟩|refine fB.i fun j=>?_)<;>try subst ag
 ·exact ⟨(_,true),rfl⟩
 ·exact ⟨(⟨0,0,[],0,0,0,0⟩,false),rfl⟩
def zeroF (x:Rsl):Bool:=decide (x.status=0∧x.class_=0∧x.child=[]∧x.gP.length+x.e6.length+x.tests.length=0)
def r_zero (x:Rsl) (g:gRsl x):b8 G 37 [vRsl x] (vb (zeroF x)):=by
 intro st;have j1:=g.gP.1;have j2:=g.e6.1;have j3:=g.tests.1;refine aA.start func37 rfl ntmps37 (by simp) fun _ ag=>?_;simp (disch:=omega) only [go_sem,seval,cX ag];(repeat' first|apply cq.l|apply bg.i|refine cE.i fun hc=>?_|refine aQ.i ⟨?_,rfl⟩)<;>try subst ag
 all_goals
  refine pI ?_
  rw [abk]
  simp only [zeroF]
  grind
def r_valid (s:PC) (g:gJst s) (st:St):Ly prog G 16 [vJst s] st ai:=by
 have h1:=fun st=>at_Valid (G:=G) s.attempts g.attempts st;have h2:=fun st=>at_Current (G:=G) s.attempts g.attempts.1 st;have h3:=r_zero (G:=G) s.result g.result;unfold Ly;refine aA.start func16 rfl ntmps16 (by simp) fun _ ag=>?_;simp (disch:=omega) only [go_sem,seval,cX ag,wr,yT (h1 _),yT (h2 _),bC (h3 _)];(repeat' first|apply cq.l|apply bg.i|refine cE.i fun hc=>?_|refine aQ.i ⟨?_,rfl⟩|refine fB.i fun j=>?_)<;>try subst ag
 all_goals exact ⟨_,rfl⟩
def r_Valid1 (s:PC) (j:Jb):b8 G 15 [vJst s,vJb j] (vb (decide (s.id=j.id))):=by
 intro st;refine aA.start func15 rfl ntmps15 (by simp) fun _ ag=>?_;simp (disch:=omega) only [go_sem,seval,cX ag];(repeat' first|apply cq.l|refine aQ.i ⟨?_,rfl⟩)<;>try subst ag
 all_goals first|rfl|(refine pI ?_;grind)
def sl_EqualF (ss:List PC) (ps:List Jb) (h1:ss.length≤1048576) (h2:ps.length≤1048576):
  b8 G 14 [.d (.sl (ss.map PC.enc)),.d (.sl (ps.map Jb.enc)),.jE 15 []] (vb (decide (ss.map PC.id=ps.map Jb.id))):=by
 intro st
 have hlen:ss.length≠ps.length→¬ ss.map PC.id=ps.map Jb.id:=fun h e=>h (by have:=congrArg List.length e;simpa using this)
 refine aA.start func14 rfl ntmps14 (by simp) fun _ ag=>?_
 simp (disch:=omega) only [go_sem,seval,cX ag];(repeat' first|apply cq.l|apply bg.i|refine cE.i fun hc=>?_|refine aQ.i ⟨?_,rfl⟩)<;>try subst ag
 ·refine pI ?_
  simp only [Bool.false_eq,abz]
  exact hlen (by omega)
 refine AW.lp (fun i:Nat=>[(1,.d (.sl (ps.map Jb.enc))),(2,.jE 15 []),(15,.d (.sl (ss.map PC.enc))),(16,ai ↑ss.length),(17,ai ↑i)])
  (fun i=>i≤ss.length∧(ss.take i).map PC.id=(ps.take i).map Jb.id) (fun i=>ss.length - i) 0 (by simp (disch:=omega) only [go_sem,seval]<;>omega) (by simp) ?_
 intro i ⟨hi,hq⟩
 by_cases hil:i<ss.length
 ·have hp:i<ps.length:=by omega
  have hv:=fun s=>r_Valid1 (G:=G) (ss.getD i default) (ps.getD i default) s
  refine Wk.go fun _ ag=>?_;simp (disch:=omega) only [go_sem,seval,cX ag,bC (hv _)];(repeat' first|apply cq.l|apply bg.i|refine cE.i fun hc=>?_|refine aQ.i ⟨?_,rfl⟩)<;>try subst ag
  ·refine pI ?_
   simp only [Bool.false_eq,abz]
   intro e
   have e2:=congrArg (fun l:List aF=>l[i]?) e
   simp only [aaV,aaw hil,aaw hp,aaJ,aal] at e2
   simp only [getD_eq hil,getD_eq hp] at hc
   simp_all
  ·refine cB.i ⟨i+1,⟨by simp (disch:=omega) only [go_sem,seval]<;>omega,?_,?_⟩⟩
   ·refine ⟨by omega,?_⟩
    rw [take_sn _ _ hil,take_sn _ _ hp,aaQ,aaQ,hq]
    simp_all
   ·omega
 ·refine Wk.go fun _ ag=>?_;simp (disch:=omega) only [go_sem,seval,cX ag];(repeat' first|apply cq.l|refine cE.i fun hc=>?_|refine aQ.i ⟨?_,rfl⟩)<;>try subst ag
  refine pI ?_
  obtain rfl:i=ss.length:=by omega
  rw [aaD,aaO (by omega)] at hq
  simp [hq]
def r_Valid (ga:GA G) (gm:GM G) (r:Rn) (g:gRn r) (sp:sPln r.plan) (st:St):
  Ly prog G 6 [vRn r] st (fun x:{ x:Int // x=0→r.jobs.map PC.id=r.plan.jobs.map Jb.id∧(r.plan.jobs.map Jb.id).Nodup }=>ai x.1):=by
 have h1:=g.jobs.1
 have h0:=fun s=>cm_ValidN (G:=G) ga gm r.plan sp s
 have h2:=sl_EqualF (G:=G) r.jobs r.plan.jobs h1 (by have:=g.plan.jobs.1;omega)
 unfold Ly
 refine aA.start func6 rfl ntmps6 (by simp) fun _ ag=>?_
 simp (disch:=omega) only [go_sem,seval,cX ag,wr,yT (h0 _),bC (h2 _)];(repeat' first|apply cq.l|apply bg.i|refine cE.i fun hc=>?_|refine aQ.i ⟨?_,rfl⟩|refine fB.i fun j=>?_)<;>try subst ag
 ·exact ⟨⟨_,fun e=>absurd e (by omega)⟩,rfl⟩
 ·exact ⟨⟨1,fun e=>by omega⟩,rfl⟩
 have hn:=(‹{ x:Int // x=0→(r.plan.jobs.map Jb.id).Nodup }›).2 (by omega)
 refine AW.zU (fun i:Nat=>[(21,.d (.sl (r.jobs.map PC.enc))),(22,ai ↑r.jobs.length),(23,ai ↑i)]) (fun _=>[.cells (r.enc.map .d)]) (fun _=>[]) (fun i=>i≤r.jobs.length) (fun i=>r.jobs.length - i) 0 ⟨by simp,by simp (disch:=first|omega|(simp only [go_sem,aan,aar];try omega)) only [go_sem,seval]⟩ (by simp) ?_
 intro i hi
 by_cases hil:i<r.jobs.length
 ·have hj:=g.jobs.2 _ (aB hil)
  have hv:=fun s=>r_valid (G:=G) _ hj s
  refine Wk.go fun _ ag=>?_;simp (disch:=omega) only [go_sem,seval,cX ag,wr,yT (hv _)];(repeat' first|apply cq.l|apply bg.i|refine cE.i fun hc=>?_|refine aQ.i ⟨?_,rfl⟩|refine fB.i fun j=>?_)<;>try subst ag
  ·exact ⟨⟨_,fun e=>by omega⟩,rfl⟩
  ·refine cB.i ⟨i+1,⟨by simp (disch:=omega) only [go_sem,seval]<;>omega,?_,?_⟩⟩
   all_goals omega
 ·refine Wk.go fun _ ag=>?_;simp (disch:=omega) only [go_sem,seval,cX ag];(repeat' first|apply cq.l|refine cE.i fun hc=>?_|refine aQ.i ⟨?_,rfl⟩)<;>try subst ag
  exact ⟨⟨0,fun _=>⟨by simp_all,hn⟩⟩,rfl⟩
def of_1 (s:PC):b8 G 22 [vJst s] (vb (decide (s.phase≠4))):=by
 intro st;refine aA.start func22 rfl ntmps22 (by simp) fun _ ag=>?_;simp (disch:=omega) only [go_sem,seval,cX ag];(repeat' first|apply cq.l|refine aQ.i ⟨?_,rfl⟩)<;>try subst ag
 all_goals first|rfl|(refine pI ?_;grind)
def opnF_snoc {l:List PC} {i:Nat} (h:i<l.length):opnF (l.take (i+1))=(opnF (l.take i)||decide ((l.getD i default).phase≠4)):=by
 rw [opnF,take_sn l i h,List.any_append];simp [opnF]
def opnF_at {l:List PC} {i:Nat} (h:i<l.length) (hp:(l.getD i default).phase≠4):opnF l=true:=by
 rw [opnF,List.any_eq_true];exact ⟨_,aB h,by simpa using hp⟩
def sl_IndexJ (l:List PC) (hl:l.length≤1048576) (st:St):Ly prog G 44 [.d (.sl (l.map PC.enc)),.jE 22 []] st
  (fun x:{ x:Int // decide (0≤x)=opnF l }=>ai x.1):=by
 unfold Ly
 refine aA.start func44 rfl ntmps44 (by simp) fun _ ag=>?_
 simp (disch:=omega) only [go_sem,seval,cX ag];all_goals (try subst ag)
 refine AW.lp (fun i:Nat=>[(0,.d (.sl (l.map PC.enc))),(1,.jE 22 []),(7,ai ↑l.length),(8,ai ↑i)]) (fun i=>i≤l.length∧opnF (l.take i)=false) (fun i=>l.length - i) 0 (by simp (disch:=omega) only [go_sem,seval]<;>omega) (by simp [opnF]) ?_
 intro i ⟨hi,ho⟩
 by_cases hil:i<l.length
 ·have hv:=fun s=>of_1 (G:=G) (l.getD i default) s
  refine Wk.go fun _ ag=>?_;simp (disch:=omega) only [go_sem,seval,cX ag,bC (hv _)];(repeat' first|apply cq.l|apply bg.i|refine cE.i fun hc=>?_|refine aQ.i ⟨?_,rfl⟩)<;>try subst ag
  ·exact ⟨⟨↑i,by rw [opnF_at hil (by simpa using hc)];simp⟩,rfl⟩
  ·refine cB.i ⟨i+1,⟨by simp (disch:=omega) only [go_sem,seval]<;>omega,?_,?_⟩⟩
   ·refine ⟨by omega,?_⟩
    rw [opnF_snoc hil,ho];simpa using hc
   ·omega
 ·refine Wk.go fun _ ag=>?_;simp (disch:=omega) only [go_sem,seval,cX ag];(repeat' first|apply cq.l|refine cE.i fun hc=>?_|refine aQ.i ⟨?_,rfl⟩)<;>try subst ag
  obtain rfl:i=l.length:=by omega
  rw [aaD] at ho
  exact ⟨⟨-1,by rw [ho];rfl⟩,rfl⟩
def sl_ContJ (l:List PC) (hl:l.length≤1048576):b8 G 21 [.d (.sl (l.map PC.enc)),.jE 22 []] (vb (opnF l)):=by
 intro st;have hx:=fun s=>sl_IndexJ (G:=G) l hl s;refine aA.start func21 rfl ntmps21 (by simp) fun _ ag=>?_;simp (disch:=omega) only [go_sem,seval,cX ag,wr,yT (hx _)];(repeat' first|apply cq.l|refine aQ.i ⟨?_,rfl⟩|refine fB.i fun j=>?_)<;>try subst ag
 refine pI ?_;exact j.2
def c_CloneO (l:List Otp) (hl:l.length≤1099511627776):b8 G 45 [.d (.sl (l.map Otp.enc))] (.d (.sl (l.map Otp.enc))):=by
 intro st;have hr:dA 3 (l.map Otp.enc)=true:=by simp [dA,Otp.aP,D.one]
 have hz:dy prog 125=some 3:=by kernel_rfl
 refine aA.body func45 rfl ntmps45 (by simp) ?_;refine AW.oA fun K hK=>?_;refine Wk.go fun _ ag=>?_;simp (disch:=omega) only [go_sem,seval,cX ag];(repeat' apply cq.l)<;>try subst ag
 refine cB.i (hK _ _ ?_);refine AW.oA fun K2 hK2=>?_;refine AW.oA fun K3 hK3=>?_;refine AW.regL 1 (by rfl) (by simp (disch:=first|omega|(simp only [go_sem,aan,aar];try omega)) only [go_sem,seval];try exact rfl) fun K4 hK4=>OPW.nilEq (e:=125) (sz:=3) (by_:=32) (es:=l.map Otp.enc) (by rfl) (by rfl) (by simp (disch:=first|omega|(simp only [go_sem,aan,aar];try omega)) only [go_sem,seval]) (by simp (disch:=first|omega|(simp only [go_sem,aan,aar];try omega)) only [go_sem,seval]) fun b hb=>hK4 _ _ (OW.endR (by rfl) (KT (hK3 _ _ ?_)));cases b
 ·refine Wk.go fun _ ag=>?_;simp (disch:=omega) only [go_sem,seval,cX ag];(repeat' apply cq.l)<;>try subst ag
  refine cB.i (hK2 _ _ ?_);refine AW.oA fun K5 hK5=>?_;refine AW.regL 0 (by rfl) (by rfl) fun K6 hK6=>OPW.mk0 (e:=125) (sz:=3) (by_:=32) (by rfl) (by rfl) (by simp (disch:=first|omega|(simp only [go_sem,aan,aar];try omega)) only [go_sem,seval]) (by kernel_rfl) (by decide) (hK6 _ _ (OW.endR (by simp (disch:=first|omega|(simp only [go_sem,aan,aar];try omega)) only [go_sem,seval,app_new,hz,hr];try exact rfl) (KT (hK5 _ _ ?_))));refine Wk.go fun _ ag=>?_;simp (disch:=omega) only [go_sem,seval,cX ag];(repeat' first|apply cq.l|refine aQ.i ⟨?_,rfl⟩)<;>try subst ag
  rfl
 ·have:l=[]:=by
   cases l with
   |nil=>rfl
   |cons a r=>exact absurd (hb (by simp)) (by simp)
  subst this;refine Wk.go fun _ ag=>?_;simp (disch:=omega) only [go_sem,seval,cX ag];(repeat' first|apply cq.l|refine aQ.i ⟨?_,rfl⟩)<;>try subst ag
  rfl
def c_CloneT (l:List Tsr) (hl:l.length≤1099511627776):b8 G 46 [.d (.sl (l.map Tsr.enc))] (.d (.sl (l.map Tsr.enc))):=by
 intro st;have hr:dA 3 (l.map Tsr.enc)=true:=by simp [dA,Tsr.aP,D.one]
 have hz:dy prog 128=some 3:=by kernel_rfl
 refine aA.body func46 rfl ntmps46 (by simp) ?_;refine AW.oA fun K hK=>?_;refine Wk.go fun _ ag=>?_;simp (disch:=omega) only [go_sem,seval,cX ag];(repeat' apply cq.l)<;>try subst ag
 refine cB.i (hK _ _ ?_);refine AW.oA fun K2 hK2=>?_;refine AW.oA fun K3 hK3=>?_;refine AW.regL 1 (by rfl) (by simp (disch:=first|omega|(simp only [go_sem,aan,aar];try omega)) only [go_sem,seval];try exact rfl) fun K4 hK4=>OPW.nilEq (e:=128) (sz:=3) (by_:=32) (es:=l.map Tsr.enc) (by rfl) (by rfl) (by simp (disch:=first|omega|(simp only [go_sem,aan,aar];try omega)) only [go_sem,seval]) (by simp (disch:=first|omega|(simp only [go_sem,aan,aar];try omega)) only [go_sem,seval]) fun b hb=>hK4 _ _ (OW.endR (by rfl) (KT (hK3 _ _ ?_)));cases b
 ·refine Wk.go fun _ ag=>?_;simp (disch:=omega) only [go_sem,seval,cX ag];(repeat' apply cq.l)<;>try subst ag
  refine cB.i (hK2 _ _ ?_);refine AW.oA fun K5 hK5=>?_;refine AW.regL 0 (by rfl) (by rfl) fun K6 hK6=>OPW.mk0 (e:=128) (sz:=3) (by_:=32) (by rfl) (by rfl) (by simp (disch:=first|omega|(simp only [go_sem,aan,aar];try omega)) only [go_sem,seval]) (by kernel_rfl) (by decide) (hK6 _ _ (OW.endR (by simp (disch:=first|omega|(simp only [go_sem,aan,aar];try omega)) only [go_sem,seval,app_new,hz,hr];try exact rfl) (KT (hK5 _ _ ?_))));refine Wk.go fun _ ag=>?_;simp (disch:=omega) only [go_sem,seval,cX ag];(repeat' first|apply cq.l|refine aQ.i ⟨?_,rfl⟩)<;>try subst ag
  rfl
 ·have:l=[]:=by
   cases l with
   |nil=>rfl
   |cons a r=>exact absurd (hb (by simp)) (by simp)
  subst this;refine Wk.go fun _ ag=>?_;simp (disch:=omega) only [go_sem,seval,cX ag];(repeat' first|apply cq.l|refine aQ.i ⟨?_,rfl⟩)<;>try subst ag
  rfl
def o_copied (x:Rsl) (g:gRsl x):b8 G 23 [vRsl x] (vRsl x):=by
 intro st;have h1:=c_CloneO (G:=G) x.gP (by have:=g.gP.1;omega);have h2:=c_CloneO (G:=G) x.e6 (by have:=g.e6.1;omega);have h3:=c_CloneT (G:=G) x.tests (by have:=g.tests.1;omega);have e2:(x.enc.map V.d).take 2++V.d (.sl (x.gP.map Otp.enc))::(x.enc.map V.d).drop 3=x.enc.map .d:=by rw [Rsl.aP];rfl
 have e3:(x.enc.map V.d).take 3++V.d (.sl (x.e6.map Otp.enc))::(x.enc.map V.d).drop 4=x.enc.map .d:=by rw [Rsl.aP];rfl
 have e4:(x.enc.map V.d).take 4++V.d (.sl (x.tests.map Tsr.enc))::(x.enc.map V.d).drop 5=x.enc.map .d:=by rw [Rsl.aP];rfl
 refine aA.start func23 rfl ntmps23 (by simp) fun _ ag=>?_;simp (disch:=omega) only [go_sem,seval,cX ag,bC (h1 _),bC (h2 _),bC (h3 _),e2,e3,e4];(repeat' first|apply cq.l|refine aQ.i ⟨?_,rfl⟩)<;>try subst ag
 rfl
def o_effective (j:Jb) (s:Int):b8 G 24 [vJb j,ai s] (ai (effF j s)):=by
 intro st;refine aA.start func24 rfl ntmps24 (by simp) fun _ ag=>?_;simp (disch:=omega) only [go_sem,seval,cX ag];(repeat' first|apply cq.l|apply bg.i|refine cE.i fun hc=>?_|refine aQ.i ⟨?_,rfl⟩)<;>try subst ag
 all_goals (refine bA ?_;rw [effF];grind)
def rf_Effective (j:Jb) (s:Int):b8 G 50 [vJb j,ai s] (ai (effF j s)):=by
 intro st;refine aA.start func50 rfl ntmps50 (by simp) fun _ ag=>?_;simp (disch:=omega) only [go_sem,seval,cX ag];(repeat' first|apply cq.l|apply bg.i|refine cE.i fun hc=>?_|refine aQ.i ⟨?_,rfl⟩)<;>try subst ag
 all_goals (refine bA ?_;rw [effF];grind)
def sl_IndexI (l:List Int) (hl:l.length≤1048576) (n:Int) (st:St):Ly prog G 81 [.d (.sl (n7 l)),ai n] st (fun x:{ x:Int // decide (0≤x)=decide (n∈l) }=>ai x.1):=by
 unfold Ly;refine aA.start func81 rfl ntmps81 (by simp) fun _ ag=>?_;simp (disch:=omega) only [go_sem,seval,cX ag];all_goals (try subst ag)
 refine AW.lp (fun i:Nat=>[(0,.d (.sl (n7 l))),(1,ai n),(7,ai ↑l.length),(8,ai ↑i)]) (fun i=>i≤l.length∧n ∉ l.take i) (fun i=>l.length - i) 0 (by simp (disch:=omega) only [go_sem,seval]<;>omega) (by simp) ?_;intro i ⟨hi,ho⟩;by_cases hil:i<l.length
 ·refine Wk.go fun _ ag=>?_;simp (disch:=omega) only [go_sem,seval,cX ag];(repeat' first|apply cq.l|apply bg.i|refine cE.i fun hc=>?_|refine aQ.i ⟨?_,rfl⟩)<;>try subst ag
  ·exact ⟨⟨↑i,by have:=aB (l:=l) hil;rw [←hc] at this;simp [this]⟩,rfl⟩
  ·refine cB.i ⟨i+1,⟨by simp (disch:=omega) only [go_sem,seval]<;>omega,?_,?_⟩⟩
   ·refine ⟨by omega,?_⟩;rw [take_sn l i hil,abo,abg];exact fun h=>h.elim ho hc
   ·omega
 ·refine Wk.go fun _ ag=>?_;simp (disch:=omega) only [go_sem,seval,cX ag];(repeat' first|apply cq.l|refine cE.i fun hc=>?_|refine aQ.i ⟨?_,rfl⟩)<;>try subst ag
  obtain rfl:i=l.length:=by omega
  rw [aaD] at ho;exact ⟨⟨-1,by simp [ho]⟩,rfl⟩
def sl_ContI (l:List Int) (hl:l.length≤1048576) (n:Int):b8 G 47 [.d (.sl (n7 l)),ai n] (vb (decide (n∈l))):=by
 intro st;have hx:=fun s=>sl_IndexI (G:=G) l hl n s;refine aA.start func47 rfl ntmps47 (by simp) fun _ ag=>?_;simp (disch:=omega) only [go_sem,seval,cX ag,wr,yT (hx _)];(repeat' first|apply cq.l|refine aQ.i ⟨?_,rfl⟩|refine fB.i fun j=>?_)<;>try subst ag
 refine pI ?_;exact j.2
def o_total (ss es:List Int) (h1:ss.length≤1048576) (h2:es.length≤1048576):b8 G 25 [.d (.sl (n7 ss)),.d (.sl (n7 es))] (ai (totF ss es)):=by
 intro st;have c1:=sl_ContI (G:=G) es h2 2;have c2:=sl_ContI (G:=G) ss h1 4;refine aA.start func25 rfl ntmps25 (by simp) fun _ ag=>?_;simp (disch:=omega) only [go_sem,seval,cX ag,bC (c1 _),bC (c2 _)];(repeat' first|apply cq.l|apply bg.i|refine cE.i fun hc=>?_|refine aQ.i ⟨?_,rfl⟩)<;>try subst ag
 all_goals (refine bA ?_;rw [totF];grind)
def rf_Done (r:Rn) (g:r.jobs.length≤1048576):b8 G 26 [vRn r] (vb (!opnF r.jobs)):=by
 intro st;refine aA.start func26 rfl ntmps26 (by simp) fun _ ag=>?_;simp (disch:=omega) only [go_sem,seval,cX ag];all_goals (try subst ag)
 refine AW.zU (fun i:Nat=>[(1,.ptr st.aj.length 0),(3,ai ↑i)]) (fun _=>[.cells (r.enc.map .d)]) (fun _=>[]) (fun i=>i≤r.jobs.length∧opnF (r.jobs.take i)=false) (fun i=>r.jobs.length - i) 0 ⟨by simp,by simp (disch:=first|omega|(simp only [go_sem,aan,aar];try omega)) only [go_sem,seval]⟩ (by simp [opnF]) ?_;intro i ⟨hi,ho⟩;by_cases hil:i<r.jobs.length
 ·refine Wk.go fun _ ag=>?_;simp (disch:=omega) only [go_sem,seval,cX ag];(repeat' first|apply cq.l|apply bg.i|refine cE.i fun hc=>?_|refine aQ.i ⟨?_,rfl⟩)<;>try subst ag
  ·refine pI ?_;rw [opnF_at hil hc];rfl
  ·refine cB.i ⟨i+1,⟨by simp (disch:=omega) only [go_sem,seval]<;>omega,?_,?_⟩⟩
   ·refine ⟨by omega,?_⟩;rw [opnF_snoc hil,ho];simpa using hc
   ·omega
 ·refine Wk.go fun _ ag=>?_;simp (disch:=omega) only [go_sem,seval,cX ag];(repeat' first|apply cq.l|refine cE.i fun hc=>?_|refine aQ.i ⟨?_,rfl⟩)<;>try subst ag
  obtain rfl:i=r.jobs.length:=by omega
  rw [aaD] at ho;refine pI ?_;rw [ho];rfl
def fi_at {α:Type} [Inhabited α] (p:α→Bool) (l:List α) (i:Nat) (hi:i<l.length) (h:i≤l.findIdx p):if p (l.getD i default)=true then l.findIdx p=i else i+1≤l.findIdx p:=by
 rw [getD_eq hi];split
 ·rename_i hp;rcases abe i (l.findIdx p) with h1|h1
  ·exact absurd hp (by simpa using List.not_of_lt_findIdx h1)
  ·omega
 ·rename_i hp;rcases abe i (l.findIdx p) with h1|h1
  ·exact h1
  ·have e:l.findIdx p=i:=by omega
   exfalso;apply hp;have:=List.findIdx_getElem (xs:=l) (p:=p) (w:=by omega);simpa only [e] using this
theorem fi_find {α:Type} [Inhabited α] (p:α→Bool):∀ l:List α,l.find? p=if l.findIdx p<l.length then some (l.getD (l.findIdx p) default) else none
 |[]=>by simp
 |x::l=>by
  rw [List.find?_cons,List.findIdx_cons];cases hp:p x with
  |true=>simp
  |false=>
   simp only [fi_find p l,cond_false,aav,Nat.add_lt_add_iff_right,abI]
def isJ (id:aF) (s:PC):Bool:=decide (s.id=id)
def rf_index (r:Rn) (g:r.jobs.length≤1048576) (id:aF):b8 G 48 [vRn r,vs id] (ai (if r.jobs.findIdx (isJ id)<r.jobs.length then ↑(r.jobs.findIdx (isJ id)) else -1)):=by
 intro st;refine aA.start func48 rfl ntmps48 (by simp) fun _ ag=>?_;simp (disch:=omega) only [go_sem,seval,cX ag];all_goals (try subst ag)
 refine AW.zU (fun i:Nat=>[(1,vs id),(2,.ptr st.aj.length 0),(5,ai ↑i)]) (fun _=>[.cells (r.enc.map .d)]) (fun _=>[]) (fun i=>i≤r.jobs.length∧i≤r.jobs.findIdx (isJ id)) (fun i=>r.jobs.length - i) 0 ⟨by simp,by simp (disch:=first|omega|(simp only [go_sem,aan,aar];try omega)) only [go_sem,seval]⟩ (by simp) ?_;intro i ⟨hi,ho⟩;by_cases hil:i<r.jobs.length
 ·have hf:=fi_at (isJ id) r.jobs i hil ho;simp only [isJ,aau] at hf;refine Wk.go fun _ ag=>?_;simp (disch:=omega) only [go_sem,seval,cX ag];(repeat' first|apply cq.l|apply bg.i|refine cE.i fun hc=>?_|refine aQ.i ⟨?_,rfl⟩)<;>try subst ag
  ·rw [if_pos hc] at hf;refine bA ?_;show _=if r.jobs.findIdx (isJ id)<_ then _ else _
   simp only [isJ,hf,if_pos hil]
  ·rw [if_neg hc] at hf;refine cB.i ⟨i+1,⟨by simp (disch:=omega) only [go_sem,seval]<;>omega,?_,?_⟩⟩
   ·exact ⟨by omega,hf⟩
   ·omega
 ·refine Wk.go fun _ ag=>?_;simp (disch:=omega) only [go_sem,seval,cX ag];(repeat' first|apply cq.l|refine cE.i fun hc=>?_|refine aQ.i ⟨?_,rfl⟩)<;>try subst ag
  refine bA ?_;rw [if_neg (by omega)]
def rf_Find (r:Rn) (g:r.jobs.length≤1048576) (id:aF):b8 G 27 [vRn r,vs id] (.cF [vJst ((stF r.jobs id).getD default),vb (stF r.jobs id).isSome]):=by
 intro st;have hx:=rf_index (G:=G) r g id;have hs:stF r.jobs id=_:=fi_find (isJ id) r.jobs;rw [hs];by_cases h:r.jobs.findIdx (isJ id)<r.jobs.length
 ·rw [if_pos h] at hx ⊢;generalize r.jobs.findIdx (isJ id)=k at h hx;refine aA.start func27 rfl ntmps27 (by simp) fun _ ag=>?_;simp (disch:=omega) only [go_sem,seval,cX ag,bC (hx _)];(repeat' first|apply cq.l|refine cE.i fun hc=>?_|refine aQ.i ⟨?_,rfl⟩)<;>try subst ag
  rfl
 ·rw [if_neg h] at hx ⊢;refine aA.start func27 rfl ntmps27 (by simp) fun _ ag=>?_;simp (disch:=omega) only [go_sem,seval,cX ag,bC (hx _)];(repeat' first|apply cq.l|refine aQ.i ⟨?_,rfl⟩)<;>try subst ag
  rfl
def isB (id:aF) (j:Jb):Bool:=decide (j.id=id)
def rf_Find19 (p:Pln) (g:p.jobs.length≤1048576) (id:aF):b8 G 49 [vPln p,vs id] (.cF [vJb (jobF p.jobs id),vb (p.jobs.find? (isB id)).isSome]):=by
 intro st;have hs:p.jobs.find? (isB id)=_:=fi_find (isB id) p.jobs;have hj:jobF p.jobs id=(p.jobs.find? (isB id)).getD default:=rfl;rw [hj,hs];refine aA.start func49 rfl ntmps49 (by simp) fun _ ag=>?_;simp (disch:=omega) only [go_sem,seval,cX ag];all_goals (try subst ag)
 refine AW.zU (fun i:Nat=>[(1,vs id),(2,.ptr st.aj.length 0),(4,.ptr (st.aj.length+1) 0),(6,ai ↑i)]) (fun _=>[.cells (p.enc.map .d),.cells [.d (.str []),.bh,ai 0,.d (.str []),ai 0,.d (.bool false),ai 0,.d (.str []),.bh,.bh,.bh,.bh,.bh,.bh,.bh,.d (.str []),ai 0,ai 0,ai 0,ai 0,ai 0,.bh,ai 0,ai 0,.bh,.bh,.bh,.bh,.bh,.d (.str []),.d (.bool false),ai 0,.bh,ai 0,.bh,ai 0,ai 0,.d (.bool false),.d (.bool false)]]) (fun _=>[]) (fun i=>i≤p.jobs.length∧i≤p.jobs.findIdx (isB id)) (fun i=>p.jobs.length - i) 0 ⟨by simp,by simp (disch:=first|omega|(simp only [go_sem,aan,aar];try omega)) only [go_sem,seval]⟩ (by simp) ?_;intro i ⟨hi,ho⟩;by_cases hil:i<p.jobs.length
 ·have hf:=fi_at (isB id) p.jobs i hil ho;simp only [isB,aau] at hf;refine Wk.go fun _ ag=>?_;simp (disch:=omega) only [go_sem,seval,cX ag];(repeat' first|apply cq.l|apply bg.i|refine cE.i fun hc=>?_|refine aQ.i ⟨?_,rfl⟩)<;>try subst ag
  ·rw [if_pos hc] at hf;have hf':p.jobs.findIdx (isB id)=i:=hf;rw [hf',if_pos hil];rfl
  ·rw [if_neg hc] at hf;refine cB.i ⟨i+1,⟨by simp (disch:=omega) only [go_sem,seval]<;>omega,?_,?_⟩⟩
   ·exact ⟨by omega,hf⟩
   ·omega
 ·rw [if_neg (by omega)];refine Wk.go fun _ ag=>?_;simp (disch:=omega) only [go_sem,seval,cX ag];(repeat' first|apply cq.l|refine cE.i fun hc=>?_|refine aQ.i ⟨?_,rfl⟩)<;>try subst ag
  rfl
def rf_Status (p:Pln) (g:p.jobs.length≤1048576) (l:List Jrs) (hl:l.length≤1048576):b8 G 28 [vPln p,.d (.sl (l.map Jrs.enc))] (ai (statF p.jobs l 1)):=by
 intro st;refine aA.start func28 rfl ntmps28 (by simp) fun _ ag=>?_;simp (disch:=omega) only [go_sem,seval,cX ag];all_goals (try subst ag)
 refine AW.zU (fun x:Nat×Int=>[(1,.d (.sl (l.map Jrs.enc))),(2,.ptr st.aj.length 0),(5,ai x.2),(6,ai ↑x.1)]) (fun _=>[.cells (p.enc.map .d)]) (fun _=>[]) (fun x=>x.1≤l.length∧statF p.jobs (l.drop x.1) x.2=statF p.jobs l 1) (fun x=>l.length - x.1) (0,1) ⟨by simp,by simp (disch:=first|omega|(simp only [go_sem,aan,aar];try omega)) only [go_sem,seval]⟩ (by simp) ?_;rintro ⟨i,o⟩ ⟨hi,ho⟩;simp only at hi ho;by_cases hil:i<l.length
 ·have hx:=rf_Find19 (G:=G) p g (l.getD i default).id;have he:=fun s=>rf_Effective (G:=G) (jobF p.jobs (l.getD i default).id) (l.getD i default).result.status s;rw [aaT hil,←getD_eq hil,statF] at ho;refine Wk.go fun _ ag=>?_;simp (disch:=omega) only [go_sem,seval,cX ag];(repeat' refine cE.i fun hc=>?_)<;>try subst ag
  refine AW.regE (P:=prog) mx [(0,11),(5,11),(6,11)] (by kernel_rfl) fun _ ag=>?_;simp (disch:=omega) only [go_sem,seval,cX ag,bC (hx _)];(repeat' apply cq.l)<;>try subst ag
  refine qc.i (QE.i (exE_l (by rfl) (exE_l (by rfl) (exE_c (yN.i hx (by rfl) call49 (by rfl) (by rfl) (by simp (disch:=first|omega|(simp only [go_sem,aan,aar];try omega)) only [go_sem,seval];try exact rfl) (by simp (disch:=first|omega|(simp only [go_sem,aan,aar];try omega)) only [go_sem,seval];try exact rfl)) exE_nil))) ?_);refine kQ fun _ ag=>?_;simp (disch:=first|omega|exact ⟨by kernel_rfl⟩|(simp only [go_sem,aan];try omega)) only [go_sem,seval,cX ag,wd,bC (he _)];(repeat' first|apply cq.l|apply bg.i|refine cE.i fun hc=>?_|refine aQ.i ⟨?_,rfl⟩|apply cB.o)<;>try subst ag
  ·rw [if_pos hc] at ho;exact bA ho
  ·rename_i h2;rw [if_neg h2,if_pos hc] at ho;refine cB.i ⟨(i+1,4),⟨by simp (disch:=omega) only [go_sem,seval]<;>omega,?_,?_⟩⟩
   ·exact ⟨by simp only;omega,ho⟩
   ·simp only;omega
  ·rename_i h2;rw [if_neg h2,if_neg hc] at ho;refine cB.i ⟨(i+1,o),⟨by simp (disch:=omega) only [go_sem,seval]<;>omega,?_,?_⟩⟩
   ·exact ⟨by simp only;omega,ho⟩
   ·simp only;omega
 ·rw [aa0 (by omega),statF] at ho;refine Wk.go fun _ ag=>?_;simp (disch:=omega) only [go_sem,seval,cX ag];(repeat' first|apply cq.l|refine cE.i fun hc=>?_|refine aQ.i ⟨?_,rfl⟩)<;>try subst ag
  exact bA ho
