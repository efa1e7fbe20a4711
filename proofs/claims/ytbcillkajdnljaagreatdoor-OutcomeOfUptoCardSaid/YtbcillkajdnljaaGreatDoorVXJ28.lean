import Derived.Test.YtbcillkajdnljaaGreatDoorVXJ3
set_option linter.all false
set_option maxRecDepth 20000
set_option maxHeartbeats 4000000
namespace Go.Proofs.YtbcillkajdnljaaGreatDoor
open _root_.Go.Proofs.Tryz
open Go.Abs Go.Deep Go.ChangeShapes Go.WideShapes Go.ChangeAt Go.RowKit
theorem allN_len:∀ l:List Jb,(allN l).length=(l.map fun j=>(j.n8.map fun _=>1).sum).sum
 |[]=>rfl
 |j::r=>by
  have h:∀ l:List aF,(l.map fun _=>1).sum=l.length:=fun l=>by induction l with
   |nil=>rfl
   |cons a l ih=>simp only [aaB,List.sum_cons,aav,ih];omega
  simp only [allN,List.flatMap_cons,aax,aaB,List.sum_cons,h];have:=allN_len r;simp only [allN,h] at this;rw [this]
def RV (W:World) (cs:List Value) (es:List D):Prop:=cs.length=es.length∧∀ j,j<es.length→de (gh W).H (cs.getD j undef) (es.getD j .eX)
def RV.one {W:World} {c:Value} {e:D} (h:de (gh W).H c e):RV W [c] [e]:=by
 refine ⟨rfl,fun j hj=>?_⟩;obtain rfl:j=0:=by simpa using hj
 exact h
def RV.app {W:World} {a b:List Value} {x y:List D} (h1:RV W a x) (h2:RV W b y):RV W (a++b) (x++y):=by
 refine ⟨by rw [aax,aax,h1.1,h2.1],fun j hj=>?_⟩;by_cases hx:j<x.length
 ·rw [aam,aam,aaz hx,aaz (by have:=h1.1;omega),←aam,←aam];exact h1.2 j hx
 ·rw [aam,aam,aay (by have:=h1.1;omega),aay (by have:=h1.1;omega),h1.1,←aam,←aam];exact h2.2 _ (by rw [aax] at hj;omega)
def RV.step {W:World} {cs:List Value} {o m o':Nat} {x y:List D} (h1:RV W ((cs.drop o).take m) x) (ho:o'=o+m) (h2:RV W (cs.drop o') y):RV W (cs.drop o) (x++y):=by
 have:=h1.app h2
 rwa [ho,←List.drop_drop,List.take_append_drop] at this
def RV.fin {W:World} {cs:List Value} {o:Nat} (h:cs.length=o):RV W (cs.drop o) []:=by rw [aa0 (by omega)];exact ⟨rfl,fun _ h=>nomatch h⟩
structure QM {α:Type} (m:α→Nat) (g:α→Prop) (a:α) (b:Nat):Prop where
 pos:1≤b
 bulk:m a≤b
 g:b≤1048576→g a
def cV_Vr:Tryz.prog.cellsOf 173=7:=by kernel_rfl
def cV_Stp:Tryz.prog.cellsOf 182=4:=by kernel_rfl
def cV_Rty:Tryz.prog.cellsOf 69=4:=by kernel_rfl
def cV_Csh:Tryz.prog.cellsOf 254=3:=by kernel_rfl
def cV_Gsp:Tryz.prog.cellsOf 46=3:=by kernel_rfl
def cV_Jb:Tryz.prog.cellsOf 72=39:=by kernel_rfl
def cV_Pln:Tryz.prog.cellsOf 26=2:=by kernel_rfl
def cV_Org:Tryz.prog.cellsOf 23=3:=by kernel_rfl
def cV_Tmg:Tryz.prog.cellsOf 641=2:=by kernel_rfl
def cV_Otp:Tryz.prog.cellsOf 125=3:=by kernel_rfl
def cV_Tsr:Tryz.prog.cellsOf 128=3:=by kernel_rfl
def cV_Rsl:Tryz.prog.cellsOf 52=6:=by kernel_rfl
def cV_Atm:Tryz.prog.cellsOf 98=7:=by kernel_rfl
def cV_Gte:Tryz.prog.cellsOf 48=6:=by kernel_rfl
def cV_Jst:Tryz.prog.cellsOf 54=16:=by kernel_rfl
def cV_Rn:Tryz.prog.cellsOf 30=12:=by kernel_rfl
def cV_Jrs:Tryz.prog.cellsOf 56=7:=by kernel_rfl
def cV_Fnl:Tryz.prog.cellsOf 33=2:=by kernel_rfl
def cV_Val:Tryz.prog.cellsOf 61=6:=by kernel_rfl
def cV_Ex:Tryz.prog.cellsOf 64=10:=by kernel_rfl
def cW0:Tryz.prog.cellsOf 9=1:=by kernel_rfl
def cW1:Tryz.prog.cellsOf 3=1:=by kernel_rfl
def cW2:Tryz.prog.cellsOf 67=1:=by kernel_rfl
def cW3:Tryz.prog.cellsOf 44=1:=by kernel_rfl
def cW4:Tryz.prog.cellsOf 65=1:=by kernel_rfl
def cW5:Tryz.prog.cellsOf 66=1:=by kernel_rfl
def cW6:Tryz.prog.cellsOf 70=1:=by kernel_rfl
def cW7:Tryz.prog.cellsOf 4=1:=by kernel_rfl
def cW8:Tryz.prog.cellsOf 24=1:=by kernel_rfl
def cW9:Tryz.prog.cellsOf 123=1:=by kernel_rfl
def cW10:Tryz.prog.cellsOf 49=1:=by kernel_rfl
def cW11:Tryz.prog.cellsOf 50=1:=by kernel_rfl
def cW12:Tryz.prog.cellsOf 43=1:=by kernel_rfl
def cW13:Tryz.prog.cellsOf 27=1:=by kernel_rfl
def cW14:Tryz.prog.cellsOf 28=1:=by kernel_rfl
def cW15:Tryz.prog.cellsOf 31=1:=by kernel_rfl
section
variable {H:Type} {enc:TypeId×Value→H} {W:World}
def OV (enc:TypeId×Value→H) (W:World) (t:TypeId) {α:Type} (E:α→List D) (Q:α→Nat→Prop):Prop:=∀ fuel cs x,DataW.trod enc prog W 0 (fun _=>true) true fuel t cs=some x→∃ a,RV W cs (E a)∧Q a (Rows.uptoBulk x.1)
def pN:OV enc W 3 (fun n:Int=>[int n]) (QM (fun _=>0) iI):=by
 intro fuel cs x h;obtain ⟨k,e,rfl,w⟩:=DataW.trod_int underlying3 h;subst e;exact ⟨k,RV.one (.int _ _),aat _,aaK _,fun _=>bounds_i64 w⟩
def ov_dig:OV enc W 123 (fun n:Int=>[.int .u64 n]) (QM (fun _=>0) fun n=>0≤n∧n<18446744073709551616):=by
 intro fuel cs x h;obtain ⟨k,e,rfl,w⟩:=DataW.trod_int underlying123 h;subst e;refine ⟨k,RV.one (.int _ _),aat _,aaK _,fun _=>?_⟩;simp [Lit.wf,IntKind.min,IntKind.max,IntKind.signed,IntKind.bits] at w;omega
def ov_bool:OV enc W 4 (fun b:Bool=>[.bool b]) (QM (fun _=>0) fun _=>True):=by
 intro fuel cs x h;obtain ⟨b,e,rfl⟩:=DataW.trod_bool underlying4 h;subst e;exact ⟨b,RV.one (.bool _),aat _,aaK _,fun _=>trivial⟩
def aaj:OV enc W 9 (fun s:aF=>[.str s]) (QM (fun _=>1) fun s=>s.length≤1048576):=by
 intro fuel cs x h;obtain ⟨c,s,rfl,r,e⟩:=ZO h;exact ⟨s,RV.one r,by omega,by omega,fun _=>by omega⟩
def ov_list {α:Type} [Inhabited α] {E:α→List D} {m:α→Nat} {g:α→Prop} {t e sz:Nat} (ht:Tryz.prog.underlying t=some (.slice e)) (hc:Tryz.prog.cellsOf e=sz) (hz:0<sz) (hE:∀ a,(E a).length=sz) (one:OV enc W e E (QM m g)):
  OV enc W t (fun l:List α=>[.sl (l.map E)]) (QM (fun l=>(l.map m).sum) fun l=>l.length≤1048576∧∀ y∈l,g y):=by
 intro fuel cs x h
 obtain ⟨v,p,e,r,q,s⟩:=ZP (E:=E) (Q:=QM m g) ht hc hz hE (fun n hn cs x h=>by
  obtain ⟨a,r,q⟩:=one n cs x h;exact ⟨a,fun j hj=>r.2 j (by rw [hE];exact hj),q⟩) h
 subst e
 have t1:=Z7 m 1 p fun z hz=>by have:=(q z hz).bulk;omega
 have t2:=ZV p fun z hz=>(q z hz).pos
 refine ⟨p.map (·.1),RV.one r,by omega,by omega,fun hb=>⟨by rw [aaC];omega,fun y hy=>?_⟩⟩
 obtain ⟨z,hz,rfl⟩:=abm.1 hy
 exact (q z hz).g (by have:=ZW hz;omega)
def ov_strs:OV enc W 44 (fun l:List aF=>[.sl (bt l)]) (QM (fun l=>(l.map fun _=>1).sum) gKs):=ov_list underlying44 c9 (by omega) (fun _=>rfl) aaj
def ov_ints:OV enc W 67 (fun l:List Int=>[.sl (n7 l)]) (QM (fun l=>(l.map fun _=>0).sum) gIs):=ov_list underlying67 c3 (by omega) (fun _=>rfl) pN
def ov_Val:OV enc W 61 aX.enc (QM (fun _=>0) fun v=>gVal v∧cj v≤1099511627776):=by
 intro fuel cs x h;obtain ⟨a,hl,r,h1,h2,h3,h4⟩:=open_val fuel cs x h;exact ⟨a,⟨by rw [hl,aX.dN],fun j hj=>r j (by rw [aX.dN] at hj;exact hj)⟩,h1,aaK _,fun hb=>⟨⟨h4 hb,h2⟩,by omega⟩⟩
def ov_Ex:OV enc W 64 Ex.enc (QM (fun _=>0) fun e=>gE e∧bq e≤1099511627776):=by
 intro fuel cs x h;obtain ⟨a,hl,r,h1,h2,h3,h4⟩:=open_ex fuel cs x h;exact ⟨a,⟨by rw [hl,Ex.dN],fun j hj=>r j (by rw [Ex.dN] at hj;exact hj)⟩,h1,aaK _,fun hb=>⟨⟨h4 hb,h2⟩,by omega⟩⟩
def ov_Vr:OV enc W 173 Vr.enc (QM (fun _=>0) (fun x=>gVr x∧cj x.value≤1099511627776)):=by
 intro fuel cs x h;obtain ⟨xs,n,rfl,rfl,hl,hxl,hf⟩:=DataW.trod_struct underlying173 h;rw [cV_Vr] at hl
 match xs,hxl with
 |[x0,x1],_=>
 obtain ⟨a0,r0,q0⟩:=aaj _ _ _ (k8 hf 0 rfl 0 9 rfl rfl cW0);obtain ⟨a1,r1,q1⟩:=ov_Val _ _ _ (k8 hf 1 rfl 1 61 rfl rfl cV_Val);have rr:=RV.step (o:=0) r0 rfl (r1.step rfl (RV.fin hl));rw [aa5] at rr;refine ⟨⟨a0,a1⟩,by simpa only [Vr.enc,aaG,aaP,aaN,aaM] using rr,?_⟩;simp only [Rows.uptoBulk,Rows.uptoBulkAll,aaB,aaI];exact ⟨abh 1 _,aaK _,fun hb=>⟨⟨(q0.g (by omega)),(q1.g (by omega)).1⟩,(q1.g (by omega)).2⟩⟩
def ov_Stp:OV enc W 182 Stp.enc (QM (fun _=>0) (gStp)):=by
 intro fuel cs x h;obtain ⟨xs,n,rfl,rfl,hl,hxl,hf⟩:=DataW.trod_struct underlying182 h;rw [cV_Stp] at hl
 match xs,hxl with
 |[x0,x1,x2,x3],_=>
 obtain ⟨a0,r0,q0⟩:=pN _ _ _ (k8 hf 0 rfl 0 3 rfl rfl cW1);obtain ⟨a1,r1,q1⟩:=aaj _ _ _ (k8 hf 1 rfl 1 9 rfl rfl cW0);obtain ⟨a2,r2,q2⟩:=aaj _ _ _ (k8 hf 2 rfl 2 9 rfl rfl cW0);obtain ⟨a3,r3,q3⟩:=pN _ _ _ (k8 hf 3 rfl 3 3 rfl rfl cW1);have rr:=RV.step (o:=0) r0 rfl (r1.step rfl (r2.step rfl (r3.step rfl (RV.fin hl))));rw [aa5] at rr;refine ⟨⟨a0,a1,a2,a3⟩,by simpa only [Stp.enc,aaG,aaP,aaN,aaM] using rr,?_⟩;simp only [Rows.uptoBulk,Rows.uptoBulkAll,aaB,aaI];exact ⟨abh 1 _,aaK _,fun hb=>⟨(q0.g (by omega)),(q1.g (by omega)),(q2.g (by omega)),(q3.g (by omega))⟩⟩
def ov_Rty:OV enc W 69 Rty.enc (QM (fun _=>0) (gRty)):=by
 intro fuel cs x h;obtain ⟨xs,n,rfl,rfl,hl,hxl,hf⟩:=DataW.trod_struct underlying69 h;rw [cV_Rty] at hl
 match xs,hxl with
 |[x0,x1,x2,x3],_=>
 obtain ⟨a0,r0,q0⟩:=pN _ _ _ (k8 hf 0 rfl 0 3 rfl rfl cW1);obtain ⟨a1,r1,q1⟩:=ov_ints _ _ _ (k8 hf 1 rfl 1 67 rfl rfl cW2);obtain ⟨a2,r2,q2⟩:=pN _ _ _ (k8 hf 2 rfl 2 3 rfl rfl cW1);obtain ⟨a3,r3,q3⟩:=pN _ _ _ (k8 hf 3 rfl 3 3 rfl rfl cW1);have rr:=RV.step (o:=0) r0 rfl (r1.step rfl (r2.step rfl (r3.step rfl (RV.fin hl))));rw [aa5] at rr;refine ⟨⟨a0,a1,a2,a3⟩,by simpa only [Rty.enc,aaG,aaP,aaN,aaM] using rr,?_⟩;simp only [Rows.uptoBulk,Rows.uptoBulkAll,aaB,aaI];exact ⟨abh 1 _,aaK _,fun hb=>⟨(q0.g (by omega)),(q1.g (by omega)),(q2.g (by omega)),(q3.g (by omega))⟩⟩
def ov_Csh:OV enc W 254 Csh.enc (QM (fun _=>0) (gCsh)):=by
 intro fuel cs x h;obtain ⟨xs,n,rfl,rfl,hl,hxl,hf⟩:=DataW.trod_struct underlying254 h;rw [cV_Csh] at hl
 match xs,hxl with
 |[x0,x1,x2],_=>
 obtain ⟨a0,r0,q0⟩:=aaj _ _ _ (k8 hf 0 rfl 0 9 rfl rfl cW0);obtain ⟨a1,r1,q1⟩:=ov_strs _ _ _ (k8 hf 1 rfl 1 44 rfl rfl cW3);obtain ⟨a2,r2,q2⟩:=ov_strs _ _ _ (k8 hf 2 rfl 2 44 rfl rfl cW3);have rr:=RV.step (o:=0) r0 rfl (r1.step rfl (r2.step rfl (RV.fin hl)));rw [aa5] at rr;refine ⟨⟨a0,a1,a2⟩,by simpa only [Csh.enc,aaG,aaP,aaN,aaM] using rr,?_⟩;simp only [Rows.uptoBulk,Rows.uptoBulkAll,aaB,aaI];exact ⟨abh 1 _,aaK _,fun hb=>⟨(q0.g (by omega)),(q1.g (by omega)),(q2.g (by omega))⟩⟩
def ov_Gsp:OV enc W 46 Gsp.enc (QM (fun _=>0) (gGsp)):=by
 intro fuel cs x h;obtain ⟨xs,n,rfl,rfl,hl,hxl,hf⟩:=DataW.trod_struct underlying46 h;rw [cV_Gsp] at hl
 match xs,hxl with
 |[x0,x1,x2],_=>
 obtain ⟨a0,r0,q0⟩:=pN _ _ _ (k8 hf 0 rfl 0 3 rfl rfl cW1);obtain ⟨a1,r1,q1⟩:=ov_strs _ _ _ (k8 hf 1 rfl 1 44 rfl rfl cW3);obtain ⟨a2,r2,q2⟩:=pN _ _ _ (k8 hf 2 rfl 2 3 rfl rfl cW1);have rr:=RV.step (o:=0) r0 rfl (r1.step rfl (r2.step rfl (RV.fin hl)));rw [aa5] at rr;refine ⟨⟨a0,a1,a2⟩,by simpa only [Gsp.enc,aaG,aaP,aaN,aaM] using rr,?_⟩;simp only [Rows.uptoBulk,Rows.uptoBulkAll,aaB,aaI];exact ⟨abh 1 _,aaK _,fun hb=>⟨(q0.g (by omega)),(q1.g (by omega)),(q2.g (by omega))⟩⟩
def ov_Jb:OV enc W 72 Jb.enc (QM (fun j=>(j.n8.map fun _=>1).sum) (sJb)):=by
 intro fuel cs x h;obtain ⟨xs,n,rfl,rfl,hl,hxl,hf⟩:=DataW.trod_struct underlying72 h;rw [cV_Jb] at hl
 match xs,hxl with
 |[x0,x1,x2,x3,x4,x5,x6,x7,x8,x9,x10,x11,x12,x13,x14,x15,x16,x17,x18,x19,x20,x21,x22,x23,x24],_=>
 obtain ⟨a0,r0,q0⟩:=aaj _ _ _ (k8 hf 0 rfl 0 9 rfl rfl cW0);obtain ⟨a1,r1,q1⟩:=ov_strs _ _ _ (k8 hf 1 rfl 1 44 rfl rfl cW3);obtain ⟨a2,r2,q2⟩:=ov_Ex _ _ _ (k8 hf 2 rfl 2 64 rfl rfl cV_Ex);obtain ⟨a3,r3,q3⟩:=(ov_list underlying65 cV_Vr (by omega) Vr.dN ov_Vr) _ _ _ (k8 hf 3 rfl 12 65 rfl rfl cW4);obtain ⟨a4,r4,q4⟩:=(ov_list underlying66 cV_Stp (by omega) Stp.dN ov_Stp) _ _ _ (k8 hf 4 rfl 13 66 rfl rfl cW5);obtain ⟨a5,r5,q5⟩:=ov_strs _ _ _ (k8 hf 5 rfl 14 44 rfl rfl cW3);obtain ⟨a6,r6,q6⟩:=aaj _ _ _ (k8 hf 6 rfl 15 9 rfl rfl cW0);obtain ⟨a7,r7,q7⟩:=pN _ _ _ (k8 hf 7 rfl 16 3 rfl rfl cW1);obtain ⟨a8,r8,q8⟩:=pN _ _ _ (k8 hf 8 rfl 17 3 rfl rfl cW1);obtain ⟨a9,r9,q9⟩:=pN _ _ _ (k8 hf 9 rfl 18 3 rfl rfl cW1);obtain ⟨a10,r10,q10⟩:=pN _ _ _ (k8 hf 10 rfl 19 3 rfl rfl cW1);obtain ⟨a11,r11,q11⟩:=ov_Rty _ _ _ (k8 hf 11 rfl 20 69 rfl rfl cV_Rty);obtain ⟨a12,r12,q12⟩:=ov_strs _ _ _ (k8 hf 12 rfl 24 44 rfl rfl cW3);obtain ⟨a13,r13,q13⟩:=ov_strs _ _ _ (k8 hf 13 rfl 25 44 rfl rfl cW3);obtain ⟨a14,r14,q14⟩:=ov_strs _ _ _ (k8 hf 14 rfl 26 44 rfl rfl cW3);obtain ⟨a15,r15,q15⟩:=(ov_list underlying70 cV_Csh (by omega) Csh.dN ov_Csh) _ _ _ (k8 hf 15 rfl 27 70 rfl rfl cW6);obtain ⟨a16,r16,q16⟩:=ov_strs _ _ _ (k8 hf 16 rfl 28 44 rfl rfl cW3);obtain ⟨a17,r17,q17⟩:=aaj _ _ _ (k8 hf 17 rfl 29 9 rfl rfl cW0);obtain ⟨a18,r18,q18⟩:=ov_bool _ _ _ (k8 hf 18 rfl 30 4 rfl rfl cW7);obtain ⟨a19,r19,q19⟩:=ov_Gsp _ _ _ (k8 hf 19 rfl 31 46 rfl rfl cV_Gsp);obtain ⟨a20,r20,q20⟩:=ov_strs _ _ _ (k8 hf 20 rfl 34 44 rfl rfl cW3);obtain ⟨a21,r21,q21⟩:=pN _ _ _ (k8 hf 21 rfl 35 3 rfl rfl cW1);obtain ⟨a22,r22,q22⟩:=pN _ _ _ (k8 hf 22 rfl 36 3 rfl rfl cW1);obtain ⟨a23,r23,q23⟩:=ov_bool _ _ _ (k8 hf 23 rfl 37 4 rfl rfl cW7);obtain ⟨a24,r24,q24⟩:=ov_bool _ _ _ (k8 hf 24 rfl 38 4 rfl rfl cW7);have rr:=RV.step (o:=0) r0 rfl (r1.step rfl (r2.step rfl (r3.step rfl (r4.step rfl (r5.step rfl (r6.step rfl (r7.step rfl (r8.step rfl (r9.step rfl (r10.step rfl (r11.step rfl (r12.step rfl (r13.step rfl (r14.step rfl (r15.step rfl (r16.step rfl (r17.step rfl (r18.step rfl (r19.step rfl (r20.step rfl (r21.step rfl (r22.step rfl (r23.step rfl (r24.step rfl (RV.fin hl)))))))))))))))))))))))));rw [aa5] at rr;refine ⟨⟨a0,a1,a2,a3,a4,a5,a6,a7,a8,a9,a10,a11,a12,a13,a14,a15,a16,a17,a18,a19,a20,a21,a22,a23,a24⟩,by simpa only [Jb.enc,aaG,aaP,aaN,aaM] using rr,?_⟩;simp only [Rows.uptoBulk,Rows.uptoBulkAll,aaB,aaI];exact ⟨abh 1 _,by have:=q1.bulk;show (a1.map fun _=>1).sum≤_;omega,fun hb=>⟨⟨(q0.g (by omega)),(q1.g (by omega)),(q2.g (by omega)).1,⟨(q3.g (by omega)).1,fun y hy=>((q3.g (by omega)).2 y hy).1⟩,(q4.g (by omega)),(q5.g (by omega)),(q6.g (by omega)),(q7.g (by omega)),(q8.g (by omega)),(q9.g (by omega)),(q10.g (by omega)),(q11.g (by omega)),(q12.g (by omega)),(q13.g (by omega)),(q14.g (by omega)),(q15.g (by omega)),(q16.g (by omega)),(q17.g (by omega)),(q19.g (by omega)),(q20.g (by omega)),(q21.g (by omega)),(q22.g (by omega))⟩,(q2.g (by omega)).2,fun y hy=>((q3.g (by omega)).2 y hy).2⟩⟩
def ov_Pln:OV enc W 26 Pln.enc (QM (fun _=>0) (fun p=>gPln p∧sPln p)):=by
 intro fuel cs x h;obtain ⟨xs,n,rfl,rfl,hl,hxl,hf⟩:=DataW.trod_struct underlying26 h;rw [cV_Pln] at hl
 match xs,hxl with
 |[x0,x1],_=>
 obtain ⟨a0,r0,q0⟩:=aaj _ _ _ (k8 hf 0 rfl 0 9 rfl rfl cW0);obtain ⟨a1,r1,q1⟩:=(ov_list underlying24 cV_Jb (by omega) Jb.dN ov_Jb) _ _ _ (k8 hf 1 rfl 1 24 rfl rfl cW8);have rr:=RV.step (o:=0) r0 rfl (r1.step rfl (RV.fin hl));rw [aa5] at rr;refine ⟨⟨a0,a1⟩,by simpa only [Pln.enc,aaG,aaP,aaN,aaM] using rr,?_⟩;simp only [Rows.uptoBulk,Rows.uptoBulkAll,aaB,aaI];exact ⟨abh 1 _,aaK _,fun hb=>⟨⟨(q0.g (by omega)),⟨(q1.g (by omega)).1,fun y hy=>((q1.g (by omega)).2 y hy).g⟩⟩,⟨q0.g (by omega),(q1.g (by omega)).1,(q1.g (by omega)).2,by have:=q1.bulk;have:=allN_len a1;show (allN a1).length≤1048576;omega⟩⟩⟩
def ov_Org:OV enc W 23 Org.enc (QM (fun _=>0) (gOrg)):=by
 intro fuel cs x h;obtain ⟨xs,n,rfl,rfl,hl,hxl,hf⟩:=DataW.trod_struct underlying23 h;rw [cV_Org] at hl
 match xs,hxl with
 |[x0,x1,x2],_=>
 obtain ⟨a0,r0,q0⟩:=aaj _ _ _ (k8 hf 0 rfl 0 9 rfl rfl cW0);obtain ⟨a1,r1,q1⟩:=aaj _ _ _ (k8 hf 1 rfl 1 9 rfl rfl cW0);obtain ⟨a2,r2,q2⟩:=ov_bool _ _ _ (k8 hf 2 rfl 2 4 rfl rfl cW7);have rr:=RV.step (o:=0) r0 rfl (r1.step rfl (r2.step rfl (RV.fin hl)));rw [aa5] at rr;refine ⟨⟨a0,a1,a2⟩,by simpa only [Org.enc,aaG,aaP,aaN,aaM] using rr,?_⟩;simp only [Rows.uptoBulk,Rows.uptoBulkAll,aaB,aaI];exact ⟨abh 1 _,aaK _,fun hb=>⟨(q0.g (by omega)),(q1.g (by omega))⟩⟩
def ov_Tmg:OV enc W 641 Tmg.enc (QM (fun _=>0) (gTmg)):=by
 intro fuel cs x h;obtain ⟨xs,n,rfl,rfl,hl,hxl,hf⟩:=DataW.trod_struct underlying641 h;rw [cV_Tmg] at hl
 match xs,hxl with
 |[x0,x1],_=>
 obtain ⟨a0,r0,q0⟩:=aaj _ _ _ (k8 hf 0 rfl 0 9 rfl rfl cW0);obtain ⟨a1,r1,q1⟩:=pN _ _ _ (k8 hf 1 rfl 1 3 rfl rfl cW1);have rr:=RV.step (o:=0) r0 rfl (r1.step rfl (RV.fin hl));rw [aa5] at rr;refine ⟨⟨a0,a1⟩,by simpa only [Tmg.enc,aaG,aaP,aaN,aaM] using rr,?_⟩;simp only [Rows.uptoBulk,Rows.uptoBulkAll,aaB,aaI];exact ⟨abh 1 _,aaK _,fun hb=>⟨(q0.g (by omega)),(q1.g (by omega))⟩⟩
def ov_Otp:OV enc W 125 Otp.enc (QM (fun _=>0) (gOtp)):=by
 intro fuel cs x h;obtain ⟨xs,n,rfl,rfl,hl,hxl,hf⟩:=DataW.trod_struct underlying125 h;rw [cV_Otp] at hl
 match xs,hxl with
 |[x0,x1,x2],_=>
 obtain ⟨a0,r0,q0⟩:=aaj _ _ _ (k8 hf 0 rfl 0 9 rfl rfl cW0);obtain ⟨a1,r1,q1⟩:=ov_dig _ _ _ (k8 hf 1 rfl 1 123 rfl rfl cW9);obtain ⟨a2,r2,q2⟩:=pN _ _ _ (k8 hf 2 rfl 2 3 rfl rfl cW1);have rr:=RV.step (o:=0) r0 rfl (r1.step rfl (r2.step rfl (RV.fin hl)));rw [aa5] at rr;refine ⟨⟨a0,a1,a2⟩,by simpa only [Otp.enc,aaG,aaP,aaN,aaM] using rr,?_⟩;simp only [Rows.uptoBulk,Rows.uptoBulkAll,aaB,aaI];exact ⟨abh 1 _,aaK _,fun hb=>⟨(q0.g (by omega)),(q1.g (by omega)),(q2.g (by omega))⟩⟩
def ov_Tsr:OV enc W 128 Tsr.enc (QM (fun _=>0) (gTsr)):=by
 intro fuel cs x h;obtain ⟨xs,n,rfl,rfl,hl,hxl,hf⟩:=DataW.trod_struct underlying128 h;rw [cV_Tsr] at hl
 match xs,hxl with
 |[x0,x1,x2],_=>
 obtain ⟨a0,r0,q0⟩:=aaj _ _ _ (k8 hf 0 rfl 0 9 rfl rfl cW0);obtain ⟨a1,r1,q1⟩:=pN _ _ _ (k8 hf 1 rfl 1 3 rfl rfl cW1);obtain ⟨a2,r2,q2⟩:=pN _ _ _ (k8 hf 2 rfl 2 3 rfl rfl cW1);have rr:=RV.step (o:=0) r0 rfl (r1.step rfl (r2.step rfl (RV.fin hl)));rw [aa5] at rr;refine ⟨⟨a0,a1,a2⟩,by simpa only [Tsr.enc,aaG,aaP,aaN,aaM] using rr,?_⟩;simp only [Rows.uptoBulk,Rows.uptoBulkAll,aaB,aaI];exact ⟨abh 1 _,aaK _,fun hb=>⟨(q0.g (by omega)),(q1.g (by omega)),(q2.g (by omega))⟩⟩
def ov_Rsl:OV enc W 52 Rsl.enc (QM (fun _=>0) (gRsl)):=by
 intro fuel cs x h;obtain ⟨xs,n,rfl,rfl,hl,hxl,hf⟩:=DataW.trod_struct underlying52 h;rw [cV_Rsl] at hl
 match xs,hxl with
 |[x0,x1,x2,x3,x4,x5],_=>
 obtain ⟨a0,r0,q0⟩:=pN _ _ _ (k8 hf 0 rfl 0 3 rfl rfl cW1);obtain ⟨a1,r1,q1⟩:=pN _ _ _ (k8 hf 1 rfl 1 3 rfl rfl cW1);obtain ⟨a2,r2,q2⟩:=(ov_list underlying49 cV_Otp (by omega) Otp.dN ov_Otp) _ _ _ (k8 hf 2 rfl 2 49 rfl rfl cW10);obtain ⟨a3,r3,q3⟩:=(ov_list underlying49 cV_Otp (by omega) Otp.dN ov_Otp) _ _ _ (k8 hf 3 rfl 3 49 rfl rfl cW10);obtain ⟨a4,r4,q4⟩:=(ov_list underlying50 cV_Tsr (by omega) Tsr.dN ov_Tsr) _ _ _ (k8 hf 4 rfl 4 50 rfl rfl cW11);obtain ⟨a5,r5,q5⟩:=aaj _ _ _ (k8 hf 5 rfl 5 9 rfl rfl cW0);have rr:=RV.step (o:=0) r0 rfl (r1.step rfl (r2.step rfl (r3.step rfl (r4.step rfl (r5.step rfl (RV.fin hl))))));rw [aa5] at rr;refine ⟨⟨a0,a1,a2,a3,a4,a5⟩,by simpa only [Rsl.enc,aaG,aaP,aaN,aaM] using rr,?_⟩;simp only [Rows.uptoBulk,Rows.uptoBulkAll,aaB,aaI];exact ⟨abh 1 _,aaK _,fun hb=>⟨(q0.g (by omega)),(q1.g (by omega)),(q2.g (by omega)),(q3.g (by omega)),(q4.g (by omega)),(q5.g (by omega))⟩⟩
def ov_Atm:OV enc W 98 Atm.enc (QM (fun _=>0) (gAtm)):=by
 intro fuel cs x h;obtain ⟨xs,n,rfl,rfl,hl,hxl,hf⟩:=DataW.trod_struct underlying98 h;rw [cV_Atm] at hl
 match xs,hxl with
 |[x0,x1,x2,x3,x4,x5,x6],_=>
 obtain ⟨a0,r0,q0⟩:=pN _ _ _ (k8 hf 0 rfl 0 3 rfl rfl cW1);obtain ⟨a1,r1,q1⟩:=pN _ _ _ (k8 hf 1 rfl 1 3 rfl rfl cW1);obtain ⟨a2,r2,q2⟩:=aaj _ _ _ (k8 hf 2 rfl 2 9 rfl rfl cW0);obtain ⟨a3,r3,q3⟩:=pN _ _ _ (k8 hf 3 rfl 3 3 rfl rfl cW1);obtain ⟨a4,r4,q4⟩:=pN _ _ _ (k8 hf 4 rfl 4 3 rfl rfl cW1);obtain ⟨a5,r5,q5⟩:=pN _ _ _ (k8 hf 5 rfl 5 3 rfl rfl cW1);obtain ⟨a6,r6,q6⟩:=pN _ _ _ (k8 hf 6 rfl 6 3 rfl rfl cW1);have rr:=RV.step (o:=0) r0 rfl (r1.step rfl (r2.step rfl (r3.step rfl (r4.step rfl (r5.step rfl (r6.step rfl (RV.fin hl)))))));rw [aa5] at rr;refine ⟨⟨a0,a1,a2,a3,a4,a5,a6⟩,by simpa only [Atm.enc,aaG,aaP,aaN,aaM] using rr,?_⟩;simp only [Rows.uptoBulk,Rows.uptoBulkAll,aaB,aaI];exact ⟨abh 1 _,aaK _,fun hb=>⟨(q0.g (by omega)),(q1.g (by omega)),(q2.g (by omega)),(q3.g (by omega)),(q4.g (by omega)),(q5.g (by omega)),(q6.g (by omega))⟩⟩
def ov_Gte:OV enc W 48 Gte.enc (QM (fun _=>0) (gGte)):=by
 intro fuel cs x h;obtain ⟨xs,n,rfl,rfl,hl,hxl,hf⟩:=DataW.trod_struct underlying48 h;rw [cV_Gte] at hl
 match xs,hxl with
 |[x0,x1,x2,x3],_=>
 obtain ⟨a0,r0,q0⟩:=ov_Gsp _ _ _ (k8 hf 0 rfl 0 46 rfl rfl cV_Gsp);obtain ⟨a1,r1,q1⟩:=pN _ _ _ (k8 hf 1 rfl 3 3 rfl rfl cW1);obtain ⟨a2,r2,q2⟩:=ov_strs _ _ _ (k8 hf 2 rfl 4 44 rfl rfl cW3);obtain ⟨a3,r3,q3⟩:=pN _ _ _ (k8 hf 3 rfl 5 3 rfl rfl cW1);have rr:=RV.step (o:=0) r0 rfl (r1.step rfl (r2.step rfl (r3.step rfl (RV.fin hl))));rw [aa5] at rr;refine ⟨⟨a0,a1,a2,a3⟩,by simpa only [Gte.enc,aaG,aaP,aaN,aaM] using rr,?_⟩;simp only [Rows.uptoBulk,Rows.uptoBulkAll,aaB,aaI];exact ⟨abh 1 _,aaK _,fun hb=>⟨(q0.g (by omega)),(q1.g (by omega)),(q2.g (by omega)),(q3.g (by omega))⟩⟩
def ov_Jst:OV enc W 54 PC.enc (QM (fun _=>0) (gJst)):=by
 intro fuel cs x h;obtain ⟨xs,n,rfl,rfl,hl,hxl,hf⟩:=DataW.trod_struct underlying54 h;rw [cV_Jst] at hl
 match xs,hxl with
 |[x0,x1,x2,x3,x4,x5],_=>
 obtain ⟨a0,r0,q0⟩:=aaj _ _ _ (k8 hf 0 rfl 0 9 rfl rfl cW0);obtain ⟨a1,r1,q1⟩:=pN _ _ _ (k8 hf 1 rfl 1 3 rfl rfl cW1);obtain ⟨a2,r2,q2⟩:=pN _ _ _ (k8 hf 2 rfl 2 3 rfl rfl cW1);obtain ⟨a3,r3,q3⟩:=(ov_list underlying43 cV_Atm (by omega) Atm.dN ov_Atm) _ _ _ (k8 hf 3 rfl 3 43 rfl rfl cW12);obtain ⟨a4,r4,q4⟩:=ov_Gte _ _ _ (k8 hf 4 rfl 4 48 rfl rfl cV_Gte);obtain ⟨a5,r5,q5⟩:=ov_Rsl _ _ _ (k8 hf 5 rfl 10 52 rfl rfl cV_Rsl);have rr:=RV.step (o:=0) r0 rfl (r1.step rfl (r2.step rfl (r3.step rfl (r4.step rfl (r5.step rfl (RV.fin hl))))));rw [aa5] at rr;refine ⟨⟨a0,a1,a2,a3,a4,a5⟩,by simpa only [PC.enc,aaG,aaP,aaN,aaM] using rr,?_⟩;simp only [Rows.uptoBulk,Rows.uptoBulkAll,aaB,aaI];exact ⟨abh 1 _,aaK _,fun hb=>⟨(q0.g (by omega)),(q1.g (by omega)),(q2.g (by omega)),(q3.g (by omega)),(q4.g (by omega)),(q5.g (by omega))⟩⟩
def ov_Rn:OV enc W 30 Rn.enc (QM (fun _=>0) (fun r=>gRn r∧sPln r.plan)):=by
 intro fuel cs x h;obtain ⟨xs,n,rfl,rfl,hl,hxl,hf⟩:=DataW.trod_struct underlying30 h;rw [cV_Rn] at hl
 match xs,hxl with
 |[x0,x1,x2,x3,x4,x5,x6,x7,x8],_=>
 obtain ⟨a0,r0,q0⟩:=aaj _ _ _ (k8 hf 0 rfl 0 9 rfl rfl cW0);obtain ⟨a1,r1,q1⟩:=pN _ _ _ (k8 hf 1 rfl 1 3 rfl rfl cW1);obtain ⟨a2,r2,q2⟩:=ov_Org _ _ _ (k8 hf 2 rfl 2 23 rfl rfl cV_Org);obtain ⟨a3,r3,q3⟩:=pN _ _ _ (k8 hf 3 rfl 5 3 rfl rfl cW1);obtain ⟨a4,r4,q4⟩:=pN _ _ _ (k8 hf 4 rfl 6 3 rfl rfl cW1);obtain ⟨a5,r5,q5⟩:=ov_Pln _ _ _ (k8 hf 5 rfl 7 26 rfl rfl cV_Pln);obtain ⟨a6,r6,q6⟩:=(ov_list underlying27 cV_Tmg (by omega) Tmg.dN ov_Tmg) _ _ _ (k8 hf 6 rfl 9 27 rfl rfl cW13);obtain ⟨a7,r7,q7⟩:=pN _ _ _ (k8 hf 7 rfl 10 3 rfl rfl cW1);obtain ⟨a8,r8,q8⟩:=(ov_list underlying28 cV_Jst (by omega) PC.dN ov_Jst) _ _ _ (k8 hf 8 rfl 11 28 rfl rfl cW14);have rr:=RV.step (o:=0) r0 rfl (r1.step rfl (r2.step rfl (r3.step rfl (r4.step rfl (r5.step rfl (r6.step rfl (r7.step rfl (r8.step rfl (RV.fin hl)))))))));rw [aa5] at rr;refine ⟨⟨a0,a1,a2,a3,a4,a5,a6,a7,a8⟩,by simpa only [Rn.enc,aaG,aaP,aaN,aaM] using rr,?_⟩;simp only [Rows.uptoBulk,Rows.uptoBulkAll,aaB,aaI];exact ⟨abh 1 _,aaK _,fun hb=>⟨⟨(q0.g (by omega)),(q1.g (by omega)),(q2.g (by omega)),(q3.g (by omega)),(q4.g (by omega)),(q5.g (by omega)).1,(q6.g (by omega)),(q7.g (by omega)),(q8.g (by omega))⟩,(q5.g (by omega)).2⟩⟩
def ov_Jrs:OV enc W 56 Jrs.enc (QM (fun _=>0) (gJrs)):=by
 intro fuel cs x h;obtain ⟨xs,n,rfl,rfl,hl,hxl,hf⟩:=DataW.trod_struct underlying56 h;rw [cV_Jrs] at hl
 match xs,hxl with
 |[x0,x1],_=>
 obtain ⟨a0,r0,q0⟩:=aaj _ _ _ (k8 hf 0 rfl 0 9 rfl rfl cW0);obtain ⟨a1,r1,q1⟩:=ov_Rsl _ _ _ (k8 hf 1 rfl 1 52 rfl rfl cV_Rsl);have rr:=RV.step (o:=0) r0 rfl (r1.step rfl (RV.fin hl));rw [aa5] at rr;refine ⟨⟨a0,a1⟩,by simpa only [Jrs.enc,aaG,aaP,aaN,aaM] using rr,?_⟩;simp only [Rows.uptoBulk,Rows.uptoBulkAll,aaB,aaI];exact ⟨abh 1 _,aaK _,fun hb=>⟨(q0.g (by omega)),(q1.g (by omega))⟩⟩
def ov_Fnl:OV enc W 33 Fnl.enc (QM (fun _=>0) (gFnl)):=by
 intro fuel cs x h;obtain ⟨xs,n,rfl,rfl,hl,hxl,hf⟩:=DataW.trod_struct underlying33 h;rw [cV_Fnl] at hl
 match xs,hxl with
 |[x0,x1],_=>
 obtain ⟨a0,r0,q0⟩:=pN _ _ _ (k8 hf 0 rfl 0 3 rfl rfl cW1);obtain ⟨a1,r1,q1⟩:=(ov_list underlying31 cV_Jrs (by omega) Jrs.dN ov_Jrs) _ _ _ (k8 hf 1 rfl 1 31 rfl rfl cW15);have rr:=RV.step (o:=0) r0 rfl (r1.step rfl (RV.fin hl));rw [aa5] at rr;refine ⟨⟨a0,a1⟩,by simpa only [Fnl.enc,aaG,aaP,aaN,aaM] using rr,?_⟩;simp only [Rows.uptoBulk,Rows.uptoBulkAll,aaB,aaI];exact ⟨abh 1 _,aaK _,fun hb=>⟨(q0.g (by omega)),(q1.g (by omega))⟩⟩
