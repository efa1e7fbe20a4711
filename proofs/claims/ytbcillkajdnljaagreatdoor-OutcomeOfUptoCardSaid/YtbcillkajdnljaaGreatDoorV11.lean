import Derived.Test.YtbcillkajdnljaaGreatDoorV1
import Derived.Test.YtbcillkajdnljaaGreatDoorV4
import Derived.Test.YtbcillkajdnljaaGreatDoorV10
import Derived.Shelf.Strconv.Itoa4
import Derived.Shelf.Strconv.ErrVarAll
import Derived.Shelf.LaysM
import Derived.Shelf.LaysC
import Derived.Test.YtbcillkajdnljaaGreatDoorProg
set_option linter.all false
section
namespace Go.Proofs.YtbcillkajdnljaaGreatDoor
open Tryz
open Go.Abs
abbrev int (n:Int):D:= .int .i64 n
abbrev ai (n:Int):V:= .d (.int .i64 n)
def bt (l:List aF):List (List D):=l.map fun k=>[.str k]
def aX.enc:aX→List D
 | .mk k b i s l ks=>[Abs.D.int .i64 k,.bool b,Abs.D.int .i64 i,.str s,.sl (oM l),.sl (bt ks)]
where oM:List aX→List (List D)
 |[]=>[]
 |v::r=>v.enc::oM r
def Ex.enc:Ex→List D
 | .mk k nm v ar ks=>[Abs.D.int .i64 k,.str nm]++v.enc++[.sl (oM ar),.sl (bt ks)]
where oM:List Ex→List (List D)
 |[]=>[]
 |v::r=>v.enc::oM r
def Tk.enc (t:Tk):List D:=[Abs.D.int .i64 t.kind,.str t.text,Abs.D.int .i64 t.at_]
def aX.mh (l:List aX):aX.enc.oM l=l.map aX.enc:=by induction l<;>simp_all [aX.enc.oM]
def Ex.mh (l:List Ex):Ex.enc.oM l=l.map Ex.enc:=by induction l<;>simp_all [Ex.enc.oM]
def aX.aP (v:aX):v.enc=[Abs.D.int .i64 v.kind,.bool v.bool,Abs.D.int .i64 v.int,.str v.str,.sl (v.list.map aX.enc),.sl (bt v.keys)]:=by
 cases v;simp [aX.enc,aX.mh,aX.kind,aX.bool,aX.int,aX.str,aX.list,aX.keys]
def Ex.aP (e:Ex):e.enc=[Abs.D.int .i64 e.kind,.str e.name]++e.value.enc++[.sl (e.args.map Ex.enc),.sl (bt e.keys)]:=by
 cases e;simp [Ex.enc,Ex.mh,Ex.kind,Ex.name,Ex.value,Ex.args,Ex.keys]
def aX.dN (v:aX):v.enc.length=6:=by rw [aX.aP];rfl
def Ex.dN (e:Ex):e.enc.length=10:=by rw [Ex.aP];simp [aX.dN]
def Tk.dN (t:Tk):t.enc.length=3:=(rfl)
def vE (e:Ex):V:= .agg (e.enc.map .d)
def vV (v:aX):V:= .agg (v.enc.map .d)
def vT (t:Tk):V:= .agg (t.enc.map .d)
def Ij (e:Ex):(vE e).cells=some (e.enc.map .d):=(rfl)
def Ik (v:aX):(vV v).cells=some (v.enc.map .d):=(rfl)
def Il (t:Tk):(vT t).cells=some (t.enc.map .d):=(rfl)
def S5 (t:Tk):((t.enc.map V.d).all fun x=>x.one)=true:=(rfl)
def S6 (v:aX):((v.enc.map V.d).all fun x=>x.one)=true:=by rw [aX.aP];rfl
def Np (e:Ex):((e.enc.map V.d).all fun x=>x.one)=true:=by rw [Ex.aP,aX.aP];rfl
attribute [go_sem] S5 S6 Np
def Im (e:Ex):(vE e).share=vE e:=by simp [vE,jG,iM]
def Io (v:aX):(vV v).share=vV v:=by simp [vV,jG,iM]
def Ip (t:Tk):(vT t).share=vT t:=by simp [vT,jG,iM]
def Lm (e:Ex):V.agg (e.enc.map .d)=vE e:=(rfl)
def Ln (v:aX):V.agg (v.enc.map .d)=vV v:=(rfl)
def Lo (t:Tk):V.agg (t.enc.map .d)=vT t:=(rfl)
def YR (v:aX):(v.enc)[0]?=some (int v.kind):=by rw [aX.aP];rfl
def YV (v:aX):(v.enc)[4]?=some (.sl (v.list.map aX.enc)):=by rw [aX.aP];rfl
def YW (v:aX):(v.enc)[5]?=some (.sl (bt v.keys)):=by rw [aX.aP];rfl
def YX (e:Ex):(e.enc)[0]?=some (int e.kind):=by rw [Ex.aP];rfl
def YY (e:Ex):(e.enc)[1]?=some (.str e.name):=by rw [Ex.aP];rfl
def YZ (e:Ex):(e.enc)[8]?=some (.sl (e.args.map Ex.enc)):=by rw [Ex.aP,aX.aP];rfl
def Y0 (e:Ex):(e.enc)[9]?=some (.sl (bt e.keys)):=by rw [Ex.aP,aX.aP];rfl
def Ev (e:Ex):(e.enc.drop 2).take 6=e.value.enc:=by rw [Ex.aP,aX.aP];rfl
def Y1 (e:Ex):((e.enc.map V.d).drop 2).take 6=e.value.enc.map .d:=by rw [←Ev];simp
def Ew (e:Ex):(e.enc).take 10=e.enc:=by rw [←Ex.dN e,aaD]
def Yb (e:Ex):(e.enc.map V.d).take 10=e.enc.map .d:=by rw [←Ex.dN e,←abD,aaD]
def Vw (v:aX):(v.enc).take 6=v.enc:=by rw [←aX.dN v,aaD]
def Y2 (v:aX):(v.enc.map V.d).take 6=v.enc.map .d:=by rw [←aX.dN v,←abD,aaD]
def Y3 (t:Tk):(t.enc)[0]?=some (int t.kind):=(rfl)
def Y4 (t:Tk):(t.enc)[1]?=some (.str t.text):=(rfl)
def Y5 (t:Tk):(t.enc)[2]?=some (int t.at_):=(rfl)
def Tw (t:Tk):(t.enc).take 3=t.enc:=(rfl)
def Y6 (t:Tk):(t.enc.map V.d).take 3=t.enc.map .d:=(rfl)
def ES (l:List D) (i:Nat):(l.map V.d)[i]?=(l[i]?).map .d:=by simp
def ZJ {α:Type} (f:α→List D) (sz:Nat) (h:∀ x,(f x).length=sz) (l:List α):cr sz (l.map f)=true:=by simp [cr,h]
def ET (l:List Ex):cr 10 (l.map Ex.enc)=true:=ZJ _ _ Ex.dN l
def EU (l:List aX):cr 6 (l.map aX.enc)=true:=ZJ _ _ aX.dN l
def EV (l:List Tk):cr 3 (l.map Tk.enc)=true:=ZJ _ _ Tk.dN l
def rowsLen_K (l:List aF):cr 1 (bt l)=true:=ZJ (fun k=>[D.str k]) 1 (fun _=>rfl) l
@[simp] def iP (l:List aF):(bt l).length=l.length:=by simp [bt]
def ia24 (es:List (List D)) (k:IntKind) (i:Int):aI prog 24 (.d (.sl es)) (.d (.int k i))=wI (cr 39 es) es i:=di T.sl24 es k i
attribute [go_sem] ia24
def ia28 (es:List (List D)) (k:IntKind) (i:Int):aI prog 28 (.d (.sl es)) (.d (.int k i))=wI (cr 16 es) es i:=di T.sl28 es k i
attribute [go_sem] ia28
def ia31 (es:List (List D)) (k:IntKind) (i:Int):aI prog 31 (.d (.sl es)) (.d (.int k i))=wI (cr 7 es) es i:=di T.sl31 es k i
attribute [go_sem] ia31
def ia43 (es:List (List D)) (k:IntKind) (i:Int):aI prog 43 (.d (.sl es)) (.d (.int k i))=wI (cr 7 es) es i:=di T.sl43 es k i
attribute [go_sem] ia43
def ia44 (es:List (List D)) (k:IntKind) (i:Int):aI prog 44 (.d (.sl es)) (.d (.int k i))=wI (cr 1 es) es i:=di T.sl44 es k i
def io44 (id:Nat) (es:List (List D)) (k:IntKind) (i:Int):aI prog 44 (.own id es) (.d (.int k i))=wI (cr 1 es) es i:=evalIndexAddr_own T.sl44 id es k i
attribute [go_sem] ia44 io44
def ia49 (es:List (List D)) (k:IntKind) (i:Int):aI prog 49 (.d (.sl es)) (.d (.int k i))=wI (cr 3 es) es i:=di T.sl49 es k i
attribute [go_sem] ia49
def ia50 (es:List (List D)) (k:IntKind) (i:Int):aI prog 50 (.d (.sl es)) (.d (.int k i))=wI (cr 3 es) es i:=di T.sl50 es k i
attribute [go_sem] ia50
def ia59 (es:List (List D)) (k:IntKind) (i:Int):aI prog 59 (.d (.sl es)) (.d (.int k i))=wI (cr 6 es) es i:=di T.sl59 es k i
attribute [go_sem] ia59
def ia62 (es:List (List D)) (k:IntKind) (i:Int):aI prog 62 (.d (.sl es)) (.d (.int k i))=wI (cr 10 es) es i:=di T.sl62 es k i
attribute [go_sem] ia62
def ia65 (es:List (List D)) (k:IntKind) (i:Int):aI prog 65 (.d (.sl es)) (.d (.int k i))=wI (cr 7 es) es i:=di T.sl65 es k i
attribute [go_sem] ia65
def ia66 (es:List (List D)) (k:IntKind) (i:Int):aI prog 66 (.d (.sl es)) (.d (.int k i))=wI (cr 4 es) es i:=di T.sl66 es k i
attribute [go_sem] ia66
def ia67 (es:List (List D)) (k:IntKind) (i:Int):aI prog 67 (.d (.sl es)) (.d (.int k i))=wI (cr 1 es) es i:=di T.sl67 es k i
attribute [go_sem] ia67
def ia70 (es:List (List D)) (k:IntKind) (i:Int):aI prog 70 (.d (.sl es)) (.d (.int k i))=wI (cr 3 es) es i:=di T.sl70 es k i
attribute [go_sem] ia70
def ia116 (es:List (List D)) (k:IntKind) (i:Int):aI prog 116 (.d (.sl es)) (.d (.int k i))=wI (cr 4 es) es i:=di T.sl116 es k i
attribute [go_sem] ia116
def ia136 (es:List (List D)) (k:IntKind) (i:Int):aI prog 136 (.d (.sl es)) (.d (.int k i))=wI (cr 1 es) es i:=di T.sl136 es k i
attribute [go_sem] ia136
def ia142 (es:List (List D)) (k:IntKind) (i:Int):aI prog 142 (.d (.sl es)) (.d (.int k i))=wI (cr 3 es) es i:=di T.sl142 es k i
attribute [go_sem] ia142
def ia171 (es:List (List D)) (k:IntKind) (i:Int):aI prog 171 (.d (.sl es)) (.d (.int k i))=wI (cr 3 es) es i:=di T.sl171 es k i
attribute [go_sem] ia171
def ia174 (es:List (List D)) (k:IntKind) (i:Int):aI prog 174 (.d (.sl es)) (.d (.int k i))=wI (cr 2 es) es i:=di T.sl174 es k i
attribute [go_sem] ia174
def ia475 (es:List (List D)) (k:IntKind) (i:Int):aI prog 475 (.d (.sl es)) (.d (.int k i))=wI (cr 1 es) es i:=di T.sl475 es k i
attribute [go_sem] ia475
def Y7 {l:List aF} {i:Int} (h0:0≤i) (h1:i.toNat<l.length):wI true (bt l) i=some (.ep [.str (l.getD i.toNat default)] 0):=CY (f:=fun k=>[D.str k]) h0 h1
attribute [go_sem] Y7 Ij Ik Il Im Io Ip Lm Ln Lo YR YV YW YX YY YZ Y0 Ev Y1 Ew Yb Vw Y2 Y3 Y4 Y5 Tw Y6 ES aX.dN Ex.dN Tk.dN ET EU EV rowsLen_K iP
end Go.Proofs.YtbcillkajdnljaaGreatDoor
end
section
set_option maxHeartbeats 8000000
namespace Go.Proofs.YtbcillkajdnljaaGreatDoor
open Tryz
open Go.Abs
attribute [local irreducible] AW OX GQ bK bO bz aY aA
variable {G:World→Nat→Prop}
abbrev vb (b:Bool):V:= .d (.bool b)
abbrev vs (s:aF):V:= .d (.str s)
abbrev vc (c:UInt8):V:= .d (.int .u8 c.toNat)
abbrev b8 (G:World→Nat→Prop) (f:FuncId) (args:List V) (v:V):Prop:=∀ st,aA prog G f args st (fun o s=>o= .ret v∧s=st)
def aO {a b:Bool} (h:a=true↔b=true):Out.ret (V.d (D.bool a))=Out.ret (V.d (D.bool b)):=by rw [abk.2 h]
def bA {k:IntKind} {a b:Int} (h:a=b):Out.ret (V.d (D.int k a))=Out.ret (V.d (D.int k b)):=by rw [h]
def ju (c:UInt8):b8 G 485 [vc c] (vb (bN c)):=by
 intro st;refine aA.body func485 rfl ntmps485 (by simp) ?_;(try refine Wk.aw fun _ ag=>?_);(repeat' (first|((first|refine Wk.hd ?_|refine Wk.i ?_);simp only [go_sem,seval])|(refine ay (fun hc=>?_) (fun hc=>?_)<;>try omega)|refine Wk.ret fun _ _=>?_|(refine Wk.fin ‹_› ?_;refine ⟨?_,rfl⟩)|first|refine Wk.o ?_|refine Wk.q ‹_› ?_));all_goals (repeat subst ag)
 all_goals (refine aO ?_;simp only [bN,aau,reduceCtorEq,iff_false,false_iff,iff_true,true_iff];omega)
def fG (c:UInt8):b8 G 146 [vc c] (vb (isDigit c)):=by
 intro st;refine aA.body func146 rfl ntmps146 (by simp) ?_;(try refine Wk.aw fun _ ag=>?_);(repeat' (first|((first|refine Wk.hd ?_|refine Wk.i ?_);simp only [go_sem,seval])|(refine ay (fun hc=>?_) (fun hc=>?_)<;>try omega)|refine Wk.ret fun _ _=>?_|(refine Wk.fin ‹_› ?_;refine ⟨?_,rfl⟩)|first|refine Wk.o ?_|refine Wk.q ‹_› ?_));all_goals (repeat subst ag)
 all_goals (refine aO ?_;simp only [isDigit,aau,reduceCtorEq,iff_false,false_iff,iff_true,true_iff];omega)
def jR (c:UInt8):b8 G 486 [vc c] (vb (isDigit c)):=by
 intro st;refine aA.body func486 rfl ntmps486 (by simp) ?_;(try refine Wk.aw fun _ ag=>?_);(repeat' (first|((first|refine Wk.hd ?_|refine Wk.i ?_);simp only [go_sem,seval])|(refine ay (fun hc=>?_) (fun hc=>?_)<;>try omega)|refine Wk.ret fun _ _=>?_|(refine Wk.fin ‹_› ?_;refine ⟨?_,rfl⟩)|first|refine Wk.o ?_|refine Wk.q ‹_› ?_));all_goals (repeat subst ag)
 all_goals (refine aO ?_;simp only [isDigit,aau,reduceCtorEq,iff_false,false_iff,iff_true,true_iff];omega)
def uj (c:UInt8):b8 G 55 [vc c] (vb (isDigit c)):=by
 intro st;refine aA.body func55 rfl ntmps55 (by simp) ?_;(try refine Wk.aw fun _ ag=>?_);(repeat' (first|((first|refine Wk.hd ?_|refine Wk.i ?_);simp only [go_sem,seval])|(refine ay (fun hc=>?_) (fun hc=>?_)<;>try omega)|refine Wk.ret fun _ _=>?_|(refine Wk.fin ‹_› ?_;refine ⟨?_,rfl⟩)|first|refine Wk.o ?_|refine Wk.q ‹_› ?_));all_goals (repeat subst ag)
 all_goals (refine aO ?_;simp only [isDigit,aau,reduceCtorEq,iff_false,false_iff,iff_true,true_iff];omega)
def OU (s:aF):b8 G 439 [vs s] (vb (isWord s)):=by
 intro st;refine aA.body func439 rfl ntmps439 (by simp) ?_;(try refine Wk.aw fun _ ag=>?_);(repeat' (first|((first|refine Wk.hd ?_|refine Wk.i ?_);simp only [go_sem,seval])|(refine ay (fun hc=>?_) (fun hc=>?_)<;>try omega)|refine Wk.ret fun _ _=>?_|(refine Wk.fin ‹_› ?_;refine ⟨?_,rfl⟩)|first|refine Wk.o ?_|refine Wk.q ‹_› ?_));all_goals (repeat subst ag)
 all_goals (refine aO ?_;simp_all [isWord])
def lf (s:aF):b8 G 365 [vs s] (ai (bB s)):=by
 intro st;refine aA.body func365 rfl ntmps365 (by simp) ?_;(try with_reducible refine Wk.aw fun _ ag=>?_);(repeat' (first|((with_reducible refine Wk.i ?_);simp (disch:=first|omega|(simp only [go_sem];try omega)) only [go_sem,seval])|(refine ay (fun hc=>?_) (fun hc=>?_)<;>try (exfalso;first|omega|contradiction))|with_reducible refine Wk.ret fun _ _=>?_|(refine Wk.fin ‹_› ?_;refine ⟨?_,rfl⟩)|with_reducible first|refine Wk.o ?_|refine Wk.q ‹_› ?_));all_goals (repeat subst ag)
 all_goals (refine bA ?_;first|(subst hc;rfl)|(simp only [bB, *];rfl))
def sn (c:UInt8):b8 G 146 [vc c] (vb (decide (48≤c.toNat∧c.toNat≤57))):=fG c
end Go.Proofs.YtbcillkajdnljaaGreatDoor
end
section
namespace Go.Proofs
open Go.Shelf
def Tryz.wP:Go.Shelf.Ren:=⟨fun|172=>547|244=>559|245=>560|247=>565|279=>566|280=>567|281=>568|282=>569|287=>574|316=>575|171=>169|205=>576|321=>577|322=>578|243=>244|246=>318|283=>404|284=>405|285=>406|286=>407|129=>328|317=>459|318=>460|319=>461|320=>462|337=>502|338=>503|n=>n,fun|9=>9|3=>3|75=>337|76=>492|4=>4|5=>5|167=>610|37=>136|0=>0|85=>611|2=>2|168=>613|53=>122|175=>619|46=>380|210=>622|127=>419|145=>627|143=>625|21=>21|171=>501|173=>503|212=>548|51=>443|20=>20|213=>549|232=>595|233=>596|80=>344|n=>n,fun|15=>7|16=>8|17=>1|18=>5|19=>6|n=>n⟩
def Tryz.yL:Go.Proofs.LaysC.n172 prog Tryz.wP:= {
 mixed:=by kernel_rfl
 f129:=Tryz.func328.trans (congrArg some (by kernel_rfl))
 f171:=Tryz.func169.trans (congrArg some (by kernel_rfl))
 f172:=Tryz.func547.trans (congrArg some (by kernel_rfl))
 f205:=Tryz.func576.trans (congrArg some (by kernel_rfl))
 f243:=Tryz.func244.trans (congrArg some (by kernel_rfl))
 f244:=Tryz.func559.trans (congrArg some (by kernel_rfl))
 f245:=Tryz.func560.trans (congrArg some (by kernel_rfl))
 f246:=Tryz.func318.trans (congrArg some (by kernel_rfl))
 f247:=Tryz.func565.trans (congrArg some (by kernel_rfl))
 f279:=Tryz.func566.trans (congrArg some (by kernel_rfl))
 f280:=Tryz.func567.trans (congrArg some (by kernel_rfl))
 f281:=Tryz.func568.trans (congrArg some (by kernel_rfl))
 f282:=Tryz.func569.trans (congrArg some (by kernel_rfl))
 f283:=Tryz.func404.trans (congrArg some (by kernel_rfl))
 f284:=Tryz.func405.trans (congrArg some (by kernel_rfl))
 f285:=Tryz.func406.trans (congrArg some (by kernel_rfl))
 f286:=Tryz.func407.trans (congrArg some (by kernel_rfl))
 f287:=Tryz.func574.trans (congrArg some (by kernel_rfl))
 f316:=Tryz.func575.trans (congrArg some (by kernel_rfl))
 f317:=Tryz.func459.trans (congrArg some (by kernel_rfl))
 f318:=Tryz.func460.trans (congrArg some (by kernel_rfl))
 f319:=Tryz.func461.trans (congrArg some (by kernel_rfl))
 f320:=Tryz.func462.trans (congrArg some (by kernel_rfl))
 f321:=Tryz.func577.trans (congrArg some (by kernel_rfl))
 f322:=Tryz.func578.trans (congrArg some (by kernel_rfl))
 f337:=Tryz.func502.trans (congrArg some (by kernel_rfl))
 f338:=Tryz.func503.trans (congrArg some (by kernel_rfl))
 t0:=underlying0
 a0:=isAgg0
 z0:=sizeOf0
 v0:=zeroValue0
 t2:=underlying2
 a2:=isAgg2
 z2:=sizeOf2
 v2:=zeroValue2
 t3:=underlying3
 a3:=isAgg3
 z3:=sizeOf3
 v3:=zeroValue3
 t4:=underlying4
 a4:=isAgg4
 z4:=sizeOf4
 v4:=zeroValue4
 t5:=underlying5
 a5:=isAgg5
 z5:=sizeOf5
 v5:=zeroValue5
 t9:=underlying9
 a9:=isAgg9
 z9:=sizeOf9
 v9:=zeroValue9
 t20:=underlying20
 a20:=isAgg20
 z20:=sizeOf20
 v20:=zeroValue20
 t21:=underlying21
 a21:=isAgg21
 z21:=sizeOf21
 v21:=zeroValue21
 t37:=underlying136
 a37:=isAgg136
 z37:=sizeOf136
 v37:=zeroValue136
 t46:=underlying380
 a46:=isAgg380
 z46:=sizeOf380
 v46:=zeroValue380
 t51:=underlying443
 a51:=isAgg443
 z51:=sizeOf443
 v51:=zeroValue443
 t53:=underlying122
 a53:=isAgg122
 z53:=sizeOf122
 v53:=zeroValue122
 t75:=underlying337
 a75:=isAgg337
 z75:=sizeOf337
 v75:=zeroValue337
 t76:=underlying492
 a76:=isAgg492
 z76:=sizeOf492
 v76:=zeroValue492
 t85:=underlying611
 a85:=isAgg611
 z85:=sizeOf611
 v85:=zeroValue611
 t127:=underlying419
 a127:=isAgg419
 z127:=sizeOf419
 v127:=zeroValue419
 t143:=underlying625
 a143:=isAgg625
 z143:=sizeOf625
 v143:=zeroValue625
 t145:=underlying627
 a145:=isAgg627
 z145:=sizeOf627
 v145:=zeroValue627
 t167:=underlying610
 a167:=isAgg610
 z167:=sizeOf610
 v167:=zeroValue610
 t168:=underlying613
 a168:=isAgg613
 z168:=sizeOf613
 v168:=zeroValue613
 t171:=underlying501
 a171:=isAgg501
 z171:=sizeOf501
 v171:=zeroValue501
 t173:=underlying503
 a173:=isAgg503
 z173:=sizeOf503
 v173:=zeroValue503
 t175:=underlying619
 a175:=isAgg619
 z175:=sizeOf619
 v175:=zeroValue619
 t210:=underlying622
 a210:=isAgg622
 z210:=sizeOf622
 v210:=zeroValue622
 t212:=underlying548
 a212:=isAgg548
 z212:=sizeOf548
 v212:=zeroValue548
 t213:=underlying549
 a213:=isAgg549
 z213:=sizeOf549
 t232:=underlying595
 a232:=isAgg595
 z232:=sizeOf595
 v232:=zeroValue595
 t233:=underlying596
 a233:=isAgg596
 z233:=sizeOf596
 v233:=zeroValue596
 g15:=by kernel_rfl
 g16:=by kernel_rfl
 g17:=by kernel_rfl
 g18:=by kernel_rfl
 g19:=by kernel_rfl
 t80:=underlying344
 a80:=isAgg344
 z80:=sizeOf344
 v80:=zeroValue344
 i0:=by kernel_rfl
 i2:=by kernel_rfl
 i3:=by kernel_rfl
 i4:=by kernel_rfl
 i5:=by kernel_rfl
 i9:=by kernel_rfl
 i20:=by kernel_rfl
 i21:=by kernel_rfl
 i37:=by kernel_rfl
 i46:=by kernel_rfl
 i51:=by kernel_rfl
 i53:=by kernel_rfl
 i75:=by kernel_rfl
 i76:=by kernel_rfl
 i80:=by kernel_rfl
 i85:=by kernel_rfl
 i127:=by kernel_rfl
 i143:=by kernel_rfl
 i145:=by kernel_rfl
 i167:=by kernel_rfl
 i168:=by kernel_rfl
 i171:=by kernel_rfl
 i173:=by kernel_rfl
 i175:=by kernel_rfl
 i210:=by kernel_rfl
 i212:=by kernel_rfl
 i232:=by kernel_rfl
 i233:=by kernel_rfl
 m15:=by kernel_rfl
 m16:=by kernel_rfl
 m17:=by kernel_rfl
 m18:=by kernel_rfl
 m19:=by kernel_rfl
 c0:=by kernel_rfl
 c2:=by kernel_rfl
 c3:=by kernel_rfl
 c4:=by kernel_rfl
 c5:=by kernel_rfl
 c9:=by kernel_rfl
 c20:=by kernel_rfl
 c21:=by kernel_rfl
 c37:=by kernel_rfl
 c46:=by kernel_rfl
 c51:=by kernel_rfl
 c53:=by kernel_rfl
 c75:=by kernel_rfl
 c76:=by kernel_rfl
 c80:=by kernel_rfl
 c85:=by kernel_rfl
 c127:=by kernel_rfl
 c143:=by kernel_rfl
 c145:=by kernel_rfl
 c167:=by kernel_rfl
 c168:=by kernel_rfl
 c171:=by kernel_rfl
 c173:=by kernel_rfl
 c175:=by kernel_rfl
 c210:=by kernel_rfl
 c212:=by kernel_rfl
 c213:=by kernel_rfl
 c232:=by kernel_rfl
 c233:=by kernel_rfl }
end Go.Proofs
end
section
set_option maxHeartbeats 8000000
namespace Go.Proofs.YtbcillkajdnljaaGreatDoor
open Tryz
open Go.Abs
attribute [local irreducible] AW OX GQ bK bO bz aY aA
variable {G:World→Nat→Prop}
structure yR (G:World→Nat→Prop) (g:FuncId) (cls:UInt8→Bool):Prop where
 call:∀ args w,(callFunc g args).run prog w= .ok (.enter g args) w
 Y8:∀ b,b8 G g [vc b] (vb (cls b))
def fA (cls:UInt8→Bool) (s:aF) (i:Nat):Nat:=
 if i<s.length then if cls (s.getD i 0) then fA cls s (i+1) else i else i
termination_by s.length - i
end Go.Proofs.YtbcillkajdnljaaGreatDoor
end
section
set_option maxHeartbeats 8000000
set_option maxRecDepth 20000
namespace Go.Proofs.YtbcillkajdnljaaGreatDoor
open Tryz
open Go.Abs
attribute [local irreducible] AW OX GQ bK bO bz aY aA
variable {G:World→Nat→Prop}
def drop_cons {s:aF} {i:Nat} (h:i<s.length):s.drop i=s.getD i 0::s.drop (i+1):=by
 rw [aaT h];simp [aam,h]
theorem jH (cls:UInt8→Bool) (s:aF) (i:Nat):fA cls s i=i+((s.drop i).takeWhile cls).length:=by
 rw [fA];split
 ·rename_i h;rw [drop_cons h,List.takeWhile_cons];split
  ·rw [jH cls s (i+1)];simp;omega
  ·rfl
 ·rename_i h;rw [aa0 (by omega)];rfl
termination_by s.length - i
def isDigit_iff (c:UInt8):isDigit c=true↔48≤c.toNat∧c.toNat≤57:=by simp [isDigit]
def kJ {t:aF} {i:Nat} (h:i<t.length):t.getD i 0∈t:=by simp [aam,h]
def sdrop_len (s:aF) (i:Nat):(s.drop i).length=s.length - i:=by simp
def oO (c:UInt8): -1≤qT c∧qT c≤15:=by
 unfold qT;have:=isDigit_iff c;split
 ·have:=this.1 ‹_›;omega
 ·split
  ·omega
  ·split<;>omega
def uY {c:UInt8} (h:48≤c.toNat∧c.toNat≤57):isDigit c=true:=(isDigit_iff c).2 h
def pP {c:UInt8} (h:¬ (48≤c.toNat∧c.toNat≤57)):isDigit c=false:=by
 rw [Bool.eq_false_iff];exact fun h'=>h ((isDigit_iff c).1 h')
def yX {n:Int} (h0:0≤n) (h1:n≤255):((UInt8.ofNat n.toNat).toNat:Int)=n:=by
 simp only [UInt8.toNat_ofNat'];omega
def EY (r:aF):(r=[])=(r.length=0):=by cases r<;>simp
def isName_iff (s:aF):isName s=true↔s.length≤64∧1≤s.length∧∀ k,k<s.length→(bN (s.getD k 0)||(decide (k≠0)&&isDigit (s.getD k 0)))=true:=by
 cases s with
 |nil=>simp [isName]
 |cons c r=>
  simp only [isName,aas,aau,aav,aaE]
  constructor
  ·rintro ⟨h1,h2,h3⟩
   refine ⟨h1,by omega,fun k hk=>?_⟩
   cases k with
   |zero=>simp [h2]
   |succ k=>
    have:=h3 _ (kJ (t:=r) (i:=k) (by omega))
    simp only [b9] at this
    simpa using this
  ·rintro ⟨h1,_,h3⟩
   refine ⟨h1,?_,fun x hx=>?_⟩
   ·simpa using h3 0 (by omega)
   ·obtain ⟨k,hk,rfl⟩:=aaY.1 hx
    have:=h3 (k+1) (by omega)
    simp only [b9]
    simpa [aam,hk] using this
def jS {s:aF} (h:¬ (s.length≤64∧1≤s.length∧∀ k,k<s.length→(bN (s.getD k 0)||(decide (k≠0)&&isDigit (s.getD k 0)))=true)):isName s=false:=by
 rw [Bool.eq_false_iff];exact fun h'=>h ((isName_iff s).1 h')
def BI (sz:Nat) (r:List D):dA sz [r]=(r.length==sz&&r.all D.one&&true):=(rfl)
def wu (k:IntKind) (i:Int):D.one (.int k i)=true:=(rfl)
def wv (s:aF):D.one (.str s)=true:=(rfl)
def one_bool (b:Bool):D.one (.bool b)=true:=(rfl)
def A8 (l:List (List D)):D.one (.sl l)=true:=(rfl)
attribute [go_sem] BI wu wv one_bool A8
def E6 (a b:Nat) (t:Tk):(vT t).within a b=true:=by rw [vT,nY,nZ]
def E7 (a b:Nat) (t:Ex):(vE t).within a b=true:=by rw [vE,nY,nZ]
attribute [go_sem] E6 E7
def aG (t:Tk):t.enc=[Abs.D.int .i64 t.kind,.str t.text,Abs.D.int .i64 t.at_]:=(rfl)
def BK (a b:Nat):dZ a b=gI a b:=by
 unfold dZ gI;simp only [Int.ofNat_lt]
def y7 (n:Int):b8 G 267 [ai n] (vb false):=by
 intro st;refine aA.body func267 rfl ntmps267 (by simp) ?_;(try refine Wk.aw fun _ ag=>?_);(repeat' (first|((refine Wk.i ?_);simp only [go_sem,seval])|refine Wk.ret fun _ _=>?_|(refine Wk.fin ‹_› ?_;refine ⟨?_,rfl⟩)|first|refine Wk.o ?_|refine Wk.q ‹_› ?_));all_goals (repeat subst ag)
 all_goals simp
def y8 (n:aF):b8 G 363 [vs n] (vb false):=by
 intro st;refine aA.body func363 rfl ntmps363 (by simp) ?_;(try refine Wk.aw fun _ ag=>?_);(repeat' (first|((refine Wk.i ?_);simp only [go_sem,seval])|refine Wk.ret fun _ _=>?_|(refine Wk.fin ‹_› ?_;refine ⟨?_,rfl⟩)|first|refine Wk.o ?_|refine Wk.q ‹_› ?_));all_goals (repeat subst ag)
 all_goals simp
def BM (n:UInt8):b8 G 266 [vc n] (vb false):=by
 intro st;refine aA.body func266 rfl ntmps266 (by simp) ?_;(try refine Wk.aw fun _ ag=>?_);(repeat' (first|((refine Wk.i ?_);simp only [go_sem,seval])|refine Wk.ret fun _ _=>?_|(refine Wk.fin ‹_› ?_;refine ⟨?_,rfl⟩)|first|refine Wk.o ?_|refine Wk.q ‹_› ?_));all_goals (repeat subst ag)
 all_goals simp
def pV (a b:Int):b8 G 192 [ai a,ai b] (ai (dZ a b)):=by
 intro st;refine aA.body func192 rfl ntmps192 (by simp) ?_;(try refine Wk.aw fun _ ag=>?_);(repeat' (first|((first|refine Wk.hd ?_|refine Wk.i ?_);simp only [go_sem,seval])|(refine ay (fun hc=>?_) (fun hc=>?_)<;>try omega)|refine ah (y7 _ _) ?_|refine Wk.ret fun _ _=>?_|(refine Wk.fin ‹_› ?_;refine ⟨?_,rfl⟩)|first|refine Wk.o ?_|refine Wk.q ‹_› ?_));all_goals (repeat subst ag)
 all_goals (try simp (disch:=first|assumption|omega) only [dZ,if_pos,if_neg]);all_goals first|rfl|((repeat' split)<;>first|rfl|(exfalso;omega)|grind|skip)
def IC (a b:UInt8):b8 G 191 [vc a,vc b] (ai (gI a.toNat b.toNat)):=by
 intro st;refine aA.body func191 rfl ntmps191 (by simp) ?_;(try refine Wk.aw fun _ ag=>?_);(repeat' (first|((first|refine Wk.hd ?_|refine Wk.i ?_);simp only [go_sem,seval])|(refine ay (fun hc=>?_) (fun hc=>?_)<;>try omega)|refine ah (BM _ _) ?_|refine Wk.ret fun _ _=>?_|(refine Wk.fin ‹_› ?_;refine ⟨?_,rfl⟩)|first|refine Wk.o ?_|refine Wk.q ‹_› ?_));all_goals (repeat subst ag)
 all_goals (try simp (disch:=first|assumption|omega) only [gI,if_pos,if_neg]);all_goals first|rfl|((repeat' split)<;>first|rfl|(exfalso;omega)|grind|skip)
theorem jz:∀ a b:aF,Op.bytesLess a b=ltStr a b
 |[],[]=>rfl
 |_::_,[]=>rfl
 |[],_::_=>rfl
 |a::x,b::y=>by
  simp only [Op.bytesLess,ltStr,jz x y];rw [show (a==b)=decide (a=b) from by by_cases h:a=b<;>simp [h],show decide (a<b)=decide (a.toNat<b.toNat) from by rw [decide_eq_decide];exact UInt8.lt_iff_toNat_lt]
theorem mw:∀ a b:aF,ltStr a b=false→ltStr b a=false→a=b
 |[],[],_,_=>rfl
 |_::_,[],_,h=>by simp [ltStr] at h
 |[],_::_,h,_=>by simp [ltStr] at h
 |a::x,b::y,h1,h2=>by
  simp only [ltStr,Bool.or_eq_false_iff,Bool.and_eq_false_iff,abz] at h1 h2;have hab:a=b:=UInt8.toNat_inj.1 (by omega);subst hab;simp only [not_true,false_or] at h1 h2;rw [mw x y h1.2 h2.2]
theorem mX:∀ a:aF,ltStr a a=false
 |[]=>rfl
 |a::x=>by simp [ltStr,mX x]
def Fa (a b:aF):b8 G 265 [vs a,vs b] (ai (ZE a b)):=by
 intro st;refine aA.body func265 rfl ntmps265 (by simp) ?_;(try refine Wk.aw fun _ ag=>?_);(repeat' (first|((first|refine Wk.hd ?_|refine Wk.i ?_);simp only [go_sem,seval,jz])|(refine ay (fun hc=>?_) (fun hc=>?_)<;>try omega)|refine ah (y8 _ _) ?_|refine Wk.ret fun _ _=>?_|(refine Wk.fin ‹_› ?_;refine ⟨?_,rfl⟩)|first|refine Wk.o ?_|refine Wk.q ‹_› ?_));all_goals (repeat subst ag)
 all_goals (try simp (disch:=first|assumption|omega) only [ZE,if_pos,if_neg]);all_goals first|rfl|((repeat' split)<;>first|rfl|(exfalso;omega)|grind|skip)
 ·exfalso;have h1:=mw a b ‹_› (by simpa using ‹¬ ltStr b a=true›);subst h1;simp at hc
def LA (a b c:Int):b8 G 264 [.d (.sl [[int a],[int b],[int c]])] (ai (if a≠0 then a else if b≠0 then b else c)):=by
 intro st;refine aA.body func264 rfl ntmps264 (by simp) ?_;(try refine Wk.aw fun _ ag=>?_);(repeat' (first|(refine AW.Ga ?_;refine AW.rounds 4 ?_)|((refine Wk.i ?_);simp only [go_sem,seval])|(refine ay (fun hc=>?_) (fun hc=>?_)<;>try omega)|refine Wk.ret fun _ _=>?_|(refine Wk.fin ‹_› ?_;refine ⟨?_,rfl⟩)|first|refine Wk.o ?_|refine Wk.q ‹_› ?_|refine Wk.sw fun _ ag=>?_|refine Wk.rnd fun _ ag=>?_));all_goals (repeat subst ag)
 all_goals (try simp (disch:=first|assumption|omega) only [if_pos,if_neg]);all_goals first|rfl|((repeat' split)<;>first|rfl|(exfalso;omega)|grind|skip)
def BN (s:aF) (c:UInt8) (hs:s.length≤1048576):b8 G 359 [vs s,vc c] (vs (s.dropWhile (fun x=>decide (x.toNat=c.toNat)))):=by
 intro st;refine aA.body func359 rfl ntmps359 (by simp) ?_;(try refine Wk.aw fun _ ag=>?_);(repeat' (first|((refine Wk.i ?_);simp (disch:=omega) only [go_sem,seval])|refine Wk.o ?_));all_goals (repeat subst ag)
 refine AW.cD (fun t:aF=>[(0,vs t),(1,vc c)]) (fun _=>[]) (fun _=>[]) (fun t=>t.length≤s.length∧t.dropWhile (fun x=>decide (x.toNat=c.toNat))=s.dropWhile (fun x=>decide (x.toNat=c.toNat))) (fun t=>t.length) s (by simp (disch:=omega) only [go_sem,seval]<;>first|rfl|exact ⟨rfl,rfl⟩|skip) (by simp (disch:=omega) only [go_sem,seval]<;>first|rfl|exact ⟨rfl,rfl⟩|skip) ⟨by omega,rfl⟩ ?_;intro t ⟨hn,hr⟩;have ht:t.take t.length=t:=aaD;(try refine Wk.aw fun _ ag=>?_);(repeat' (first|((first|refine Wk.hd ?_|refine Wk.i ?_);simp (disch:=omega) only [go_sem,seval,ht])|(refine ay (fun hc=>?_) (fun hc=>?_)<;>try omega)|refine Wk.ret fun _ _=>?_|(refine Wk.fin ‹_› ?_;refine ⟨?_,rfl⟩)|first|refine Wk.o ?_|refine Wk.q ‹_› ?_|refine Wk.sw fun _ ag=>?_));all_goals (repeat subst ag)
 ·(refine ⟨t.drop 1,gk.mk ?_ ?_ ?_ (by simp (disch:=omega) only [go_sem,seval]) (by simp (disch:=omega) only [go_sem,seval]) (by first|rfl|(simp (disch:=omega) only [go_sem,seval];all_goals omega)) (by first|rfl|(simp (disch:=omega) only [go_sem,seval];all_goals omega))⟩;focus (try (simp (disch:=omega) only [go_sem,seval]);try ((repeat' apply And.intro)<;>first|rfl|trivial|refine aD ?_|refine Pr ?_|refine ax ?_|skip)))
  ·refine ⟨by simp;omega,?_⟩;rw [←hr];cases t with
   |nil=>rfl
   |cons x t=>rw [List.dropWhile_cons,if_pos (by simpa using hc)];rfl
  ·simp;omega
 ·rw [←hr];cases t with
  |nil=>rfl
  |cons x t=>rw [List.dropWhile_cons,if_neg (by simpa using hc)]
 ·rw [←hr];cases t with
  |nil=>rfl
  |cons x t=>simp at hc
def Db (s:aF) (hs:s.length≤1048576):b8 G 263 [vs s,vs [48]] (vs (bG s)):=by
 intro st;have hb:=BN (G:=G) s 48 hs;refine aA.body func263 rfl ntmps263 (by simp) ?_;(try with_reducible refine Wk.aw fun _ ag=>?_);(repeat' (first|((with_reducible first|refine Wk.hd ?_|refine Wk.i ?_);simp (disch:=first|omega|(simp only [go_sem];try omega)) only [go_sem,seval,EY])|(refine ay (fun hc=>?_) (fun hc=>?_)<;>try (exfalso;first|omega|contradiction))|refine ah (hb _) ?_|with_reducible refine Wk.ret fun _ _=>?_|(refine Wk.fin ‹_› ?_;refine ⟨?_,rfl⟩)|with_reducible first|refine Wk.o ?_|refine Wk.q ‹_› ?_));all_goals (repeat subst ag)
 ·have:s=[]:=by cases s<;>simp_all
  subst this;rfl
 ·rfl
def qA (s:aF) (hs:s.length≤1048576):b8 G 189 [vs s] (ai ↑(s.takeWhile isDigit).length):=by
 intro st;have hw:=jH isDigit s 0;simp only [aa5,aaL] at hw;refine aA.body func189 rfl ntmps189 (by simp) ?_;(try refine Wk.aw fun _ ag=>?_);(repeat' (first|((refine Wk.i ?_);simp (disch:=omega) only [go_sem,seval])|refine Wk.o ?_));all_goals (repeat subst ag)
 refine AW.cD (fun n:Nat=>[(0,vs s),(3,ai ↑n)]) (fun _=>[]) (fun _=>[]) (fun n=>n≤s.length∧fA isDigit s n=fA isDigit s 0) (fun n=>s.length - n) 0 (by simp (disch:=omega) only [go_sem,seval]<;>first|rfl|exact ⟨rfl,rfl⟩|skip) (by simp (disch:=omega) only [go_sem,seval]<;>first|rfl|exact ⟨rfl,rfl⟩|skip) ⟨by omega,rfl⟩ ?_;intro n ⟨hn,hr⟩;rw [fA] at hr;(try refine Wk.aw fun _ ag=>?_);(repeat' (first|((first|refine Wk.hd ?_|refine Wk.i ?_);simp (disch:=omega) only [go_sem,seval])|(refine ay (fun hc=>?_) (fun hc=>?_)<;>try omega)|refine ah (uj _ _) ?_|refine Wk.ret fun _ _=>?_|(refine Wk.fin ‹_› ?_;refine ⟨?_,rfl⟩)|first|refine Wk.o ?_|refine Wk.q ‹_› ?_|refine Wk.sw fun _ ag=>?_));all_goals (repeat subst ag)
 ·rw [if_pos (by assumption),if_pos (by assumption)] at hr;(refine ⟨n+1,gk.mk ?_ ?_ ?_ (by simp (disch:=omega) only [go_sem,seval]) (by simp (disch:=omega) only [go_sem,seval]) (by first|rfl|(simp (disch:=omega) only [go_sem,seval];all_goals omega)) (by first|rfl|(simp (disch:=omega) only [go_sem,seval];all_goals omega))⟩;focus (try (simp (disch:=omega) only [go_sem,seval]);try ((repeat' apply And.intro)<;>first|rfl|trivial|refine aD ?_|refine Pr ?_|refine ax ?_|skip)))
  all_goals first|omega|exact ⟨by omega,hr⟩
 ·rw [if_pos (by assumption),if_neg (by simp only [‹isDigit _=false›,aa3,not_false_eq_true])] at hr;exact bA (by omega)
 ·rw [if_neg (by assumption)] at hr;exact bA (by omega)
def kM (a b:Nat):gI a b=0↔a=b:=by
 unfold gI
 repeat' split
 all_goals omega
def sG (a b:aF):ZE a b=0↔a=b:=by
 unfold ZE;split
 ·rename_i h;refine ⟨fun h=>by omega,?_⟩;rintro rfl;rw [mX] at h;cases h
 ·split
  ·rename_i h;refine ⟨fun h=>by omega,?_⟩;rintro rfl;rw [mX] at h;cases h
  ·exact ⟨fun _=>mw a b (by simpa using ‹¬ ltStr a b=true›) (by simpa using ‹¬ ltStr b a=true›),fun _=>rfl⟩
def runsF_1 {a b:aF} (h:(bG a).length≠(bG b).length):jd a b=gI (bG a).length (bG b).length:=if_pos h
def Dd {a b:aF} (h:(bG a).length=(bG b).length) (h2:bG a≠bG b):jd a b=ZE (bG a) (bG b):=by
 have:jd a b=if bG a≠bG b then ZE (bG a) (bG b) else gI a.length b.length:=if_neg (fun hn=>hn h)
 rw [this];exact if_pos h2
def De {a b:aF} (h2:bG a=bG b):jd a b=gI a.length b.length:=by
 have:jd a b=if bG a≠bG b then ZE (bG a) (bG b) else gI a.length b.length:=if_neg (fun hn=>hn (by rw [h2]))
 rw [this];exact if_neg (fun hn=>hn h2)
def y9 (a b:aF):jd a b=if dZ (bG a).length (bG b).length≠0 then dZ (bG a).length (bG b).length else if ZE (bG a) (bG b)≠0 then ZE (bG a) (bG b) else dZ a.length b.length:=by
 simp only [BK];by_cases h1:(bG a).length=(bG b).length
 ·rw [if_neg (fun h=>h ((kM _ _).2 h1))];by_cases h2:bG a=bG b
  ·rw [if_neg (fun h=>h ((sG _ _).2 h2)),De h2]
  ·rw [if_pos (fun h=>h2 ((sG _ _).1 h)),Dd h1 h2]
 ·rw [if_pos (fun h=>h1 ((kM _ _).1 h)),runsF_1 h1]
def Fb (a b:aF) (ha:a.length≤1048576) (hb:b.length≤1048576):b8 G 190 [vs a,vs b] (ai (jd a b)):=by
 intro st;refine aA.body func190 rfl ntmps190 (by simp) ?_;(try refine Wk.aw fun _ ag=>?_);(repeat' (first|((first|refine Wk.hd ?_|refine Wk.i ?_);simp only [go_sem,seval])|refine ah ((by first|exact Db a ha _|exact Db b hb _)) ?_|refine ah (pV _ _ _) ?_|refine ah (Fa _ _ _) ?_|refine ah (LA _ _ _ _) ?_|refine Wk.ret fun _ _=>?_|(refine Wk.fin ‹_› ?_;refine ⟨?_,rfl⟩)|first|refine Wk.o ?_|refine Wk.q ‹_› ?_));all_goals (repeat subst ag)
 all_goals (rw [y9])
def oQ:∀ (f:Nat) (a b:aF),a.length<f→ig f a b=ig (a.length+1) a b:=by
 intro f;induction f using Nat.strongRecOn with
 |_ f ih=>
  intro a b hf
  obtain ⟨f,rfl⟩:∃ g,f=g+1:=⟨f - 1,by omega⟩
  cases a with
  |nil=>rfl
  |cons c r=>
   cases b with
   |nil=>rfl
   |cons d s=>
    have step:∀ (x y:aF),x.length≤r.length→ig f x y=ig (c::r).length x y:=by
     intro x y hl;simp only [aav] at hf ⊢;rw [ih f (by omega) _ _ (by omega),ih (r.length+1) (by omega) _ _ (by omega)]
    simp only [ig]
    split
    ·rename_i hc
     rw [aas] at hc
     rw [step _ _ (by rw [List.takeWhile_cons,if_pos hc.1];simp)]
    ·rw [step _ _ (aat _)]
def lC (b:aF):c8 [] b=if b=[] then 0 else -1:=(rfl)
def mz (c:UInt8) (r:aF):c8 (c::r) []=1:=(rfl)
def mA (c d:UInt8) (r s:aF):c8 (c::r) (d::s)=if isDigit c&&isDigit d then
   (if jd ((c::r).takeWhile isDigit) ((d::s).takeWhile isDigit)≠0 then jd ((c::r).takeWhile isDigit) ((d::s).takeWhile isDigit) else c8 ((c::r).drop ((c::r).takeWhile isDigit).length) ((d::s).drop ((d::s).takeWhile isDigit).length))
  else if c≠d then gI c.toNat d.toNat else c8 r s:=by
 rw [c8,aav]
 simp only [ig]
 split
 ·rename_i hc
  rw [aas] at hc
  rw [oQ _ _ _ (by rw [List.takeWhile_cons,if_pos hc.1];simp;omega)];rfl
 ·rw [oQ _ _ _ (by omega)];rfl
def IE (y:aF):dZ 0 (y.length:Int)=if y=[] then 0 else -1:=by
 cases y with
 |nil=>rfl
 |cons c r=>rw [if_neg (by simp),dZ,if_pos (by simp only [aav];omega)]
def IG (n:Nat):dZ ((n+1:Nat):Int) 0=1:=by
 rw [dZ,if_neg (by omega),if_pos (by omega)]
def w7:(([]:aF)≠[])=False:=by simp
def w8 (c:UInt8) (r:aF):((c::r)≠[])=True:=by simp
def lR (a b:aF) (ha:a.length≤1048576) (hb:b.length≤1048576):b8 G 129 [vs a,vs b] (ai (c8 a b)):=by
 intro st;refine aA.body func129 rfl ntmps129 (by simp) ?_;(try with_reducible refine Wk.aw fun _ ag=>?_);(repeat' (first|((with_reducible refine Wk.i ?_);simp (disch:=first|omega|(simp only [go_sem];try omega)) only [go_sem,seval])|with_reducible refine Wk.o ?_));all_goals (repeat subst ag)
 refine AW.cD (fun x:aF×aF=>[(0,vs x.1),(1,vs x.2)]) (fun _=>[]) (fun _=>[]) (fun x=>x.1.length≤1048576∧x.2.length≤1048576∧c8 x.1 x.2=c8 a b) (fun x=>x.1.length) (a,b) (by simp (disch:=first|omega|(simp only [go_sem];try omega)) only [go_sem,seval]<;>first|rfl|exact ⟨rfl,rfl⟩|skip) (by simp (disch:=first|omega|(simp only [go_sem];try omega)) only [go_sem,seval]<;>first|rfl|exact ⟨rfl,rfl⟩|skip) ⟨ha,hb,rfl⟩ ?_;rintro ⟨x,y⟩ ⟨h1,h2,h3⟩;simp only at h1 h2 h3;rw [←h3];have tx:x.take x.length=x:=aaD;have ty:y.take y.length=y:=aaD;cases x with
 |nil=>
  (try with_reducible refine Wk.aw fun _ ag=>?_);(repeat' (first|((with_reducible first|refine Wk.hd ?_|refine Wk.i ?_);simp (disch:=first|omega|(simp only [go_sem];try omega)) only [go_sem,seval,w7])|refine ah (pV _ _ _) ?_|with_reducible refine Wk.ret fun _ _=>?_|(refine Wk.fin ‹_› ?_;refine ⟨?_,rfl⟩)|with_reducible first|refine Wk.o ?_|refine Wk.q ‹_› ?_|refine Wk.sw fun _ ag=>?_));all_goals (repeat subst ag)
  all_goals (refine bA ?_;rw [lC];exact IE y)
 |cons c r=>
  cases y with
  |nil=>
   (try with_reducible refine Wk.aw fun _ ag=>?_);(repeat' (first|((with_reducible first|refine Wk.hd ?_|refine Wk.i ?_);simp (disch:=first|omega|(simp only [go_sem];try omega)) only [go_sem,seval,w7,w8])|refine ah (pV _ _ _) ?_|with_reducible refine Wk.ret fun _ _=>?_|(refine Wk.fin ‹_› ?_;refine ⟨?_,rfl⟩)|with_reducible first|refine Wk.o ?_|refine Wk.q ‹_› ?_|refine Wk.sw fun _ ag=>?_));all_goals (repeat subst ag)
   all_goals (refine bA ?_;rw [mz];exact IG r.length)
  |cons d s=>
   rw [mA]
   have q1:=(List.takeWhile_prefix isDigit (l:=c::r)).length_le
   have q2:=(List.takeWhile_prefix isDigit (l:=d::s)).length_le
   have p1:=List.prefix_iff_eq_take.1 (List.takeWhile_prefix isDigit (l:=c::r))
   have p2:=List.prefix_iff_eq_take.1 (List.takeWhile_prefix isDigit (l:=d::s))
   have hrx:=qA (G:=G) (c::r) h1
   have hry:=qA (G:=G) (d::s) h2
   have z1:0< ((c::r).takeWhile isDigit).length↔isDigit c=true:=by rw [List.takeWhile_cons];by_cases h:isDigit c=true<;>simp [h]
   have z2:0< ((d::s).takeWhile isDigit).length↔isDigit d=true:=by rw [List.takeWhile_cons];by_cases h:isDigit d=true<;>simp [h]
   generalize hx:(c::r).takeWhile isDigit=x at*
   generalize hy:(d::s).takeWhile isDigit=y at*
   have hn:=Fb (G:=G) x y (by omega) (by omega)
   by_cases hd:isDigit c=true∧isDigit d=true
   ·have y1:=z1.2 hd.1
    have y2:=z2.2 hd.2
    rw [hd.1,hd.2]
    (try with_reducible refine Wk.aw fun _ ag=>?_);(repeat' (first|((with_reducible first|refine Wk.hd ?_|refine Wk.i ?_);simp (disch:=first|omega|(simp only [go_sem];try omega)) only [go_sem,seval,w7,w8,←p1,←p2,tx,ty])|(refine ay (fun hc=>?_) (fun hc=>?_)<;>try (exfalso;first|omega|contradiction))|refine ah ((by first|exact hrx _|exact hry _)) ?_|refine ah (hn _) ?_|refine Wk.drawn mx (by kernel_rfl) ?_|with_reducible refine Wk.ret fun _ _=>?_|(refine Wk.fin ‹_› ?_;refine ⟨?_,rfl⟩)|with_reducible first|refine Wk.o ?_|refine Wk.q ‹_› ?_));all_goals (repeat subst ag)
    ·rw [show (true&&true)=true from rfl,if_pos rfl,if_pos hc]
    ·rw [show (true&&true)=true from rfl,if_pos rfl,if_neg hc]
     (refine ⟨(List.drop x.length (c::r),List.drop y.length (d::s)),gk.mk ?_ ?_ ?_ (by simp (disch:=first|omega|(simp only [go_sem];try omega)) only [go_sem,seval]) (by simp (disch:=first|omega|(simp only [go_sem];try omega)) only [go_sem,seval]) (by first|rfl|(simp (disch:=first|omega|(simp only [go_sem];try omega)) only [go_sem,seval];all_goals omega)) (by first|rfl|(simp (disch:=first|omega|(simp only [go_sem];try omega)) only [go_sem,seval];all_goals omega))⟩;focus (try (simp (disch:=first|omega|(simp only [go_sem];try omega)) only [go_sem,seval]);try ((repeat' apply And.intro)<;>first|rfl|trivial|refine aD ?_|refine Pr ?_|refine ax ?_|skip)))
     ·exact ⟨by simp only [aar];omega,by simp only [aar];omega,rfl⟩
     ·simp only [aar];omega
   ·have y3:x.length=0∨y.length=0:=by
     by_cases a:x.length=0
     ·exact .inl a
     ·by_cases b:y.length=0
      ·exact .inr b
      ·exact absurd ⟨z1.1 (by omega),z2.1 (by omega)⟩ hd
    have y4:(isDigit c&&isDigit d)=false:=by
     rw [Bool.eq_false_iff,Ne,aas];exact hd
    rw [y4]
    (try with_reducible refine Wk.aw fun _ ag=>?_);(repeat' (first|((with_reducible first|refine Wk.hd ?_|refine Wk.i ?_);simp (disch:=first|omega|(simp only [go_sem];try omega)) only [go_sem,seval,w7,w8,tx,ty])|(refine ay (fun hc=>?_) (fun hc=>?_)<;>try (exfalso;first|omega|contradiction))|refine ah ((by first|exact hrx _|exact hry _)) ?_|refine ah (IC _ _ _) ?_|refine Wk.drawn mx (by kernel_rfl) ?_|with_reducible refine Wk.ret fun _ _=>?_|(refine Wk.fin ‹_› ?_;refine ⟨?_,rfl⟩)|with_reducible first|refine Wk.o ?_|refine Wk.q ‹_› ?_));all_goals (repeat subst ag)
    ·rw [if_neg Bool.false_ne_true,if_pos (fun h=>hc (by rw [h];rfl))];rfl
    ·have hcd:c=d:=UInt8.toNat_inj.1 (by have:=Decidable.not_not.1 hc;exact Int.ofNat_inj.1 this)
     rw [if_neg Bool.false_ne_true,if_neg (fun h=>h hcd)]
     (refine ⟨(r,s),gk.mk ?_ ?_ ?_ (by simp (disch:=first|omega|(simp only [go_sem];try omega)) only [go_sem,seval]) (by simp (disch:=first|omega|(simp only [go_sem];try omega)) only [go_sem,seval]) (by first|rfl|(simp (disch:=first|omega|(simp only [go_sem];try omega)) only [go_sem,seval];all_goals omega)) (by first|rfl|(simp (disch:=first|omega|(simp only [go_sem];try omega)) only [go_sem,seval];all_goals omega))⟩;focus (try (simp (disch:=first|omega|(simp only [go_sem];try omega)) only [go_sem,seval]);try ((repeat' apply And.intro)<;>first|rfl|trivial|refine aD ?_|refine Pr ?_|refine ax ?_|skip)))
     ·simp only [aav] at h1 h2;exact ⟨by simp only;omega,by simp only;omega,rfl⟩
     ·simp only [aav];omega
    ·rw [if_neg Bool.false_ne_true,if_pos (fun h=>hc (by rw [h];rfl))];rfl
    ·have hcd:c=d:=UInt8.toNat_inj.1 (by have:=Decidable.not_not.1 hc;exact Int.ofNat_inj.1 this)
     rw [if_neg Bool.false_ne_true,if_neg (fun h=>h hcd)]
     (refine ⟨(r,s),gk.mk ?_ ?_ ?_ (by simp (disch:=first|omega|(simp only [go_sem];try omega)) only [go_sem,seval]) (by simp (disch:=first|omega|(simp only [go_sem];try omega)) only [go_sem,seval]) (by first|rfl|(simp (disch:=first|omega|(simp only [go_sem];try omega)) only [go_sem,seval];all_goals omega)) (by first|rfl|(simp (disch:=first|omega|(simp only [go_sem];try omega)) only [go_sem,seval];all_goals omega))⟩;focus (try (simp (disch:=first|omega|(simp only [go_sem];try omega)) only [go_sem,seval]);try ((repeat' apply And.intro)<;>first|rfl|trivial|refine aD ?_|refine Pr ?_|refine ax ?_|skip)))
     ·simp only [aav] at h1 h2;exact ⟨by simp only;omega,by simp only;omega,rfl⟩
     ·simp only [aav];omega
abbrev qC (l:List aF):V:= .d (.sl (bt l))
def gU:aX→Prop
 | .mk _ _ _ s l ks=>s.length≤1048576∧l.length≤1048576∧ks.length≤1048576∧(∀ k∈ks,k.length≤1048576)∧za l
where za:List aX→Prop
 |[]=>True
 |v::r=>gU v∧za r
theorem u9:∀ l:List aX,gU.za l↔∀ v∈l,gU v
 |[]=>by simp [gU.za]
 |v::r=>by simp [gU.za,u9 r]
def dX (v:aX):gU v↔v.str.length≤1048576∧v.list.length≤1048576∧v.keys.length≤1048576∧(∀ k∈v.keys,k.length≤1048576)∧∀ x∈v.list,gU x:=by
 cases v;simp only [gU,u9,aX.str,aX.list,aX.keys]
attribute [go_sem] List.all_append
def Dg (v:aX):vE (lit v)= .agg ([.d (int 1),.d (.str [])]++v.enc.map .d++[.d (.sl []),.d (.sl [])]):=by
 rw [vE,Ex.aP];simp [lit,Ex.kind,Ex.name,Ex.value,Ex.args,Ex.keys,bt]
abbrev jA (l:List Tk):V:= .d (.sl (l.map Tk.enc))
def bU (T:List Tk) (i:Nat) (s:aF):Bool:=decide (i<T.length)&&cg s (T.getD i default)
def bD (T:List Tk) (i:Nat):Int:=if T.length≤i then 4 else 5
def c_par_literal (v:aX):b8 G 570 [vV v] (vE (lit v)):=by
 intro st;refine aA.body func570 rfl ntmps570 (by simp) ?_;(try refine Wk.aw fun _ ag=>?_);(repeat' (first|((refine Wk.i ?_);simp only [go_sem,seval,aX.aP])|refine Wk.ret fun _ _=>?_|(refine Wk.fin ‹_› ?_;refine ⟨?_,rfl⟩)|first|refine Wk.o ?_|refine Wk.q ‹_› ?_));all_goals (repeat subst ag)
 all_goals (rw [Dg,aX.aP];rfl)
abbrev Xp (T:List Tk) (r:dF Ex) (st:St):Out→St→Prop:=fun o s=>match r with
 | .ok e rest=>o= .ret (.cF [vE e,ai ↑(T.length - rest.length),ai 0])∧s=st
 | .err rest c=>∃ x,o= .ret (.cF [vE x,ai ↑(T.length - rest.length),ai c])∧s=st
abbrev lE (G:World→Nat→Prop) (T:List Tk) (g:FuncId) (args:List V) (r:dF Ex):Prop:=∀ st,aA prog G g args st (Xp T r st)
def lE.ok {T:List Tk} {g:FuncId} {args:List V} {e:Ex} {rest:List Tk} (h:lE G T g args (.ok e rest)):b8 G g args (.cF [vE e,ai ↑(T.length - rest.length),ai 0]):=fun st=>(h st).mono fun _ _ hh=>hh
def lE.err {T:List Tk} {g:FuncId} {args:List V} {c:Int} {rest:List Tk} (h:lE G T g args (.err rest c)) (st:St):aA prog G g args st (fun o s=>∃ x,o= .ret (.cF [vE x,ai ↑(T.length - rest.length),ai c])∧s=st):=(h st).mono fun _ _ hh=>hh
def bW {T:List Tk} {j:Nat} {s:aF} (h:bU T j s=true):j<T.length:=by
 simp only [bU,aas,aau] at h;exact h.1
end Go.Proofs.YtbcillkajdnljaaGreatDoor
end
section
set_option maxHeartbeats 8000000
set_option maxRecDepth 20000
namespace Go.Proofs.YtbcillkajdnljaaGreatDoor
open Tryz
open Go.Abs
variable {G:World→Nat→Prop}
abbrev bT:Nat:=333
abbrev bE:Nat:=5
def mD {w:World} {k:Nat} {arr:Array Value} {e:TypeId} {f:Nat×Nat} (h:w.heap[k]?=some (.cells arr e f)) (i:Nat) (v:Value):w.setCell ⟨k,i,none⟩ v=w.setRow k (arr.setIfInBounds i v):=by
 have hh:(w.setCell ⟨k,i,none⟩ v).heap=(w.setRow k (arr.setIfInBounds i v)).heap:=by
  apply Array.ext_getElem?;intro j;by_cases hj:j=k
  ·subst hj;rw [setRow_heap w j arr _ e f h];simp only [World.setCell,abv,if_true,h];rfl
  ·rw [setRow_other w k j _ hj];simp only [World.setCell,abv];rw [if_neg (fun e=>hj e.symm)]
 simp only [World.setCell,World.setRow] at hh ⊢;rw [hh]
def sJ {c:Ctx} {w:World} {st:St} (hc:bf c w st) {b:Nat} {p X:V} (hb:st.aj[b]?=some (.tc bT [p,X])):∃ k pv xv,c.mu[b]?=some k∧w.heap[k]?=some (.cells #[pv,xv] bT (0,0))∧Rel c pv p∧Rel c xv X:=by
 have hlt:b<c.mu.length:=by rw [hc.cN];exact (aao.1 hb).1
 have hk:c.mu[b]?=some c.mu[b]:=aaw hlt;obtain ⟨arr,elem,h1,h2,h3,h4⟩:=hc.rowAt hk hb rfl;have he:=h4 _ _ rfl;subst he;have h0:=h3 0 (by simp);have h1':=h3 1 (by simp);refine ⟨_,arr.getD 0 undef,arr.getD 1 undef,hk,?_,by simpa using h0,by simpa using h1'⟩;rw [h1];congr 2;apply Array.ext
 ·simpa using h2
 ·intro i hi hi2;simp only [aav,aaA] at h2
  match i with
  |0=>simp [aap,show 0<arr.size by omega]
  |1=>simp [aap,show 1<arr.size by omega]
  |i+2=>omega
def kr (st:St) (b:Nat) (X:V) (hb:st.aj[b]?=some (.tc bT [.ptr b 0,X])):aA prog G 294 [.ptr b 0] st (fun o s=>o= .ret (.cF [])∧s=st):=by
 intro c w cargs hc hG hs hr;obtain ⟨k,pv,xv,hk,hh,hp,hx⟩:=sJ hc hb;have h0:=hr 0 (by simp);have ha:cargs= #[.pointer (some ⟨k,0,none⟩)]:=by
  simp only [abi] at h0;generalize hq:cargs.getD 0 undef=q at h0;cases h0 with|ptr _ k' _ hk'=>?_
  rw [hk] at hk';cases hk';apply Array.ext
  ·simpa using hs
  ·intro i hi hi2;have:i=0:=by simp at hi2;omega
   subst this;simpa [aap,hi] using hq
 subst ha;have hpv:pv= .pointer (some ⟨k,0,none⟩):=by
  cases hp with|ptr _ k' _ hk'=>?_
  rw [hk] at hk';cases hk';rfl
 subst hpv;refine (LI k w (by simp [World.cell?,hh])).mono ?_;rintro e w' ⟨rfl,rfl⟩;exact ⟨.ret (.cF []),st,c,⟨rfl,rfl⟩,Ext.refl c,hc,.cF _ _ rfl (by simp)⟩
def nK (st:St) (b:Nat) (X:V) (hb:st.aj[b]?=some (.tc bT [.d .eX,X])):aA prog G 294 [.ptr b 0] st (fun o s=>o= .ret (.cF [])∧s=⟨st.aj.set b (.tc bT [.ptr b 0,X]),st.toks⟩):=by
 intro c w cargs hc hG hs hr;obtain ⟨k,pv,xv,hk,hh,hp,hx⟩:=sJ hc hb;have h0:=hr 0 (by simp);have ha:cargs= #[.pointer (some ⟨k,0,none⟩)]:=by
  simp only [abi] at h0;generalize hq:cargs.getD 0 undef=q at h0;cases h0 with|ptr _ k' _ hk'=>?_
  rw [hk] at hk';cases hk';apply Array.ext
  ·simpa using hs
  ·intro i hi hi2;have:i=0:=by simp at hi2;omega
   subst this;simpa [aap,hi] using hq
 subst ha;have hpv:pv= .pointer none:=by
  cases hp with|d _ _ h=>?_
  cases h;rfl
 subst hpv;refine (ze k w (by simp [World.cell?,hh]) (by simp [World.shape?,hh]) (by simp [World.frozen?,hh])).mono ?_;rintro e w' ⟨rfl,rfl⟩;rw [mD hh];refine ⟨.ret (.cF []),_,c,⟨rfl,rfl⟩,Ext.refl c,?_,.cF _ _ rfl (by simp)⟩;refine hc.setRow hk hb hh (cs':=[.ptr b 0,X]) (by simp) (fun i hi=>?_) (.inr rfl)
 match i with
 |0=>exact .ptr _ _ _ hk
 |1=>simpa using hx
 |i+2=>simp at hi;omega
def Dh {c:Ctx} {b k:Nat} {cargs:Array Value} (hk:c.mu[b]?=some k) (hs:cargs.size=1) (h0:Rel c (cargs.getD 0 undef) (.ptr b 0)):cargs= #[.pointer (some ⟨k,0,none⟩)]:=by
 generalize hq:cargs.getD 0 undef=q at h0;cases h0 with|ptr _ k' _ hk'=>?_
 rw [hk] at hk';cases hk';apply Array.ext
 ·simpa using hs
 ·intro i hi hi2;have:i=0:=by simp at hi2;omega
  subst this;simpa [aap,hi] using hq
def Ff {c:Ctx} {w:World} {st:St} (hc:bf c w st) {id:Nat} {s:aF} {xv:Value} (hx:Rel c xv (.own id (aH s))) (ht:st.toks[id]?=some (bE,1,s.length)) (h0:s≠[]):
  ∃ t g cap cur,c.tok[id]?=some t∧t.len=s.length∧t.val=xv∧xv= .slice (some ⟨g,0,none⟩) s.length cap∧w.heap[g]?=some (.cells cur bE (0,0))∧s.length≤cap∧cap≤maxLen∧cur.size=cap∧t.e=bE∧t.sz=1∧
   ∀ j x,s[j]?=some x→w.cell? ((⟨g,0,none⟩:Addr).add j)=some (.int .u8 x.toNat):=by
 have hl0:s.length≠0:=by simpa using h0
 have hrl:(aH s).length=s.length:=by simp [aH]
 cases hx with|own _ _ _ t r htk hszr hle heq=>?_
 have htl:t.e=bE∧t.sz=1∧t.len=s.length:=by
  have:=hc.cu▸ht;rw [aaV,htk] at this;simpa using this
 obtain ⟨h1,h2,h3⟩:=htl
 have hv:=heq (by rw [hrl,h3])
 subst hv
 obtain ⟨_,hdd|⟨old,hold,_⟩⟩:=hc.cz id t htk
 ·exfalso
  generalize htv:t.val=tv at r
  generalize hbr:aH s=rows at r hrl
  cases r with
  |slnil=>simp at hrl;exact h0 (aba.1 hrl.symm)
  |uV a=>simp at hrl;exact h0 (aba.1 hrl.symm)
  |sl k off n cap sz vs _ b1 b2 b3 b4 b5=>
   have:=hdd.2
   rw [htv] at this
   simp [Value.ownBlock] at this
 rcases hold.2 with ⟨_,hn⟩|⟨g,cap,cur,hv,hbg,hg,hnc,hcm,hcs,htake⟩
 ·omega
 refine ⟨t,g,cap,cur,htk,h3,rfl,by rw [hv,h3],by rw [hg,h1],by omega,hcm,by rw [hcs,h2,Nat.mul_one],h1,h2,?_⟩
 intro j x hj
 have hjl:j<s.length:=(aao.1 hj).1
 generalize htv:t.val=tv at r
 generalize hbr:aH s=rows at r hrl
 cases r with
 |slnil=>simp at hrl;exact absurd (aba.1 hrl.symm) h0
 |uV a=>simp at hrl;exact absurd (aba.1 hrl.symm) h0
 |sl k off n cap' sz vs _ b1 b2 b3 b4 b5=>
  rw [htv] at hv
  simp only [Value.slice.injEq,aal,Addr.mk.injEq] at hv
  obtain ⟨⟨rfl,rfl,_⟩,_,_⟩:=hv
  have hsz1:sz=1:=by
   have:=b3 (rows[0]'(by rw [hrl];omega)) (aaX _);subst hbr;simpa [aH] using this.symm
  subst hsz1
  have e1:=b4 j 0 (by rw [←b1,hrl];exact hjl) (by omega)
  have e2:=b5 j 0 (by rw [←b1,hrl];exact hjl) (by omega)
  have e3:(rows.getD j []).getD 0 .eX= .int .u8 x.toNat:=by
   subst hbr;simp only [aH,aam,aaV,hj];rfl
  rw [e3] at e2
  generalize hvj:vs j 0=vj at e1 e2
  cases e2
  have:=hc.cy _ _ _ e1
  rw [addr_add]
  simpa using this
def ku (st:St) (b id:Nat) (p:V) (s:aF) (hb:st.aj[b]?=some (.tc bT [p,.own id (aH s)])) (ht:st.toks[id]?=some (bE,1,s.length)) (h0:s≠[]):
  aA prog G 215 [.ptr b 0] st (fun o s'=>o= .ret (.d (.str s))∧s'=⟨st.aj,st.toks.set id (bE,1,maxLen+1)⟩):=by
 intro c w cargs hc hG hs hr
 obtain ⟨k,pv,xv,hk,hh,hp,hx⟩:=sJ hc hb
 obtain ⟨t,g,cap,cur,q1,q2,q3,q4,q5,q6,q7,q8,q9,q10,q11⟩:=Ff hc hx ht h0
 have ha:=Dh hk (by simpa using hs) (hr 0 (by simp))
 subst ha q4
 refine (O3 k g cap pv bT cur s w hh q5 q6 q7 q8 h0 q11).mono ?_
 rintro e w' ⟨rfl,rfl⟩
 obtain ⟨k1,k2⟩:=hc.kill q1 (by rw [q2];omega) (g:=g) (by rw [q3];rfl) s.length
 rw [q9,q10] at k1
 exact ⟨.ret (.d (.str s)),_,_,⟨rfl,rfl⟩,k2,k1,.d _ _ (.str _ _ (by simp))⟩
def nL (st:St) (b:Nat) (p:V) (hb:st.aj[b]?=some (.tc bT [p,.bh])):
  aA prog G 215 [.ptr b 0] st (fun o s'=>o= .ret (.d (.str []))∧s'=st):=by
 intro c w cargs hc hG hs hr
 obtain ⟨k,pv,xv,hk,hh,hp,hx⟩:=sJ hc hb
 have ha:=Dh hk (by simpa using hs) (hr 0 (by simp))
 subst ha
 have hxv:xv= .slice none 0 0:=by cases hx;rfl
 subst hxv
 refine (O4 k pv bT w hh).mono ?_
 rintro e w' ⟨rfl,rfl⟩
 exact ⟨.ret (.d (.str [])),st,c,⟨rfl,rfl⟩,Ext.refl c,hc.drew,.d _ _ (.str _ _ rfl)⟩
end Go.Proofs.YtbcillkajdnljaaGreatDoor
end
section
set_option maxHeartbeats 8000000
set_option maxRecDepth 20000
namespace Go.Proofs.YtbcillkajdnljaaGreatDoor
open Tryz
open Go.Abs
attribute [local irreducible] AW OX GQ bK bO bz aY aA
variable {G:World→Nat→Prop}
def iA {α:Type} {l:List α} {i:Nat} {x y:α} (h:l[i]?=some x):(l.set i y)[i]?=some y:=aa4 (aao.1 h).1
def jB (s:aF):(aH s).length=s.length:=by simp [aH]
def w9 (s t:aF):aH s++aH t=aH (s++t):=by simp [aH]
def oT (c:UInt8):[[D.int .u8 c.toNat]]=aH [c]:=(rfl)
def iB (s:aF):dA 1 (aH s)=true:=by simp [dA,aH,D.one]
def gK (s:aF):cr 1 (aH s)=true:=by simp [cr,aH]
def zf {st:St} {e by_ id:Nat} {s x:aF} (ht:st.toks[id]?=some (e,1,s.length)) (hx:x≠[]) (h1:(s.length+x.length)*by_≤140737488355328) (h2:s.length+x.length≤9223372036854775807):
  jt (some 1) true true e 1 by_ (aH x) (.own id (aH s)) st=some (.own id (aH (s++x)),⟨st.aj,st.toks.set id (e,1,s.length+x.length)⟩):=by
 have hm:maxLen=9223372036854775807:=by decide
 have he:(aH x).isEmpty=false:=by cases x<;>simp_all [aH]
 simp only [jt,rS,jB]
 rw [if_pos ⟨trivial,by omega,trivial⟩,if_pos ⟨ht,trivial,h1,by omega⟩,he,w9]
 rfl
def zg {st:St} {e by_:Nat} {x:aF} (hx:x≠[]) (h1:x.length*by_≤140737488355328) (h2:x.length≤9223372036854775807):
  jt (some 1) true true e 1 by_ (aH x) .bh st=some (.own st.toks.length (aH x),⟨st.aj,st.toks++[(e,1,x.length)]⟩):=by
 have hm:maxLen=9223372036854775807:=by decide
 have he:(aH x).isEmpty=false:=by cases x<;>simp_all [aH]
 simp only [jt,rS,jB]
 rw [if_pos ⟨trivial,by omega,trivial⟩,if_pos ⟨h1,by omega⟩,he]
 rfl
def IP (st:St) (b id:Nat) (s:aF) (ch:UInt8) (hb:st.aj[b]?=some (.tc bT [.ptr b 0,.own id (aH s)])) (ht:st.toks[id]?=some (bE,1,s.length)) (hs:s.length≤4398046511104):
  aA prog G 208 [.ptr b 0,vc ch] st (fun o s'=>o= .ret (.d .fD)∧s'=⟨st.aj.set b (.tc bT [.ptr b 0,.own id (aH (s++[ch]))]),st.toks.set id (bE,1,s.length+1)⟩):=by
 have hcc:=kr (G:=G) st b _ hb
 have hap:=zf (st:=st) (e:=bE) (by_:=1) (id:=id) (s:=s) (x:=[ch]) ht (by simp) (by simp;omega) (by simp;omega)
 have hbl:b<st.aj.length:=(aao.1 hb).1
 have hil:id<st.toks.length:=(aao.1 ht).1
 refine aA.body func208 rfl ntmps208 (by simp) ?_
 (try refine Wk.aw fun _ ag=>?_);(repeat' (first|((first|refine Wk.hd ?_|refine Wk.i ?_);simp only [go_sem,seval,hb,oT,iB,gK,mV,hap,splice])|refine ah (hcc) ?_|first|refine Wk.o ?_|refine Wk.q ‹_› ?_));all_goals (repeat subst ag)
 refine aV st.toks.length (aat _) (by simp only [St.cut,List.length_set,fy,aaO,aat];rfl) (aR ?_) (by simp only [go_sem,seval,bQ,results208];try exact rfl) rfl rfl ⟨rfl,?_⟩
 ·simp [ec.within,V.within,V.within.all,hbl,hil]
 ·simp
def IQ (st:St) (b:Nat) (ch:UInt8) (hb:st.aj[b]?=some (.tc bT [.d .eX,.bh])):
  aA prog G 208 [.ptr b 0,vc ch] st (fun o s'=>o= .ret (.d .fD)∧s'=⟨st.aj.set b (.tc bT [.ptr b 0,.own st.toks.length (aH [ch])]),st.toks++[(bE,1,1)]⟩):=by
 have hcc:=nK (G:=G) st b _ hb
 have hap:=zg (st:=⟨st.aj.set b (.tc bT [.ptr b 0,.bh]),st.toks⟩) (e:=bE) (by_:=1) (x:=[ch]) (by simp) (by simp) (by simp)
 have hbl:b<st.aj.length:=(aao.1 hb).1
 have hsg:=iA (y:=ec.tc bT [.ptr b 0,.bh]) hb
 refine aA.body func208 rfl ntmps208 (by simp) ?_
 (try refine Wk.aw fun _ ag=>?_);(repeat' (first|((first|refine Wk.hd ?_|refine Wk.i ?_);simp only [go_sem,seval,hsg,oT,iB,gK,oK,hap,splice,List.set_set])|refine aW (hcc) ?_|first|refine Wk.o ?_|refine Wk.q ‹_› ?_));all_goals (repeat subst ag)
 refine aV (st.toks.length+1) (by omega) (by simp only [St.cut,List.length_set,fy];rw [aaO (by simp)]) (aR ?_) (by simp only [go_sem,seval,bQ,results208];try exact rfl) rfl rfl ⟨rfl,?_⟩
 ·simp [ec.within,V.within,V.within.all,hbl]
 ·simp
def LJ (st:St) (b id:Nat) (s:aF) (hb:st.aj[b]?=some (.tc bT [.ptr b 0,.own id (aH s)])):
  aA prog G 214 [.ptr b 0] st (fun o s'=>o= .ret (ai ↑s.length)∧s'=st):=by
 refine aA.body func214 rfl ntmps214 (by simp) ?_
 (try refine Wk.aw fun _ ag=>?_);(repeat' (first|((refine Wk.i ?_);simp only [go_sem,seval,hb,jB])|refine Wk.ret fun _ _=>?_|(refine Wk.fin ‹_› ?_;refine ⟨?_,rfl⟩)|first|refine Wk.o ?_|refine Wk.q ‹_› ?_));all_goals (repeat subst ag)
 all_goals rfl
def LK (st:St) (b:Nat) (p:V) (hb:st.aj[b]?=some (.tc bT [p,.bh])):
  aA prog G 214 [.ptr b 0] st (fun o s'=>o= .ret (ai 0)∧s'=st):=by
 refine aA.body func214 rfl ntmps214 (by simp) ?_
 (try refine Wk.aw fun _ ag=>?_);(repeat' (first|((refine Wk.i ?_);simp only [go_sem,seval,hb])|refine Wk.ret fun _ _=>?_|(refine Wk.fin ‹_› ?_;refine ⟨?_,rfl⟩)|first|refine Wk.o ?_|refine Wk.q ‹_› ?_));all_goals (repeat subst ag)
 all_goals rfl
def qD (v:aX):gM v=true↔(v.kind=1∨v.bool=false)∧(v.kind=2∨v.int=0)∧(v.kind=3∨v.str=[])∧(v.kind=4∨v.kind=5∨(v.list.length:Int)=0)∧(v.kind=5∨(v.keys.length:Int)=0):=by
 have h2:v.list=[]↔(v.list.length:Int)=0:=by cases v.list<;>simp;omega
 have h3:v.keys=[]↔(v.keys.length:Int)=0:=by cases v.keys<;>simp;omega
 simp only [gM,aas,aaU,aau,abC,h2,h3,and_assoc,or_assoc]
def IU (v:aX) (fv:gU v):b8 G 270 [vV v] (vb (gM v)):=by
 intro st;rw [vV,aX.aP];obtain ⟨a1,a2,a3,a4,a5⟩:=(dX v).1 fv;refine aA.body func270 rfl ntmps270 (by simp) ?_;(try refine Wk.aw fun _ ag=>?_);(repeat' (first|((first|refine Wk.hd ?_|refine Wk.i ?_);simp only [go_sem,seval])|(refine ay (fun hc=>?_) (fun hc=>?_)<;>try omega)|refine Wk.ret fun _ _=>?_|(refine Wk.fin ‹_› ?_;refine ⟨?_,rfl⟩)|first|refine Wk.o ?_|refine Wk.q ‹_› ?_));all_goals (repeat subst ag)
 all_goals (refine congrArg (fun b=>Out.ret (.d (.bool b))) ?_;rw [abk,qD];clear fv a4 a5;grind)
def BT (l:List aF) (i:Nat) (hi:i<l.length):dG (l.drop i)=(fP (l.getD i default)&& (if i+1<l.length then decide (c8 (l.getD i default) (l.getD (i+1) default)<0) else true)&&dG (l.drop (i+1))):=by
 rw [aaT hi,dG.eq_def,getD_eq hi];simp only;by_cases h:i+1<l.length
 ·rw [aaT h,if_pos h,getD_eq h]
 ·rw [aa0 (by omega),if_neg h]
def oU (l:List aF) (i:Nat):Bool:=(decide (i=0)||decide (l.length≤i)||decide (c8 (l.getD (i - 1) default) (l.getD i default)<0))&&dG (l.drop i)
def Di (l:List aF):oU l 0=dG l:=by simp [oU]
def ve (l:List aF):oU l l.length=true:=by simp [oU,dG]
def sK (l:List aF) (i:Nat) (hi:i<l.length):oU l i=((decide (i=0)||decide (c8 (l.getD (i - 1) default) (l.getD i default)<0))&&fP (l.getD i default)&&oU l (i+1)):=by
 simp only [oU,BT l i hi,Nat.add_sub_cancel];have h0:decide (l.length≤i)=false:=decide_eq_false (by omega);have h1:decide (i+1=0)=false:=decide_eq_false (by omega);rw [h0,h1];by_cases h:i+1<l.length
 ·have h2:decide (l.length≤i+1)=false:=decide_eq_false (by omega);rw [if_pos h,h2];simp [Bool.and_assoc]
 ·have h2:decide (l.length≤i+1)=true:=decide_eq_true (by omega);rw [if_neg h,h2];simp [Bool.and_assoc]
def pX (v:aX) (level:Nat):gY v level=if 16<level then 13 else if v.kind<0∨5<v.kind∨gM v=false then 1
 else if v.int< -9007199254740992∨9007199254740992<v.int then 2
 else if 4096<v.str.length∨1024<v.list.length∨1024<v.keys.length then 3
 else if v.kind=5∧¬ (v.keys.length=v.list.length∧dG v.keys=true) then 1
 else if (v.kind=4∨v.kind=5)∧v.list.length=0∧level=16 then 13 else 0:=by
 have h2:v.list=[]↔v.list.length=0:=by cases v.list<;>simp
 simp only [gY,h2]
def pY (level:Nat) (v:aX):dI level v=if gY v level≠0 then gY v level else dI.vCheckL (level+1) v.list:=by
 cases v;rw [dI];rfl
end Go.Proofs.YtbcillkajdnljaaGreatDoor
end
section
set_option maxHeartbeats 8000000
set_option maxRecDepth 20000
namespace Go.Proofs.YtbcillkajdnljaaGreatDoor
open Tryz
open Go.Abs
variable {G:World→Nat→Prop}
end Go.Proofs.YtbcillkajdnljaaGreatDoor
end
section
set_option maxHeartbeats 8000000
set_option maxRecDepth 20000
namespace Go.Proofs.YtbcillkajdnljaaGreatDoor
open Tryz
open Go.Abs
attribute [local irreducible] AW OX GQ bK bO bz aY aA
variable {G:World→Nat→Prop}
def vh (v:aX):jg v=true↔v.kind=0∧v.bool=false∧v.int=0∧v.str=[]∧(v.list.length:Int)=0∧(v.keys.length:Int)=0:=by
 simp only [jg,aas,aau,abC,and_assoc];constructor
 ·rintro ⟨h1,h2,h3,h4,h5,h6⟩;exact ⟨h1,h2,h3,h4,by rw [h5];rfl,by rw [h6];rfl⟩
 ·rintro ⟨h1,h2,h3,h4,h5,h6⟩;exact ⟨h1,h2,h3,h4,aba.1 (by omega),aba.1 (by omega)⟩
def O8 (v:aX) (fv:gU v):b8 G 272 [vV v] (vb (jg v)):=by
 intro st;rw [vV,aX.aP];obtain ⟨a1,a2,a3,a4,a5⟩:=(dX v).1 fv;refine aA.body func272 rfl ntmps272 (by simp) ?_;(try refine Wk.aw fun _ ag=>?_);(repeat' (first|((first|refine Wk.hd ?_|refine Wk.i ?_);simp only [go_sem,seval])|(refine ay (fun hc=>?_) (fun hc=>?_)<;>try omega)|refine Wk.ret fun _ _=>?_|(refine Wk.fin ‹_› ?_;refine ⟨?_,rfl⟩)|first|refine Wk.o ?_|refine Wk.q ‹_› ?_));all_goals (repeat subst ag)
 all_goals (refine congrArg (fun b=>Out.ret (.d (.bool b))) ?_;rw [abk,vh];grind)
def Te (e:Ex):(e.enc.map V.d).drop 10=[]:=by rw [Ex.aP,aX.aP];rfl
attribute [go_sem] Te
def pZ (e:Ex):Bool:=if e.kind=1∨e.kind=2 then decide (e.args.length=0) else if e.kind=3∨e.kind=6 then decide (e.args.length=1)
 else if e.kind=4∨e.kind=7 then decide (e.args.length=2) else if e.kind=8 then decide (e.args.length=3) else decide (e.kind=5∨e.kind=9∨e.kind=10)
end Go.Proofs.YtbcillkajdnljaaGreatDoor
end
section
namespace Go.Proofs.YtbcillkajdnljaaGreatDoor
open Tryz
open Go.Abs
attribute [local irreducible] AW OX GQ bK bO bz aY aA
variable {G:World→Nat→Prop}
def oX (l:List Ex) (i:Nat) (h:i<l.length):bS.cY (l.take (i+1))=bS.cY (l.take i)+bS (l.getD i default):=by
 induction l generalizing i with
 |nil=>simp at h
 |cons e r ih=>
  cases i with
  |zero=>simp [bS.cY]
  |succ i=>
   have:=ih i (by simpa using h)
   simp only [List.take_succ_cons,bS.cY,abI]
   omega
def jD (l:List Ex) (i:Nat):bS.cY (l.take i)≤bS.cY l:=by
 induction l generalizing i with
 |nil=>simp
 |cons e r ih=>
  cases i with
  |zero=>simp [bS.cY]
  |succ i=>have:=ih i;simp only [List.take_succ_cons,bS.cY];omega
end Go.Proofs.YtbcillkajdnljaaGreatDoor
end
section
set_option maxHeartbeats 8000000
set_option maxRecDepth 20000
namespace Go.Proofs.YtbcillkajdnljaaGreatDoor
open Tryz
open Go.Abs
attribute [local irreducible] AW OX GQ bK bO bz aY aA
variable {G:World→Nat→Prop}
def qF (l:List Ex) (h:∀ a∈l,1≤bS a):l.length≤bS.cY l:=by
 induction l with
 |nil=>simp
 |cons e r ih=>
  have h1:=h e (by simp)
  have h2:=ih fun a ha=>h a (by simp [ha])
  simp only [aav,bS.cY];omega
theorem lF:∀ e:Ex,1≤bS e
 | .mk _ _ _ ar _=>by simp only [bS];omega
def eCount_eq (e:Ex):bS e=1+bS.cY e.args:=by cases e;rfl
def ke {l:List Ex} {a:Ex} (h:a∈l):bS a≤bS.cY l:=by
 induction l with
 |nil=>simp at h
 |cons e r ih=>
  simp only [bS.cY]
  rcases abc.1 h with rfl|h
  ·omega
  ·have:=ih h;omega
end Go.Proofs.YtbcillkajdnljaaGreatDoor
end
section
namespace Go.Proofs.YtbcillkajdnljaaGreatDoor
open Tryz
def zn (l:List aF):kA l=true↔¬ l.Nodup:=by
 induction l with
 |nil=>simp [kA]
 |cons k r ih=>
  simp only [kA,aaU,ih,List.nodup_cons,List.contains_iff_mem]
  grind
end Go.Proofs.YtbcillkajdnljaaGreatDoor
end
section
set_option maxHeartbeats 8000000
set_option maxRecDepth 20000
namespace Go.Proofs.YtbcillkajdnljaaGreatDoor
open Tryz
open Go.Abs
attribute [local irreducible] AW OX GQ bK bO bz aY aA
variable {G:World→Nat→Prop}
def j0:Ex→Prop
 | .mk _ n v ar ks=>n.length≤1048576∧gU v∧ar.length≤1048576∧ks.length≤1048576∧(∀ k∈ks,k.length≤1048576)∧zo ar
where zo:List Ex→Prop
 |[]=>True
 |e::r=>j0 e∧zo r
theorem vi:∀ l:List Ex,j0.zo l↔∀ e∈l,j0 e
 |[]=>by simp [j0.zo]
 |e::r=>by simp [j0.zo,vi r]
def gq (e:Ex):j0 e↔e.name.length≤1048576∧gU e.value∧e.args.length≤1048576∧e.keys.length≤1048576∧(∀ k∈e.keys,k.length≤1048576)∧∀ x∈e.args,j0 x:=by
 cases e;simp only [j0,vi,Ex.name,Ex.value,Ex.args,Ex.keys]
def iC (e:Ex):Bool:=pZ e&&dJ e&& (decide (e.kind=1)||jg e.value)&&gR e
def vk (e:Ex):pZ e=(decide (1≤e.kind∧e.kind≤10)&&jJ e):=by
 rw [abk];simp only [pZ,jJ];grind
def sQ (e:Ex) (level:Nat):jv e level=if 16<level then 13 else if iC e=false then 1
 else if e.kind=1∧fk e.value≠0 then fk e.value else if 1024<e.args.length then 3 else if kA e.keys=true then 7 else 0:=by
 have:(e.kind<1∨10<e.kind∨(e.kind≠1∧jg e.value=false)∨dJ e=false∨jJ e=false∨gR e=false)↔iC e=false:=by
  rw [iC,vk];cases h1:jJ e<;>cases h2:dJ e<;>cases h3:jg e.value<;>cases h4:gR e<;>simp<;>omega
 rw [jv]
 simp only [this]
def eCheck_eq (level:Nat) (e:Ex):dc level e=if jv e level≠0 then jv e level else dc.gy (level+1) e.args:=by
 cases e;rw [dc];rfl
def sR (level:Nat) (l:List Ex) (i:Nat):dc.gy level (l.drop i)=if i<l.length then (if dc level (l.getD i default)≠0 then dc level (l.getD i default) else dc.gy level (l.drop (i+1))) else 0:=by
 by_cases h:i<l.length
 ·rw [aaT h,if_pos h,getD_eq h,dc.gy]
 ·rw [aa0 (by omega),if_neg h,dc.gy]
def xd {level:Nat} {e:Ex} (h:dc level e=0):jv e level=0∧∀ x∈e.args,dc (level+1) x=0:=by
 rw [eCheck_eq] at h;by_cases hn:jv e level=0
 ·rw [if_neg (by simp [hn])] at h;refine ⟨hn,?_⟩;generalize e.args=l at h;induction l with
  |nil=>intro x hx;simp at hx
  |cons a r ih=>
   rw [dc.gy] at h
   by_cases ha:dc (level+1) a=0
   ·rw [if_neg (by simp [ha])] at h
    intro x hx
    rcases abc.1 hx with rfl|hx
    ·exact ha
    ·exact ih h x hx
   ·rw [if_pos ha] at h;exact absurd h ha
 ·rw [if_pos hn] at h;exact absurd h hn
structure xe (e:Ex) (level:Nat):Prop where
 Zu:level≤16
 k1:1≤e.kind
 k2:e.kind≤10
 named:dJ e=true
 arity:jJ e=true
 keyed:gR e=true
 zero:e.kind≠1→jg e.value=true
 val:e.kind=1→fk e.value=0
 len:e.args.length≤1024
 rep:kA e.keys=false
def B3 {level:Nat} {e:Ex} (h:jv e level=0):xe e level:=by
 rw [sQ] at h;have hd:¬ 16<level:=fun h'=>by rw [if_pos h'] at h;omega
 rw [if_neg hd] at h;have hff:iC e=true:=by
  cases h':iC e
  ·rw [if_pos h'] at h;omega
  ·rfl
 rw [if_neg (by simp [hff])] at h;have hk:¬ (e.kind=1∧fk e.value≠0):=fun h'=>by rw [if_pos h'] at h;exact h'.2 h
 rw [if_neg hk] at h;have hl:¬ 1024<e.args.length:=fun h'=>by rw [if_pos h'] at h;omega
 rw [if_neg hl] at h;have hr:kA e.keys=false:=by
  cases h':kA e.keys
  ·rfl
  ·rw [if_pos h'] at h;omega
 simp only [iC,vk,aas,aaU,aau] at hff;obtain ⟨⟨⟨⟨⟨q1,q2⟩,q3⟩,q4⟩,q5⟩,q6⟩:=hff;exact ⟨by omega,q1,q2,q4,q3,q6,fun h=>q5.resolve_left h,fun h=>Decidable.not_not.1 fun h'=>hk ⟨h,h'⟩,by omega,hr⟩
def xe.Pa {e:Ex} {level:Nat} (h:xe e level):((e.kind=1∨e.kind=2)→e.args.length=0)∧((e.kind=3∨e.kind=6)→e.args.length=1)∧((e.kind=4∨e.kind=7)→e.args.length=2)∧(e.kind=8→e.args.length=3)∧(e.kind=10→e.keys.length=e.args.length)∧(e.kind=7→0<bB e.name):=by
 have h1:=h.arity;have h2:=h.keyed;have h3:=h.named;simp only [jJ,gR,dJ] at h1 h2 h3;refine ⟨?_,?_,?_,?_,?_,?_⟩<;>grind
end Go.Proofs.YtbcillkajdnljaaGreatDoor
end
section
set_option maxHeartbeats 8000000
set_option maxRecDepth 20000
namespace Go.Proofs.YtbcillkajdnljaaGreatDoor
open Tryz
open Go.Abs Go.RowKit
variable {G:World→Nat→Prop}
def GT (G:World→Nat→Prop):Prop:=∀ w0 b w,G w0 b→Below b w0 w→Lib.TabIs prog w "internal/strconv.uint64pow10" .u64 Lib.pow10Tab
end Go.Proofs.YtbcillkajdnljaaGreatDoor
end
section
set_option maxHeartbeats 8000000
set_option maxRecDepth 20000
namespace Go.Proofs.YtbcillkajdnljaaGreatDoor
open Tryz
open Go.Abs
attribute [local irreducible] AW OX GQ bK bO bz aY aA
variable {G:World→Nat→Prop}
def LU (x:Ex):x.enc.all Abs.D.one=true:=by rw [Ex.aP,aX.aP];rfl
attribute [go_sem] LU
