import Derived.Test.YteeohmopbcjifaaGreatDoorS9
import Derived.Shelf.Strconv.Itoa4
import Derived.Shelf.Strconv.ErrVarAll
import Derived.Shelf.LaysM
import Derived.Shelf.LaysC
import Derived.Test.YteeohmopbcjifaaGreatDoorProg
import Derived.KernelRfl
import Derived.Test.YteeohmopbcjifaaGreatDoorChecked
import Derived.Recover
set_option linter.unusedSimpArgs false
set_option linter.unusedVariables false
section
namespace Go.Proofs
open Go.Shelf
def Tryz.wP:Go.Shelf.Ren:=⟨fun|172=>276|244=>281|245=>282|247=>283|279=>284|280=>285|281=>286|282=>287|287=>288|316=>289|171=>291|205=>290|321=>292|322=>293|243=>294|246=>295|283=>296|284=>297|285=>298|286=>299|129=>301|317=>300|318=>302|319=>303|320=>304|337=>305|338=>306|n=>n,fun|9=>9|3=>3|75=>282|76=>383|4=>4|5=>5|167=>389|37=>26|0=>0|85=>390|2=>2|168=>392|53=>124|175=>395|46=>78|210=>399|127=>354|145=>404|143=>402|21=>21|171=>406|173=>409|212=>412|51=>23|20=>20|213=>413|232=>416|233=>417|80=>329|n=>n,fun|15=>3|16=>4|17=>5|18=>6|19=>7|n=>n⟩
theorem Tryz.yL:Go.Proofs.LaysC.n172 prog Tryz.wP:= {
 mixed:=by kernel_rfl
 f129:=Tryz.func301.trans (congrArg some (by kernel_rfl))
 f171:=Tryz.func291.trans (congrArg some (by kernel_rfl))
 f172:=Tryz.func276.trans (congrArg some (by kernel_rfl))
 f205:=Tryz.func290.trans (congrArg some (by kernel_rfl))
 f243:=Tryz.func294.trans (congrArg some (by kernel_rfl))
 f244:=Tryz.func281.trans (congrArg some (by kernel_rfl))
 f245:=Tryz.func282.trans (congrArg some (by kernel_rfl))
 f246:=Tryz.func295.trans (congrArg some (by kernel_rfl))
 f247:=Tryz.func283.trans (congrArg some (by kernel_rfl))
 f279:=Tryz.func284.trans (congrArg some (by kernel_rfl))
 f280:=Tryz.func285.trans (congrArg some (by kernel_rfl))
 f281:=Tryz.func286.trans (congrArg some (by kernel_rfl))
 f282:=Tryz.func287.trans (congrArg some (by kernel_rfl))
 f283:=Tryz.func296.trans (congrArg some (by kernel_rfl))
 f284:=Tryz.func297.trans (congrArg some (by kernel_rfl))
 f285:=Tryz.func298.trans (congrArg some (by kernel_rfl))
 f286:=Tryz.func299.trans (congrArg some (by kernel_rfl))
 f287:=Tryz.func288.trans (congrArg some (by kernel_rfl))
 f316:=Tryz.func289.trans (congrArg some (by kernel_rfl))
 f317:=Tryz.func300.trans (congrArg some (by kernel_rfl))
 f318:=Tryz.func302.trans (congrArg some (by kernel_rfl))
 f319:=Tryz.func303.trans (congrArg some (by kernel_rfl))
 f320:=Tryz.func304.trans (congrArg some (by kernel_rfl))
 f321:=Tryz.func292.trans (congrArg some (by kernel_rfl))
 f322:=Tryz.func293.trans (congrArg some (by kernel_rfl))
 f337:=Tryz.func305.trans (congrArg some (by kernel_rfl))
 f338:=Tryz.func306.trans (congrArg some (by kernel_rfl))
 t0:=underlying0
 a0:=isAgg0
 z0:=sizeOf0
 v0:=zeroValue0
 t2:=underlying2
 a2:=isAgg2
 z2:=sizeOf2
 v2:=zeroValue2
 t3:=underlying3
 a3:=isAgg3
 z3:=sizeOf3
 v3:=zeroValue3
 t4:=underlying4
 a4:=isAgg4
 z4:=sizeOf4
 v4:=zeroValue4
 t5:=underlying5
 a5:=isAgg5
 z5:=sizeOf5
 v5:=zeroValue5
 t9:=underlying9
 a9:=isAgg9
 z9:=sizeOf9
 v9:=zeroValue9
 t20:=underlying20
 a20:=isAgg20
 z20:=sizeOf20
 v20:=zeroValue20
 t21:=underlying21
 a21:=isAgg21
 z21:=sizeOf21
 v21:=zeroValue21
 t37:=underlying26
 a37:=isAgg26
 z37:=sizeOf26
 v37:=zeroValue26
 t46:=underlying78
 a46:=isAgg78
 z46:=sizeOf78
 v46:=zeroValue78
 t51:=underlying23
 a51:=isAgg23
 z51:=sizeOf23
 v51:=zeroValue23
 t53:=underlying124
 a53:=isAgg124
 z53:=sizeOf124
 v53:=zeroValue124
 t75:=underlying282
 a75:=isAgg282
 z75:=sizeOf282
 v75:=zeroValue282
 t76:=underlying383
 a76:=isAgg383
 z76:=sizeOf383
 v76:=zeroValue383
 t85:=underlying390
 a85:=isAgg390
 z85:=sizeOf390
 v85:=zeroValue390
 t127:=underlying354
 a127:=isAgg354
 z127:=sizeOf354
 v127:=zeroValue354
 t143:=underlying402
 a143:=isAgg402
 z143:=sizeOf402
 v143:=zeroValue402
 t145:=underlying404
 a145:=isAgg404
 z145:=sizeOf404
 v145:=zeroValue404
 t167:=underlying389
 a167:=isAgg389
 z167:=sizeOf389
 v167:=zeroValue389
 t168:=underlying392
 a168:=isAgg392
 z168:=sizeOf392
 v168:=zeroValue392
 t171:=underlying406
 a171:=isAgg406
 z171:=sizeOf406
 v171:=zeroValue406
 t173:=underlying409
 a173:=isAgg409
 z173:=sizeOf409
 v173:=zeroValue409
 t175:=underlying395
 a175:=isAgg395
 z175:=sizeOf395
 v175:=zeroValue395
 t210:=underlying399
 a210:=isAgg399
 z210:=sizeOf399
 v210:=zeroValue399
 t212:=underlying412
 a212:=isAgg412
 z212:=sizeOf412
 v212:=zeroValue412
 t213:=underlying413
 a213:=isAgg413
 z213:=sizeOf413
 t232:=underlying416
 a232:=isAgg416
 z232:=sizeOf416
 v232:=zeroValue416
 t233:=underlying417
 a233:=isAgg417
 z233:=sizeOf417
 v233:=zeroValue417
 g15:=by kernel_rfl
 g16:=by kernel_rfl
 g17:=by kernel_rfl
 g18:=by kernel_rfl
 g19:=by kernel_rfl
 t80:=underlying329
 a80:=isAgg329
 z80:=sizeOf329
 v80:=zeroValue329
 i0:=by kernel_rfl
 i2:=by kernel_rfl
 i3:=by kernel_rfl
 i4:=by kernel_rfl
 i5:=by kernel_rfl
 i9:=by kernel_rfl
 i20:=by kernel_rfl
 i21:=by kernel_rfl
 i37:=by kernel_rfl
 i46:=by kernel_rfl
 i51:=by kernel_rfl
 i53:=by kernel_rfl
 i75:=by kernel_rfl
 i76:=by kernel_rfl
 i80:=by kernel_rfl
 i85:=by kernel_rfl
 i127:=by kernel_rfl
 i143:=by kernel_rfl
 i145:=by kernel_rfl
 i167:=by kernel_rfl
 i168:=by kernel_rfl
 i171:=by kernel_rfl
 i173:=by kernel_rfl
 i175:=by kernel_rfl
 i210:=by kernel_rfl
 i212:=by kernel_rfl
 i232:=by kernel_rfl
 i233:=by kernel_rfl
 m15:=by kernel_rfl
 m16:=by kernel_rfl
 m17:=by kernel_rfl
 m18:=by kernel_rfl
 m19:=by kernel_rfl
 c0:=by kernel_rfl
 c2:=by kernel_rfl
 c3:=by kernel_rfl
 c4:=by kernel_rfl
 c5:=by kernel_rfl
 c9:=by kernel_rfl
 c20:=by kernel_rfl
 c21:=by kernel_rfl
 c37:=by kernel_rfl
 c46:=by kernel_rfl
 c51:=by kernel_rfl
 c53:=by kernel_rfl
 c75:=by kernel_rfl
 c76:=by kernel_rfl
 c80:=by kernel_rfl
 c85:=by kernel_rfl
 c127:=by kernel_rfl
 c143:=by kernel_rfl
 c145:=by kernel_rfl
 c167:=by kernel_rfl
 c168:=by kernel_rfl
 c171:=by kernel_rfl
 c173:=by kernel_rfl
 c175:=by kernel_rfl
 c210:=by kernel_rfl
 c212:=by kernel_rfl
 c213:=by kernel_rfl
 c232:=by kernel_rfl
 c233:=by kernel_rfl }
end Go.Proofs
end
section
namespace Go.Proofs.YteeohmopbcjifaaGreatDoor.T
open Tryz
open Go.Abs
set_option maxRecDepth 100000
theorem aC:isStr prog 0=false:=by kernel_rfl
theorem uV:mU prog 0=none:=by kernel_rfl
theorem Uw:ef prog 1=some 1:=by kernel_rfl
theorem gD:isStr prog 1=false:=by kernel_rfl
theorem rB:isStr prog 3=false:=by kernel_rfl
theorem Kf0:ef prog 3=some 1∧dx prog 3=some false∧ud prog 3=some .i64∧Eh prog 3=false∧dy prog 3=some 1∧L2 prog 3=some [.d (.int .i64 0)]∧ef prog 4=some 1∧dx prog 4=some false∧ef prog 5=some 1:=by and_intros<;>kernel_rfl
theorem sl22:mU prog 22=some (41,12,176):=by kernel_rfl
theorem Kf1:dx prog 5=some false∧ud prog 5=some .u8∧dy prog 5=some 1∧ef prog 9=some 1∧dx prog 9=some false∧isStr prog 9=true∧dy prog 9=some 1∧ud prog 23=some .u32∧ef prog 26=some 1:=by and_intros<;>kernel_rfl
theorem sl26:mU prog 26=some (5,1,1):=by kernel_rfl
theorem Kf2:dx prog 26=some false∧isStr prog 26=false∧isBytes prog 26=true∧ef prog 28=some 1∧dx prog 28=some false∧Eh prog 28=false∧L2 prog 28=some [.d (.int .i64 0)]∧isStruct prog 34=true∧k8 prog 34 0=some (0,1,false):=by and_intros<;>kernel_rfl
theorem sl35:mU prog 35=some (94,39,600):=by kernel_rfl
theorem Kf3:k8 prog 34 1=some (1,1,false)∧k8 prog 34 2=some (2,1,false)∧L2 prog 34=some [.d (.str []),.d (.str []),.d (.bool false)]∧ef prog 35=some 1∧dx prog 35=some false∧ef prog 37=some 2∧dx prog 37=some true∧isStruct prog 37=true∧k8 prog 37 0=some (0,1,false):=by and_intros<;>kernel_rfl
theorem sl38:mU prog 38=some (112,2,24):=by kernel_rfl
theorem sl39:mU prog 39=some (67,16,240):=by kernel_rfl
theorem Kf4:k8 prog 37 1=some (1,1,false)∧L2 prog 37=some [.d (.str []),.bh]∧ef prog 38=some 1∧dx prog 38=some false∧ef prog 39=some 1∧dx prog 39=some false∧ef prog 41=some 12∧dx prog 41=some true∧isStruct prog 41=true:=by and_intros<;>kernel_rfl
theorem Kf5:k8 prog 41 0=some (0,1,false)∧k8 prog 41 1=some (1,1,false)∧k8 prog 41 2=some (2,3,true)∧k8 prog 41 3=some (5,1,false)∧k8 prog 41 4=some (6,1,false)∧k8 prog 41 5=some (7,2,true)∧k8 prog 41 6=some (9,1,false)∧k8 prog 41 7=some (10,1,false)∧k8 prog 41 8=some (11,1,false):=by and_intros<;>kernel_rfl
theorem sl46:mU prog 46=some (48,4,56):=by kernel_rfl
theorem Kf6:Eh prog 41=false∧L2 prog 41=some [.d (.str []),.d (.int .i64 0),.d (.str []),.d (.str []),.d (.bool false),.d (.int .i64 0),.d (.int .i64 0),.d (.str []),.bh,.bh,.d (.int .i64 0),.bh]∧ef prog 46=some 1∧dx prog 46=some false∧ef prog 48=some 4∧dx prog 48=some true∧isStruct prog 48=true∧k8 prog 48 0=some (0,1,false)∧k8 prog 48 1=some (1,1,false):=by and_intros<;>kernel_rfl
theorem sl56:mU prog 56=some (146,7,64):=by kernel_rfl
theorem Kf7:k8 prog 48 2=some (2,1,false)∧k8 prog 48 3=some (3,1,false)∧Eh prog 48=false∧dy prog 48=some 4∧L2 prog 48=some [.d (.int .i64 0),.d (.int .i64 0),.d (.str []),.bh]∧ef prog 56=some 1∧dx prog 56=some false∧ef prog 57=some 1∧dx prog 57=some false:=by and_intros<;>kernel_rfl
theorem QJ:mU prog 57=some (9,1,16):=by kernel_rfl
theorem Kf8:ef prog 59=some 3∧dx prog 59=some true∧k8 prog 59 0=some (0,1,false)∧k8 prog 59 1=some (1,1,false)∧k8 prog 59 2=some (2,1,false)∧Eh prog 59=false∧L2 prog 59=some [.d (.int .i64 0),.bh,.d (.int .i64 0)]∧k8 prog 61 0=some (0,3,true)∧k8 prog 61 1=some (3,1,false):=by and_intros<;>kernel_rfl
theorem sl62:mU prog 62=some (248,3,32):=by kernel_rfl
theorem sl63:mU prog 63=some (211,3,32):=by kernel_rfl
theorem Kf9:k8 prog 61 2=some (4,1,false)∧k8 prog 61 3=some (5,1,false)∧ef prog 62=some 1∧dx prog 62=some false∧ef prog 63=some 1∧dx prog 63=some false∧k8 prog 65 0=some (0,1,false)∧k8 prog 65 1=some (1,1,false)∧k8 prog 65 2=some (2,1,false):=by and_intros<;>kernel_rfl
theorem Kf10:k8 prog 65 3=some (3,1,false)∧k8 prog 65 4=some (4,1,false)∧k8 prog 65 5=some (5,1,false)∧ef prog 67=some 16∧dx prog 67=some true∧k8 prog 67 0=some (0,1,false)∧k8 prog 67 1=some (1,1,false)∧k8 prog 67 2=some (2,1,false)∧k8 prog 67 3=some (3,1,false):=by and_intros<;>kernel_rfl
theorem Kf11:k8 prog 67 4=some (4,6,true)∧k8 prog 67 5=some (10,6,true)∧Eh prog 67=false∧L2 prog 67=some [.d (.str []),.d (.int .i64 0),.d (.int .i64 0),.bh,.d (.int .i64 0),.bh,.d (.int .i64 0),.d (.int .i64 0),.bh,.d (.int .i64 0),.d (.int .i64 0),.d (.int .i64 0),.bh,.bh,.bh,.d (.str [])]∧isStruct prog 72=true∧k8 prog 72 0=some (0,1,false)∧k8 prog 72 1=some (1,1,false)∧k8 prog 72 2=some (2,1,false)∧L2 prog 72=some [.bh,.d (.bool false),.d (.bool false)]:=by and_intros<;>kernel_rfl
theorem sl81:mU prog 81=some (83,6,88):=by kernel_rfl
theorem Kf12:ef prog 81=some 1∧dx prog 81=some false∧ef prog 83=some 6∧dx prog 83=some true∧isStruct prog 83=true∧k8 prog 83 0=some (0,1,false)∧k8 prog 83 1=some (1,1,false)∧k8 prog 83 2=some (2,1,false)∧k8 prog 83 3=some (3,1,false):=by and_intros<;>kernel_rfl
theorem sl84:mU prog 84=some (86,10,160):=by kernel_rfl
theorem Kf13:k8 prog 83 4=some (4,1,false)∧k8 prog 83 5=some (5,1,false)∧Eh prog 83=false∧L2 prog 83=some [.d (.int .i64 0),.d (.bool false),.d (.int .i64 0),.d (.str []),.bh,.bh]∧ef prog 84=some 1∧dx prog 84=some false∧ef prog 86=some 10∧dx prog 86=some true∧isStruct prog 86=true:=by and_intros<;>kernel_rfl
theorem Kf14:k8 prog 86 0=some (0,1,false)∧k8 prog 86 1=some (1,1,false)∧k8 prog 86 2=some (2,6,true)∧k8 prog 86 3=some (8,1,false)∧k8 prog 86 4=some (9,1,false)∧Eh prog 86=false∧dy prog 86=some 10∧L2 prog 86=some [.d (.int .i64 0),.d (.str []),.d (.int .i64 0),.d (.bool false),.d (.int .i64 0),.d (.str []),.bh,.bh,.bh,.bh]∧ef prog 87=some 1:=by and_intros<;>kernel_rfl
theorem sl87:mU prog 87=some (165,7,104):=by kernel_rfl
theorem sl88:mU prog 88=some (174,4,48):=by kernel_rfl
theorem sl89:mU prog 89=some (3,1,8):=by kernel_rfl
theorem Kf15:dx prog 87=some false∧ef prog 88=some 1∧dx prog 88=some false∧ef prog 89=some 1∧dx prog 89=some false∧k8 prog 91 0=some (0,1,false)∧k8 prog 91 1=some (1,1,false)∧k8 prog 91 2=some (2,1,false)∧k8 prog 91 3=some (3,1,false):=by and_intros<;>kernel_rfl
theorem sl92:mU prog 92=some (200,3,64):=by kernel_rfl
theorem Kf16:ef prog 92=some 1∧dx prog 92=some false∧ef prog 94=some 39∧dx prog 94=some true∧k8 prog 94 0=some (0,1,false)∧k8 prog 94 1=some (1,1,false)∧k8 prog 94 2=some (2,10,true)∧k8 prog 94 3=some (12,1,false)∧k8 prog 94 4=some (13,1,false):=by and_intros<;>kernel_rfl
theorem Kf17:k8 prog 94 5=some (14,1,false)∧k8 prog 94 6=some (15,1,false)∧k8 prog 94 7=some (16,1,false)∧k8 prog 94 8=some (17,1,false)∧k8 prog 94 9=some (18,1,false)∧k8 prog 94 10=some (19,1,false)∧k8 prog 94 11=some (20,4,true)∧k8 prog 94 12=some (24,1,false)∧k8 prog 94 13=some (25,1,false):=by and_intros<;>kernel_rfl
theorem Kf18:k8 prog 94 14=some (26,1,false)∧k8 prog 94 15=some (27,1,false)∧k8 prog 94 16=some (28,1,false)∧k8 prog 94 17=some (29,1,false)∧k8 prog 94 18=some (30,1,false)∧k8 prog 94 19=some (31,3,true)∧k8 prog 94 20=some (34,1,false)∧k8 prog 94 21=some (35,1,false)∧k8 prog 94 22=some (36,1,false):=by and_intros<;>kernel_rfl
theorem Kf19:k8 prog 94 23=some (37,1,false)∧k8 prog 94 24=some (38,1,false)∧Eh prog 94=false∧L2 prog 94=some [.d (.str []),.bh,.d (.int .i64 0),.d (.str []),.d (.int .i64 0),.d (.bool false),.d (.int .i64 0),.d (.str []),.bh,.bh,.bh,.bh,.bh,.bh,.bh,.d (.str []),.d (.int .i64 0),.d (.int .i64 0),.d (.int .i64 0),.d (.int .i64 0),.d (.int .i64 0),.bh,.d (.int .i64 0),.d (.int .i64 0),.bh,.bh,.bh,.bh,.bh,.d (.str []),.d (.bool false),.d (.int .i64 0),.bh,.d (.int .i64 0),.bh,.d (.int .i64 0),.d (.int .i64 0),.d (.bool false),.d (.bool false)]∧ef prog 96=some 1∧dx prog 96=some false∧ef prog 97=some 1∧dx prog 97=some false∧ef prog 99=some 2:=by and_intros<;>kernel_rfl
theorem Kf20:dx prog 99=some true∧isStruct prog 99=true∧k8 prog 99 0=some (0,1,false)∧k8 prog 99 1=some (1,1,false)∧Eh prog 99=false∧L2 prog 99=some [.bh,.d .An]∧k8 prog 112 0=some (0,1,false)∧k8 prog 112 1=some (1,1,false)∧Eh prog 112=false:=by and_intros<;>kernel_rfl
theorem Kf21:L2 prog 112=some [.d (.str []),.d (.int .i64 0)]∧ef prog 124=some 1∧dx prog 124=some false∧ud prog 124=some .u64∧k8 prog 146 0=some (0,1,false)∧k8 prog 146 1=some (1,1,false)∧k8 prog 146 2=some (2,1,false)∧k8 prog 146 3=some (3,1,false)∧k8 prog 146 4=some (4,1,false):=by and_intros<;>kernel_rfl
theorem sl163:mU prog 163=some (171,3,48):=by kernel_rfl
theorem Kf22:k8 prog 146 5=some (5,1,false)∧k8 prog 146 6=some (6,1,false)∧ef prog 165=some 7∧dx prog 165=some true∧isStruct prog 165=true∧k8 prog 165 0=some (0,1,false)∧k8 prog 165 1=some (1,6,true)∧Eh prog 165=false∧dy prog 165=some 7:=by and_intros<;>kernel_rfl
theorem sl166:mU prog 166=some (168,2,32):=by kernel_rfl
theorem Kf23:L2 prog 165=some [.d (.str []),.d (.int .i64 0),.d (.bool false),.d (.int .i64 0),.d (.str []),.bh,.bh]∧ef prog 166=some 1∧dx prog 166=some false∧dy prog 166=some 1∧ef prog 168=some 2∧dx prog 168=some true∧isStruct prog 168=true∧k8 prog 168 0=some (0,1,false)∧k8 prog 168 1=some (1,1,false):=by and_intros<;>kernel_rfl
theorem Kf24:Eh prog 168=false∧dy prog 168=some 2∧L2 prog 168=some [.d (.int .i64 0),.bh]∧ef prog 171=some 3∧dx prog 171=some true∧isStruct prog 171=true∧k8 prog 171 0=some (0,1,false)∧k8 prog 171 1=some (1,2,true)∧Eh prog 171=false:=by and_intros<;>kernel_rfl
theorem Kf25:dy prog 171=some 3∧L2 prog 171=some [.d (.str []),.d (.int .i64 0),.bh]∧ef prog 174=some 4∧dx prog 174=some true∧k8 prog 174 0=some (0,1,false)∧k8 prog 174 1=some (1,1,false)∧k8 prog 174 2=some (2,1,false)∧k8 prog 174 3=some (3,1,false)∧Eh prog 174=false:=by and_intros<;>kernel_rfl
theorem Kf26:L2 prog 174=some [.d (.int .i64 0),.d (.str []),.d (.str []),.d (.int .i64 0)]∧ef prog 200=some 3∧dx prog 200=some true∧k8 prog 200 0=some (0,1,false)∧k8 prog 200 1=some (1,1,false)∧k8 prog 200 2=some (2,1,false)∧Eh prog 200=false∧L2 prog 200=some [.d (.str []),.bh,.bh]∧k8 prog 211 0=some (0,1,false):=by and_intros<;>kernel_rfl
theorem Kf27:k8 prog 211 1=some (1,1,false)∧k8 prog 211 2=some (2,1,false)∧mU prog 228=some (272,7,40)∧ef prog 233=some 1∧dx prog 233=some false∧mU prog 233=some (288,12,184)∧ef prog 246=some 1∧dx prog 246=some false∧ud prog 246=some .u64:=by and_intros<;>kernel_rfl
theorem Kf28:k8 prog 248 0=some (0,1,false)∧k8 prog 248 1=some (1,1,false)∧k8 prog 248 2=some (2,1,false)∧ef prog 263=some 4∧dx prog 263=some true∧isStruct prog 263=true∧k8 prog 263 0=some (0,1,false)∧k8 prog 263 1=some (1,1,false)∧k8 prog 263 2=some (2,1,false):=by and_intros<;>kernel_rfl
theorem Kf29:k8 prog 263 3=some (3,1,false)∧Eh prog 263=false∧L2 prog 263=some [.d (.bool false),.d (.bool false),.d (.bool false),.d (.bool false)]∧ef prog 270=some 4∧dx prog 270=some true∧Uh prog 270=some (4,1,false)∧Eh prog 270=false∧L2 prog 270=some [.d (.int .u64 0),.d (.int .u64 0),.d (.int .u64 0),.d (.int .u64 0)]∧ef prog 272=some 7:=by and_intros<;>kernel_rfl
theorem Kf30:dx prog 272=some true∧isStruct prog 272=true∧k8 prog 272 0=some (0,4,true)∧k8 prog 272 1=some (4,1,false)∧k8 prog 272 2=some (5,1,false)∧k8 prog 272 3=some (6,1,false)∧Eh prog 272=false∧dy prog 272=some 7∧L2 prog 272=some [.d (.int .u64 0),.d (.int .u64 0),.d (.int .u64 0),.d (.int .u64 0),.d (.bool false),.d (.bool false),.d (.int .u8 0)]:=by and_intros<;>kernel_rfl
theorem Kf31:ef prog 275=some 1∧k8 prog 277 0=some (0,1,false)∧k8 prog 277 1=some (1,1,false)∧Eh prog 277=true∧L2 prog 277=some [.d .eX,.bh]∧k8 prog 279 0=some (0,1,false)∧k8 prog 279 1=some (1,2,true)∧isIface prog 282=some true∧isStruct prog 288=true:=by and_intros<;>kernel_rfl
theorem sl320:mU prog 320=some (326,3,32):=by kernel_rfl
theorem Kf32:k8 prog 288 0=some (0,1,false)∧k8 prog 288 1=some (1,1,false)∧k8 prog 288 2=some (2,10,true)∧L2 prog 288=some [.d (.str []),.d (.bool false),.d (.int .i64 0),.d (.str []),.d (.int .i64 0),.d (.bool false),.d (.int .i64 0),.d (.str []),.bh,.bh,.bh,.bh]∧ef prog 320=some 1∧dx prog 320=some false∧ef prog 326=some 3∧dx prog 326=some true∧isStruct prog 326=true:=by and_intros<;>kernel_rfl
theorem sl339:mU prog 339=some (166,1,24):=by kernel_rfl
theorem Kf33:k8 prog 326 0=some (0,1,false)∧k8 prog 326 1=some (1,1,false)∧k8 prog 326 2=some (2,1,false)∧Eh prog 326=false∧dy prog 326=some 3∧L2 prog 326=some [.d (.int .i64 0),.d (.str []),.d (.int .i64 0)]∧ef prog 358=some 8∧Uh prog 358=some (8,1,false)∧Eh prog 358=false:=by and_intros<;>kernel_rfl
theorem Kf34:L2 prog 358=some [.d (.str []),.d (.str []),.d (.str []),.d (.str []),.d (.str []),.d (.str []),.d (.str []),.d (.str [])]∧isStruct prog 362=true∧k8 prog 362 0=some (0,1,false)∧k8 prog 362 1=some (1,1,false)∧L2 prog 362=some [.bh,.d (.int .i64 0)]∧ef prog 364=some 2∧isIface prog 364=some false∧isStruct prog 364=true∧k8 prog 364 0=some (0,1,false):=by and_intros<;>kernel_rfl
theorem Kf35:k8 prog 364 1=some (1,1,false)∧Eh prog 364=false∧L2 prog 364=some [.d (.int .i64 0),.d (.int .i64 0)]:=by and_intros<;>kernel_rfl
attribute [go_sem] aC uV Uw gD rB Kf0 sl22 Kf1 sl26 sl35 Kf2 Kf3 sl38 sl39 Kf4 Kf5 sl46 Kf6 sl56 QJ Kf7 sl62 Kf8 sl63 Kf9 Kf10 Kf11 sl81 sl84 Kf12 Kf13 Kf14 sl87 sl88 sl89 sl92 Kf15 Kf16 Kf17 Kf18 Kf19 Kf20 Kf21 sl163 Kf22 sl166 Kf23 Kf24 Kf25 Kf26 Kf27 Kf28 Kf29 Kf30 Kf31 sl320 Kf32 sl339 Kf33 Kf34 Kf35
end Go.Proofs.YteeohmopbcjifaaGreatDoor.T
end
section
namespace Go.Abs
open Go.RowKit
theorem kI {P:Program} {ops:Array Oper} {Q:Exit→Act→List Frame→World→Prop} {cs:List Frame} (hQ:∀ a w,¬ Q .outgrown a cs w):∀ (l:List Oper) (k:Nat),(∀ j:Nat,l[j]?=ops[k+j]?)→∀ (a:Act) (w:World),wpList P ops (fun e a w=>Q e a cs w) l a w→wpOpsS P ops Q (List.range' k l.length) a cs w
 |[],k,_,a,w,h=>h
 |o::l,k,hl,a,w,h=>by
  have h0:ops[k]?=some o:=by simpa using (hl 0).symm
  have ih:=kI (P:=P) hQ l (k+1) (fun j=>by have:=hl (j+1);simpa [ab6,Nat.add_comm 1 j] using this)
  simp only [aaM,List.range'_succ,wpOpsS,h0]
  unfold wpList at h
  split
  ·rename_i hw
   rw [if_pos hw] at h
   rcases h with h|⟨_,a',w',h⟩
   ·unfold Oper.wp at h
    split
    ·rename_i w' hr
     rw [hr] at h
     exact absurd h (by simp [Oper.upon])
    ·exact rX (fun a w h=>ih a w h) (fun _ _ _ h=>h) _ h
   ·exact absurd h (hQ _ _)
  ·rename_i hw
   rw [if_neg hw] at h
   exact ih _ _ h
section
variable {P:Program} {G:World→Nat→Prop} {st:St}
def pM (v:Option Value):FrameMode:=match v with|none=> .returning|some p=> .panicking [{ v:=p,recovered:=false }]
def jQ (v:Option Value):FrameMode:=match v with|none=> .returning|some p=> .panicking [{ v:=p,recovered:=true }]
def Ia (c:Ctx) (x:Option V) (p:Option Value):Prop:=match x,p with
 |none,none=>True
 |some v,some q=>Rel c q v
 |_,_=>False
def fN (P:Program) (G:World→Nat→Prop) (f:FuncId) (args:List V) (x:Option V) (st:St) (R:Out→St→Prop):Prop:=
 ∀ (c:Ctx) (w:World) (cargs:Array Value) (pv:Option Value),bf c w st→G c.w0 c.base→cargs.size=args.length→(∀ i,i<args.length→Rel c (cargs.getD i undef) (args.getD i .aU))→Ia c x pv→
  CallsD P f cargs (pM pv) w fun e u' w'=>u'=jQ pv∧∃ out st' c',R out st'∧Ext c c'∧bf c' w' st'∧gT c' e out
theorem fN.mono {f:FuncId} {args:List V} {x:Option V} {R R':Out→St→Prop} (h:fN P G f args x st R) (hr:∀ o s,R o s→R' o s):fN P G f args x st R':=
 fun c w cargs pv hc hg hs ha hx=>(h c w cargs pv hc hg hs ha hx).mono fun _ _ _ ⟨h0,o,s,c',h1,h2⟩=>⟨h0,o,s,c',hr _ _ h1,h2⟩
def VC (P:Program) (fn:Func) (R:Out→St→Prop) (c:Ctx) (tmps:Array Value) (w:World):Exit→Prop
 | .normal| .ret=>∃ v,(results fn tmps).run P w= .ok v w∧∃ out st c',R out st∧Ext c c'∧bf c' w st∧gT c' (.returned v) out
 | .panic chain=>∃ out st c',R out st∧Ext c c'∧bf c' w st∧gT c' (.panicked chain) out
 |_=>False
theorem qy {fn:Func} {R:Out→St→Prop} {c c':Ctx} {w w':World} {st':St} {tmps:Array Value} {fr:Fr} (hc:bf c w st) (hext:Ext c c') (hc':bf c' w' st') (hf':cC c' tmps fr) {e:Exit} {x:AX} (hx:lY c' e x) (hq:bK P fn st R x fr st'):VC P fn R c tmps w' e:=by
 obtain ⟨m,hcut,h5⟩:=hq
 obtain ⟨hcc,hext'⟩:=hcut.DS hc.J8 hext hc'
 have fin:∀ l,eT P fr st' fn.results.toList=some l→(eD l).share.within st.aj.length m=true→R (.ret (eD l).share) (st'.cut st.aj.length m)→
   ∃ v,(results fn tmps).run P w'= .ok v w'∧∃ out st'' c'',R out st''∧Ext c c''∧bf c'' w' st''∧gT c'' (.returned v) out:=by
  intro l hl hw hR
  obtain ⟨cv,hrun,hrel⟩:=rY (P:=P) hc' hf' hl
  exact ⟨cv,hrun,_,_,_,hR,hext',hcc,hrel.share.cut hw⟩
 cases e<;>cases x<;>simp only [lY] at hx
 ·obtain ⟨l,a1,a2,a3⟩:=h5
  exact fin l a1 a2 a3
 ·exact h5.elim
 ·obtain ⟨l,a1,a2,a3⟩:=h5
  exact fin l a1 a2 a3
 ·obtain ⟨a1,a2⟩:=h5
  obtain ⟨cv,b1,b2⟩:=hx
  exact ⟨_,_,_,a2,hext',hcc,cv,b1,b2.cut a1⟩
theorem pO {c:Ctx} {args:List V} {cargs:Array Value} {k:Nat} (hs:cargs.size=args.length) (hr:∀ i,i<args.length→Rel c (cargs.getD i undef) (args.getD i .aU)):cC c (cargs++Array.replicate k undef) (dr args):=by
 intro t
 simp only [dr]
 by_cases ht:t<args.length
 ·rw [show (cargs++Array.replicate k undef).getD t undef=cargs.getD t undef by
   simp [aaR,ab1,show t<cargs.size by omega]]
  exact hr t ht
 ·rw [show args.getD t .aU= .aU by simp [aaK,show args.length≤t by omega]]
  exact .aU _
theorem fN.body {f:FuncId} {fn:Func} {k id:Nat} {o0:Oper} {l:List Oper} {rest:Code} {args:List V} {x:Option V} {R:Out→St→Prop} {t:Tmp} {ca:Array Operand} {cat:Array TypeId}
  (hf:P.funcs[f]?=some fn) (hb:fn.body=some (.seq (.region id (o0::l).toArray false) rest)) (hn:fn.ntmps=k) (hargs:args.length≤k)
  (ho:o0.op= .call { callee:= .builtin .recover,args:=ca,argTypes:=cat }) (hg0:o0.guard=none) (hd0:o0.dst=some t) (ht:t<k)
  (h:OW P G ⟨k,[]⟩ st (o0::l).toArray (bz (AW P G ⟨k,[]⟩ st rest (bK P fn st R)) (bK P fn st R)) l (upd (dr args) t (x.getD (.d .fD))) st):fN P G f args x st R:=by
 intro c w cargs pv hc hG hs hr hx
 refine callsD_of_wpS hf hb fun c₀ cs hu=>?_
 have hfr:=pO (k:=fn.ntmps - cargs.size) hs hr
 have hsz:(cargs++Array.replicate (fn.ntmps - cargs.size) undef).size=k:=by
  simp only [Array.size_append,Array.size_replicate];omega
 generalize cargs++Array.replicate (fn.ntmps - cargs.size) undef=tmps at hfr hsz
 apply wpS_seq
 apply wpS_region
 have hrange:List.range (o0::l).toArray.size=0::List.range' 1 l.length:=by
  rw [List.range_eq_range',abD,aaM,List.range'_succ]
 rw [hrange]
 have hexec:(execOp (Act.eval { tmps:=tmps,defers:=[] }) o0).run P w= .ok .recover w:=by
  simp [execOp,ho,resolve,invoke,builtin,Sem.run]
 have hwant:∀ y,Region.wanted o0 y=true:=fun y=>by simp [Region.wanted,hg0]
 have key:∀ (v:Value) (cs':List Frame),cs'= { c₀ with mode:=jQ pv }::cs→Rel c v (x.getD (.d .fD))→
   wpOpsS P (o0::l).toArray (Exit.thenS (rest.wpS P (bodyPostS P fn c₀ cs fun e u' w'=>u'=jQ pv∧∃ out st' c',R out st'∧Ext c c'∧bf c' w' st'∧gT c' e out)) (bodyPostS P fn c₀ cs fun e u' w'=>u'=jQ pv∧∃ out st' c',R out st'∧Ext c c'∧bf c' w' st'∧gT c' e out)) (List.range' 1 l.length) (Act.put { tmps:=tmps,defers:=[] } o0.dst v) cs' w:=by
  intro v cs' hcs hv
  have post:∀ e (a:Act) (w':World) (x:AX) (fr:Fr) (st':St) (c':Ctx),Ext c c'→bf c' w' st'→cC c' a.tmps fr→a.defers=[]→lY c' e x→bK P fn st R x fr st'→
    bodyPostS P fn c₀ cs (fun e u' w'=>u'=jQ pv∧∃ out st' c',R out st'∧Ext c c'∧bf c' w' st'∧gT c' e out) e a cs' w':=by
   intro e a w' x fr st' c' he hc' hf' hd' hx' hq
   have:=qy hc he hc' hf' hx' hq
   cases e with
   |normal=>
    obtain ⟨v,h1,h2⟩:=this
    exact ⟨hd',_,hcs,v,h1,rfl,h2⟩
   |ret=>
    obtain ⟨v,h1,h2⟩:=this
    exact ⟨hd',_,hcs,v,h1,rfl,h2⟩
   |panic ch=>exact ⟨hd',_,hcs,rfl,this⟩
   |exit i=>exact this.elim
   |goto i=>exact this.elim
   |outgrown=>exact this.elim
  refine kI (fun a w=>?_) l 1 (fun j=>by simp [Nat.add_comm 1 j]) _ _ ?_
  ·rintro ⟨u',_,out,st',c',_,_,_,hE⟩
   cases out<;>exact hE
  ·have hput:cC c (Act.put { tmps:=tmps,defers:=[] } o0.dst v).tmps (upd (dr args) t (x.getD (.d .fD))):=by
    rw [hd0]
    exact hfr.put (by rw [hsz];exact ht) hv
   refine kY (fun e a w' hl=>?_) l _ _ (h c c w _ hc.J8 (Ext.refl c) hc hG hput (by rw [iy];exact hsz) (by rw [put_defers]))
   obtain ⟨x',fr',st',c',hq,he,hc',hf',hs',hd',hx'⟩:=hl
   cases e<;>cases x'<;>simp only [lY] at hx'
   ·refine wpS_of_wp (wp_mono (hq c c' w' a hc.J8 he hc' (by rw [he.w0,he.base];exact hG) hf' hs' hd') ?_)
    rintro e a2 w2 ⟨x2,fr2,st2,c2,hq2,he2,hc2,hf2,hs2,hd2,hx2⟩
    exact post e a2 w2 x2 fr2 st2 c2 he2 hc2 hf2 hd2 hx2 hq2
   ·exact post (.exit _) a w' (.exit _) fr' st' c' he hc' hf' hd' hx' (by exact hq)
   ·exact post .ret a w' .ret fr' st' c' he hc' hf' hd' trivial (by exact hq)
   ·exact post (.panic _) a w' (.dw _) fr' st' c' he hc' hf' hd' hx' (by exact hq)
 unfold wpOpsS
 simp only [ab2,abZ,hwant,if_true,hexec]
 cases pv with
 |none=>
  cases x with
  |some v=>exact hx.elim
  |none=>
   have:recoverD (c₀::cs)=none:=by simp [recoverD,hu,pM]
   rw [this]
   refine key _ _ ?_ (.d _ _ .fD)
   rw [jQ];simp only [pM] at hu;rw [←hu]
 |some p=>
  cases x with
  |none=>exact hx.elim
  |some v=>
   have:recoverD (c₀::cs)=some (p,{ c₀ with mode:=jQ (some p) }::cs):=by simp [recoverD,hu,pM,jQ]
   rw [this]
   exact key _ _ rfl hx
def DQ (P:Program) (G:World→Nat→Prop) (fd:FuncId) (fn:Func) (st:St) (R:Out→St→Prop) (xs:List V):AX→Fr→St→Prop:=fun x fr3 rB=>match x with
 | .ret=>fN P G fd xs none rB (fun o s=>(∃ v,o= .ret v)∧bK P fn st R .ret fr3 s)
 | .dw v=>fN P G fd xs (some v) rB (fun o s=>(∃ v,o= .ret v)∧bK P fn st R .ret fr3 s)
 |_=>False
theorem Ib {fd:FuncId} {fn:Func} {R:Out→St→Prop} {xs:List V} {fr3:Fr} {rB:St} (h:fN P G fd xs none rB (fun o s=>(∃ v,o= .ret v)∧bK P fn st R .ret fr3 s)):DQ P G fd fn st R xs .ret fr3 rB:=h
theorem Ic {fd:FuncId} {fn:Func} {R:Out→St→Prop} {xs:List V} {fr3:Fr} {rB:St} {v:V} (h:fN P G fd xs (some v) rB (fun o s=>(∃ v,o= .ret v)∧bK P fn st R .ret fr3 s)):DQ P G fd fn st R xs (.dw v) fr3 rB:=h
theorem uW {fn:Func} {k id:Nat} {rest:Code} {om od:Oper} {R:Out→St→Prop} {fd:FuncId} {tm:Tmp} {caps:Array Operand} {ats:Array TypeId}
  (hom:om.op= .makeFunc (.func fd) #[] caps) (hmg:om.guard=none) (hmd:om.dst=some tm) (htm:tm<k)
  (hod:od.op= .defer { callee:= .value (.tmp tm),args:= #[],argTypes:=ats }) (hog:od.guard=none) (hodd:od.dst=none)
  (hcall:∀ args w,(callFunc fd args).run P w= .ok (.enter fd args) w)
  {c c2:Ctx} {w w2:World} {a2:Act} {f2:Fr} {s2:St} (hc:bf c w st) (hG:G c.w0 c.base) (he2:Ext c c2) (hc2:bf c2 w2 s2) (hf2:cC c2 a2.tmps f2) (hs2:a2.tmps.size=k) (hd2:a2.defers=[])
  (h3:∀ ds,AW P G ⟨k,ds⟩ s2 rest (DQ P G fd fn st R (caps.toList.map (ev f2))) (upd f2 tm .aU) s2):
  (Code.seq (.region id #[om,od] false) rest).wp P (bodyPostD P fn (fun e w'=>∃ out st' c',R out st'∧Ext c c'∧bf c' w' st'∧gT c' e out)) a2 w2:=by
 refine wp_seq (wp_region_list ?_)
 have r1:(execOp a2.eval om).run P w2= .ok (.value (.func (.func fd) #[] (caps.map a2.eval))) w2:=by
  simp [execOp,hom,Instr.makeFunc]
 have w1':∀ y,Region.wanted om y=true:=fun y=>by simp [Region.wanted,hmg]
 have w2':∀ y,Region.wanted od y=true:=fun y=>by simp [Region.wanted,hog]
 have hev:(a2.put om.dst (.func (.func fd) #[] (caps.map a2.eval))).eval (.tmp tm)= .func (.func fd) #[] (caps.map a2.eval):=by
  rw [hmd]
  simp [Act.eval,Act.put,Array.getD,htm,hs2]
 have r2:(execOp (a2.put om.dst (.func (.func fd) #[] (caps.map a2.eval))).eval od).run P w2= .ok (.defer { target:= .fn (.func fd) (caps.map a2.eval),args:= #[] }) w2:=by
  simp [execOp,hod,resolve,hev,Deferred.ofValue]
 show wpList P _ _ [om,od] a2 w2
 unfold wpList
 rw [if_pos (w1' _)]
 refine .inl ?_
 unfold Oper.wp
 rw [r1,Oper.upon_value]
 unfold wpList
 rw [if_pos (w2' _)]
 refine .inl ?_
 unfold Oper.wp
 rw [r2,Oper.upon_defer]
 refine wpList_nil ?_
 show rest.wp P _ _ w2
 have hG2:G c2.w0 c2.base:=by rw [he2.w0,he2.base];exact hG
 have hfr3:cC c2 (Act.put { a2.put om.dst (.func (.func fd) #[] (caps.map a2.eval)) with defers:= { target:= .fn (.func fd) (caps.map a2.eval),args:= #[] }::(a2.put om.dst (.func (.func fd) #[] (caps.map a2.eval))).defers } od.dst undef).tmps (upd f2 tm .aU):=by
  rw [hodd,hmd]
  exact hf2.put (by rw [show a2.tmps.size=k from hs2];exact htm) (.aU _)
 refine wp_mono (h3 [{ target:= .fn (.func fd) (caps.map a2.eval),args:= #[] }] c2 c2 w2 _ hc2.J8 (Ext.refl c2) hc2 hG2 hfr3 ?_ ?_) ?_
 ·rw [hodd,hmd]
  simp [Act.put]
  exact hs2
 ·rw [hodd,hmd]
  simp [Act.put]
  exact hd2
 rintro e3 a3 w3 ⟨x3,f3,s3,c3,hq,he3,hc3,hf3,hs3,hd3,hx3⟩
 simp only at hd3
 have hG3:G c3.w0 c3.base:=by rw [he3.w0,he3.base];exact hG2
 have hce:c.base=c3.base:=by rw [he3.base,he2.base]
 have hcaps:∀ i,i< (caps.toList.map (ev f2)).length→Rel c3 ((#[]++caps.map a2.eval).getD i undef) ((caps.toList.map (ev f2)).getD i .aU):=by
  intro i hi
  rw [aa9] at hi
  have hi':i<caps.size:=by simpa using hi
  have:=(bJ hf2 caps[i]).mono he3
  simpa [aaR,aaK,hi'] using this
 have fin:∀ (pv:Option Value) (x:Option V),Ia c3 x pv→fN P G fd (caps.toList.map (ev f2)) x s3 (fun o s=>(∃ v,o= .ret v)∧bK P fn st R .ret f3 s)→
   Leaves P fn a3.tmps (fun e w'=>∃ out st' c',R out st'∧Ext c c'∧bf c' w' st'∧gT c' e out) a3.defers (pM pv) w3:=by
  intro pv x hrec hD
  rw [hd3]
  refine leaves_cons (f:=fd) (args:= #[]++caps.map a2.eval) (by cases pv<;>simp [pM]) (by simp only [invoke];exact hcall _ _) ?_
  refine (hD c3 w3 (#[]++caps.map a2.eval) pv hc3 hG3 (by simp) hcaps hrec).mono ?_
  rintro e u' w4 ⟨rfl,out,s4,c4,⟨⟨v,rfl⟩,hbq⟩,he4,hc4,hE⟩
  cases e with
  |panicked ch=>exact hE.elim
  |outgrown=>exact hE.elim
  |returned v'=>
   have hset:settle (jQ pv)= .returning:=by cases pv<;>simp [jQ,settle]
   show Leaves P fn a3.tmps _ [] (settle (jQ pv)) w4
   rw [hset]
   exact qy (e:= .ret) (x:= .ret) hc ((he2.trans he3).trans he4) hc4 (hf3.mono he4) trivial hbq
 cases e3<;>cases x3<;>simp only [lY,DQ] at hx3 hq
 ·exact fin none none trivial hq
 ·obtain ⟨cv,rfl,hrel⟩:=hx3
  exact fin (some cv) (some _) hrel hq
theorem aa.bodyD {f:FuncId} {fn:Func} {k id:Nat} {A B rest:Code} {om od:Oper} {args:List V} {R:Out→St→Prop} {fd:FuncId} {tm:Tmp} {caps:Array Operand} {ats:Array TypeId}
  (hf:P.funcs[f]?=some fn) (hb:fn.body=some (.seq A (.seq B (.seq (.region id #[om,od] false) rest)))) (hn:fn.ntmps=k) (hargs:args.length≤k)
  (hom:om.op= .makeFunc (.func fd) #[] caps) (hmg:om.guard=none) (hmd:om.dst=some tm) (htm:tm<k)
  (hod:od.op= .defer { callee:= .value (.tmp tm),args:= #[],argTypes:=ats }) (hog:od.guard=none) (hodd:od.dst=none)
  (hcall:∀ args w,(callFunc fd args).run P w= .ok (.enter fd args) w)
  (h:AW P G ⟨k,[]⟩ st A (fun x fr1 gD=>x= .normal∧AW P G ⟨k,[]⟩ st B (fun x fr2 st2=>x= .normal∧∃ xs,caps.toList.map (ev fr2)=xs∧∀ ds,AW P G ⟨k,ds⟩ st2 rest (DQ P G fd fn st R xs) (upd fr2 tm .aU) st2) fr1 gD) (dr args) st):aa P G f args st R:=by
 intro c w cargs hc hG hs hr
 have hfr:=pO (k:=fn.ntmps - cargs.size) hs hr
 have hsz:(cargs++Array.replicate (fn.ntmps - cargs.size) undef).size=k:=by
  simp only [Array.size_append,Array.size_replicate];omega
 refine calls_of_wp_defers hf hb ?_
 generalize cargs++Array.replicate (fn.ntmps - cargs.size) undef=tmps at hfr hsz ⊢
 refine wp_seq (wp_mono (h c c w _ hc.J8 (Ext.refl c) hc hG hfr hsz rfl) ?_)
 rintro e1 a1 w1 ⟨x1,f1,s1,c1,⟨rfl,h2⟩,he1,hc1,hf1,hs1,hd1,hx1⟩
 cases e1<;>simp only [lY] at hx1
 refine wp_seq (wp_mono (h2 c c1 w1 a1 hc.J8 he1 hc1 (by rw [he1.w0,he1.base];exact hG) hf1 hs1 hd1) ?_)
 rintro e2 a2 w2 ⟨x2,f2,s2,c2,⟨rfl,xs,rfl,h3⟩,he2,hc2,hf2,hs2,hd2,hx2⟩
 cases e2<;>simp only [lY] at hx2
 exact uW hom hmg hmd htm hod hog hodd hcall hc hG he2 hc2 hf2 hs2 hd2 h3
end
def Wk (p:Prop):Prop:=p
def TQ (b:Bool) (X Y:Fr→St→Prop) (f1 f2:Fr) (st:St):Prop:=if b=true then X f1 st else Y f2 st
def oL (b:Bool) (p:Prop):Prop:=b=true∧p
def EP (v:V) (X Y:Fr→St→Prop) (fr:Fr) (st:St):Prop:=match v with
 | .d (.bool b)=>TQ b X Y fr fr st
 |_=>False
def Nk (K:Fr→St→Prop) (fr:Fr) (st:St):Prop:=K fr st
def wQ (P:Program) (g:FuncId):Bool:=match P.funcs[g]? with
 |some fn=>fn.body.isSome&& !(fn.name== "runtime.NumGoroutine")
 |none=>false
def b7 (P:Program) (g:FuncId) (p:Prop):Prop:=(∀ args w,(callFunc g args).run P w= .ok (.enter g args) w)∧p
theorem wR {P:Program} {g:FuncId} (h:wQ P g=true) (args:Array Value) (w:World):(callFunc g args).run P w= .ok (.enter g args) w:=by
 unfold wQ at h
 split at h
 ·rename_i fn hf
  simp only [aaW,Bool.not_eq_true'] at h
  obtain ⟨h1,h2⟩:=h
  have hb:fn.body.isNone=false:=by cases hb:fn.body<;>simp_all
  simp only [callFunc,Sem.run_bind,run_program,Result.andThen_ok,hf,h2,hb,abh,if_false]
  rfl
 ·cases h
theorem ak {P:Program} {g:FuncId} (h:wQ P g=true) (p:Prop):b7 P g p=p:=propext ⟨fun k=>k.2,fun k=>⟨wR h,k⟩⟩
section
variable (P:Program) (G:World→Nat→Prop) (n:NDs) (aC:St)
def dQ (d:Bool) (g:FuncId) (xs:List V) (st:St) (K Kp:V→St→Prop):Prop:=match d with
 |false=>∃ R,aa P G g xs st R∧(∀ v s,R (.ret v) s→K v s)∧(∀ v s,R (.dw v) s→Kp v s)
 |true=>∃ v,aa P G g xs st (fun q s=>q= .ret v∧s=st)∧K v st
def RX (d:Bool) (res:List Nat) (all:Array Oper) (Q:AX→Fr→St→Prop):Option (List Oper×Fr×St)→Prop
 |some ([],fr,st)=>Q .normal fr st
 |some (o::r,fr,st)=>OX P G n aC d res all Q (o::r) fr st
 |none=>False
def RL (d:Bool) (res:List Nat) (all:Array Oper) (Q:AX→Fr→St→Prop) (l:List Oper) (fr:Fr) (st:St):Prop:=RX P G n aC d res all Q (cJ P n all res l fr st)
def KR (d:Bool) (res:List Nat) (all:Array Oper) (Q:AX→Fr→St→Prop) (r:List Oper) (fr:Fr) (dd:Option Tmp) (v:V) (st:St):Prop:=RX P G n aC d res all Q (cJ P n all res r (eC fr dd v) st)
def KP (d:Bool) (Q:AX→Fr→St→Prop) (fr:Fr) (v:V) (st:St):Prop:=oL (!d) (Q (.dw v) fr st)
def OJ (d:Bool) (res:List Nat) (all:Array Oper) (Q:AX→Fr→St→Prop) (o:Oper) (r:List Oper) (fr:Fr) (st:St):Prop:=OX P G n aC d res all Q (o::r) fr st
def GX (d:Bool) (res:List Nat) (all:Array Oper) (Q:AX→Fr→St→Prop) (v:V) (j t:Nat) (l:List Oper) (fr:Fr) (st:St):Prop:=match v with
 | .d (.bool b)=>TQ b (RL P G n aC d (j::res) all Q l) (RL P G n aC d (j::res) all Q l) (upd fr t (.d (.bool true))) (upd fr t (.d (.bool false))) st
 | .cF []=>RX P G n aC d (j::res) all Q (cJ P n all (j::res) l fr st)
 |_=>False
def CV (d:Bool) (res:List Nat) (all:Array Oper) (Q:AX→Fr→St→Prop) (v:V) (args:List Operand) (dd:Option Tmp) (r:List Oper) (fr:Fr) (st:St):Prop:=match v with
 | .jE g cap=>b7 P g (dQ P G d g (args.map (fun o=>(ev fr o).share)++cap) st (KR P G n aC d res all Q r fr dd) (KP d Q fr))
 |_=>False
def PV (d:Bool) (Q:AX→Fr→St→Prop) (v:V) (fr:Fr) (st:St):Prop:=match v with
 | .d (.iface t y)=>oL (!d) (Q (.dw (.d (.iface t y))) fr st)
 |_=>False
def CX (d:Bool) (res:List Nat) (all:Array Oper) (Q:AX→Fr→St→Prop) (o:Oper) (r:List Oper) (fr:Fr) (st:St):Prop:=match o.op with
 | .call { callee:= .value x,args,.. }=>oL (decide (goes all o fr=some true)) (oL (fC n o.dst) (CV P G n aC d res all Q (ev fr x) args.toList o.dst r fr st))
 | .panic x=>oL (decide (goes all o fr=some true)) (PV d Q (ev fr x) fr st)
 |_=>False
def GD (d:Bool) (res:List Nat) (all:Array Oper) (Q:AX→Fr→St→Prop) (t:Option Tmp) (j:Nat) (o:Oper) (r:List Oper) (fr:Fr) (st:St):Prop:=match t with
 |some t=>GX P G n aC d res all Q (fr t) j t (o::r) fr st
 |none=>False
def HX (d:Bool) (res:List Nat) (all:Array Oper) (Q:AX→Fr→St→Prop) (o:Oper) (r:List Oper) (fr:Fr) (st:St):Prop:=match o.guard with
 |none=>CX P G n aC d res all Q o r fr st
 |some (j,_)=>if res.contains j=true then CX P G n aC d res all Q o r fr st else GD P G n aC d res all Q ((all[j]?).bind (·.dst)) j o r fr st
def QX (b:Bool) (Q:AX→Fr→St→Prop) (j:Nat) (fr:Fr) (st:St):Prop:=if b=true then Q .normal fr st else Q (.exit j) fr st
def SW:Code→(AX→Fr→St→Prop)→Fr→St→Prop
 | .seq x y,Q,fr,st=>SW x (bz (SW y Q) Q) fr st
 | .block id x,Q,fr,st=>SW x (aY id Q) fr st
 | .scope x,Q,fr,st=>SW x Q fr st
 | .skip,Q,fr,st=>Q .normal fr st
 | .label _,Q,fr,st=>Q .normal fr st
 | .exit i,Q,fr,st=>Q (.exit i) fr st
 | .ret,Q,fr,st=>Q .ret fr st
 | .cond o x y,Q,fr,st=>EP (ev fr o) (SW x Q) (SW y Q) fr st
 | .region id ops false,Q,fr,st=>RX P G n aC false [] ops Q (cJ P n ops [] ops.toList fr st)
 |c,Q,fr,st=>AW P G n aC c Q fr st
end
section
variable {P:Program} {G:World→Nat→Prop} {n:NDs} {aC:St} {Q:AX→Fr→St→Prop} {fr:Fr} {st:St} {d:Bool} {res:List Nat} {all:Array Oper}
theorem RX.sound {l:List Oper} (h:RX P G n aC d res all Q (cJ P n all res l fr st)):OX P G n aC d res all Q l fr st:=by
 cases hr:cJ P n all res l fr st with
 |none=>rw [hr] at h;exact h.elim
 |some x=>
  obtain ⟨l',fr',st'⟩:=x
  rw [hr] at h
  refine OX.run hr ?_
  cases l' with
  |nil=>exact OX.nil h
  |cons o r=>exact h
theorem mg {b:Bool} {p:Prop} (h:oL b p):b=true∧p:=h
theorem CX.sound {o:Oper} {r:List Oper} (h:CX P G n aC d res all Q o r fr st):OX P G n aC d res all Q (o::r) fr st:=by
 obtain ⟨dd,op,ty,pos,after,gd⟩:=o
 unfold CX at h
 split at h
 ·rename_i x args ats hop
  simp only at hop
  subst hop
  obtain ⟨h1,h2,h3⟩:=h
  have h1:=of_decide_eq_true h1
  unfold CV at h3
  split at h3
  ·rename_i g cap hcl
   obtain ⟨h4,h5⟩:=h3
   have hcall:=h4
   cases d with
   |false=>
    obtain ⟨R,hA,hr,hp⟩:=h5
    refine OW.call h1 hcl hcall h2 (hA.mono ?_)
    rintro (v|v) s hR
    ·exact (RX.sound (d:=false) (hr v s hR):_)
    ·exact (hp v s hR).2
   |true=>
    obtain ⟨v,hA,hk⟩:=h5
    exact OX.call hcall hcl h1 h2 rfl hA (RX.sound hk)
  ·exact h3.elim
 ·rename_i x hop
  simp only at hop
  subst hop
  obtain ⟨h1,h2⟩:=h
  have h1:=of_decide_eq_true h1
  unfold PV at h2
  split at h2
  ·rename_i t y hx
   obtain ⟨h3,h4⟩:=h2
   cases d with
   |false=>exact OX.panic rfl h1 hx h4
   |true=>cases h3
  ·exact h2.elim
 ·exact h.elim
theorem GX.sound {j t:Nat} {l:List Oper} (h:GX P G n aC d res all Q (fr t) j t l fr st):OX P G n aC d res all Q l fr st:=by
 unfold GX at h
 split at h
 ·rename_i b hb
  unfold TQ at h
  split at h
  ·rename_i hbt
   subst hbt
   rw [pJ hb] at h
   exact RX.sound (res:=j::res) h
  ·rename_i hbf
   rw [Bool.not_eq_true] at hbf
   subst hbf
   rw [pJ hb] at h
   exact RX.sound (res:=j::res) h
 ·exact RX.sound (res:=j::res) h
 ·exact h.elim
theorem HX.sound {o:Oper} {r:List Oper} (h:HX P G n aC d res all Q o r fr st):OX P G n aC d res all Q (o::r) fr st:=by
 unfold HX at h
 split at h
 ·exact h.sound
 ·split at h
  ·exact h.sound
  ·unfold GD at h
   split at h
   ·exact h.sound
   ·exact h.elim
theorem SW.sound:∀ (c:Code) {Q:AX→Fr→St→Prop} {fr:Fr} {st:St},SW P G n aC c Q fr st→AW P G n aC c Q fr st
 | .seq x y,Q,fr,st,h=>by
  refine AW.seq ((SW.sound x h).mono fun e fr' st' hx=>?_)
  cases e with
  |normal=>exact SW.sound y hx
  |_=>exact hx
 | .block id x,Q,fr,st,h=>AW.block (SW.sound x h)
 | .scope x,Q,fr,st,h=>AW.scope (SW.sound x h)
 | .skip,Q,fr,st,h=>AW.skip h
 | .label _,Q,fr,st,h=>AW.label h
 | .exit i,Q,fr,st,h=>AW.exit h
 | .ret,Q,fr,st,h=>AW.ret h
 | .cond o x y,Q,fr,st,h=>by
  unfold SW EP at h
  split at h
  ·rename_i b hb
   refine AW.cond hb ?_
   unfold TQ at h
   split at h
   ·rename_i hbt;rw [if_pos hbt];exact SW.sound x h
   ·rename_i hbf;rw [if_neg hbf];exact SW.sound y h
  ·exact h.elim
 | .region id ops false,Q,fr,st,h=>by
  have:=RX.sound (show RX P G n aC false [] ops Q (cJ P n ops [] ops.toList fr st) from h)
  have e:AW P G n aC (.region id ops.toList.toArray false) Q fr st:=AW.region (by simpa using (show OW P G n aC ops Q ops.toList fr st from this))
  simpa using e
 | .region id ops true,Q,fr,st,h=>h
 | .loop x,Q,fr,st,h=>h
 | .rangeFunc a b c e,Q,fr,st,h=>h
 | .goto l,Q,fr,st,h=>h
 | .refuse s,Q,fr,st,h=>h
class Pl (Q:AX→Fr→St→Prop) (e:AX) (fr:Fr) (st:St) (p:outParam Prop):Prop where
 h:p→Q e fr st
class Qg (i j:Nat):Prop where
 h:i≠j
instance (priority:=low) VD {e:AX}:Pl Q e fr st (Q e fr st):=⟨id⟩
instance XZ {K:Fr→St→Prop}:Pl (bz K Q) .normal fr st (K fr st):=⟨id⟩
instance X0 {K:Fr→St→Prop} {p:Prop} [k:Pl Q .ret fr st p]:Pl (bz K Q) .ret fr st p:=⟨k.h⟩
instance X1 {K:Fr→St→Prop} {p:Prop} {i:Nat} [k:Pl Q (.exit i) fr st p]:Pl (bz K Q) (.exit i) fr st p:=⟨k.h⟩
instance X2 {K:Fr→St→Prop} {p:Prop} {v:V} [k:Pl Q (.dw v) fr st p]:Pl (bz K Q) (.dw v) fr st p:=⟨k.h⟩
instance X3 {p:Prop} {i:Nat} [k:Pl Q .normal fr st p]:Pl (aY i Q) .normal fr st p:=⟨k.h⟩
instance X4 {p:Prop} {i:Nat} [k:Pl Q .ret fr st p]:Pl (aY i Q) .ret fr st p:=⟨k.h⟩
instance X5 {p:Prop} {i:Nat} {v:V} [k:Pl Q (.dw v) fr st p]:Pl (aY i Q) (.dw v) fr st p:=⟨k.h⟩
instance X6 {p:Prop} {i:Nat} [k:Pl Q .normal fr st p]:Pl (aY i Q) (.exit i) fr st p:=⟨fun h=>by simp only [aY,if_true];exact k.h h⟩
instance X7 {p:Prop} {i j:Nat} [ne:Qg j i] [k:Pl Q (.exit j) fr st p]:Pl (aY i Q) (.exit j) fr st p:=⟨fun h=>by simp only [aY,if_neg ne.h];exact k.h h⟩
instance X8 {i j:Nat} [h:Qg i j]:Qg (i+1) (j+1):=⟨fun e=>h.h (Nat.succ.inj e)⟩
instance X9 {j:Nat}:Qg 0 (j+1):=⟨by omega⟩
instance Ya {j:Nat}:Qg (j+1) 0:=⟨by omega⟩
theorem Wk.aw {c:Code} (h:∀ Q',Q'=Q→Wk (SW P G n aC c Q' fr st)):AW P G n aC c Q fr st:=SW.sound c (h Q rfl)
theorem Wk.q {Q':AX→Fr→St→Prop} {e:AX} {p:Prop} (hQ:Q'=Q) [k:Pl Q e fr st p] (h:p):Q' e fr st:=by subst hQ;exact k.h h
theorem Wk.sw {c:Code} (h:∀ Q',Q'=Q→Wk (SW P G n aC c Q' fr st)):SW P G n aC c Q fr st:=h _ rfl
theorem Wk.ow {all:Array Oper} {l:List Oper} (h:∀ Q',Q'=Q→Wk (RX P G n aC false [] all Q' (cJ P n all [] l fr st))):OW P G n aC all Q l fr st:=RX.sound (d:=false) (h _ rfl)
theorem Wk.i {p:Prop} (h:Wk p):Wk p:=h
theorem Wk.o {p:Prop} (h:p):Wk p:=h
theorem Wk.k {K:Fr→St→Prop} (h:K fr st):Wk (Nk K fr st):=h
theorem Wk.th {K:Fr→St→Prop} {x:AX} (h:Wk (bz K Q x fr st)):bz K Q x fr st:=h
theorem Wk.bl {i:Nat} {x:AX} (h:Wk (aY i Q x fr st)):aY i Q x fr st:=h
theorem Wk.hd {o:Oper} {r:List Oper} (h:Wk (HX P G n aC d res all Q o r fr st)):Wk (OJ P G n aC d res all Q o r fr st):=HX.sound h
theorem Wk.rnd {body:Code} {k:Nat} (h:∀ Q',Q'=bz (bO P G n aC body Q k) Q→Wk (SW P G n aC body Q' fr st)):bO P G n aC body Q (k+1) fr st:=SW.sound body (h _ rfl)
theorem Wk.drawn (hm:P.follows .mixedOrders=true) {id:Nat} {l:List Oper} (hok:fM l [] [] l.length=true) (h:Wk (RX P G n aC true [] l.toArray Q (cJ P n l.toArray [] l fr st))):Wk (AW P G n aC (.region id l.toArray true) Q fr st):=
 AW.drawn hm hok (RX.sound (d:=true) h)
theorem Wk.ox {l:List Oper} (h:Wk (RX P G n aC d res all Q (some (l,fr,st)))):OX P G n aC d res all Q l fr st:=by
 cases l with
 |nil=>exact OX.nil h
 |cons o r=>exact h
theorem Wk.Au {l:Array Oper} (id:Nat) (h:AW P G n aC (.region id l true) Q fr st):Wk (AW P G n aC (.region id l true) Q fr st):=h
theorem QY {g:FuncId} {p:Prop} (hcall:∀ args w,(callFunc g args).run P w= .ok (.enter g args) w) (h:Wk p):Wk (b7 P g p):=⟨hcall,h⟩
theorem ah {g:FuncId} {xs:List V} {v:V} {K Kp:V→St→Prop} (h:aa P G g xs st (fun q s=>q= .ret v∧s=st)) (k:Wk (K v st)):Wk (dQ P G d g xs st K Kp):=by
 cases d
 ·exact ⟨_,h,by rintro v s ⟨hv,rfl⟩;cases hv;exact k,by rintro v s ⟨hv,_⟩;cases hv⟩
 ·exact ⟨v,h,k⟩
theorem aW {g:FuncId} {xs:List V} {v:V} {st':St} {K Kp:V→St→Prop} (h:aa P G g xs st (fun q s=>q= .ret v∧s=st')) (k:Wk (K v st')):Wk (dQ P G false g xs st K Kp):=
 ⟨_,h,by rintro v s ⟨hv,rfl⟩;cases hv;exact k,by rintro v s ⟨hv,_⟩;cases hv⟩
theorem cA {g:FuncId} {xs:List V} {v:V} {st':St} {K Kp:V→St→Prop} (h:aa P G g xs st (fun q s=>q= .dw v∧s=st')) (k:Wk (Kp v st')):Wk (dQ P G false g xs st K Kp):=
 ⟨_,h,(by rintro v s ⟨hv,_⟩;cases hv),(by rintro v s ⟨hv,rfl⟩;cases hv;exact k)⟩
theorem OK {τ:Type} {f:τ→V} {p:τ→Prop} {g:FuncId} {xs:List V} {K Kp:V→St→Prop} (h:aa P G g xs st (fun q s=>∃ x,q= .ret (f x)∧p x∧s=st)) (k:∀ x,p x→Wk (K (f x) st)):Wk (dQ P G false g xs st K Kp):=
 ⟨_,h,by rintro v s ⟨x,hv,hp,rfl⟩;cases hv;exact k x hp,by rintro v s ⟨x,hv,_⟩;cases hv⟩
class Sp (b:Bool) (p q:outParam Prop):Prop where
 t:b=true→p
 f:b=false→q
instance YN (b:Bool):Sp b (b=true) (b=false):=⟨id,id⟩
instance YO (b:Bool):Sp (!b) (b=false) (b=true):=⟨by simp,by simp⟩
instance YP (p:Prop) [Decidable p]:Sp (decide p) p (¬ p):=⟨of_decide_eq_true,of_decide_eq_false⟩
theorem ay {b:Bool} {p q:Prop} {X Y:Fr→St→Prop} {f1 f2:Fr} [s:Sp b p q] (h1:p→Wk (X f1 st)) (h2:q→Wk (Y f2 st)):Wk (TQ b X Y f1 f2 st):=by
 cases b
 ·exact h2 (s.f rfl)
 ·exact h1 (s.t rfl)
theorem fQ {b:Bool} (h:b=true) (k:b=false):False:=by rw [h] at k;cases k
def aQ (R:Out→St→Prop) (st:St) (v:V):Prop:=R (.ret v) st
def Ld (R:Out→St→Prop) (st:St) (v:V):Prop:=oL (v.within st.aj.length st.toks.length) (aQ R st v)
def Ie (R:Out→St→Prop) (st:St) (o:Option (List V)):Prop:=match o with
 |some l=>Ld R st (eD l).share
 |none=>False
def wS (P:Program) (fn:Func) (st:St) (R:Out→St→Prop) (fr:Fr) (st':St):Prop:=st'.aj.take st.aj.length=st.aj∧st'.toks.take st.toks.length=st.toks∧Ie R st (eT P fr st' fn.results.toList)
theorem Wk.ret {fn:Func} {R:Out→St→Prop} {st':St} (h:∀ R',R'=R→Wk (wS P fn st R' fr st')):bK P fn st R .ret fr st':=by
 obtain ⟨h1,h2,h3⟩:=h R rfl
 unfold Ie at h3
 split at h3
 ·rename_i l hl
  exact uT h1 h2 hl rfl h3.1 h3.2
 ·exact h3.elim
theorem Wk.fin {R R':Out→St→Prop} {v:V} (hR:R'=R) (h:R (.ret v) st):Wk (aQ R' st v):=by subst hR;exact h
end
section
variable (P:Program) (G:World→Nat→Prop) (n:NDs) (aC:St) (Q:AX→Fr→St→Prop) (fr:Fr) (st:St) (d:Bool) (res:List Nat) (all:Array Oper) (K:Fr→St→Prop) (X Y:Fr→St→Prop)
theorem VE (g:Fr):TQ true X Y fr g st=X fr st:=by simp [TQ]
theorem VF (g:Fr):TQ false X Y fr g st=Y g st:=by simp [TQ]
theorem Nl (p:Prop):oL true p=p:=by simp [oL]
theorem OL (b:Bool):EP (.d (.bool b)) X Y fr st=TQ b X Y fr fr st:=(rfl)
theorem Ig (x y:Code):SW P G n aC (.seq x y) Q fr st=SW P G n aC x (bz (SW P G n aC y Q) Q) fr st:=(rfl)
theorem yM (i:Nat) (x:Code):SW P G n aC (.block i x) Q fr st=SW P G n aC x (aY i Q) fr st:=(rfl)
theorem C1:SW P G n aC .skip Q fr st=Q .normal fr st:=(rfl)
theorem C2 (i:Nat):SW P G n aC (.exit i) Q fr st=Q (.exit i) fr st:=(rfl)
theorem Ih:SW P G n aC .ret Q fr st=Q .ret fr st:=(rfl)
theorem C3 (o:Operand) (x y:Code):SW P G n aC (.cond o x y) Q fr st=EP (ev fr o) (SW P G n aC x Q) (SW P G n aC y Q) fr st:=(rfl)
theorem uX (id:Nat) (l:List Oper):SW P G n aC (.region id l.toArray false) Q fr st=RX P G n aC false [] l.toArray Q (cJ P n l.toArray [] l fr st):=(rfl)
theorem yO (id:Nat) (l:Array Oper):SW P G n aC (.region id l true) Q fr st=AW P G n aC (.region id l true) Q fr st:=(rfl)
theorem SW_loop (x:Code):SW P G n aC (.loop x) Q fr st=AW P G n aC (.loop x) Q fr st:=(rfl)
theorem OM:RX P G n aC d res all Q (some ([],fr,st))=Q .normal fr st:=(rfl)
theorem Le (o:Oper) (r:List Oper):RX P G n aC d res all Q (some (o::r,fr,st))=OJ P G n aC d res all Q o r fr st:=(rfl)
theorem Lf (dd op ty pos af) (r:List Oper):HX P G n aC d res all Q ⟨dd,op,ty,pos,af,none⟩ r fr st=CX P G n aC d res all Q ⟨dd,op,ty,pos,af,none⟩ r fr st:=(rfl)
def HG (b:Bool) (j:Nat) (o:Oper) (r:List Oper):Prop:=if b=true then CX P G n aC d res all Q o r fr st else GD P G n aC d res all Q ((all[j]?).bind (·.dst)) j o r fr st
theorem Lg (dd op ty pos af) (j:Nat) (b:Bool) (r:List Oper):HX P G n aC d res all Q ⟨dd,op,ty,pos,af,some (j,b)⟩ r fr st=HG P G n aC Q fr st d res all (ask res (some (j,b))) j ⟨dd,op,ty,pos,af,some (j,b)⟩ r:=(rfl)
theorem VG (j:Nat) (o:Oper) (r:List Oper):HG P G n aC Q fr st d res all true j o r=CX P G n aC d res all Q o r fr st:=by simp [HG]
theorem VH (j:Nat) (o:Oper) (r:List Oper):HG P G n aC Q fr st d res all false j o r=GD P G n aC d res all Q ((all[j]?).bind (·.dst)) j o r fr st:=by simp [HG]
theorem Lh (t j:Nat) (o:Oper) (r:List Oper):GD P G n aC d res all Q (some t) j o r fr st=GX P G n aC d res all Q (fr t) j t (o::r) fr st:=(rfl)
theorem VI (b:Bool) (j t:Nat) (l:List Oper):GX P G n aC d res all Q (.d (.bool b)) j t l fr st=TQ b (RL P G n aC d (j::res) all Q l) (RL P G n aC d (j::res) all Q l) (upd fr t (.d (.bool true))) (upd fr t (.d (.bool false))) st:=(rfl)
theorem QZ (l:List Oper):RL P G n aC d res all Q l fr st=RX P G n aC d res all Q (cJ P n all res l fr st):=(rfl)
theorem Q0 (l:List Oper) (dd:Option Tmp) (v:V):KR P G n aC d res all Q l fr dd v st=RX P G n aC d res all Q (cJ P n all res l (eC fr dd v) st):=(rfl)
theorem Nn (v:V):KP d Q fr v st=oL (!d) (Q (.dw v) fr st):=(rfl)
theorem VJ (j t:Nat) (l:List Oper):GX P G n aC d res all Q (.cF []) j t l fr st=RX P G n aC d (j::res) all Q (cJ P n all (j::res) l fr st):=(rfl)
theorem Li (dd ty pos af gd) (x:Operand) (args ats) (r:List Oper):CX P G n aC d res all Q ⟨dd,.call ⟨.value x,args,ats⟩,ty,pos,af,gd⟩ r fr st=oL (decide (goes all ⟨dd,.call ⟨.value x,args,ats⟩,ty,pos,af,gd⟩ fr=some true)) (oL (fC n dd) (CV P G n aC d res all Q (ev fr x) args.toList dd r fr st)):=(rfl)
theorem Ii (dd ty pos af gd) (x:Operand) (r:List Oper):CX P G n aC d res all Q ⟨dd,.panic x,ty,pos,af,gd⟩ r fr st=oL (decide (goes all ⟨dd,.panic x,ty,pos,af,gd⟩ fr=some true)) (PV d Q (ev fr x) fr st):=(rfl)
theorem OO (g:FuncId) (cap:List V) (args:List Operand) (dd:Option Tmp) (r:List Oper):CV P G n aC d res all Q (.jE g cap) args dd r fr st=b7 P g (dQ P G d g (args.map (fun o=>(ev fr o).share)++cap) st (KR P G n aC d res all Q r fr dd) (KP d Q fr)):=(rfl)
theorem VK (t:TypeId) (y:D):PV d Q (.d (.iface t y)) fr st=oL (!d) (Q (.dw (.d (.iface t y))) fr st):=(rfl)
theorem VL:bz K Q .normal fr st=Nk K fr st:=(rfl)
theorem VM:bz K Q .ret fr st=Q .ret fr st:=(rfl)
theorem VN (i:Nat):bz K Q (.exit i) fr st=Q (.exit i) fr st:=(rfl)
theorem VO (v:V):bz K Q (.dw v) fr st=Q (.dw v) fr st:=(rfl)
theorem apK_sw (y:Code):Nk (SW P G n aC y Q) fr st=SW P G n aC y Q fr st:=(rfl)
theorem VP (i:Nat):aY i Q .normal fr st=Q .normal fr st:=(rfl)
theorem VQ (i:Nat):aY i Q .ret fr st=Q .ret fr st:=(rfl)
theorem VR (i:Nat) (v:V):aY i Q (.dw v) fr st=Q (.dw v) fr st:=(rfl)
theorem VS (i j:Nat):aY i Q (.exit j) fr st=QX (j==i) Q j fr st:=by simp [aY,QX]
theorem Q1 (j:Nat):QX true Q j fr st=Q .normal fr st:=by simp [QX]
theorem exQ_f (j:Nat):QX false Q j fr st=Q (.exit j) fr st:=by simp [QX]
theorem Lj (fn:Func) (s:St) (R:Out→St→Prop):wS P fn s R fr st=(st.aj.take s.aj.length=s.aj∧st.toks.take s.toks.length=s.toks∧Ie R s (eT P fr st fn.results.toList)):=(rfl)
theorem ER (R:Out→St→Prop) (l:List V):Ie R st (some l)=Ld R st (eD l).share:=(rfl)
theorem Ll (R:Out→St→Prop) (v:V):Ld R st v=oL (v.within st.aj.length st.toks.length) (aQ R st v):=(rfl)
end
attribute [irreducible] b7 RL KR KP Wk TQ oL EP Nk RX OJ GX CV PV CX GD HX HG QX SW dQ aQ Ld Ie wS
attribute [go_sem] VE VF Nl OL Ig yM C1 C2 Ih C3 uX yO SW_loop OM Le Lf Lg VG VH Lh VI QZ Q0 Nn VJ Li Ii OO VK VL VM VN VO apK_sw VP VQ VR VS Q1 exQ_f Lj ER Ll
theorem yP (sz:Nat):cr sz []=true:=(rfl)
theorem wU (sz:Nat) (r:List D) (es:List (List D)):cr sz (r::es)=(r.length==sz&&cr sz es):=(rfl)
def VT (b:Option Bool) (q:Bool) (v:D) (ok:Bool):Option V:=match b with
 |some false=>if q=true then (if ok then some (.cF [.d v,.d (.bool true)]) else some (.d v)) else none
 |_=>none
theorem VU (P:Program) (t u:TypeId) (v:D) (ok:Bool):evalAssert P (.d (.iface t v)) u ok=VT (isIface P u) (t==u) v ok:=by
 unfold evalAssert VT
 cases hi:isIface P u with
 |none=>rfl
 |some b=>cases b<;>simp_all
theorem OQ (v:D):VT (some false) true v true=some (.cF [.d v,.d (.bool true)]):=(rfl)
def VV (b:Option Bool) (z:Option V):Option V:=match b,z with
 |some false,some z=>some (.cF [z,.d (.bool false)])
 |_,_=>none
theorem VW (P:Program) (u:TypeId):evalAssert P (.d .fD) u true=VV (isIface P u) ((zeroOf P u).map ofConst):=by
 unfold evalAssert VV
 cases hi:isIface P u with
 |none=>rfl
 |some b=>cases b<;>cases hz:zeroOf P u<;>simp_all
theorem OS (z:V):VV (some false) (some z)=some (.cF [z,.d (.bool false)]):=(rfl)
attribute [go_sem] VU OQ VW OS
theorem Q3 (r:List D) (es:List (List D)):wI true (r::es) 0=some (.ep r 0):=by rw [Bo (by omega) (by simp)];rfl
theorem Q4 (r:List D) (es:List (List D)) (i:Int) (h:0<i):wI true (r::es) i=wI true es (i - 1):=by
 obtain ⟨k,rfl⟩:∃ k:Nat,i=(k:Int)+1:=⟨(i - 1).toNat,by omega⟩
 have e1:((k:Int)+1).toNat=k+1:=by omega
 have e2:((k:Int)+1 - 1).toNat=k:=by omega
 have e3:((k:Int)+1 - 1)=k:=by omega
 by_cases hk:k<es.length
 ·rw [Bo (by omega) (by rw [e1];simpa using hk),Bo (by omega) (by rw [e2];exact hk),e1,e2];rfl
 ·simp [wI,e3,e1,hk]
def No (b:UInt8):Option (List UInt8)→Option (List UInt8)
 |some l=>some (b::l)
 |none=>none
theorem wV (n:Int) (rs:List (List D)):bytesOf ([.int .u8 n]::rs)=No (UInt8.ofNat n.toNat) (bytesOf rs):=by
 simp only [bytesOf,byteOf]
 cases bytesOf rs<;>rfl
attribute [go_sem] Q3 Q4 yP wU wV
