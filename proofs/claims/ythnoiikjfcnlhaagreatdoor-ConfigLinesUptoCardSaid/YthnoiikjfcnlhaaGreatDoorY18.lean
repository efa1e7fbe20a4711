/- A step of the proofs of the seat's theorems. -/
import Derived.Test.YthnoiikjfcnlhaaGreatDoorYA
import Derived.Test.YthnoiikjfcnlhaaGreatDoorY1
import Derived.Test.YthnoiikjfcnlhaaGreatDoorY15
import Derived.Test.YthnoiikjfcnlhaaGreatDoorY16
import Derived.Test.YthnoiikjfcnlhaaGreatDoorY17
import Derived.KernelRfl
set_option linter.unusedSimpArgs false
set_option linter.unusedVariables false
section
namespace Go.Proofs.YthnoiikjfcnlhaaGreatDoor
open Go.Abs
theorem mx:Tryz.prog.follows .mixedOrders=true:=Tryz.checked.mixed
theorem YQ (p:Prop):b7 Tryz.prog 9 p=p:=ak (by kernel_rfl) p
theorem VX (p:Prop):b7 Tryz.prog 10 p=p:=ak (by kernel_rfl) p
theorem VZ (p:Prop):b7 Tryz.prog 12 p=p:=ak (by kernel_rfl) p
theorem en13 (p:Prop):b7 Tryz.prog 13 p=p:=ak (by kernel_rfl) p
theorem V0 (p:Prop):b7 Tryz.prog 14 p=p:=ak (by kernel_rfl) p
theorem V1 (p:Prop):b7 Tryz.prog 15 p=p:=ak (by kernel_rfl) p
theorem V2 (p:Prop):b7 Tryz.prog 16 p=p:=ak (by kernel_rfl) p
theorem en17 (p:Prop):b7 Tryz.prog 17 p=p:=ak (by kernel_rfl) p
theorem V3 (p:Prop):b7 Tryz.prog 18 p=p:=ak (by kernel_rfl) p
theorem en19 (p:Prop):b7 Tryz.prog 19 p=p:=ak (by kernel_rfl) p
theorem V4 (p:Prop):b7 Tryz.prog 20 p=p:=ak (by kernel_rfl) p
theorem V5 (p:Prop):b7 Tryz.prog 21 p=p:=ak (by kernel_rfl) p
theorem en22 (p:Prop):b7 Tryz.prog 22 p=p:=ak (by kernel_rfl) p
theorem en23 (p:Prop):b7 Tryz.prog 23 p=p:=ak (by kernel_rfl) p
theorem V6 (p:Prop):b7 Tryz.prog 24 p=p:=ak (by kernel_rfl) p
theorem V7 (p:Prop):b7 Tryz.prog 25 p=p:=ak (by kernel_rfl) p
theorem Wa (p:Prop):b7 Tryz.prog 28 p=p:=ak (by kernel_rfl) p
theorem Wb (p:Prop):b7 Tryz.prog 29 p=p:=ak (by kernel_rfl) p
theorem Wc (p:Prop):b7 Tryz.prog 30 p=p:=ak (by kernel_rfl) p
theorem Wd (p:Prop):b7 Tryz.prog 31 p=p:=ak (by kernel_rfl) p
theorem We (p:Prop):b7 Tryz.prog 32 p=p:=ak (by kernel_rfl) p
theorem Wf (p:Prop):b7 Tryz.prog 33 p=p:=ak (by kernel_rfl) p
theorem en34 (p:Prop):b7 Tryz.prog 34 p=p:=ak (by kernel_rfl) p
theorem Wg (p:Prop):b7 Tryz.prog 35 p=p:=ak (by kernel_rfl) p
theorem Wh (p:Prop):b7 Tryz.prog 36 p=p:=ak (by kernel_rfl) p
theorem Wi (p:Prop):b7 Tryz.prog 37 p=p:=ak (by kernel_rfl) p
theorem en38 (p:Prop):b7 Tryz.prog 38 p=p:=ak (by kernel_rfl) p
theorem Wj (p:Prop):b7 Tryz.prog 39 p=p:=ak (by kernel_rfl) p
theorem Wl (p:Prop):b7 Tryz.prog 40 p=p:=ak (by kernel_rfl) p
theorem Wn (p:Prop):b7 Tryz.prog 42 p=p:=ak (by kernel_rfl) p
theorem Wo (p:Prop):b7 Tryz.prog 43 p=p:=ak (by kernel_rfl) p
theorem Wp (p:Prop):b7 Tryz.prog 45 p=p:=ak (by kernel_rfl) p
theorem Ww (p:Prop):b7 Tryz.prog 51 p=p:=ak (by kernel_rfl) p
theorem Wx (p:Prop):b7 Tryz.prog 52 p=p:=ak (by kernel_rfl) p
theorem Wy (p:Prop):b7 Tryz.prog 53 p=p:=ak (by kernel_rfl) p
theorem Wz (p:Prop):b7 Tryz.prog 54 p=p:=ak (by kernel_rfl) p
theorem WA (p:Prop):b7 Tryz.prog 55 p=p:=ak (by kernel_rfl) p
theorem WB (p:Prop):b7 Tryz.prog 56 p=p:=ak (by kernel_rfl) p
theorem WC (p:Prop):b7 Tryz.prog 57 p=p:=ak (by kernel_rfl) p
theorem WD (p:Prop):b7 Tryz.prog 58 p=p:=ak (by kernel_rfl) p
theorem en59 (p:Prop):b7 Tryz.prog 59 p=p:=ak (by kernel_rfl) p
theorem en60 (p:Prop):b7 Tryz.prog 60 p=p:=ak (by kernel_rfl) p
theorem en61 (p:Prop):b7 Tryz.prog 61 p=p:=ak (by kernel_rfl) p
theorem WE (p:Prop):b7 Tryz.prog 62 p=p:=ak (by kernel_rfl) p
theorem WG (p:Prop):b7 Tryz.prog 63 p=p:=ak (by kernel_rfl) p
theorem en64 (p:Prop):b7 Tryz.prog 64 p=p:=ak (by kernel_rfl) p
theorem WH (p:Prop):b7 Tryz.prog 65 p=p:=ak (by kernel_rfl) p
theorem WI (p:Prop):b7 Tryz.prog 66 p=p:=ak (by kernel_rfl) p
theorem WJ (p:Prop):b7 Tryz.prog 67 p=p:=ak (by kernel_rfl) p
theorem WK (p:Prop):b7 Tryz.prog 68 p=p:=ak (by kernel_rfl) p
theorem WL (p:Prop):b7 Tryz.prog 69 p=p:=ak (by kernel_rfl) p
theorem WM (p:Prop):b7 Tryz.prog 70 p=p:=ak (by kernel_rfl) p
theorem WN (p:Prop):b7 Tryz.prog 72 p=p:=ak (by kernel_rfl) p
theorem WO (p:Prop):b7 Tryz.prog 73 p=p:=ak (by kernel_rfl) p
theorem WX (p:Prop):b7 Tryz.prog 81 p=p:=ak (by kernel_rfl) p
theorem WY (p:Prop):b7 Tryz.prog 82 p=p:=ak (by kernel_rfl) p
theorem WZ (p:Prop):b7 Tryz.prog 83 p=p:=ak (by kernel_rfl) p
theorem W4 (p:Prop):b7 Tryz.prog 84 p=p:=ak (by kernel_rfl) p
theorem W5 (p:Prop):b7 Tryz.prog 85 p=p:=ak (by kernel_rfl) p
theorem W6 (p:Prop):b7 Tryz.prog 86 p=p:=ak (by kernel_rfl) p
theorem W7 (p:Prop):b7 Tryz.prog 87 p=p:=ak (by kernel_rfl) p
theorem W8 (p:Prop):b7 Tryz.prog 88 p=p:=ak (by kernel_rfl) p
theorem W9 (p:Prop):b7 Tryz.prog 89 p=p:=ak (by kernel_rfl) p
theorem Xa (p:Prop):b7 Tryz.prog 90 p=p:=ak (by kernel_rfl) p
theorem en91 (p:Prop):b7 Tryz.prog 91 p=p:=ak (by kernel_rfl) p
theorem en92 (p:Prop):b7 Tryz.prog 92 p=p:=ak (by kernel_rfl) p
theorem Xb (p:Prop):b7 Tryz.prog 93 p=p:=ak (by kernel_rfl) p
theorem Xc (p:Prop):b7 Tryz.prog 94 p=p:=ak (by kernel_rfl) p
theorem Xd (p:Prop):b7 Tryz.prog 95 p=p:=ak (by kernel_rfl) p
theorem Xe (p:Prop):b7 Tryz.prog 97 p=p:=ak (by kernel_rfl) p
theorem Xf (p:Prop):b7 Tryz.prog 98 p=p:=ak (by kernel_rfl) p
theorem Xg (p:Prop):b7 Tryz.prog 99 p=p:=ak (by kernel_rfl) p
theorem Q5 (p:Prop):b7 Tryz.prog 100 p=p:=ak (by kernel_rfl) p
theorem Q6 (p:Prop):b7 Tryz.prog 101 p=p:=ak (by kernel_rfl) p
theorem Q7 (p:Prop):b7 Tryz.prog 102 p=p:=ak (by kernel_rfl) p
theorem Q8 (p:Prop):b7 Tryz.prog 103 p=p:=ak (by kernel_rfl) p
theorem Q9 (p:Prop):b7 Tryz.prog 104 p=p:=ak (by kernel_rfl) p
theorem Ra (p:Prop):b7 Tryz.prog 105 p=p:=ak (by kernel_rfl) p
theorem Re (p:Prop):b7 Tryz.prog 109 p=p:=ak (by kernel_rfl) p
theorem Rg (p:Prop):b7 Tryz.prog 111 p=p:=ak (by kernel_rfl) p
theorem Rh (p:Prop):b7 Tryz.prog 112 p=p:=ak (by kernel_rfl) p
theorem Ri (p:Prop):b7 Tryz.prog 113 p=p:=ak (by kernel_rfl) p
theorem Rj (p:Prop):b7 Tryz.prog 114 p=p:=ak (by kernel_rfl) p
theorem Rk (p:Prop):b7 Tryz.prog 115 p=p:=ak (by kernel_rfl) p
theorem Rm (p:Prop):b7 Tryz.prog 116 p=p:=ak (by kernel_rfl) p
theorem Rn (p:Prop):b7 Tryz.prog 117 p=p:=ak (by kernel_rfl) p
theorem Ro (p:Prop):b7 Tryz.prog 118 p=p:=ak (by kernel_rfl) p
theorem Rp (p:Prop):b7 Tryz.prog 121 p=p:=ak (by kernel_rfl) p
theorem Rq (p:Prop):b7 Tryz.prog 122 p=p:=ak (by kernel_rfl) p
theorem Rr (p:Prop):b7 Tryz.prog 123 p=p:=ak (by kernel_rfl) p
theorem Rs (p:Prop):b7 Tryz.prog 124 p=p:=ak (by kernel_rfl) p
theorem en125 (p:Prop):b7 Tryz.prog 125 p=p:=ak (by kernel_rfl) p
theorem en126 (p:Prop):b7 Tryz.prog 126 p=p:=ak (by kernel_rfl) p
theorem en127 (p:Prop):b7 Tryz.prog 127 p=p:=ak (by kernel_rfl) p
theorem en128 (p:Prop):b7 Tryz.prog 128 p=p:=ak (by kernel_rfl) p
theorem Rt (p:Prop):b7 Tryz.prog 129 p=p:=ak (by kernel_rfl) p
theorem Ru (p:Prop):b7 Tryz.prog 130 p=p:=ak (by kernel_rfl) p
theorem Rv (p:Prop):b7 Tryz.prog 131 p=p:=ak (by kernel_rfl) p
theorem RC (p:Prop):b7 Tryz.prog 137 p=p:=ak (by kernel_rfl) p
theorem RD (p:Prop):b7 Tryz.prog 138 p=p:=ak (by kernel_rfl) p
theorem RE (p:Prop):b7 Tryz.prog 139 p=p:=ak (by kernel_rfl) p
theorem RG (p:Prop):b7 Tryz.prog 140 p=p:=ak (by kernel_rfl) p
theorem RH (p:Prop):b7 Tryz.prog 141 p=p:=ak (by kernel_rfl) p
theorem RI (p:Prop):b7 Tryz.prog 143 p=p:=ak (by kernel_rfl) p
theorem RJ (p:Prop):b7 Tryz.prog 144 p=p:=ak (by kernel_rfl) p
theorem RK (p:Prop):b7 Tryz.prog 145 p=p:=ak (by kernel_rfl) p
theorem RN (p:Prop):b7 Tryz.prog 146 p=p:=ak (by kernel_rfl) p
theorem en147 (p:Prop):b7 Tryz.prog 147 p=p:=ak (by kernel_rfl) p
theorem en148 (p:Prop):b7 Tryz.prog 148 p=p:=ak (by kernel_rfl) p
theorem RO (p:Prop):b7 Tryz.prog 149 p=p:=ak (by kernel_rfl) p
theorem RP (p:Prop):b7 Tryz.prog 150 p=p:=ak (by kernel_rfl) p
theorem RQ (p:Prop):b7 Tryz.prog 151 p=p:=ak (by kernel_rfl) p
theorem RR (p:Prop):b7 Tryz.prog 152 p=p:=ak (by kernel_rfl) p
theorem RS (p:Prop):b7 Tryz.prog 153 p=p:=ak (by kernel_rfl) p
theorem RV (p:Prop):b7 Tryz.prog 156 p=p:=ak (by kernel_rfl) p
theorem RY (p:Prop):b7 Tryz.prog 157 p=p:=ak (by kernel_rfl) p
theorem RZ (p:Prop):b7 Tryz.prog 158 p=p:=ak (by kernel_rfl) p
theorem R1 (p:Prop):b7 Tryz.prog 159 p=p:=ak (by kernel_rfl) p
theorem R2 (p:Prop):b7 Tryz.prog 160 p=p:=ak (by kernel_rfl) p
theorem R3 (p:Prop):b7 Tryz.prog 161 p=p:=ak (by kernel_rfl) p
theorem R4 (p:Prop):b7 Tryz.prog 162 p=p:=ak (by kernel_rfl) p
theorem R5 (p:Prop):b7 Tryz.prog 165 p=p:=ak (by kernel_rfl) p
theorem R6 (p:Prop):b7 Tryz.prog 166 p=p:=ak (by kernel_rfl) p
theorem R7 (p:Prop):b7 Tryz.prog 167 p=p:=ak (by kernel_rfl) p
theorem en168 (p:Prop):b7 Tryz.prog 168 p=p:=ak (by kernel_rfl) p
theorem R8 (p:Prop):b7 Tryz.prog 169 p=p:=ak (by kernel_rfl) p
theorem R9 (p:Prop):b7 Tryz.prog 171 p=p:=ak (by kernel_rfl) p
theorem Sb (p:Prop):b7 Tryz.prog 173 p=p:=ak (by kernel_rfl) p
theorem Sc (p:Prop):b7 Tryz.prog 174 p=p:=ak (by kernel_rfl) p
theorem Sd (p:Prop):b7 Tryz.prog 175 p=p:=ak (by kernel_rfl) p
theorem Se (p:Prop):b7 Tryz.prog 176 p=p:=ak (by kernel_rfl) p
theorem Sf (p:Prop):b7 Tryz.prog 179 p=p:=ak (by kernel_rfl) p
theorem Sg (p:Prop):b7 Tryz.prog 180 p=p:=ak (by kernel_rfl) p
theorem Sh (p:Prop):b7 Tryz.prog 181 p=p:=ak (by kernel_rfl) p
theorem Si (p:Prop):b7 Tryz.prog 183 p=p:=ak (by kernel_rfl) p
theorem Sj (p:Prop):b7 Tryz.prog 184 p=p:=ak (by kernel_rfl) p
theorem Sk (p:Prop):b7 Tryz.prog 185 p=p:=ak (by kernel_rfl) p
theorem Sm (p:Prop):b7 Tryz.prog 187 p=p:=ak (by kernel_rfl) p
theorem Sn (p:Prop):b7 Tryz.prog 188 p=p:=ak (by kernel_rfl) p
theorem So (p:Prop):b7 Tryz.prog 189 p=p:=ak (by kernel_rfl) p
theorem Sq (p:Prop):b7 Tryz.prog 190 p=p:=ak (by kernel_rfl) p
theorem Sr (p:Prop):b7 Tryz.prog 192 p=p:=ak (by kernel_rfl) p
theorem Ss (p:Prop):b7 Tryz.prog 193 p=p:=ak (by kernel_rfl) p
theorem Su (p:Prop):b7 Tryz.prog 194 p=p:=ak (by kernel_rfl) p
theorem Sv (p:Prop):b7 Tryz.prog 195 p=p:=ak (by kernel_rfl) p
theorem Sw (p:Prop):b7 Tryz.prog 196 p=p:=ak (by kernel_rfl) p
theorem SA (p:Prop):b7 Tryz.prog 200 p=p:=ak (by kernel_rfl) p
theorem SC (p:Prop):b7 Tryz.prog 201 p=p:=ak (by kernel_rfl) p
theorem SD (p:Prop):b7 Tryz.prog 202 p=p:=ak (by kernel_rfl) p
theorem SE (p:Prop):b7 Tryz.prog 203 p=p:=ak (by kernel_rfl) p
theorem SF (p:Prop):b7 Tryz.prog 204 p=p:=ak (by kernel_rfl) p
theorem SG (p:Prop):b7 Tryz.prog 205 p=p:=ak (by kernel_rfl) p
theorem SH (p:Prop):b7 Tryz.prog 210 p=p:=ak (by kernel_rfl) p
theorem SI (p:Prop):b7 Tryz.prog 211 p=p:=ak (by kernel_rfl) p
theorem SK (p:Prop):b7 Tryz.prog 213 p=p:=ak (by kernel_rfl) p
theorem SL (p:Prop):b7 Tryz.prog 214 p=p:=ak (by kernel_rfl) p
theorem SM (p:Prop):b7 Tryz.prog 215 p=p:=ak (by kernel_rfl) p
theorem SN (p:Prop):b7 Tryz.prog 216 p=p:=ak (by kernel_rfl) p
theorem SO (p:Prop):b7 Tryz.prog 217 p=p:=ak (by kernel_rfl) p
theorem SP (p:Prop):b7 Tryz.prog 218 p=p:=ak (by kernel_rfl) p
theorem SQ (p:Prop):b7 Tryz.prog 224 p=p:=ak (by kernel_rfl) p
theorem SS (p:Prop):b7 Tryz.prog 225 p=p:=ak (by kernel_rfl) p
theorem SV (p:Prop):b7 Tryz.prog 227 p=p:=ak (by kernel_rfl) p
theorem SX (p:Prop):b7 Tryz.prog 231 p=p:=ak (by kernel_rfl) p
theorem SY (p:Prop):b7 Tryz.prog 234 p=p:=ak (by kernel_rfl) p
theorem SZ (p:Prop):b7 Tryz.prog 235 p=p:=ak (by kernel_rfl) p
theorem S0 (p:Prop):b7 Tryz.prog 236 p=p:=ak (by kernel_rfl) p
theorem S3 (p:Prop):b7 Tryz.prog 237 p=p:=ak (by kernel_rfl) p
theorem S4 (p:Prop):b7 Tryz.prog 238 p=p:=ak (by kernel_rfl) p
attribute [go_sem] YQ VX VZ en13 V0 V1 V2 en17 V3 en19 V4 V5 en22 en23 V6 V7 Wa Wb Wc Wd We Wf en34 Wg Wh Wi en38 Wj Wl Wn Wo Wp Ww Wx Wy Wz WA WB WC WD en59 en60 en61 WE WG en64 WH WI WJ WK WL WM WN WO WX WY WZ W4 W5 W6 W7 W8 W9 Xa en91 en92 Xb Xc Xd Xe Xf Xg Q5 Q6 Q7 Q8 Q9 Ra Re Rg Rh Ri Rj Rk Rm Rn Ro Rp Rq Rr Rs en125 en126 en127 en128 Rt Ru Rv RC RD RE RG RH RI RJ RK RN en147 en148 RO RP RQ RR RS RV RY RZ R1 R2 R3 R4 R5 R6 R7 en168 R8 R9 Sb Sc Sd Se Sf Sg Sh Si Sj Sk Sm Sn So Sq Sr Ss Su Sv Sw SA SC SD SE SF SG SH SI SK SL SM SN SO SP SQ SS SV SX SY SZ S0 S3 S4 Tryz.results3 Tryz.results4 Tryz.results5 Tryz.results6 Tryz.results7 Tryz.results8 Tryz.results9 Tryz.results10 Tryz.results11 Tryz.results12 Tryz.results13 Tryz.results14 Tryz.results15 Tryz.results16 Tryz.results17 Tryz.results18 Tryz.results19 Tryz.results20 Tryz.results21 Tryz.results22 Tryz.results23 Tryz.results24 Tryz.results25 Tryz.results26 Tryz.results27 Tryz.results28 Tryz.results29 Tryz.results30 Tryz.results31 Tryz.results32 Tryz.results33 Tryz.results34 Tryz.results35 Tryz.results36 Tryz.results37 Tryz.results38 Tryz.results39 Tryz.results40 Tryz.results41 Tryz.results42 Tryz.results43 Tryz.results44 Tryz.results45 Tryz.results46 Tryz.results47 Tryz.results48 Tryz.results49 Tryz.results50 Tryz.results51 Tryz.results52 Tryz.results53 Tryz.results54 Tryz.results55 Tryz.results56 Tryz.results57 Tryz.results58 Tryz.results59 Tryz.results60 Tryz.results61 Tryz.results62 Tryz.results63 Tryz.results64 Tryz.results65 Tryz.results66 Tryz.results67 Tryz.results68 Tryz.results69 Tryz.results70 Tryz.results71 Tryz.results72 Tryz.results73 Tryz.results74 Tryz.results75 Tryz.results76 Tryz.results77 Tryz.results78 Tryz.results79 Tryz.results80 Tryz.results81 Tryz.results82 Tryz.results83 Tryz.results84 Tryz.results85 Tryz.results86 Tryz.results87 Tryz.results88 Tryz.results89 Tryz.results90 Tryz.results91 Tryz.results92 Tryz.results93 Tryz.results94 Tryz.results95 Tryz.results96 Tryz.results97 Tryz.results98 Tryz.results99 Tryz.results100 Tryz.results101 Tryz.results102 Tryz.results103 Tryz.results104 Tryz.results105 Tryz.results106 Tryz.results107 Tryz.results108 Tryz.results109 Tryz.results110 Tryz.results111 Tryz.results112 Tryz.results113 Tryz.results114 Tryz.results115 Tryz.results116 Tryz.results117 Tryz.results118 Tryz.results119 Tryz.results121 Tryz.results122 Tryz.results123 Tryz.results124 Tryz.results125 Tryz.results126 Tryz.results127 Tryz.results128 Tryz.results129 Tryz.results130 Tryz.results131 Tryz.results132 Tryz.results133 Tryz.results134 Tryz.results135 Tryz.results136 Tryz.results137 Tryz.results138 Tryz.results139 Tryz.results140 Tryz.results141 Tryz.results143 Tryz.results144 Tryz.results145 Tryz.results146 Tryz.results147 Tryz.results148 Tryz.results149 Tryz.results150 Tryz.results151 Tryz.results152 Tryz.results153 Tryz.results154 Tryz.results155 Tryz.results156 Tryz.results157 Tryz.results158 Tryz.results159 Tryz.results160 Tryz.results161 Tryz.results162 Tryz.results163 Tryz.results164 Tryz.results165 Tryz.results166 Tryz.results167 Tryz.results168 Tryz.results169 Tryz.results170 Tryz.results171 Tryz.results172 Tryz.results173 Tryz.results174 Tryz.results175 Tryz.results176 Tryz.results177 Tryz.results178 Tryz.results179 Tryz.results180 Tryz.results181 Tryz.results182 Tryz.results183 Tryz.results184 Tryz.results185 Tryz.results186 Tryz.results187 Tryz.results188 Tryz.results189 Tryz.results190 Tryz.results191 Tryz.results192 Tryz.results193 Tryz.results194 Tryz.results195 Tryz.results196 Tryz.results197 Tryz.results198 Tryz.results199 Tryz.results200 Tryz.results201 Tryz.results202 Tryz.results203 Tryz.results204 Tryz.results205 Tryz.results206 Tryz.results207 Tryz.results208 Tryz.results209 Tryz.results210 Tryz.results211 Tryz.results212 Tryz.results213 Tryz.results214 Tryz.results215 Tryz.results216 Tryz.results217 Tryz.results218 Tryz.results219 Tryz.results220 Tryz.results221 Tryz.results222 Tryz.results223 Tryz.results224 Tryz.results225 Tryz.results226 Tryz.results227 Tryz.results228 Tryz.results229 Tryz.results230 Tryz.results231 Tryz.results232 Tryz.results233 Tryz.results234 Tryz.results235 Tryz.results236 Tryz.results237 Tryz.results238 Tryz.results239 Tryz.results240 Tryz.results241 Tryz.results242 Tryz.results243 Tryz.results244 Tryz.results245 Tryz.results246 Tryz.results247 Tryz.results248 Tryz.results249 Tryz.results250 Tryz.results251 Tryz.results252 Tryz.results253 Tryz.results255 Tryz.results256 Tryz.results257 Tryz.results258 Tryz.results259 Tryz.results260 Tryz.results292 Int.cast_ofNat_Int
abbrev int (n:Int):D:= .int .i64 n
abbrev ai (n:Int):V:= .d (.int .i64 n)
def bt (l:List az):List (List D):=l.map fun k=>[.str k]
def aX.enc:aX→List D
 | .mk k b i s l ks=>[Abs.D.int .i64 k,.bool b,Abs.D.int .i64 i,.str s,.sl (oM l),.sl (bt ks)]
where oM:List aX→List (List D)
 |[]=>[]
 |v::r=>v.enc::oM r
def Ex.enc:Ex→List D
 | .mk k nm v ar ks=>[Abs.D.int .i64 k,.str nm]++v.enc++[.sl (oM ar),.sl (bt ks)]
where oM:List Ex→List (List D)
 |[]=>[]
 |v::r=>v.enc::oM r
def Tk.enc (t:Tk):List D:=[Abs.D.int .i64 t.kind,.str t.text,Abs.D.int .i64 t.at_]
theorem aX.mh (l:List aX):aX.enc.oM l=l.map aX.enc:=by induction l<;>simp_all [aX.enc.oM]
theorem Ex.mh (l:List Ex):Ex.enc.oM l=l.map Ex.enc:=by induction l<;>simp_all [Ex.enc.oM]
theorem aX.aP (v:aX):v.enc=[Abs.D.int .i64 v.kind,.bool v.bool,Abs.D.int .i64 v.int,.str v.str,.sl (v.list.map aX.enc),.sl (bt v.keys)]:=by
 cases v;simp [aX.enc,aX.mh,aX.kind,aX.bool,aX.int,aX.str,aX.list,aX.keys]
theorem Ex.aP (e:Ex):e.enc=[Abs.D.int .i64 e.kind,.str e.name]++e.value.enc++[.sl (e.args.map Ex.enc),.sl (bt e.keys)]:=by
 cases e;simp [Ex.enc,Ex.mh,Ex.kind,Ex.name,Ex.value,Ex.args,Ex.keys]
theorem aX.dN (v:aX):v.enc.length=6:=by rw [aX.aP];rfl
theorem Ex.dN (e:Ex):e.enc.length=10:=by rw [Ex.aP];simp [aX.dN]
theorem Tk.dN (t:Tk):t.enc.length=3:=rfl
def vE (e:Ex):V:= .agg (e.enc.map .d)
def vV (v:aX):V:= .agg (v.enc.map .d)
def vT (t:Tk):V:= .agg (t.enc.map .d)
theorem Ij (e:Ex):(vE e).cells=some (e.enc.map .d):=rfl
theorem Ik (v:aX):(vV v).cells=some (v.enc.map .d):=rfl
theorem Il (t:Tk):(vT t).cells=some (t.enc.map .d):=rfl
theorem S5 (t:Tk):((t.enc.map V.d).all fun x=>x.one)=true:=rfl
theorem S6 (v:aX):((v.enc.map V.d).all fun x=>x.one)=true:=by rw [aX.aP];rfl
theorem Np (e:Ex):((e.enc.map V.d).all fun x=>x.one)=true:=by rw [Ex.aP,aX.aP];rfl
attribute [go_sem] S5 S6 Np
theorem Im (e:Ex):(vE e).share=vE e:=by simp [vE,jG,iM]
theorem Io (v:aX):(vV v).share=vV v:=by simp [vV,jG,iM]
theorem Ip (t:Tk):(vT t).share=vT t:=by simp [vT,jG,iM]
theorem Lm (e:Ex):V.agg (e.enc.map .d)=vE e:=rfl
theorem Ln (v:aX):V.agg (v.enc.map .d)=vV v:=rfl
theorem Lo (t:Tk):V.agg (t.enc.map .d)=vT t:=rfl
theorem YR (v:aX):(v.enc)[0]?=some (int v.kind):=by rw [aX.aP];rfl
theorem YS (v:aX):(v.enc)[1]?=some (.bool v.bool):=by rw [aX.aP];rfl
theorem YT (v:aX):(v.enc)[2]?=some (int v.int):=by rw [aX.aP];rfl
theorem YU (v:aX):(v.enc)[3]?=some (.str v.str):=by rw [aX.aP];rfl
theorem YV (v:aX):(v.enc)[4]?=some (.sl (v.list.map aX.enc)):=by rw [aX.aP];rfl
theorem YW (v:aX):(v.enc)[5]?=some (.sl (bt v.keys)):=by rw [aX.aP];rfl
theorem YX (e:Ex):(e.enc)[0]?=some (int e.kind):=by rw [Ex.aP];rfl
theorem YY (e:Ex):(e.enc)[1]?=some (.str e.name):=by rw [Ex.aP];rfl
theorem Eg2 (e:Ex):(e.enc)[2]?=some (int e.value.kind):=by rw [Ex.aP,aX.aP];rfl
theorem Eg4 (e:Ex):(e.enc)[4]?=some (int e.value.int):=by rw [Ex.aP,aX.aP];rfl
theorem YZ (e:Ex):(e.enc)[8]?=some (.sl (e.args.map Ex.enc)):=by rw [Ex.aP,aX.aP];rfl
theorem Y0 (e:Ex):(e.enc)[9]?=some (.sl (bt e.keys)):=by rw [Ex.aP,aX.aP];rfl
theorem Ev (e:Ex):(e.enc.drop 2).take 6=e.value.enc:=by rw [Ex.aP,aX.aP];rfl
theorem Y1 (e:Ex):((e.enc.map V.d).drop 2).take 6=e.value.enc.map .d:=by rw [←Ev];simp
theorem Ew (e:Ex):(e.enc).take 10=e.enc:=by rw [←Ex.dN e,aaP]
theorem Yb (e:Ex):(e.enc.map V.d).take 10=e.enc.map .d:=by rw [←Ex.dN e,←List.map_take,aaP]
theorem Vw (v:aX):(v.enc).take 6=v.enc:=by rw [←aX.dN v,aaP]
theorem Y2 (v:aX):(v.enc.map V.d).take 6=v.enc.map .d:=by rw [←aX.dN v,←List.map_take,aaP]
theorem Y3 (t:Tk):(t.enc)[0]?=some (int t.kind):=rfl
theorem Y4 (t:Tk):(t.enc)[1]?=some (.str t.text):=rfl
theorem Y5 (t:Tk):(t.enc)[2]?=some (int t.at_):=rfl
theorem Tw (t:Tk):(t.enc).take 3=t.enc:=rfl
theorem Y6 (t:Tk):(t.enc.map V.d).take 3=t.enc.map .d:=rfl
theorem ES (l:List D) (i:Nat):(l.map V.d)[i]?=(l[i]?).map .d:=by simp
theorem ZJ {α:Type} (f:α→List D) (sz:Nat) (h:∀ x,(f x).length=sz) (l:List α):cr sz (l.map f)=true:=by simp [cr,h]
theorem ET (l:List Ex):cr 10 (l.map Ex.enc)=true:=ZJ _ _ Ex.dN l
theorem EU (l:List aX):cr 6 (l.map aX.enc)=true:=ZJ _ _ aX.dN l
theorem EV (l:List Tk):cr 3 (l.map Tk.enc)=true:=ZJ _ _ Tk.dN l
theorem EW (l:List az):cr 1 (bt l)=true:=ZJ (fun k=>[D.str k]) 1 (fun _=>rfl) l
@[simp] theorem iP (l:List az):(bt l).length=l.length:=by simp [bt]
theorem Xh (es:List (List D)) (k:IntKind) (i:Int):cn Tryz.prog 23 (.d (.sl es)) (.d (.int k i))=wI (cr 4 es) es i:=di T.QE es k i
attribute [go_sem] Xh
theorem Xi (es:List (List D)) (k:IntKind) (i:Int):cn Tryz.prog 38 (.d (.sl es)) (.d (.int k i))=wI (cr 11 es) es i:=di T.QF es k i
attribute [go_sem] Xi
theorem Xj (es:List (List D)) (k:IntKind) (i:Int):cn Tryz.prog 41 (.d (.sl es)) (.d (.int k i))=wI (cr 6 es) es i:=di T.QG es k i
attribute [go_sem] Xj
theorem Xk (es:List (List D)) (k:IntKind) (i:Int):cn Tryz.prog 42 (.d (.sl es)) (.d (.int k i))=wI (cr 1 es) es i:=di T.QH es k i
attribute [go_sem] Xk
theorem Xl (es:List (List D)) (k:IntKind) (i:Int):cn Tryz.prog 45 (.d (.sl es)) (.d (.int k i))=wI (cr 10 es) es i:=di T.QI es k i
attribute [go_sem] Xl
theorem Xm (es:List (List D)) (k:IntKind) (i:Int):cn Tryz.prog 57 (.d (.sl es)) (.d (.int k i))=wI (cr 3 es) es i:=di T.QJ es k i
attribute [go_sem] Xm
theorem S7 (es:List (List D)) (k:IntKind) (i:Int):cn Tryz.prog 133 (.d (.sl es)) (.d (.int k i))=wI (cr 1 es) es i:=di T.Nj es k i
attribute [go_sem] S7
theorem Y7 {l:List az} {i:Int} (h0:0≤i) (h1:i.toNat<l.length):wI true (bt l) i=some (.ep [.str (l.getD i.toNat default)] 0):=CY (f:=fun k=>[D.str k]) h0 h1
attribute [go_sem] Y7
attribute [go_sem] Ij Ik Il Im Io Ip Lm Ln Lo YR YS YT YU YV YW YX YY Eg2 Eg4 YZ Y0 Ev Y1 Ew Yb Vw Y2 Y3 Y4 Y5 Tw Y6 ES aX.dN Ex.dN Tk.dN ET EU EV EW iP
end Go.Proofs.YthnoiikjfcnlhaaGreatDoor
end
section
set_option maxHeartbeats 8000000
namespace Go.Proofs.YthnoiikjfcnlhaaGreatDoor
open Go.Abs
attribute [local irreducible] AW OX cG GQ bK bO bz aY aa
variable {G:World→Nat→Prop}
abbrev vb (b:Bool):V:= .d (.bool b)
abbrev vs (s:az):V:= .d (.str s)
abbrev vc (c:UInt8):V:= .d (.int .u8 c.toNat)
abbrev b8 (G:World→Nat→Prop) (f:FuncId) (args:List V) (v:V):Prop:=∀ st,aa Tryz.prog G f args st (fun o s=>o= .ret v∧s=st)
theorem aO {a b:Bool} (h:a=true↔b=true):Out.ret (V.d (D.bool a))=Out.ret (V.d (D.bool b)):=by rw [abt.2 h]
theorem bA {k:IntKind} {a b:Int} (h:a=b):Out.ret (V.d (D.int k a))=Out.ret (V.d (D.int k b)):=by rw [h]
theorem eY (c:UInt8):b8 G 65 [vc c] (vb (bN c)):=by
 intro st
 refine aa.body Tryz.func65 rfl Tryz.ntmps65 (by simp) ?_
 (try refine Wk.aw fun _ ag=>?_);(repeat' (first|((first|refine Wk.hd ?_|refine Wk.i ?_);simp -implicitDefEqProofs only [go_sem,seval])|(refine ay (fun hc=>?_) (fun hc=>?_)<;>try omega)|refine Wk.ret fun _ _=>?_|(refine Wk.fin ‹_› ?_;refine ⟨?_,rfl⟩)|first|refine Wk.o ?_|refine Wk.q ‹_› ?_));all_goals (repeat subst ag)
 all_goals (refine aO ?_;simp only [bN,aal,reduceCtorEq,iff_false,false_iff,iff_true,true_iff];omega)
theorem ju (c:UInt8):b8 G 200 [vc c] (vb (bN c)):=by
 intro st
 refine aa.body Tryz.func200 rfl Tryz.ntmps200 (by simp) ?_
 (try refine Wk.aw fun _ ag=>?_);(repeat' (first|((first|refine Wk.hd ?_|refine Wk.i ?_);simp -implicitDefEqProofs only [go_sem,seval])|(refine ay (fun hc=>?_) (fun hc=>?_)<;>try omega)|refine Wk.ret fun _ _=>?_|(refine Wk.fin ‹_› ?_;refine ⟨?_,rfl⟩)|first|refine Wk.o ?_|refine Wk.q ‹_› ?_));all_goals (repeat subst ag)
 all_goals (refine aO ?_;simp only [bN,aal,reduceCtorEq,iff_false,false_iff,iff_true,true_iff];omega)
theorem mj (c:UInt8):b8 G 109 [vc c] (vb (bN c)):=by
 intro st
 refine aa.body Tryz.func109 rfl Tryz.ntmps109 (by simp) ?_
 (try refine Wk.aw fun _ ag=>?_);(repeat' (first|((first|refine Wk.hd ?_|refine Wk.i ?_);simp -implicitDefEqProofs only [go_sem,seval])|(refine ay (fun hc=>?_) (fun hc=>?_)<;>try omega)|refine Wk.ret fun _ _=>?_|(refine Wk.fin ‹_› ?_;refine ⟨?_,rfl⟩)|first|refine Wk.o ?_|refine Wk.q ‹_› ?_));all_goals (repeat subst ag)
 all_goals (refine aO ?_;simp only [bN,aal,reduceCtorEq,iff_false,false_iff,iff_true,true_iff];omega)
theorem fG (c:UInt8):b8 G 67 [vc c] (vb (isDigit c)):=by
 intro st
 refine aa.body Tryz.func67 rfl Tryz.ntmps67 (by simp) ?_
 (try refine Wk.aw fun _ ag=>?_);(repeat' (first|((first|refine Wk.hd ?_|refine Wk.i ?_);simp -implicitDefEqProofs only [go_sem,seval])|(refine ay (fun hc=>?_) (fun hc=>?_)<;>try omega)|refine Wk.ret fun _ _=>?_|(refine Wk.fin ‹_› ?_;refine ⟨?_,rfl⟩)|first|refine Wk.o ?_|refine Wk.q ‹_› ?_));all_goals (repeat subst ag)
 all_goals (refine aO ?_;simp only [isDigit,aal,reduceCtorEq,iff_false,false_iff,iff_true,true_iff];omega)
theorem jR (c:UInt8):b8 G 201 [vc c] (vb (isDigit c)):=by
 intro st
 refine aa.body Tryz.func201 rfl Tryz.ntmps201 (by simp) ?_
 (try refine Wk.aw fun _ ag=>?_);(repeat' (first|((first|refine Wk.hd ?_|refine Wk.i ?_);simp -implicitDefEqProofs only [go_sem,seval])|(refine ay (fun hc=>?_) (fun hc=>?_)<;>try omega)|refine Wk.ret fun _ _=>?_|(refine Wk.fin ‹_› ?_;refine ⟨?_,rfl⟩)|first|refine Wk.o ?_|refine Wk.q ‹_› ?_));all_goals (repeat subst ag)
 all_goals (refine aO ?_;simp only [isDigit,aal,reduceCtorEq,iff_false,false_iff,iff_true,true_iff];omega)
theorem dR (c:UInt8):b8 G 73 [vc c] (vb (isDigit c)):=by
 intro st
 refine aa.body Tryz.func73 rfl Tryz.ntmps73 (by simp) ?_
 (try refine Wk.aw fun _ ag=>?_);(repeat' (first|((first|refine Wk.hd ?_|refine Wk.i ?_);simp -implicitDefEqProofs only [go_sem,seval])|(refine ay (fun hc=>?_) (fun hc=>?_)<;>try omega)|refine Wk.ret fun _ _=>?_|(refine Wk.fin ‹_› ?_;refine ⟨?_,rfl⟩)|first|refine Wk.o ?_|refine Wk.q ‹_› ?_));all_goals (repeat subst ag)
 all_goals (refine aO ?_;simp only [isDigit,aal,reduceCtorEq,iff_false,false_iff,iff_true,true_iff];omega)
theorem uj (c:UInt8):b8 G 213 [vc c] (vb (isDigit c)):=by
 intro st
 refine aa.body Tryz.func213 rfl Tryz.ntmps213 (by simp) ?_
 (try refine Wk.aw fun _ ag=>?_);(repeat' (first|((first|refine Wk.hd ?_|refine Wk.i ?_);simp -implicitDefEqProofs only [go_sem,seval])|(refine ay (fun hc=>?_) (fun hc=>?_)<;>try omega)|refine Wk.ret fun _ _=>?_|(refine Wk.fin ‹_› ?_;refine ⟨?_,rfl⟩)|first|refine Wk.o ?_|refine Wk.q ‹_› ?_));all_goals (repeat subst ag)
 all_goals (refine aO ?_;simp only [isDigit,aal,reduceCtorEq,iff_false,false_iff,iff_true,true_iff];omega)
theorem ja (c:UInt8):b8 G 150 [vc c] (vb (isDigit c)):=by
 intro st
 refine aa.body Tryz.func150 rfl Tryz.ntmps150 (by simp) ?_
 (try refine Wk.aw fun _ ag=>?_);(repeat' (first|((first|refine Wk.hd ?_|refine Wk.i ?_);simp -implicitDefEqProofs only [go_sem,seval])|(refine ay (fun hc=>?_) (fun hc=>?_)<;>try omega)|refine Wk.ret fun _ _=>?_|(refine Wk.fin ‹_› ?_;refine ⟨?_,rfl⟩)|first|refine Wk.o ?_|refine Wk.q ‹_› ?_));all_goals (repeat subst ag)
 all_goals (refine aO ?_;simp only [isDigit,aal,reduceCtorEq,iff_false,false_iff,iff_true,true_iff];omega)
theorem OU (s:az):b8 G 188 [vs s] (vb (isWord s)):=by
 intro st
 refine aa.body Tryz.func188 rfl Tryz.ntmps188 (by simp) ?_
 (try refine Wk.aw fun _ ag=>?_);(repeat' (first|((first|refine Wk.hd ?_|refine Wk.i ?_);simp -implicitDefEqProofs only [go_sem,seval])|(refine ay (fun hc=>?_) (fun hc=>?_)<;>try omega)|refine Wk.ret fun _ _=>?_|(refine Wk.fin ‹_› ?_;refine ⟨?_,rfl⟩)|first|refine Wk.o ?_|refine Wk.q ‹_› ?_));all_goals (repeat subst ag)
 all_goals (refine aO ?_;simp_all [isWord])
theorem lf (s:az):b8 G 124 [vs s] (ai (bB s)):=by
 intro st
 refine aa.body Tryz.func124 rfl Tryz.ntmps124 (by simp) ?_
 (try with_reducible refine Wk.aw fun _ ag=>?_);(repeat' (first|((with_reducible refine Wk.i ?_);simp -implicitDefEqProofs (disch:=first|omega|(simp only [go_sem];try omega)) only [go_sem,seval])|(refine ay (fun hc=>?_) (fun hc=>?_)<;>try (exfalso;first|omega|contradiction))|with_reducible refine Wk.ret fun _ _=>?_|(refine Wk.fin ‹_› ?_;refine ⟨?_,rfl⟩)|with_reducible first|refine Wk.o ?_|refine Wk.q ‹_› ?_));all_goals (repeat subst ag)
 all_goals (refine bA ?_;first|(subst hc;rfl)|(simp only [bB, *];rfl))
theorem BC (s:az):b8 G 129 [vs s] (ai (bB s)):=by
 intro st
 refine aa.body Tryz.func129 rfl Tryz.ntmps129 (by simp) ?_
 (try with_reducible refine Wk.aw fun _ ag=>?_);(repeat' (first|((with_reducible refine Wk.i ?_);simp -implicitDefEqProofs (disch:=first|omega|(simp only [go_sem];try omega)) only [go_sem,seval])|(refine ay (fun hc=>?_) (fun hc=>?_)<;>try (exfalso;first|omega|contradiction))|with_reducible refine Wk.ret fun _ _=>?_|(refine Wk.fin ‹_› ?_;refine ⟨?_,rfl⟩)|with_reducible first|refine Wk.o ?_|refine Wk.q ‹_› ?_));all_goals (repeat subst ag)
 all_goals (refine bA ?_;first|(subst hc;rfl)|(simp only [bB, *];rfl))
theorem sn (c:UInt8):b8 G 67 [vc c] (vb (decide (48≤c.toNat∧c.toNat≤57))):=fG c
structure yR (G:World→Nat→Prop) (g:FuncId) (cls:UInt8→Bool):Prop where
 call:∀ args w,(callFunc g args).run Tryz.prog w= .ok (.enter g args) w
 Y8:∀ b,b8 G g [vc b] (vb (cls b))
def fA (cls:UInt8→Bool) (s:az) (i:Nat):Nat:=
 if i<s.length then if cls (s.getD i 0) then fA cls s (i+1) else i else i
termination_by s.length - i
theorem Lp {g:FuncId} {cls:UInt8→Bool} (hcl:yR G g cls) (s:az) (i:Nat) (hs:s.length≤1048576):b8 G 40 [vs s,ai i,.jE g []] (ai (fA cls s i)):=by
 intro st
 refine aa.body Tryz.func40 rfl Tryz.ntmps40 (by simp) ?_
 (try refine Wk.aw fun _ ag=>?_);(repeat' (first|((refine Wk.i ?_);simp -implicitDefEqProofs (disch:=omega) only [go_sem,seval])|refine Wk.o ?_));all_goals (repeat subst ag)
 refine AW.cD (fun j:Nat=>[(0,vs s),(1,ai j),(2,.jE g [])]) (fun _=>[]) (fun _=>[]) (fun j=>fA cls s j=fA cls s i) (fun j=>s.length - j) i (by simp -implicitDefEqProofs (disch:=omega) only [go_sem,seval]) (by simp -implicitDefEqProofs (disch:=omega) only [go_sem,seval]) rfl ?_
 intro j hw
 rw [fA] at hw
 (try refine Wk.aw fun _ ag=>?_);(repeat' (first|((first|refine Wk.hd ?_|refine Wk.i ?_);simp -implicitDefEqProofs (disch:=omega) only [go_sem,seval])|(refine ay (fun hc=>?_) (fun hc=>?_)<;>try omega)|refine QY hcl.call (ah (hcl.Y8 _ _) ?_)|refine Wk.ret fun _ _=>?_|(refine Wk.fin ‹_› ?_;refine ⟨?_,rfl⟩)|first|refine Wk.o ?_|refine Wk.q ‹_› ?_|refine Wk.sw fun _ ag=>?_));all_goals (repeat subst ag)
 ·(refine ⟨j+1,gk.mk ?_ ?_ ?_ (by simp -implicitDefEqProofs (disch:=omega) only [go_sem,seval]) (by simp -implicitDefEqProofs (disch:=omega) only [go_sem,seval]) (by first|rfl|(simp -implicitDefEqProofs (disch:=omega) only [go_sem,seval];all_goals omega)) (by first|rfl|(simp -implicitDefEqProofs (disch:=omega) only [go_sem,seval];all_goals omega))⟩;focus (try (simp -implicitDefEqProofs (disch:=omega) only [go_sem,seval]);try ((repeat' apply And.intro)<;>first|rfl|trivial|refine aD ?_|refine aE ?_|refine ax ?_|skip)))
  all_goals first|omega|simp_all
 all_goals simp_all
end Go.Proofs.YthnoiikjfcnlhaaGreatDoor
end
section
set_option maxHeartbeats 8000000
set_option maxRecDepth 20000
namespace Go.Proofs.YthnoiikjfcnlhaaGreatDoor
open Go.Abs
attribute [local irreducible] AW OX cG GQ bK bO bz aY aa
variable {G:World→Nat→Prop}
theorem drop_cons {s:az} {i:Nat} (h:i<s.length):s.drop i=s.getD i 0::s.drop (i+1):=by
 rw [aaO h];simp [aaj,h]
theorem jH (cls:UInt8→Bool) (s:az) (i:Nat):fA cls s i=i+((s.drop i).takeWhile cls).length:=by
 rw [fA]
 split
 ·rename_i h
  rw [drop_cons h,aaL]
  split
  ·rw [jH cls s (i+1)];simp;omega
  ·rfl
 ·rename_i h
  rw [aaI (by omega)];rfl
termination_by s.length - i
theorem so (cls:UInt8→Bool) (s:az) (i:Nat) (hi:i≤s.length):i+((s.drop i).takeWhile cls).length≤s.length:=by
 have:=(abn cls (l:=s.drop i)).length_le
 simp at this;omega
theorem mW (cls:UInt8→Bool) (s:az) (i:Nat):(s.take (i+((s.drop i).takeWhile cls).length)).drop i=(s.drop i).takeWhile cls:=by
 rw [List.drop_take,show i+((s.drop i).takeWhile cls).length - i=((s.drop i).takeWhile cls).length by omega]
 exact (List.prefix_iff_eq_take.1 (abn cls (l:=s.drop i))).symm
theorem C5 (cls:UInt8→Bool):∀ s:az,∀ c∈s.takeWhile cls,cls c=true
 |[],c,h=>by simp at h
 |a::r,c,h=>by
  rw [aaL] at h
  split at h
  ·rename_i ha
   rcases aaY.1 h with rfl|h
   ·exact ha
   ·exact C5 cls r c h
  ·simp at h
def Lq (i:Nat):pE→Tk
 | .ok k t _=>⟨k,t,i⟩
 | .err _=>MZ
def Lr (i:Nat):pE→Int
 | .ok _ _ n=>↑(i+n)
 | .err _=>0
def BD:pE→Int
 | .ok _ _ _=>0
 | .err e=>e
abbrev BE (i:Nat) (r:pE):V:= .cF [vT (Lq i r),ai (Lr i r),ai (BD r)]
theorem yU:yR G 67 isDigit:=⟨Tryz.call67,fG⟩
theorem Ls (c:UInt8):b8 G 96 [vc c] (vb (b9 c)):=by
 intro st
 refine aa.body Tryz.func96 rfl Tryz.ntmps96 (by simp) ?_
 (try refine Wk.aw fun _ ag=>?_);(repeat' (first|((first|refine Wk.hd ?_|refine Wk.i ?_);simp -implicitDefEqProofs only [go_sem,seval])|(refine ay (fun hc=>?_) (fun hc=>?_)<;>try omega)|refine ah (eY _ _) ?_|refine ah (fG _ _) ?_|refine Wk.ret fun _ _=>?_|(refine Wk.fin ‹_› ?_;refine ⟨?_,rfl⟩)|first|refine Wk.o ?_|refine Wk.q ‹_› ?_));all_goals (repeat subst ag)
 all_goals simp_all [b9]
theorem yV:yR G 96 b9:=⟨Tryz.call96,Ls⟩
theorem sq {g:FuncId} {cls:UInt8→Bool} (hcl:yR G g cls) (s:az) (i:Nat) (hs:s.length≤1048576):b8 G 40 [vs s,ai i,.jE g []] (ai ↑(i+((s.drop i).takeWhile cls).length)):=by
 rw [←jH];exact Lp hcl s i hs
theorem wW (s:az) (i:Nat) (hs:s.length≤1048576) (hi:i≤s.length):b8 G 66 [vs s,ai i] (BE i (lZ (s.drop i))):=by
 intro st
 have h1:=so b9 s i hi
 refine aa.body Tryz.func66 rfl Tryz.ntmps66 (by simp) ?_
 (try refine Wk.aw fun _ ag=>?_);(repeat' (first|((first|refine Wk.hd ?_|refine Wk.i ?_);simp -implicitDefEqProofs (disch:=omega) only [go_sem,seval,mW])|(refine ay (fun hc=>?_) (fun hc=>?_)<;>try omega)|refine ah (sq yV _ _ hs _) ?_|refine Wk.ret fun _ _=>?_|(refine Wk.fin ‹_› ?_;refine ⟨?_,rfl⟩)|first|refine Wk.o ?_|refine Wk.q ‹_› ?_));all_goals (repeat subst ag)
 ·rw [lZ,if_pos (by omega)];rfl
 ·rw [lZ,if_neg (by omega)];rfl
theorem lg (t:az) (i:Nat) (h:i<t.length):cZ (t.take (i+1))=10*cZ (t.take i)+((t.getD i 0).toNat - 48):=by
 unfold cZ
 rw [List.take_succ_eq_append_getElem h,List.foldl_append]
 simp [aaj,h]
theorem yW (t:az) (i:Nat):cZ (t.take i)≤cZ t:=by
 have key:∀ (l:az) (a b:Nat),a≤b→a≤l.foldl (fun n c=>10*n+(c.toNat - 48)) b:=by
  intro l
  induction l with
  |nil=>intro a b h;exact h
  |cons c r ih=>intro a b h;exact ih a _ (by show a≤10*b+_;omega)
 unfold cZ
 conv=>rhs;rw [←abx i t,List.foldl_append]
 exact key _ _ _ (aan _)
theorem gm (c:UInt8):isDigit c=true↔48≤c.toNat∧c.toNat≤57:=by simp [isDigit]
theorem kJ {t:az} {i:Nat} (h:i<t.length):t.getD i 0∈t:=by simp [aaj,h]
theorem Lt (t:az) (hs:t.length≤1048576) (hd:∀ c∈t,isDigit c=true):b8 G 97 [vs t] (vb (decide (9007199254740992<cZ t))):=by
 intro st
 refine aa.body Tryz.func97 rfl Tryz.ntmps97 (by simp) ?_
 (try refine Wk.aw fun _ ag=>?_);(repeat' (first|((refine Wk.i ?_);simp -implicitDefEqProofs (disch:=omega) only [go_sem,seval])|refine Wk.o ?_));all_goals (repeat subst ag)
 refine AW.cD (fun i:Nat=>[(0,vs t),(3,ai ↑(cZ (t.take i))),(4,ai ↑i)]) (fun _=>[]) (fun _=>[]) (fun i=>i≤t.length∧cZ (t.take i)≤90071992547409929) (fun i=>t.length - i) 0 (by simp -implicitDefEqProofs (disch:=omega) only [go_sem,seval]) (by simp -implicitDefEqProofs (disch:=omega) only [go_sem,seval];rfl) ⟨by omega,by simp [cZ]⟩ ?_
 intro i ⟨hi,hn⟩
 have h1:=lg t i
 have h2:=fun h:i<t.length=>(gm _).1 (hd _ (kJ h))
 have h3:=yW t i
 (try refine Wk.aw fun _ ag=>?_);(repeat' (first|((first|refine Wk.hd ?_|refine Wk.i ?_);simp -implicitDefEqProofs (disch:=omega) only [go_sem,seval])|(refine ay (fun hc=>?_) (fun hc=>?_)<;>try omega)|refine Wk.ret fun _ _=>?_|(refine Wk.fin ‹_› ?_;refine ⟨?_,rfl⟩)|first|refine Wk.o ?_|refine Wk.q ‹_› ?_|refine Wk.sw fun _ ag=>?_));all_goals (repeat subst ag)
 ·have h1:=h1 ‹_›
  have h2:=h2 ‹_›
  (refine ⟨i+1,gk.mk ?_ ?_ ?_ (by simp -implicitDefEqProofs (disch:=omega) only [go_sem,seval]) (by simp -implicitDefEqProofs (disch:=omega) only [go_sem,seval]) (by first|rfl|(simp -implicitDefEqProofs (disch:=omega) only [go_sem,seval];all_goals omega)) (by first|rfl|(simp -implicitDefEqProofs (disch:=omega) only [go_sem,seval];all_goals omega))⟩;focus (try (simp -implicitDefEqProofs (disch:=omega) only [go_sem,seval]);try ((repeat' apply And.intro)<;>first|rfl|trivial|refine aD ?_|refine aE ?_|refine ax ?_|skip)))
  all_goals omega
 all_goals (refine aO ?_;simp only [aal,reduceCtorEq,iff_false,false_iff,iff_true,true_iff])
 ·omega
 ·have:i=t.length:=by omega
  subst this
  rw [aaP]
  omega
theorem hU (s:az) (i:Nat):(s.drop i).length=s.length - i:=by simp
theorem fH (s:az) (i k:Nat):(s.drop i).getD k 0=s.getD (i+k) 0:=by simp [aaj]
theorem sr (s:az) (i:Nat) (hs:s.length≤1048576) (hi:i≤s.length):b8 G 68 [vs s,ai i] (BE i (vU (s.drop i))):=by
 intro st
 have h1:=so isDigit s i hi
 have h2:=C5 isDigit (s.drop i)
 have h3:=fH s i
 have hsl:=mW isDigit s i
 generalize ht:(s.drop i).takeWhile isDigit=t at h1 h2 hsl
 have hl:t.length≤1048576:=by omega
 have hd:=hU s i
 refine aa.body Tryz.func68 rfl Tryz.ntmps68 (by simp) ?_
 (try refine Wk.aw fun _ ag=>?_);(repeat' (first|((first|refine Wk.hd ?_|refine Wk.i ?_);simp -implicitDefEqProofs (disch:=omega) only [go_sem,seval,hsl,ht])|(refine ay (fun hc=>?_) (fun hc=>?_)<;>try omega)|refine ah (sq yU _ _ hs _) ?_|refine ah (eY _ _) ?_|refine ah (Lt _ hl h2 _) ?_|refine Wk.ret fun _ _=>?_|(refine Wk.fin ‹_› ?_;refine ⟨?_,rfl⟩)|first|refine Wk.o ?_|refine Wk.q ‹_› ?_));all_goals (repeat subst ag)
 all_goals (try simp -implicitDefEqProofs (disch:=first|assumption|omega) only [vU,ht,hd,h3,if_pos,if_neg]);all_goals first|rfl|((repeat' split)<;>first|rfl|(exfalso;omega)|grind|skip)
theorem oO (c:UInt8): -1≤qT c∧qT c≤15:=by
 unfold qT
 have:=gm c
 split
 ·have:=this.1 ‹_›;omega
 ·split
  ·omega
  ·split<;>omega
theorem uY {c:UInt8} (h:48≤c.toNat∧c.toNat≤57):isDigit c=true:=(gm c).2 h
theorem pP {c:UInt8} (h:¬ (48≤c.toNat∧c.toNat≤57)):isDigit c=false:=by
 rw [aaM];exact fun h'=>h ((gm c).1 h')
theorem qz (c:UInt8):b8 G 131 [vc c] (ai (qT c)):=by
 intro st
 refine aa.body Tryz.func131 rfl Tryz.ntmps131 (by simp) ?_
 (try refine Wk.aw fun _ ag=>?_);(repeat' (first|((first|refine Wk.hd ?_|refine Wk.i ?_);simp -implicitDefEqProofs (disch:=omega) only [go_sem,seval])|(refine ay (fun hc=>?_) (fun hc=>?_)<;>try omega)|refine ah (sn _ _) ?_|refine Wk.ret fun _ _=>?_|(refine Wk.fin ‹_› ?_;refine ⟨?_,rfl⟩)|first|refine Wk.o ?_|refine Wk.q ‹_› ?_));all_goals (repeat subst ag)
 all_goals (refine bA ?_;unfold qT;first|rw [uY (by assumption)]|rw [pP (by assumption)])
 all_goals (repeat' split)
 all_goals first|omega|simp_all
def EX:Gd→V
 | .ok c n=> .cF [vc c,ai n]
 | .err _=> .cF [vc 0,ai 0]
theorem yX {n:Int} (h0:0≤n) (h1:n≤255):((UInt8.ofNat n.toNat).toNat:Int)=n:=by
 simp only [UInt8.toNat_ofNat'];omega
def su (r:az):Bool:=decide (r.length=0∨(r.length=1∧(r.getD 0 0).toNat=120)∨(r.length=2∧(r.getD 0 0).toNat=120∧0≤qT (r.getD 1 0)))
theorem BF {r:az} {e:Int} (h:nQ r= .err e):e=4∧su r=true∨e=5∧su r=false:=by
 simp only [nQ] at h
 simp only [su,aal,aaG]
 have hx:=oO (r.getD 1 0)
 repeat' split at h
 all_goals (cases h;try omega)
theorem EY (r:az):(r=[])=(r.length=0):=by cases r<;>simp
theorem Xn (r:az):(r=[120])=(r.length=1∧(r.getD 0 0).toNat=120):=by
 match r with
 |[]=>simp
 |[x]=>
  simp only [aaH,aa0,true_and,aa8,and_true]
  exact propext ⟨fun h=>by rw [h];rfl,fun h=>aby.1 (by rw [h];rfl)⟩
 |x::y::z=>simp
theorem Lu (s:az) (i:Nat) (hs:s.length≤1048576) (hi:i<s.length):b8 G 99 [vs s,ai i] (vb (su (s.drop (i+1)))):=by
 intro st
 have ht:s.take s.length=s:=aaP
 have hd:=hU s (i+1)
 generalize hr:s.drop (i+1)=r at hd
 refine aa.body Tryz.func99 rfl Tryz.ntmps99 (by simp) ?_
 (try refine Wk.aw fun _ ag=>?_);(repeat' (first|((first|refine Wk.hd ?_|refine Wk.i ?_);simp -implicitDefEqProofs (disch:=omega) only [go_sem,seval,ht,hr,EY,Xn])|(refine ay (fun hc=>?_) (fun hc=>?_)<;>try omega)|refine ah (qz _ _) ?_|refine Wk.ret fun _ _=>?_|(refine Wk.fin ‹_› ?_;refine ⟨?_,rfl⟩)|first|refine Wk.o ?_|refine Wk.q ‹_› ?_));all_goals (repeat subst ag)
 all_goals (refine aO ?_;simp only [su,aal,reduceCtorEq,iff_false,false_iff,iff_true,true_iff])
 all_goals omega
theorem oa (s:az):isName s=true↔s.length≤64∧1≤s.length∧∀ k,k<s.length→(bN (s.getD k 0)||(decide (k≠0)&&isDigit (s.getD k 0)))=true:=by
 cases s with
 |nil=>simp [isName]
 |cons c r=>
  simp only [isName,aap,aal,aah,aaz]
  constructor
  ·rintro ⟨h1,h2,h3⟩
   refine ⟨h1,by omega,fun k hk=>?_⟩
   cases k with
   |zero=>simp [h2]
   |succ k=>
    have:=h3 _ (kJ (t:=r) (i:=k) (by omega))
    simp only [b9] at this
    simpa using this
  ·rintro ⟨h1,_,h3⟩
   refine ⟨h1,?_,fun x hx=>?_⟩
   ·simpa using h3 0 (by omega)
   ·obtain ⟨k,hk,rfl⟩:=aaT.1 hx
    have:=h3 (k+1) (by omega)
    simp only [b9]
    simpa [aaj,hk] using this
theorem jS {s:az} (h:¬ (s.length≤64∧1≤s.length∧∀ k,k<s.length→(bN (s.getD k 0)||(decide (k≠0)&&isDigit (s.getD k 0)))=true)):isName s=false:=by
 rw [aaM];exact fun h'=>h ((oa s).1 h')
theorem sy (s:az) (hs:s.length≤1048576):b8 G 82 [vs s] (vb (isName s)):=by
 intro st
 refine aa.body Tryz.func82 rfl Tryz.ntmps82 (by simp) ?_
 (try refine Wk.aw fun _ ag=>?_);(repeat' (first|((refine Wk.i ?_);simp -implicitDefEqProofs (disch:=omega) only [go_sem,seval])|refine Wk.o ?_));all_goals (repeat subst ag)
 refine AW.cD (fun n:Nat=>[(0,vs s),(3,ai ↑n)]) (fun _=>[]) (fun _=>[]) (fun n=>n≤s.length∧∀ k,k<n→(bN (s.getD k 0)||(decide (k≠0)&&isDigit (s.getD k 0)))=true) (fun n=>s.length - n) 0 (by simp -implicitDefEqProofs (disch:=omega) only [go_sem,seval]) (by simp -implicitDefEqProofs (disch:=omega) only [go_sem,seval]) ⟨by omega,by omega⟩ ?_
 intro n ⟨hn,hr⟩
 have hstep:(bN (s.getD n 0)||(decide (n≠0)&&isDigit (s.getD n 0)))=true→∀ k,k<n+1→(bN (s.getD k 0)||(decide (k≠0)&&isDigit (s.getD k 0)))=true:=fun h k hk=>by
  by_cases hkn:k=n
  ·subst hkn;exact h
  ·exact hr k (by omega)
 (try refine Wk.aw fun _ ag=>?_);(repeat' (first|((first|refine Wk.hd ?_|refine Wk.i ?_);simp -implicitDefEqProofs (disch:=omega) only [go_sem,seval])|(refine ay (fun hc=>?_) (fun hc=>?_)<;>try omega)|refine ah (dR _ _) ?_|refine ah (mj _ _) ?_|refine Wk.ret fun _ _=>?_|(refine Wk.fin ‹_› ?_;refine ⟨?_,rfl⟩)|first|refine Wk.o ?_|refine Wk.q ‹_› ?_|refine Wk.sw fun _ ag=>?_));all_goals (repeat subst ag)
 ·refine aO ?_
  rw [jS fun h=>?_]
  have:=h.2.2 n (by assumption)
  have h0:n=0:=by omega
  subst h0
  simp_all
 ·refine aO ?_
  rw [jS fun h=>?_]
  have:=h.2.2 n (by assumption)
  simp_all
 ·(refine ⟨n+1,gk.mk ?_ ?_ ?_ (by simp -implicitDefEqProofs (disch:=omega) only [go_sem,seval]) (by simp -implicitDefEqProofs (disch:=omega) only [go_sem,seval]) (by first|rfl|(simp -implicitDefEqProofs (disch:=omega) only [go_sem,seval];all_goals omega)) (by first|rfl|(simp -implicitDefEqProofs (disch:=omega) only [go_sem,seval];all_goals omega))⟩;focus (try (simp -implicitDefEqProofs (disch:=omega) only [go_sem,seval]);try ((repeat' apply And.intro)<;>first|rfl|trivial|refine aD ?_|refine aE ?_|refine ax ?_|skip)))
  ·refine ⟨by omega,hstep ?_⟩
   have h0:n≠0:=by omega
   simp_all
  ·omega
 ·(refine ⟨n+1,gk.mk ?_ ?_ ?_ (by simp -implicitDefEqProofs (disch:=omega) only [go_sem,seval]) (by simp -implicitDefEqProofs (disch:=omega) only [go_sem,seval]) (by first|rfl|(simp -implicitDefEqProofs (disch:=omega) only [go_sem,seval];all_goals omega)) (by first|rfl|(simp -implicitDefEqProofs (disch:=omega) only [go_sem,seval];all_goals omega))⟩;focus (try (simp -implicitDefEqProofs (disch:=omega) only [go_sem,seval]);try ((repeat' apply And.intro)<;>first|rfl|trivial|refine aD ?_|refine aE ?_|refine ax ?_|skip)))
  ·refine ⟨by omega,hstep ?_⟩
   simp_all
  ·omega
 ·refine aO ?_
  rw [oa,aal]
  have:n=s.length:=by omega
  subst this
  exact ⟨fun h=>⟨by omega,by omega,hr⟩,fun h=>by omega⟩
 ·refine aO ?_
  rw [jS fun h=>by omega]
theorem BI (sz:Nat) (r:List D):dA sz [r]=(r.length==sz&&r.all D.one&&true):=rfl
theorem wu (k:IntKind) (i:Int):D.one (.int k i)=true:=rfl
theorem wv (s:az):D.one (.str s)=true:=rfl
theorem r8 (b:Bool):D.one (.bool b)=true:=rfl
theorem A8 (l:List (List D)):D.one (.sl l)=true:=rfl
attribute [go_sem] BI wu wv r8 A8
theorem Lv {r:az} {c:UInt8} {n:Nat} (h:nQ r= .ok c n):2≤n∧n≤r.length+1:=by
 simp only [nQ] at h
 repeat' split at h
 all_goals (cases h;try omega)
theorem ob {s:az} {c:UInt8} {n:Nat} (h:tW s= .ok c n) (hs:0<s.length):1≤n∧n≤s.length:=by
 simp only [tW] at h
 split at h
 ·cases h
 ·split at h
  ·cases h;omega
  ·have:=Lv h;simp at this;omega
theorem Iw {r:az} {e:Int} (h:nQ r= .err e):e=4∨e=5:=by
 simp only [nQ] at h
 repeat' split at h
 all_goals (cases h;try omega)
theorem C6 {s:az} {e:Int} (h:tW s= .err e):e=4∨e=5:=by
 simp only [tW] at h
 split at h
 ·cases h;omega
 ·split at h
  ·cases h
  ·exact Iw h
theorem E5:∀ (f:Nat) (r acc:az) (n:Nat),r.length≤f→Az (f+1) r acc n=Az (r.length+1) r acc n:=by
 intro f
 induction f using Nat.strongRecOn with
 |_ f ih=>
  intro r acc n hf
  cases r with
  |nil=>rfl
  |cons c r=>
   simp only [Az]
   split
   ·rfl
   ·cases hch:tW (c::r) with
    |err e=>rfl
    |ok b k=>
     have hk:=ob hch (by simp)
     simp only [aah] at hk hf ⊢
     obtain ⟨f,rfl⟩:∃ g,f=g+1:=⟨f - 1,by omega⟩
     have hl:((c::r).drop k).length=r.length+1 - k:=by simp
     rw [ih f (by omega) _ _ _ (by omega),ih r.length (by omega) _ _ _ (by omega)]
def lq (r acc:az) (n:Nat):pE:=Az (r.length+1) r acc n
theorem jk (acc:az) (n:Nat):lq [] acc n= .err 4:=rfl
theorem kL (c:UInt8) (r acc:az) (n:Nat):lq (c::r) acc n=if c.toNat=34 then (if 4096<acc.length then .err 3 else .ok 3 acc (n+1)) else match tW (c::r) with
  | .err e=> .err e
  | .ok b k=>lq ((c::r).drop k) (acc++[b]) (n+k):=by
 rw [lq,aah]
 simp only [Az]
 split
 ·rfl
 ·cases hch:tW (c::r) with
  |err e=>rfl
  |ok b k=>
   have hk:=ob hch (by simp)
   have hl:((c::r).drop k).length=r.length+1 - k:=by simp
   exact E5 r.length _ _ _ (by omega)
end Go.Proofs.YthnoiikjfcnlhaaGreatDoor
end
