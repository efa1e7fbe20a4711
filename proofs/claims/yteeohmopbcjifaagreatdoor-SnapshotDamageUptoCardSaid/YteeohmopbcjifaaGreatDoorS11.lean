import Derived.Test.YteeohmopbcjifaaGreatDoorS1
import Derived.Test.YteeohmopbcjifaaGreatDoorS10
set_option linter.unusedSimpArgs false
set_option linter.unusedVariables false
section
namespace Go.Proofs.YteeohmopbcjifaaGreatDoor
open Tryz
open Go.Abs
theorem mx:Tryz.prog.follows .mixedOrders=true:=Tryz.checked.mixed
theorem en4 (p:Prop):b7 prog 4 p=p:=ak (by kernel_rfl) p
theorem en5 (p:Prop):b7 prog 5 p=p:=ak (by kernel_rfl) p
theorem en6 (p:Prop):b7 prog 6 p=p:=ak (by kernel_rfl) p
theorem en7 (p:Prop):b7 prog 7 p=p:=ak (by kernel_rfl) p
theorem en8 (p:Prop):b7 prog 8 p=p:=ak (by kernel_rfl) p
theorem YQ (p:Prop):b7 prog 9 p=p:=ak (by kernel_rfl) p
theorem VX (p:Prop):b7 prog 10 p=p:=ak (by kernel_rfl) p
theorem VY (p:Prop):b7 prog 11 p=p:=ak (by kernel_rfl) p
theorem VZ (p:Prop):b7 prog 12 p=p:=ak (by kernel_rfl) p
theorem en13 (p:Prop):b7 prog 13 p=p:=ak (by kernel_rfl) p
theorem V0 (p:Prop):b7 prog 14 p=p:=ak (by kernel_rfl) p
theorem V1 (p:Prop):b7 prog 15 p=p:=ak (by kernel_rfl) p
theorem V2 (p:Prop):b7 prog 16 p=p:=ak (by kernel_rfl) p
theorem en17 (p:Prop):b7 prog 17 p=p:=ak (by kernel_rfl) p
theorem V3 (p:Prop):b7 prog 18 p=p:=ak (by kernel_rfl) p
theorem en19 (p:Prop):b7 prog 19 p=p:=ak (by kernel_rfl) p
theorem V4 (p:Prop):b7 prog 20 p=p:=ak (by kernel_rfl) p
theorem V5 (p:Prop):b7 prog 21 p=p:=ak (by kernel_rfl) p
theorem en22 (p:Prop):b7 prog 22 p=p:=ak (by kernel_rfl) p
theorem en23 (p:Prop):b7 prog 23 p=p:=ak (by kernel_rfl) p
theorem V6 (p:Prop):b7 prog 24 p=p:=ak (by kernel_rfl) p
theorem V7 (p:Prop):b7 prog 25 p=p:=ak (by kernel_rfl) p
theorem V8 (p:Prop):b7 prog 26 p=p:=ak (by kernel_rfl) p
theorem V9 (p:Prop):b7 prog 27 p=p:=ak (by kernel_rfl) p
theorem Wa (p:Prop):b7 prog 28 p=p:=ak (by kernel_rfl) p
theorem Wb (p:Prop):b7 prog 29 p=p:=ak (by kernel_rfl) p
theorem Wc (p:Prop):b7 prog 30 p=p:=ak (by kernel_rfl) p
theorem Wd (p:Prop):b7 prog 31 p=p:=ak (by kernel_rfl) p
theorem We (p:Prop):b7 prog 32 p=p:=ak (by kernel_rfl) p
theorem Wf (p:Prop):b7 prog 33 p=p:=ak (by kernel_rfl) p
theorem en34 (p:Prop):b7 prog 34 p=p:=ak (by kernel_rfl) p
theorem Wg (p:Prop):b7 prog 35 p=p:=ak (by kernel_rfl) p
theorem Wh (p:Prop):b7 prog 36 p=p:=ak (by kernel_rfl) p
theorem Wi (p:Prop):b7 prog 37 p=p:=ak (by kernel_rfl) p
theorem en38 (p:Prop):b7 prog 38 p=p:=ak (by kernel_rfl) p
theorem Wj (p:Prop):b7 prog 39 p=p:=ak (by kernel_rfl) p
theorem en40 (p:Prop):b7 prog 40 p=p:=ak (by kernel_rfl) p
theorem en41 (p:Prop):b7 prog 41 p=p:=ak (by kernel_rfl) p
theorem Wn (p:Prop):b7 prog 42 p=p:=ak (by kernel_rfl) p
theorem Wo (p:Prop):b7 prog 43 p=p:=ak (by kernel_rfl) p
theorem en44 (p:Prop):b7 prog 44 p=p:=ak (by kernel_rfl) p
theorem Wp (p:Prop):b7 prog 45 p=p:=ak (by kernel_rfl) p
theorem Wq (p:Prop):b7 prog 46 p=p:=ak (by kernel_rfl) p
theorem Wr (p:Prop):b7 prog 47 p=p:=ak (by kernel_rfl) p
theorem Ws (p:Prop):b7 prog 48 p=p:=ak (by kernel_rfl) p
theorem Wu (p:Prop):b7 prog 49 p=p:=ak (by kernel_rfl) p
theorem Wv (p:Prop):b7 prog 50 p=p:=ak (by kernel_rfl) p
theorem Ww (p:Prop):b7 prog 51 p=p:=ak (by kernel_rfl) p
theorem Wx (p:Prop):b7 prog 52 p=p:=ak (by kernel_rfl) p
theorem Wy (p:Prop):b7 prog 53 p=p:=ak (by kernel_rfl) p
theorem Wz (p:Prop):b7 prog 54 p=p:=ak (by kernel_rfl) p
theorem WA (p:Prop):b7 prog 55 p=p:=ak (by kernel_rfl) p
theorem WB (p:Prop):b7 prog 56 p=p:=ak (by kernel_rfl) p
theorem WC (p:Prop):b7 prog 57 p=p:=ak (by kernel_rfl) p
theorem WD (p:Prop):b7 prog 58 p=p:=ak (by kernel_rfl) p
theorem en59 (p:Prop):b7 prog 59 p=p:=ak (by kernel_rfl) p
theorem en60 (p:Prop):b7 prog 60 p=p:=ak (by kernel_rfl) p
theorem en61 (p:Prop):b7 prog 61 p=p:=ak (by kernel_rfl) p
theorem WE (p:Prop):b7 prog 62 p=p:=ak (by kernel_rfl) p
theorem WG (p:Prop):b7 prog 63 p=p:=ak (by kernel_rfl) p
theorem en64 (p:Prop):b7 prog 64 p=p:=ak (by kernel_rfl) p
theorem WH (p:Prop):b7 prog 65 p=p:=ak (by kernel_rfl) p
theorem WI (p:Prop):b7 prog 66 p=p:=ak (by kernel_rfl) p
theorem WJ (p:Prop):b7 prog 67 p=p:=ak (by kernel_rfl) p
theorem WK (p:Prop):b7 prog 68 p=p:=ak (by kernel_rfl) p
theorem WL (p:Prop):b7 prog 69 p=p:=ak (by kernel_rfl) p
theorem WM (p:Prop):b7 prog 70 p=p:=ak (by kernel_rfl) p
theorem en71 (p:Prop):b7 prog 71 p=p:=ak (by kernel_rfl) p
theorem WN (p:Prop):b7 prog 72 p=p:=ak (by kernel_rfl) p
theorem WO (p:Prop):b7 prog 73 p=p:=ak (by kernel_rfl) p
theorem WQ (p:Prop):b7 prog 74 p=p:=ak (by kernel_rfl) p
theorem WR (p:Prop):b7 prog 75 p=p:=ak (by kernel_rfl) p
theorem WS (p:Prop):b7 prog 76 p=p:=ak (by kernel_rfl) p
theorem WT (p:Prop):b7 prog 77 p=p:=ak (by kernel_rfl) p
theorem WU (p:Prop):b7 prog 78 p=p:=ak (by kernel_rfl) p
theorem WW (p:Prop):b7 prog 80 p=p:=ak (by kernel_rfl) p
theorem WX (p:Prop):b7 prog 81 p=p:=ak (by kernel_rfl) p
theorem WY (p:Prop):b7 prog 82 p=p:=ak (by kernel_rfl) p
theorem WZ (p:Prop):b7 prog 83 p=p:=ak (by kernel_rfl) p
theorem W4 (p:Prop):b7 prog 84 p=p:=ak (by kernel_rfl) p
theorem W5 (p:Prop):b7 prog 85 p=p:=ak (by kernel_rfl) p
theorem W6 (p:Prop):b7 prog 86 p=p:=ak (by kernel_rfl) p
theorem W7 (p:Prop):b7 prog 87 p=p:=ak (by kernel_rfl) p
theorem W8 (p:Prop):b7 prog 88 p=p:=ak (by kernel_rfl) p
theorem W9 (p:Prop):b7 prog 89 p=p:=ak (by kernel_rfl) p
theorem Xa (p:Prop):b7 prog 90 p=p:=ak (by kernel_rfl) p
theorem en91 (p:Prop):b7 prog 91 p=p:=ak (by kernel_rfl) p
theorem en92 (p:Prop):b7 prog 92 p=p:=ak (by kernel_rfl) p
theorem Xb (p:Prop):b7 prog 93 p=p:=ak (by kernel_rfl) p
theorem Xc (p:Prop):b7 prog 94 p=p:=ak (by kernel_rfl) p
theorem Xd (p:Prop):b7 prog 95 p=p:=ak (by kernel_rfl) p
theorem en96 (p:Prop):b7 prog 96 p=p:=ak (by kernel_rfl) p
theorem Xe (p:Prop):b7 prog 97 p=p:=ak (by kernel_rfl) p
theorem Xf (p:Prop):b7 prog 98 p=p:=ak (by kernel_rfl) p
theorem Xg (p:Prop):b7 prog 99 p=p:=ak (by kernel_rfl) p
theorem Q5 (p:Prop):b7 prog 100 p=p:=ak (by kernel_rfl) p
theorem Q6 (p:Prop):b7 prog 101 p=p:=ak (by kernel_rfl) p
theorem Q7 (p:Prop):b7 prog 102 p=p:=ak (by kernel_rfl) p
theorem Q8 (p:Prop):b7 prog 103 p=p:=ak (by kernel_rfl) p
theorem Q9 (p:Prop):b7 prog 104 p=p:=ak (by kernel_rfl) p
theorem Ra (p:Prop):b7 prog 105 p=p:=ak (by kernel_rfl) p
theorem Rb (p:Prop):b7 prog 106 p=p:=ak (by kernel_rfl) p
theorem Rc (p:Prop):b7 prog 107 p=p:=ak (by kernel_rfl) p
theorem Rd (p:Prop):b7 prog 108 p=p:=ak (by kernel_rfl) p
theorem Re (p:Prop):b7 prog 109 p=p:=ak (by kernel_rfl) p
theorem Rf (p:Prop):b7 prog 110 p=p:=ak (by kernel_rfl) p
theorem Rg (p:Prop):b7 prog 111 p=p:=ak (by kernel_rfl) p
theorem Rh (p:Prop):b7 prog 112 p=p:=ak (by kernel_rfl) p
theorem Ri (p:Prop):b7 prog 113 p=p:=ak (by kernel_rfl) p
theorem Rj (p:Prop):b7 prog 114 p=p:=ak (by kernel_rfl) p
theorem Rk (p:Prop):b7 prog 115 p=p:=ak (by kernel_rfl) p
theorem Rm (p:Prop):b7 prog 116 p=p:=ak (by kernel_rfl) p
theorem en117 (p:Prop):b7 prog 117 p=p:=ak (by kernel_rfl) p
theorem Ro (p:Prop):b7 prog 118 p=p:=ak (by kernel_rfl) p
theorem en119 (p:Prop):b7 prog 119 p=p:=ak (by kernel_rfl) p
theorem en120 (p:Prop):b7 prog 120 p=p:=ak (by kernel_rfl) p
theorem Rp (p:Prop):b7 prog 121 p=p:=ak (by kernel_rfl) p
theorem Rq (p:Prop):b7 prog 122 p=p:=ak (by kernel_rfl) p
theorem Rr (p:Prop):b7 prog 123 p=p:=ak (by kernel_rfl) p
theorem Rs (p:Prop):b7 prog 124 p=p:=ak (by kernel_rfl) p
theorem en125 (p:Prop):b7 prog 125 p=p:=ak (by kernel_rfl) p
theorem en126 (p:Prop):b7 prog 126 p=p:=ak (by kernel_rfl) p
theorem en127 (p:Prop):b7 prog 127 p=p:=ak (by kernel_rfl) p
theorem en128 (p:Prop):b7 prog 128 p=p:=ak (by kernel_rfl) p
theorem Rt (p:Prop):b7 prog 129 p=p:=ak (by kernel_rfl) p
theorem Ru (p:Prop):b7 prog 130 p=p:=ak (by kernel_rfl) p
theorem Rv (p:Prop):b7 prog 131 p=p:=ak (by kernel_rfl) p
theorem en132 (p:Prop):b7 prog 132 p=p:=ak (by kernel_rfl) p
theorem Rx (p:Prop):b7 prog 133 p=p:=ak (by kernel_rfl) p
theorem Ry (p:Prop):b7 prog 134 p=p:=ak (by kernel_rfl) p
theorem RC (p:Prop):b7 prog 137 p=p:=ak (by kernel_rfl) p
theorem RD (p:Prop):b7 prog 138 p=p:=ak (by kernel_rfl) p
theorem RE (p:Prop):b7 prog 139 p=p:=ak (by kernel_rfl) p
theorem RG (p:Prop):b7 prog 140 p=p:=ak (by kernel_rfl) p
theorem RH (p:Prop):b7 prog 141 p=p:=ak (by kernel_rfl) p
theorem RI (p:Prop):b7 prog 143 p=p:=ak (by kernel_rfl) p
theorem RJ (p:Prop):b7 prog 144 p=p:=ak (by kernel_rfl) p
theorem en145 (p:Prop):b7 prog 145 p=p:=ak (by kernel_rfl) p
theorem RN (p:Prop):b7 prog 146 p=p:=ak (by kernel_rfl) p
theorem en147 (p:Prop):b7 prog 147 p=p:=ak (by kernel_rfl) p
theorem en148 (p:Prop):b7 prog 148 p=p:=ak (by kernel_rfl) p
theorem RO (p:Prop):b7 prog 149 p=p:=ak (by kernel_rfl) p
theorem RP (p:Prop):b7 prog 150 p=p:=ak (by kernel_rfl) p
theorem RQ (p:Prop):b7 prog 151 p=p:=ak (by kernel_rfl) p
theorem RR (p:Prop):b7 prog 152 p=p:=ak (by kernel_rfl) p
theorem RS (p:Prop):b7 prog 153 p=p:=ak (by kernel_rfl) p
theorem RT (p:Prop):b7 prog 154 p=p:=ak (by kernel_rfl) p
theorem RU (p:Prop):b7 prog 155 p=p:=ak (by kernel_rfl) p
theorem RV (p:Prop):b7 prog 156 p=p:=ak (by kernel_rfl) p
theorem RY (p:Prop):b7 prog 157 p=p:=ak (by kernel_rfl) p
theorem RZ (p:Prop):b7 prog 158 p=p:=ak (by kernel_rfl) p
theorem R2 (p:Prop):b7 prog 160 p=p:=ak (by kernel_rfl) p
theorem R3 (p:Prop):b7 prog 161 p=p:=ak (by kernel_rfl) p
theorem R4 (p:Prop):b7 prog 162 p=p:=ak (by kernel_rfl) p
theorem en163 (p:Prop):b7 prog 163 p=p:=ak (by kernel_rfl) p
theorem en164 (p:Prop):b7 prog 164 p=p:=ak (by kernel_rfl) p
theorem R5 (p:Prop):b7 prog 165 p=p:=ak (by kernel_rfl) p
theorem en168 (p:Prop):b7 prog 168 p=p:=ak (by kernel_rfl) p
theorem R8 (p:Prop):b7 prog 169 p=p:=ak (by kernel_rfl) p
theorem en170 (p:Prop):b7 prog 170 p=p:=ak (by kernel_rfl) p
theorem R9 (p:Prop):b7 prog 171 p=p:=ak (by kernel_rfl) p
theorem Sa (p:Prop):b7 prog 172 p=p:=ak (by kernel_rfl) p
theorem Sb (p:Prop):b7 prog 173 p=p:=ak (by kernel_rfl) p
theorem Sc (p:Prop):b7 prog 174 p=p:=ak (by kernel_rfl) p
theorem Sd (p:Prop):b7 prog 175 p=p:=ak (by kernel_rfl) p
theorem Se (p:Prop):b7 prog 176 p=p:=ak (by kernel_rfl) p
theorem en178 (p:Prop):b7 prog 178 p=p:=ak (by kernel_rfl) p
theorem Sf (p:Prop):b7 prog 179 p=p:=ak (by kernel_rfl) p
theorem Sg (p:Prop):b7 prog 180 p=p:=ak (by kernel_rfl) p
theorem Sh (p:Prop):b7 prog 181 p=p:=ak (by kernel_rfl) p
theorem en182 (p:Prop):b7 prog 182 p=p:=ak (by kernel_rfl) p
theorem Si (p:Prop):b7 prog 183 p=p:=ak (by kernel_rfl) p
theorem Sj (p:Prop):b7 prog 184 p=p:=ak (by kernel_rfl) p
theorem Sk (p:Prop):b7 prog 185 p=p:=ak (by kernel_rfl) p
theorem Sl (p:Prop):b7 prog 186 p=p:=ak (by kernel_rfl) p
theorem Sm (p:Prop):b7 prog 187 p=p:=ak (by kernel_rfl) p
theorem Sn (p:Prop):b7 prog 188 p=p:=ak (by kernel_rfl) p
theorem So (p:Prop):b7 prog 189 p=p:=ak (by kernel_rfl) p
theorem Sq (p:Prop):b7 prog 190 p=p:=ak (by kernel_rfl) p
theorem en191 (p:Prop):b7 prog 191 p=p:=ak (by kernel_rfl) p
theorem Sr (p:Prop):b7 prog 192 p=p:=ak (by kernel_rfl) p
theorem Ss (p:Prop):b7 prog 193 p=p:=ak (by kernel_rfl) p
theorem Su (p:Prop):b7 prog 194 p=p:=ak (by kernel_rfl) p
theorem Sv (p:Prop):b7 prog 195 p=p:=ak (by kernel_rfl) p
theorem Sw (p:Prop):b7 prog 196 p=p:=ak (by kernel_rfl) p
theorem Sx (p:Prop):b7 prog 197 p=p:=ak (by kernel_rfl) p
theorem Sy (p:Prop):b7 prog 198 p=p:=ak (by kernel_rfl) p
theorem Sz (p:Prop):b7 prog 199 p=p:=ak (by kernel_rfl) p
theorem SA (p:Prop):b7 prog 200 p=p:=ak (by kernel_rfl) p
theorem SF (p:Prop):b7 prog 204 p=p:=ak (by kernel_rfl) p
theorem en208 (p:Prop):b7 prog 208 p=p:=ak (by kernel_rfl) p
theorem en209 (p:Prop):b7 prog 209 p=p:=ak (by kernel_rfl) p
theorem SH (p:Prop):b7 prog 210 p=p:=ak (by kernel_rfl) p
theorem SI (p:Prop):b7 prog 211 p=p:=ak (by kernel_rfl) p
theorem SJ (p:Prop):b7 prog 212 p=p:=ak (by kernel_rfl) p
theorem SK (p:Prop):b7 prog 213 p=p:=ak (by kernel_rfl) p
theorem SL (p:Prop):b7 prog 214 p=p:=ak (by kernel_rfl) p
theorem SM (p:Prop):b7 prog 215 p=p:=ak (by kernel_rfl) p
theorem SN (p:Prop):b7 prog 216 p=p:=ak (by kernel_rfl) p
theorem SO (p:Prop):b7 prog 217 p=p:=ak (by kernel_rfl) p
theorem SP (p:Prop):b7 prog 218 p=p:=ak (by kernel_rfl) p
theorem en219 (p:Prop):b7 prog 219 p=p:=ak (by kernel_rfl) p
theorem en220 (p:Prop):b7 prog 220 p=p:=ak (by kernel_rfl) p
theorem en221 (p:Prop):b7 prog 221 p=p:=ak (by kernel_rfl) p
theorem en222 (p:Prop):b7 prog 222 p=p:=ak (by kernel_rfl) p
theorem SQ (p:Prop):b7 prog 224 p=p:=ak (by kernel_rfl) p
theorem SS (p:Prop):b7 prog 225 p=p:=ak (by kernel_rfl) p
theorem SV (p:Prop):b7 prog 227 p=p:=ak (by kernel_rfl) p
theorem en228 (p:Prop):b7 prog 228 p=p:=ak (by kernel_rfl) p
theorem en229 (p:Prop):b7 prog 229 p=p:=ak (by kernel_rfl) p
theorem S0 (p:Prop):b7 prog 236 p=p:=ak (by kernel_rfl) p
theorem S3 (p:Prop):b7 prog 237 p=p:=ak (by kernel_rfl) p
theorem S4 (p:Prop):b7 prog 238 p=p:=ak (by kernel_rfl) p
theorem en239 (p:Prop):b7 prog 239 p=p:=ak (by kernel_rfl) p
theorem en240 (p:Prop):b7 prog 240 p=p:=ak (by kernel_rfl) p
theorem en241 (p:Prop):b7 prog 241 p=p:=ak (by kernel_rfl) p
theorem en242 (p:Prop):b7 prog 242 p=p:=ak (by kernel_rfl) p
theorem en243 (p:Prop):b7 prog 243 p=p:=ak (by kernel_rfl) p
theorem en244 (p:Prop):b7 prog 244 p=p:=ak (by kernel_rfl) p
theorem en246 (p:Prop):b7 prog 246 p=p:=ak (by kernel_rfl) p
theorem en253 (p:Prop):b7 prog 253 p=p:=ak (by kernel_rfl) p
theorem en254 (p:Prop):b7 prog 254 p=p:=ak (by kernel_rfl) p
theorem en256 (p:Prop):b7 prog 256 p=p:=ak (by kernel_rfl) p
theorem en257 (p:Prop):b7 prog 257 p=p:=ak (by kernel_rfl) p
theorem en258 (p:Prop):b7 prog 258 p=p:=ak (by kernel_rfl) p
theorem en259 (p:Prop):b7 prog 259 p=p:=ak (by kernel_rfl) p
theorem en260 (p:Prop):b7 prog 260 p=p:=ak (by kernel_rfl) p
theorem en261 (p:Prop):b7 prog 261 p=p:=ak (by kernel_rfl) p
theorem en266 (p:Prop):b7 prog 266 p=p:=ak (by kernel_rfl) p
theorem en267 (p:Prop):b7 prog 267 p=p:=ak (by kernel_rfl) p
theorem en268 (p:Prop):b7 prog 268 p=p:=ak (by kernel_rfl) p
theorem en269 (p:Prop):b7 prog 269 p=p:=ak (by kernel_rfl) p
theorem en270 (p:Prop):b7 prog 270 p=p:=ak (by kernel_rfl) p
theorem en271 (p:Prop):b7 prog 271 p=p:=ak (by kernel_rfl) p
theorem en272 (p:Prop):b7 prog 272 p=p:=ak (by kernel_rfl) p
theorem en273 (p:Prop):b7 prog 273 p=p:=ak (by kernel_rfl) p
theorem en274 (p:Prop):b7 prog 274 p=p:=ak (by kernel_rfl) p
theorem en275 (p:Prop):b7 prog 275 p=p:=ak (by kernel_rfl) p
theorem en276 (p:Prop):b7 prog 276 p=p:=ak (by kernel_rfl) p
theorem en277 (p:Prop):b7 prog 277 p=p:=ak (by kernel_rfl) p
theorem en278 (p:Prop):b7 prog 278 p=p:=ak (by kernel_rfl) p
theorem en279 (p:Prop):b7 prog 279 p=p:=ak (by kernel_rfl) p
theorem en280 (p:Prop):b7 prog 280 p=p:=ak (by kernel_rfl) p
attribute [go_sem] en4 en5 en6 en7 en8 YQ VX VY VZ en13 V0 V1 V2 en17 V3 en19 V4 V5 en22 en23 V6 V7 V8 V9 Wa Wb Wc Wd We Wf en34 Wg Wh Wi en38 Wj en40 en41 Wn Wo en44 Wp Wq Wr Ws Wu Wv Ww Wx Wy Wz WA WB WC WD en59 en60 en61 WE WG en64 WH WI WJ WK WL WM en71 WN WO WQ WR WS WT WU WW WX WY WZ W4 W5 W6 W7 W8 W9 Xa en91 en92 Xb Xc Xd en96 Xe Xf Xg Q5 Q6 Q7 Q8 Q9 Ra Rb Rc Rd Re Rf Rg Rh Ri Rj Rk Rm en117 Ro en119 en120 Rp Rq Rr Rs en125 en126 en127 en128 Rt Ru Rv en132 Rx Ry RC RD RE RG RH RI RJ en145 RN en147 en148 RO RP RQ RR RS RT RU RV RY RZ R2 R3 R4 en163 en164 R5 en168 R8 en170 R9 Sa Sb Sc Sd Se en178 Sf Sg Sh en182 Si Sj Sk Sl Sm Sn So Sq en191 Sr Ss Su Sv Sw Sx Sy Sz SA SF en208 en209 SH SI SJ SK SL SM SN SO SP en219 en220 en221 en222 SQ SS SV en228 en229 S0 S3 S4 en239 en240 en241 en242 en243 en244 en246 en253 en254 en256 en257 en258 en259 en260 en261 en266 en267 en268 en269 en270 en271 en272 en273 en274 en275 en276 en277 en278 en279 en280 results3 results4 results5 results6 results7 results8 results9 results10 results11 results12 results13 results14 results15 results16 results17 results18 results19 results20 results21 results22 results23 results24 results25 results26 results27 results28 results29 results30 results31 results32 results33 results34 results35 results36 results37 results38 results39 results40 results41 results42 results43 results44 results45 results46 results47 results48 results49 results50 results51 results52 results53 results54 results55 results56 results57 results58 results59 results60 results61 results62 results63 results64 results65 results66 results67 results68 results69 results70 results71 results72 results73 results74 results75 results76 results77 results78 results79 results80 results81 results82 results83 results84 results85 results86 results87 results88 results89 results90 results91 results92 results93 results94 results95 results96 results97 results98 results99 results100 results101 results102 results103 results104 results105 results106 results107 results108 results109 results110 results111 results112 results113 results114 results115 results116 results117 results118 results119 results120 results121 results122 results123 results124 results125 results126 results127 results128 results129 results130 results131 results132 results133 results134 results135 results136 results137 results138 results139 results140 results141 results142 results143 results144 results145 results146 results147 results148 results149 results150 results151 results152 results153 results154 results155 results156 results157 results158 results159 results160 results161 results162 results163 results164 results165 results166 results167 results168 results169 results170 results171 results172 results173 results174 results175 results176 results177 results178 results179 results180 results181 results182 results183 results184 results185 results186 results187 results188 results189 results190 results191 results192 results193 results194 results195 results196 results197 results198 results199 results200 results201 results202 results203 results204 results205 results206 results207 results208 results209 results210 results211 results212 results213 results214 results215 results216 results217 results218 results219 results220 results221 results222 results224 results225 results226 results227 results228 results229 results230 results231 results233 results234 results235 results236 results237 results238 results239 results240 results241 results242 results243 results244 results245 results246 results247 results248 results250 results251 results252 results253 results254 results255 results256 results257 results258 results259 results260 results261 results263 results264 results265 results266 results267 results268 results269 results270 results271 results272 results273 results274 results275 results276 results277 results278 results279 results280 results281 results282 results283 results284 results285 results286 results287 results288 results289 results290 results291 results292 results293 results294 results295 results296 results297 results298 results299 results300 results301 results302 results303 results304 results305 results306 results337 Int.cast_ofNat_Int
abbrev int (n:Int):D:= .int .i64 n
abbrev ai (n:Int):V:= .d (.int .i64 n)
def bt (l:List cx):List (List D):=l.map fun k=>[.str k]
def aX.enc:aX→List D
 | .mk k b i s l ks=>[Abs.D.int .i64 k,.bool b,Abs.D.int .i64 i,.str s,.sl (oM l),.sl (bt ks)]
where oM:List aX→List (List D)
 |[]=>[]
 |v::r=>v.enc::oM r
def Ex.enc:Ex→List D
 | .mk k nm v ar ks=>[Abs.D.int .i64 k,.str nm]++v.enc++[.sl (oM ar),.sl (bt ks)]
where oM:List Ex→List (List D)
 |[]=>[]
 |v::r=>v.enc::oM r
def Tk.enc (t:Tk):List D:=[Abs.D.int .i64 t.kind,.str t.text,Abs.D.int .i64 t.at_]
theorem aX.mh (l:List aX):aX.enc.oM l=l.map aX.enc:=by induction l<;>simp_all [aX.enc.oM]
theorem Ex.mh (l:List Ex):Ex.enc.oM l=l.map Ex.enc:=by induction l<;>simp_all [Ex.enc.oM]
theorem aX.aP (v:aX):v.enc=[Abs.D.int .i64 v.kind,.bool v.bool,Abs.D.int .i64 v.int,.str v.str,.sl (v.list.map aX.enc),.sl (bt v.keys)]:=by
 cases v;simp [aX.enc,aX.mh,aX.kind,aX.bool,aX.int,aX.str,aX.list,aX.keys]
theorem Ex.aP (e:Ex):e.enc=[Abs.D.int .i64 e.kind,.str e.name]++e.value.enc++[.sl (e.args.map Ex.enc),.sl (bt e.keys)]:=by
 cases e;simp [Ex.enc,Ex.mh,Ex.kind,Ex.name,Ex.value,Ex.args,Ex.keys]
theorem aX.dN (v:aX):v.enc.length=6:=by rw [aX.aP];rfl
theorem Ex.dN (e:Ex):e.enc.length=10:=by rw [Ex.aP];simp [aX.dN]
theorem Tk.dN (t:Tk):t.enc.length=3:=(rfl)
def vE (e:Ex):V:= .agg (e.enc.map .d)
def vV (v:aX):V:= .agg (v.enc.map .d)
def vT (t:Tk):V:= .agg (t.enc.map .d)
theorem Ij (e:Ex):(vE e).cells=some (e.enc.map .d):=(rfl)
theorem Ik (v:aX):(vV v).cells=some (v.enc.map .d):=(rfl)
theorem Il (t:Tk):(vT t).cells=some (t.enc.map .d):=(rfl)
theorem S5 (t:Tk):((t.enc.map V.d).all fun x=>x.one)=true:=(rfl)
theorem S6 (v:aX):((v.enc.map V.d).all fun x=>x.one)=true:=by rw [aX.aP];rfl
theorem Np (e:Ex):((e.enc.map V.d).all fun x=>x.one)=true:=by rw [Ex.aP,aX.aP];rfl
attribute [go_sem] S5 S6 Np
theorem Im (e:Ex):(vE e).share=vE e:=by simp [vE,jG,iM]
theorem Io (v:aX):(vV v).share=vV v:=by simp [vV,jG,iM]
theorem Ip (t:Tk):(vT t).share=vT t:=by simp [vT,jG,iM]
theorem Lm (e:Ex):V.agg (e.enc.map .d)=vE e:=(rfl)
theorem Ln (v:aX):V.agg (v.enc.map .d)=vV v:=(rfl)
theorem Lo (t:Tk):V.agg (t.enc.map .d)=vT t:=(rfl)
theorem YR (v:aX):(v.enc)[0]?=some (int v.kind):=by rw [aX.aP];rfl
theorem YS (v:aX):(v.enc)[1]?=some (.bool v.bool):=by rw [aX.aP];rfl
theorem YT (v:aX):(v.enc)[2]?=some (int v.int):=by rw [aX.aP];rfl
theorem YU (v:aX):(v.enc)[3]?=some (.str v.str):=by rw [aX.aP];rfl
theorem YV (v:aX):(v.enc)[4]?=some (.sl (v.list.map aX.enc)):=by rw [aX.aP];rfl
theorem YW (v:aX):(v.enc)[5]?=some (.sl (bt v.keys)):=by rw [aX.aP];rfl
theorem YX (e:Ex):(e.enc)[0]?=some (int e.kind):=by rw [Ex.aP];rfl
theorem YY (e:Ex):(e.enc)[1]?=some (.str e.name):=by rw [Ex.aP];rfl
theorem YZ (e:Ex):(e.enc)[8]?=some (.sl (e.args.map Ex.enc)):=by rw [Ex.aP,aX.aP];rfl
theorem Y0 (e:Ex):(e.enc)[9]?=some (.sl (bt e.keys)):=by rw [Ex.aP,aX.aP];rfl
theorem Ev (e:Ex):(e.enc.drop 2).take 6=e.value.enc:=by rw [Ex.aP,aX.aP];rfl
theorem Y1 (e:Ex):((e.enc.map V.d).drop 2).take 6=e.value.enc.map .d:=by rw [←Ev];simp
theorem Ew (e:Ex):(e.enc).take 10=e.enc:=by rw [←Ex.dN e,aaY]
theorem Yb (e:Ex):(e.enc.map V.d).take 10=e.enc.map .d:=by rw [←Ex.dN e,←List.map_take,aaY]
theorem Vw (v:aX):(v.enc).take 6=v.enc:=by rw [←aX.dN v,aaY]
theorem Y2 (v:aX):(v.enc.map V.d).take 6=v.enc.map .d:=by rw [←aX.dN v,←List.map_take,aaY]
theorem Y3 (t:Tk):(t.enc)[0]?=some (int t.kind):=(rfl)
theorem Y4 (t:Tk):(t.enc)[1]?=some (.str t.text):=(rfl)
theorem Y5 (t:Tk):(t.enc)[2]?=some (int t.at_):=(rfl)
theorem Tw (t:Tk):(t.enc).take 3=t.enc:=(rfl)
theorem Y6 (t:Tk):(t.enc.map V.d).take 3=t.enc.map .d:=(rfl)
theorem ES (l:List D) (i:Nat):(l.map V.d)[i]?=(l[i]?).map .d:=by simp
theorem ZJ {α:Type} (f:α→List D) (sz:Nat) (h:∀ x,(f x).length=sz) (l:List α):cr sz (l.map f)=true:=by simp [cr,h]
theorem ET (l:List Ex):cr 10 (l.map Ex.enc)=true:=ZJ _ _ Ex.dN l
theorem EU (l:List aX):cr 6 (l.map aX.enc)=true:=ZJ _ _ aX.dN l
theorem EV (l:List Tk):cr 3 (l.map Tk.enc)=true:=ZJ _ _ Tk.dN l
theorem rowsLen_K (l:List cx):cr 1 (bt l)=true:=ZJ (fun k=>[D.str k]) 1 (fun _=>rfl) l
@[simp] theorem iP (l:List cx):(bt l).length=l.length:=by simp [bt]
theorem ia22 (es:List (List D)) (k:IntKind) (i:Int):gl prog 22 (.d (.sl es)) (.d (.int k i))=wI (cr 12 es) es i:=di T.sl22 es k i
attribute [go_sem] ia22
theorem ia26 (es:List (List D)) (k:IntKind) (i:Int):gl prog 26 (.d (.sl es)) (.d (.int k i))=wI (cr 1 es) es i:=di T.sl26 es k i
attribute [go_sem] ia26
theorem ia35 (es:List (List D)) (k:IntKind) (i:Int):gl prog 35 (.d (.sl es)) (.d (.int k i))=wI (cr 39 es) es i:=di T.sl35 es k i
attribute [go_sem] ia35
theorem Xi (es:List (List D)) (k:IntKind) (i:Int):gl prog 38 (.d (.sl es)) (.d (.int k i))=wI (cr 2 es) es i:=di T.sl38 es k i
attribute [go_sem] Xi
theorem ia39 (es:List (List D)) (k:IntKind) (i:Int):gl prog 39 (.d (.sl es)) (.d (.int k i))=wI (cr 16 es) es i:=di T.sl39 es k i
attribute [go_sem] ia39
theorem ia46 (es:List (List D)) (k:IntKind) (i:Int):gl prog 46 (.d (.sl es)) (.d (.int k i))=wI (cr 4 es) es i:=di T.sl46 es k i
theorem io46 (id:Nat) (es:List (List D)) (k:IntKind) (i:Int):gl prog 46 (.own id es) (.d (.int k i))=wI (cr 4 es) es i:=evalIndexAddr_own T.sl46 id es k i
attribute [go_sem] ia46 io46
theorem ia56 (es:List (List D)) (k:IntKind) (i:Int):gl prog 56 (.d (.sl es)) (.d (.int k i))=wI (cr 7 es) es i:=di T.sl56 es k i
attribute [go_sem] ia56
theorem Xm (es:List (List D)) (k:IntKind) (i:Int):gl prog 57 (.d (.sl es)) (.d (.int k i))=wI (cr 1 es) es i:=di T.QJ es k i
theorem io57 (id:Nat) (es:List (List D)) (k:IntKind) (i:Int):gl prog 57 (.own id es) (.d (.int k i))=wI (cr 1 es) es i:=evalIndexAddr_own T.QJ id es k i
attribute [go_sem] Xm io57
theorem ia62 (es:List (List D)) (k:IntKind) (i:Int):gl prog 62 (.d (.sl es)) (.d (.int k i))=wI (cr 3 es) es i:=di T.sl62 es k i
attribute [go_sem] ia62
theorem ia63 (es:List (List D)) (k:IntKind) (i:Int):gl prog 63 (.d (.sl es)) (.d (.int k i))=wI (cr 3 es) es i:=di T.sl63 es k i
attribute [go_sem] ia63
theorem ia81 (es:List (List D)) (k:IntKind) (i:Int):gl prog 81 (.d (.sl es)) (.d (.int k i))=wI (cr 6 es) es i:=di T.sl81 es k i
attribute [go_sem] ia81
theorem ia84 (es:List (List D)) (k:IntKind) (i:Int):gl prog 84 (.d (.sl es)) (.d (.int k i))=wI (cr 10 es) es i:=di T.sl84 es k i
attribute [go_sem] ia84
theorem ia87 (es:List (List D)) (k:IntKind) (i:Int):gl prog 87 (.d (.sl es)) (.d (.int k i))=wI (cr 7 es) es i:=di T.sl87 es k i
attribute [go_sem] ia87
theorem ia88 (es:List (List D)) (k:IntKind) (i:Int):gl prog 88 (.d (.sl es)) (.d (.int k i))=wI (cr 4 es) es i:=di T.sl88 es k i
attribute [go_sem] ia88
theorem ia89 (es:List (List D)) (k:IntKind) (i:Int):gl prog 89 (.d (.sl es)) (.d (.int k i))=wI (cr 1 es) es i:=di T.sl89 es k i
attribute [go_sem] ia89
theorem ia92 (es:List (List D)) (k:IntKind) (i:Int):gl prog 92 (.d (.sl es)) (.d (.int k i))=wI (cr 3 es) es i:=di T.sl92 es k i
attribute [go_sem] ia92
theorem ia163 (es:List (List D)) (k:IntKind) (i:Int):gl prog 163 (.d (.sl es)) (.d (.int k i))=wI (cr 3 es) es i:=di T.sl163 es k i
attribute [go_sem] ia163
theorem ia166 (es:List (List D)) (k:IntKind) (i:Int):gl prog 166 (.d (.sl es)) (.d (.int k i))=wI (cr 2 es) es i:=di T.sl166 es k i
attribute [go_sem] ia166
theorem ia320 (es:List (List D)) (k:IntKind) (i:Int):gl prog 320 (.d (.sl es)) (.d (.int k i))=wI (cr 3 es) es i:=di T.sl320 es k i
attribute [go_sem] ia320
theorem ia339 (es:List (List D)) (k:IntKind) (i:Int):gl prog 339 (.d (.sl es)) (.d (.int k i))=wI (cr 1 es) es i:=di T.sl339 es k i
attribute [go_sem] ia339
theorem Y7 {l:List cx} {i:Int} (h0:0≤i) (h1:i.toNat<l.length):wI true (bt l) i=some (.ep [.str (l.getD i.toNat default)] 0):=CY (f:=fun k=>[D.str k]) h0 h1
attribute [go_sem] Y7 Ij Ik Il Im Io Ip Lm Ln Lo YR YS YT YU YV YW YX YY YZ Y0 Ev Y1 Ew Yb Vw Y2 Y3 Y4 Y5 Tw Y6 ES aX.dN Ex.dN Tk.dN ET EU EV rowsLen_K iP
end Go.Proofs.YteeohmopbcjifaaGreatDoor
end
section
set_option maxHeartbeats 8000000
namespace Go.Proofs.YteeohmopbcjifaaGreatDoor
open Tryz
open Go.Abs
attribute [local irreducible] AW OX cG GQ bK bO bz aY aa
variable {G:World→Nat→Prop}
abbrev vb (b:Bool):V:= .d (.bool b)
abbrev vs (s:cx):V:= .d (.str s)
abbrev vc (c:UInt8):V:= .d (.int .u8 c.toNat)
abbrev b8 (G:World→Nat→Prop) (f:FuncId) (args:List V) (v:V):Prop:=∀ st,aa prog G f args st (fun o s=>o= .ret v∧s=st)
theorem aO {a b:Bool} (h:a=true↔b=true):Out.ret (V.d (D.bool a))=Out.ret (V.d (D.bool b)):=by rw [abS.2 h]
theorem bA {k:IntKind} {a b:Int} (h:a=b):Out.ret (V.d (D.int k a))=Out.ret (V.d (D.int k b)):=by rw [h]
theorem eY (c:UInt8):b8 G 239 [vc c] (vb (bN c)):=by
 intro st
 refine aa.body func239 rfl ntmps239 (by simp) ?_
 (try refine Wk.aw fun _ ag=>?_);(repeat' (first|((first|refine Wk.hd ?_|refine Wk.i ?_);simp only [go_sem,seval])|(refine ay (fun hc=>?_) (fun hc=>?_)<;>try omega)|refine Wk.ret fun _ _=>?_|(refine Wk.fin ‹_› ?_;refine ⟨?_,rfl⟩)|first|refine Wk.o ?_|refine Wk.q ‹_› ?_));all_goals (repeat subst ag)
 all_goals (refine aO ?_;simp only [bN,aaS,reduceCtorEq,iff_false,false_iff,iff_true,true_iff];omega)
theorem ju (c:UInt8):b8 G 253 [vc c] (vb (bN c)):=by
 intro st
 refine aa.body func253 rfl ntmps253 (by simp) ?_
 (try refine Wk.aw fun _ ag=>?_);(repeat' (first|((first|refine Wk.hd ?_|refine Wk.i ?_);simp only [go_sem,seval])|(refine ay (fun hc=>?_) (fun hc=>?_)<;>try omega)|refine Wk.ret fun _ _=>?_|(refine Wk.fin ‹_› ?_;refine ⟨?_,rfl⟩)|first|refine Wk.o ?_|refine Wk.q ‹_› ?_));all_goals (repeat subst ag)
 all_goals (refine aO ?_;simp only [bN,aaS,reduceCtorEq,iff_false,false_iff,iff_true,true_iff];omega)
theorem fG (c:UInt8):b8 G 241 [vc c] (vb (isDigit c)):=by
 intro st
 refine aa.body func241 rfl ntmps241 (by simp) ?_
 (try refine Wk.aw fun _ ag=>?_);(repeat' (first|((first|refine Wk.hd ?_|refine Wk.i ?_);simp only [go_sem,seval])|(refine ay (fun hc=>?_) (fun hc=>?_)<;>try omega)|refine Wk.ret fun _ _=>?_|(refine Wk.fin ‹_› ?_;refine ⟨?_,rfl⟩)|first|refine Wk.o ?_|refine Wk.q ‹_› ?_));all_goals (repeat subst ag)
 all_goals (refine aO ?_;simp only [isDigit,aaS,reduceCtorEq,iff_false,false_iff,iff_true,true_iff];omega)
theorem jR (c:UInt8):b8 G 254 [vc c] (vb (isDigit c)):=by
 intro st
 refine aa.body func254 rfl ntmps254 (by simp) ?_
 (try refine Wk.aw fun _ ag=>?_);(repeat' (first|((first|refine Wk.hd ?_|refine Wk.i ?_);simp only [go_sem,seval])|(refine ay (fun hc=>?_) (fun hc=>?_)<;>try omega)|refine Wk.ret fun _ _=>?_|(refine Wk.fin ‹_› ?_;refine ⟨?_,rfl⟩)|first|refine Wk.o ?_|refine Wk.q ‹_› ?_));all_goals (repeat subst ag)
 all_goals (refine aO ?_;simp only [isDigit,aaS,reduceCtorEq,iff_false,false_iff,iff_true,true_iff];omega)
theorem uj (c:UInt8):b8 G 50 [vc c] (vb (isDigit c)):=by
 intro st
 refine aa.body func50 rfl ntmps50 (by simp) ?_
 (try refine Wk.aw fun _ ag=>?_);(repeat' (first|((first|refine Wk.hd ?_|refine Wk.i ?_);simp only [go_sem,seval])|(refine ay (fun hc=>?_) (fun hc=>?_)<;>try omega)|refine Wk.ret fun _ _=>?_|(refine Wk.fin ‹_› ?_;refine ⟨?_,rfl⟩)|first|refine Wk.o ?_|refine Wk.q ‹_› ?_));all_goals (repeat subst ag)
 all_goals (refine aO ?_;simp only [isDigit,aaS,reduceCtorEq,iff_false,false_iff,iff_true,true_iff];omega)
theorem OU (s:cx):b8 G 237 [vs s] (vb (isWord s)):=by
 intro st
 refine aa.body func237 rfl ntmps237 (by simp) ?_
 (try refine Wk.aw fun _ ag=>?_);(repeat' (first|((first|refine Wk.hd ?_|refine Wk.i ?_);simp only [go_sem,seval])|(refine ay (fun hc=>?_) (fun hc=>?_)<;>try omega)|refine Wk.ret fun _ _=>?_|(refine Wk.fin ‹_› ?_;refine ⟨?_,rfl⟩)|first|refine Wk.o ?_|refine Wk.q ‹_› ?_));all_goals (repeat subst ag)
 all_goals (refine aO ?_;simp_all [isWord])
theorem lf (s:cx):b8 G 210 [vs s] (ai (bB s)):=by
 intro st
 refine aa.body func210 rfl ntmps210 (by simp) ?_
 (try with_reducible refine Wk.aw fun _ ag=>?_);(repeat' (first|((with_reducible refine Wk.i ?_);simp (disch:=first|omega|(simp only [go_sem];try omega)) only [go_sem,seval])|(refine ay (fun hc=>?_) (fun hc=>?_)<;>try (exfalso;first|omega|contradiction))|with_reducible refine Wk.ret fun _ _=>?_|(refine Wk.fin ‹_› ?_;refine ⟨?_,rfl⟩)|with_reducible first|refine Wk.o ?_|refine Wk.q ‹_› ?_));all_goals (repeat subst ag)
 all_goals (refine bA ?_;first|(subst hc;rfl)|(simp only [bB, *];rfl))
theorem sn (c:UInt8):b8 G 241 [vc c] (vb (decide (48≤c.toNat∧c.toNat≤57))):=fG c
structure yR (G:World→Nat→Prop) (g:FuncId) (cls:UInt8→Bool):Prop where
 call:∀ args w,(callFunc g args).run prog w= .ok (.enter g args) w
 Y8:∀ b,b8 G g [vc b] (vb (cls b))
def fA (cls:UInt8→Bool) (s:cx) (i:Nat):Nat:=
 if i<s.length then if cls (s.getD i 0) then fA cls s (i+1) else i else i
termination_by s.length - i
theorem Lp {g:FuncId} {cls:UInt8→Bool} (hcl:yR G g cls) (s:cx) (i:Nat) (hs:s.length≤1048576):b8 G 225 [vs s,ai i,.jE g []] (ai (fA cls s i)):=by
 intro st
 refine aa.body func225 rfl ntmps225 (by simp) ?_
 (try refine Wk.aw fun _ ag=>?_);(repeat' (first|((refine Wk.i ?_);simp (disch:=omega) only [go_sem,seval])|refine Wk.o ?_));all_goals (repeat subst ag)
 refine AW.cD (fun j:Nat=>[(0,vs s),(1,ai j),(2,.jE g [])]) (fun _=>[]) (fun _=>[]) (fun j=>fA cls s j=fA cls s i) (fun j=>s.length - j) i (by simp (disch:=omega) only [go_sem,seval]) (by simp (disch:=omega) only [go_sem,seval]) rfl ?_
 intro j hw
 rw [fA] at hw
 (try refine Wk.aw fun _ ag=>?_);(repeat' (first|((first|refine Wk.hd ?_|refine Wk.i ?_);simp (disch:=omega) only [go_sem,seval])|(refine ay (fun hc=>?_) (fun hc=>?_)<;>try omega)|refine QY hcl.call (ah (hcl.Y8 _ _) ?_)|refine Wk.ret fun _ _=>?_|(refine Wk.fin ‹_› ?_;refine ⟨?_,rfl⟩)|first|refine Wk.o ?_|refine Wk.q ‹_› ?_|refine Wk.sw fun _ ag=>?_));all_goals (repeat subst ag)
 ·(refine ⟨j+1,gk.mk ?_ ?_ ?_ (by simp (disch:=omega) only [go_sem,seval]) (by simp (disch:=omega) only [go_sem,seval]) (by first|rfl|(simp (disch:=omega) only [go_sem,seval];all_goals omega)) (by first|rfl|(simp (disch:=omega) only [go_sem,seval];all_goals omega))⟩;focus (try (simp (disch:=omega) only [go_sem,seval]);try ((repeat' apply And.intro)<;>first|rfl|trivial|refine aD ?_|refine aE ?_|refine ax ?_|skip)))
  all_goals first|omega|simp_all
 all_goals simp_all
end Go.Proofs.YteeohmopbcjifaaGreatDoor
end
section
set_option maxHeartbeats 8000000
set_option maxRecDepth 20000
namespace Go.Proofs.YteeohmopbcjifaaGreatDoor
open Tryz
open Go.Abs
attribute [local irreducible] AW OX cG GQ bK bO bz aY aa
variable {G:World→Nat→Prop}
theorem drop_cons {s:cx} {i:Nat} (h:i<s.length):s.drop i=s.getD i 0::s.drop (i+1):=by
 rw [abb h];simp [aaK,h]
theorem jH (cls:UInt8→Bool) (s:cx) (i:Nat):fA cls s i=i+((s.drop i).takeWhile cls).length:=by
 rw [fA]
 split
 ·rename_i h
  rw [drop_cons h,abN]
  split
  ·rw [jH cls s (i+1)];simp;omega
  ·rfl
 ·rename_i h
  rw [abi (by omega)];rfl
termination_by s.length - i
theorem so (cls:UInt8→Bool) (s:cx) (i:Nat) (hi:i≤s.length):i+((s.drop i).takeWhile cls).length≤s.length:=by
 have:=(abQ cls (l:=s.drop i)).length_le
 simp at this;omega
theorem mW (cls:UInt8→Bool) (s:cx) (i:Nat):(s.take (i+((s.drop i).takeWhile cls).length)).drop i=(s.drop i).takeWhile cls:=by
 rw [List.drop_take,show i+((s.drop i).takeWhile cls).length - i=((s.drop i).takeWhile cls).length by omega]
 exact (List.prefix_iff_eq_take.1 (abQ cls (l:=s.drop i))).symm
theorem C5 (cls:UInt8→Bool):∀ s:cx,∀ c∈s.takeWhile cls,cls c=true
 |[],c,h=>by simp at h
 |a::r,c,h=>by
  rw [abN] at h
  split at h
  ·rename_i ha
   rcases aby.1 h with rfl|h
   ·exact ha
   ·exact C5 cls r c h
  ·simp at h
def Lq (i:Nat):pE→Tk
 | .ok k t _=>⟨k,t,i⟩
 | .err _=>MZ
def Lr (i:Nat):pE→Int
 | .ok _ _ n=>↑(i+n)
 | .err _=>0
def BD:pE→Int
 | .ok _ _ _=>0
 | .err e=>e
abbrev BE (i:Nat) (r:pE):V:= .cF [vT (Lq i r),ai (Lr i r),ai (BD r)]
theorem yU:yR G 241 isDigit:=⟨call241,fG⟩
theorem Ls (c:UInt8):b8 G 255 [vc c] (vb (b9 c)):=by
 intro st
 refine aa.body func255 rfl ntmps255 (by simp) ?_
 (try refine Wk.aw fun _ ag=>?_);(repeat' (first|((first|refine Wk.hd ?_|refine Wk.i ?_);simp only [go_sem,seval])|(refine ay (fun hc=>?_) (fun hc=>?_)<;>try omega)|refine ah (eY _ _) ?_|refine ah (fG _ _) ?_|refine Wk.ret fun _ _=>?_|(refine Wk.fin ‹_› ?_;refine ⟨?_,rfl⟩)|first|refine Wk.o ?_|refine Wk.q ‹_› ?_));all_goals (repeat subst ag)
 all_goals simp_all [b9]
theorem yV:yR G 255 b9:=⟨call255,Ls⟩
theorem c_while' {g:FuncId} {cls:UInt8→Bool} (hcl:yR G g cls) (s:cx) (i:Nat) (hs:s.length≤1048576):b8 G 225 [vs s,ai i,.jE g []] (ai ↑(i+((s.drop i).takeWhile cls).length)):=by
 rw [←jH];exact Lp hcl s i hs
theorem wW (s:cx) (i:Nat) (hs:s.length≤1048576) (hi:i≤s.length):b8 G 240 [vs s,ai i] (BE i (lZ (s.drop i))):=by
 intro st
 have h1:=so b9 s i hi
 refine aa.body func240 rfl ntmps240 (by simp) ?_
 (try refine Wk.aw fun _ ag=>?_);(repeat' (first|((first|refine Wk.hd ?_|refine Wk.i ?_);simp (disch:=omega) only [go_sem,seval,mW])|(refine ay (fun hc=>?_) (fun hc=>?_)<;>try omega)|refine ah (c_while' yV _ _ hs _) ?_|refine Wk.ret fun _ _=>?_|(refine Wk.fin ‹_› ?_;refine ⟨?_,rfl⟩)|first|refine Wk.o ?_|refine Wk.q ‹_› ?_));all_goals (repeat subst ag)
 ·rw [lZ,if_pos (by omega)];rfl
 ·rw [lZ,if_neg (by omega)];rfl
theorem lg (t:cx) (i:Nat) (h:i<t.length):cZ (t.take (i+1))=10*cZ (t.take i)+((t.getD i 0).toNat - 48):=by
 unfold cZ
 rw [List.take_succ_eq_append_getElem h,List.foldl_append]
 simp [aaK,h]
theorem yW (t:cx) (i:Nat):cZ (t.take i)≤cZ t:=by
 have key:∀ (l:cx) (a b:Nat),a≤b→a≤l.foldl (fun n c=>10*n+(c.toNat - 48)) b:=by
  intro l
  induction l with
  |nil=>intro a b h;exact h
  |cons c r ih=>intro a b h;exact ih a _ (by show a≤10*b+_;omega)
 unfold cZ
 conv=>rhs;rw [←abP i t,List.foldl_append]
 exact key _ _ _ (aaP _)
theorem isDigit_iff (c:UInt8):isDigit c=true↔48≤c.toNat∧c.toNat≤57:=by simp [isDigit]
theorem kJ {t:cx} {i:Nat} (h:i<t.length):t.getD i 0∈t:=by simp [aaK,h]
theorem Lt (t:cx) (hs:t.length≤1048576) (hd:∀ c∈t,isDigit c=true):b8 G 256 [vs t] (vb (decide (9007199254740992<cZ t))):=by
 intro st
 refine aa.body func256 rfl ntmps256 (by simp) ?_
 (try refine Wk.aw fun _ ag=>?_);(repeat' (first|((refine Wk.i ?_);simp (disch:=omega) only [go_sem,seval])|refine Wk.o ?_));all_goals (repeat subst ag)
 refine AW.cD (fun i:Nat=>[(0,vs t),(3,ai ↑(cZ (t.take i))),(4,ai ↑i)]) (fun _=>[]) (fun _=>[]) (fun i=>i≤t.length∧cZ (t.take i)≤90071992547409929) (fun i=>t.length - i) 0 (by simp (disch:=omega) only [go_sem,seval]) (by simp (disch:=omega) only [go_sem,seval];rfl) ⟨by omega,by simp [cZ]⟩ ?_
 intro i ⟨hi,hn⟩
 have h1:=lg t i
 have h2:=fun h:i<t.length=>(isDigit_iff _).1 (hd _ (kJ h))
 have h3:=yW t i
 (try refine Wk.aw fun _ ag=>?_);(repeat' (first|((first|refine Wk.hd ?_|refine Wk.i ?_);simp (disch:=omega) only [go_sem,seval])|(refine ay (fun hc=>?_) (fun hc=>?_)<;>try omega)|refine Wk.ret fun _ _=>?_|(refine Wk.fin ‹_› ?_;refine ⟨?_,rfl⟩)|first|refine Wk.o ?_|refine Wk.q ‹_› ?_|refine Wk.sw fun _ ag=>?_));all_goals (repeat subst ag)
 ·have h1:=h1 ‹_›
  have h2:=h2 ‹_›
  (refine ⟨i+1,gk.mk ?_ ?_ ?_ (by simp (disch:=omega) only [go_sem,seval]) (by simp (disch:=omega) only [go_sem,seval]) (by first|rfl|(simp (disch:=omega) only [go_sem,seval];all_goals omega)) (by first|rfl|(simp (disch:=omega) only [go_sem,seval];all_goals omega))⟩;focus (try (simp (disch:=omega) only [go_sem,seval]);try ((repeat' apply And.intro)<;>first|rfl|trivial|refine aD ?_|refine aE ?_|refine ax ?_|skip)))
  all_goals omega
 all_goals (refine aO ?_;simp only [aaS,reduceCtorEq,iff_false,false_iff,iff_true,true_iff])
 ·omega
 ·have:i=t.length:=by omega
  subst this
  rw [aaY]
  omega
theorem sdrop_len (s:cx) (i:Nat):(s.drop i).length=s.length - i:=by simp
theorem fH (s:cx) (i k:Nat):(s.drop i).getD k 0=s.getD (i+k) 0:=by simp [aaK]
theorem sr (s:cx) (i:Nat) (hs:s.length≤1048576) (hi:i≤s.length):b8 G 242 [vs s,ai i] (BE i (vU (s.drop i))):=by
 intro st
 have h1:=so isDigit s i hi
 have h2:=C5 isDigit (s.drop i)
 have h3:=fH s i
 have hsl:=mW isDigit s i
 generalize ht:(s.drop i).takeWhile isDigit=t at h1 h2 hsl
 have hl:t.length≤1048576:=by omega
 have hd:=sdrop_len s i
 refine aa.body func242 rfl ntmps242 (by simp) ?_
 (try refine Wk.aw fun _ ag=>?_);(repeat' (first|((first|refine Wk.hd ?_|refine Wk.i ?_);simp (disch:=omega) only [go_sem,seval,hsl,ht])|(refine ay (fun hc=>?_) (fun hc=>?_)<;>try omega)|refine ah (c_while' yU _ _ hs _) ?_|refine ah (eY _ _) ?_|refine ah (Lt _ hl h2 _) ?_|refine Wk.ret fun _ _=>?_|(refine Wk.fin ‹_› ?_;refine ⟨?_,rfl⟩)|first|refine Wk.o ?_|refine Wk.q ‹_› ?_));all_goals (repeat subst ag)
 all_goals (try simp (disch:=first|assumption|omega) only [vU,ht,hd,h3,if_pos,if_neg]);all_goals first|rfl|((repeat' split)<;>first|rfl|(exfalso;omega)|grind|skip)
theorem oO (c:UInt8): -1≤qT c∧qT c≤15:=by
 unfold qT
 have:=isDigit_iff c
 split
 ·have:=this.1 ‹_›;omega
 ·split
  ·omega
  ·split<;>omega
theorem uY {c:UInt8} (h:48≤c.toNat∧c.toNat≤57):isDigit c=true:=(isDigit_iff c).2 h
theorem pP {c:UInt8} (h:¬ (48≤c.toNat∧c.toNat≤57)):isDigit c=false:=by
 rw [abO];exact fun h'=>h ((isDigit_iff c).1 h')
theorem qz (c:UInt8):b8 G 266 [vc c] (ai (qT c)):=by
 intro st
 refine aa.body func266 rfl ntmps266 (by simp) ?_
 (try refine Wk.aw fun _ ag=>?_);(repeat' (first|((first|refine Wk.hd ?_|refine Wk.i ?_);simp (disch:=omega) only [go_sem,seval])|(refine ay (fun hc=>?_) (fun hc=>?_)<;>try omega)|refine ah (sn _ _) ?_|refine Wk.ret fun _ _=>?_|(refine Wk.fin ‹_› ?_;refine ⟨?_,rfl⟩)|first|refine Wk.o ?_|refine Wk.q ‹_› ?_));all_goals (repeat subst ag)
 all_goals (refine bA ?_;unfold qT;first|rw [uY (by assumption)]|rw [pP (by assumption)])
 all_goals (repeat' split)
 all_goals first|omega|simp_all
def EX:Gd→V
 | .ok c n=> .cF [vc c,ai n]
 | .err _=> .cF [vc 0,ai 0]
theorem yX {n:Int} (h0:0≤n) (h1:n≤255):((UInt8.ofNat n.toNat).toNat:Int)=n:=by
 simp only [UInt8.toNat_ofNat'];omega
def su (r:cx):Bool:=decide (r.length=0∨(r.length=1∧(r.getD 0 0).toNat=120)∨(r.length=2∧(r.getD 0 0).toNat=120∧0≤qT (r.getD 1 0)))
theorem BF {r:cx} {e:Int} (h:nQ r= .err e):e=4∧su r=true∨e=5∧su r=false:=by
 simp only [nQ] at h
 simp only [su,aaS,abG]
 have hx:=oO (r.getD 1 0)
 repeat' split at h
 all_goals (cases h;try omega)
theorem EY (r:cx):(r=[])=(r.length=0):=by cases r<;>simp
theorem Xn (r:cx):(r=[120])=(r.length=1∧(r.getD 0 0).toNat=120):=by
 match r with
 |[]=>simp
 |[x]=>
  simp only [abg,abU,true_and,List.cons.injEq,and_true]
  exact propext ⟨fun h=>by rw [h];rfl,fun h=>UInt8.toNat_inj.1 (by rw [h];rfl)⟩
 |x::y::z=>simp
theorem Lu (s:cx) (i:Nat) (hs:s.length≤1048576) (hi:i<s.length):b8 G 258 [vs s,ai i] (vb (su (s.drop (i+1)))):=by
 intro st
 have ht:s.take s.length=s:=aaY
 have hd:=sdrop_len s (i+1)
 generalize hr:s.drop (i+1)=r at hd
 refine aa.body func258 rfl ntmps258 (by simp) ?_
 (try refine Wk.aw fun _ ag=>?_);(repeat' (first|((first|refine Wk.hd ?_|refine Wk.i ?_);simp (disch:=omega) only [go_sem,seval,ht,hr,EY,Xn])|(refine ay (fun hc=>?_) (fun hc=>?_)<;>try omega)|refine ah (qz _ _) ?_|refine Wk.ret fun _ _=>?_|(refine Wk.fin ‹_› ?_;refine ⟨?_,rfl⟩)|first|refine Wk.o ?_|refine Wk.q ‹_› ?_));all_goals (repeat subst ag)
 all_goals (refine aO ?_;simp only [su,aaS,reduceCtorEq,iff_false,false_iff,iff_true,true_iff])
 all_goals omega
theorem isName_iff (s:cx):isName s=true↔s.length≤64∧1≤s.length∧∀ k,k<s.length→(bN (s.getD k 0)||(decide (k≠0)&&isDigit (s.getD k 0)))=true:=by
 cases s with
 |nil=>simp [isName]
 |cons c r=>
  simp only [isName,aaW,aaS,aaM,aa3]
  constructor
  ·rintro ⟨h1,h2,h3⟩
   refine ⟨h1,by omega,fun k hk=>?_⟩
   cases k with
   |zero=>simp [h2]
   |succ k=>
    have:=h3 _ (kJ (t:=r) (i:=k) (by omega))
    simp only [b9] at this
    simpa using this
  ·rintro ⟨h1,_,h3⟩
   refine ⟨h1,?_,fun x hx=>?_⟩
   ·simpa using h3 0 (by omega)
   ·obtain ⟨k,hk,rfl⟩:=abn.1 hx
    have:=h3 (k+1) (by omega)
    simp only [b9]
    simpa [aaK,hk] using this
theorem jS {s:cx} (h:¬ (s.length≤64∧1≤s.length∧∀ k,k<s.length→(bN (s.getD k 0)||(decide (k≠0)&&isDigit (s.getD k 0)))=true)):isName s=false:=by
 rw [abO];exact fun h'=>h ((isName_iff s).1 h')
theorem BI (sz:Nat) (r:List D):dA sz [r]=(r.length==sz&&r.all D.one&&true):=(rfl)
theorem wu (k:IntKind) (i:Int):D.one (.int k i)=true:=(rfl)
theorem wv (s:cx):D.one (.str s)=true:=(rfl)
theorem one_bool (b:Bool):D.one (.bool b)=true:=(rfl)
theorem A8 (l:List (List D)):D.one (.sl l)=true:=(rfl)
attribute [go_sem] BI wu wv one_bool A8
theorem Lv {r:cx} {c:UInt8} {n:Nat} (h:nQ r= .ok c n):2≤n∧n≤r.length+1:=by
 simp only [nQ] at h
 repeat' split at h
 all_goals (cases h;try omega)
theorem ob {s:cx} {c:UInt8} {n:Nat} (h:tW s= .ok c n) (hs:0<s.length):1≤n∧n≤s.length:=by
 simp only [tW] at h
 split at h
 ·cases h
 ·split at h
  ·cases h;omega
  ·have:=Lv h;simp at this;omega
theorem Iw {r:cx} {e:Int} (h:nQ r= .err e):e=4∨e=5:=by
 simp only [nQ] at h
 repeat' split at h
 all_goals (cases h;try omega)
theorem C6 {s:cx} {e:Int} (h:tW s= .err e):e=4∨e=5:=by
 simp only [tW] at h
 split at h
 ·cases h;omega
 ·split at h
  ·cases h
  ·exact Iw h
theorem E5:∀ (f:Nat) (r acc:cx) (n:Nat),r.length≤f→Az (f+1) r acc n=Az (r.length+1) r acc n:=by
 intro f
 induction f using Nat.strongRecOn with
 |_ f ih=>
  intro r acc n hf
  cases r with
  |nil=>rfl
  |cons c r=>
   simp only [Az]
   split
   ·rfl
   ·cases hch:tW (c::r) with
    |err e=>rfl
    |ok b k=>
     have hk:=ob hch (by simp)
     simp only [aaM] at hk hf ⊢
     obtain ⟨f,rfl⟩:∃ g,f=g+1:=⟨f - 1,by omega⟩
     have hl:((c::r).drop k).length=r.length+1 - k:=by simp
     rw [ih f (by omega) _ _ _ (by omega),ih r.length (by omega) _ _ _ (by omega)]
def lq (r acc:cx) (n:Nat):pE:=Az (r.length+1) r acc n
theorem jk (acc:cx) (n:Nat):lq [] acc n= .err 4:=(rfl)
theorem kL (c:UInt8) (r acc:cx) (n:Nat):lq (c::r) acc n=if c.toNat=34 then (if 4096<acc.length then .err 3 else .ok 3 acc (n+1)) else match tW (c::r) with
  | .err e=> .err e
  | .ok b k=>lq ((c::r).drop k) (acc++[b]) (n+k):=by
 rw [lq,aaM]
 simp only [Az]
 split
 ·rfl
 ·cases hch:tW (c::r) with
  |err e=>rfl
  |ok b k=>
   have hk:=ob hch (by simp)
   have hl:((c::r).drop k).length=r.length+1 - k:=by simp
   exact E5 r.length _ _ _ (by omega)
theorem E6 (a b:Nat) (t:Tk):(vT t).within a b=true:=by rw [vT,nY,nZ]
theorem E7 (a b:Nat) (t:Ex):(vE t).within a b=true:=by rw [vE,nY,nZ]
attribute [go_sem] E6 E7
theorem mq {c:UInt8} (h:bN c=true):b9 c=true:=by simp [b9,h]
theorem C9 {s:cx} {i:Nat} (hi:i<s.length):jy (s.drop i)=if bN (s.getD i 0) then lZ (s.drop i) else if isDigit (s.getD i 0) then vU (s.drop i) else if (s.getD i 0).toNat=34 then lq (s.drop (i+1)) [] 1 else AA (s.drop i):=by
 conv=>lhs;rw [drop_cons hi]
 simp only [jy,lq]
 rw [←drop_cons hi]
theorem sB {s:cx} {k:Int} {t:cx} {n:Nat} (h:lZ s= .ok k t n):n≤s.length∧k=1∧t.length=n:=by
 have:=(abQ b9 (l:=s)).length_le
 simp only [lZ] at h
 split at h
 ·cases h
 ·cases h;exact ⟨this,rfl,rfl⟩
theorem wZ {s:cx} {k:Int} {t:cx} {n:Nat} (h:vU s= .ok k t n):n≤s.length∧k=2∧t=s.takeWhile isDigit∧n=t.length:=by
 have:=(abQ isDigit (l:=s)).length_le
 simp only [vU] at h
 split at h
 ·cases h
 ·split at h
  ·cases h
  ·cases h;exact ⟨this,rfl,rfl,rfl⟩
theorem rC:∀ (m:Nat) (r acc:cx) (n0:Nat) {k:Int} {t:cx} {n:Nat},r.length≤m→lq r acc n0= .ok k t n→n0<n∧n≤n0+r.length∧k=3∧t.length≤4096:=by
 intro m
 induction m with
 |zero=>
  intro r acc n0 k t n hm h
  have:r=[]:=by cases r<;>simp_all
  subst this
  rw [jk] at h;cases h
 |succ m ih=>
  intro r acc n0 k t n hm h
  cases r with
  |nil=>rw [jk] at h;cases h
  |cons c r=>
   rw [kL] at h
   split at h
   ·split at h
    ·cases h
    ·cases h;simp;omega
   ·cases hch:tW (c::r) with
    |err e=>rw [hch] at h;cases h
    |ok b j=>
     rw [hch] at h
     have hk:=ob hch (by simp)
     have:=ih ((c::r).drop j) _ _ (by simp at hm ⊢;omega) h
     simp only [aa6,aaM] at this hk ⊢
     omega
theorem Iz {s:cx} {k:Int} {t:cx} {n:Nat} (h:AA s= .ok k t n):1≤n∧n≤s.length∧k=4∧t=s.take n:=by
 simp only [AA] at h
 split at h
 ·rename_i h2
  cases h
  simp only [isOp2,aaS] at h2
  have:(s.take 2).length=2:=by rcases h2 with h|h|h|h|h|h<;>rw [h]<;>rfl
  simp at this
  exact ⟨by omega,by omega,rfl,rfl⟩
 ·split at h
  ·cases h
  ·split at h
   ·cases h;exact ⟨by omega,by simp,rfl,rfl⟩
   ·cases h
theorem lA {s:cx} {k:Int} {t:cx} {n:Nat} (h:jy s= .ok k t n):1≤n∧n≤s.length∧k≠5∧k≠0:=by
 cases s with
 |nil=>simp only [jy] at h;cases h
 |cons c r=>
  simp only [jy] at h
  split at h
  ·rename_i hl
   have:=sB h
   have hw:0< ((c::r).takeWhile b9).length:=by rw [abN,mq hl];simp
   simp only [lZ] at h
   split at h
   ·cases h
   ·cases h;refine ⟨hw,this.1,by omega,by omega⟩
  ·split at h
   ·rename_i hdg
    have:=wZ h
    have hw:0< ((c::r).takeWhile isDigit).length:=by rw [abN,hdg];simp
    obtain ⟨h1,h2,h3,h4⟩:=this
    rw [←h3] at hw
    exact ⟨by omega,h1,by omega,by omega⟩
   ·split at h
    ·have:=rC r.length r [] 1 (aaP _) h
     simp;omega
    ·have:=Iz h;exact ⟨this.1,this.2.1,by omega,by omega⟩
theorem IA:∀ (m:Nat) (r acc:cx) (n0:Nat) {e:Int},r.length≤m→lq r acc n0= .err e→e≠0:=by
 intro m
 induction m with
 |zero=>
  intro r acc n0 e hm h
  have:r=[]:=by cases r<;>simp_all
  subst this
  rw [jk] at h;cases h;omega
 |succ m ih=>
  intro r acc n0 e hm h
  cases r with
  |nil=>rw [jk] at h;cases h;omega
  |cons c r=>
   rw [kL] at h
   split at h
   ·split at h
    ·cases h;omega
    ·cases h
   ·cases hch:tW (c::r) with
    |err e'=>rw [hch] at h;cases h;have:=C6 hch;omega
    |ok b j=>
     rw [hch] at h
     have hk:=ob hch (by simp)
     exact ih ((c::r).drop j) _ _ (by simp at hm ⊢;omega) h
theorem sC {s:cx} {e:Int} (h:jy s= .err e):e≠0:=by
 cases s with
 |nil=>simp only [jy] at h;cases h;omega
 |cons c r=>
  simp only [jy] at h
  split at h
  ·simp only [lZ] at h
   split at h<;>cases h;omega
  ·split at h
   ·simp only [vU] at h
    split at h
    ·cases h;omega
    ·split at h<;>cases h;omega
   ·split at h
    ·exact IA r.length r [] 1 (aaP _) h
    ·simp only [AA] at h
     split at h
     ·cases h
     ·split at h
      ·cases h
      ·cases h;omega
theorem sD:∀ (f a:Nat) (s:cx) (op:Nat) (out:List Tk),s.length<f→dV f a s op out=dV (s.length+1) a s op out:=by
 intro f
 induction f using Nat.strongRecOn with
 |_ f ih=>
  intro a s op out hf
  obtain ⟨f,rfl⟩:∃ g,f=g+1:=⟨f - 1,by omega⟩
  cases s with
  |nil=>rfl
  |cons c r=>
   have step:∀ (b:Nat) (s':cx) (op':Nat) (out':List Tk),s'.length≤r.length→dV f b s' op' out'=dV (c::r).length b s' op' out':=by
    intro b s' op' out' hl
    simp only [aaM] at hf ⊢
    rw [ih f (by omega) _ _ _ _ (by omega),ih (r.length+1) (by omega) _ _ _ _ (by omega)]
   simp only [dV]
   split
   ·exact step _ _ _ _ (aaP _)
   ·split
    ·rename_i hc
     refine step _ _ _ _ ?_
     rw [abN,if_pos (by simp [fO,hc])]
     simp
    ·split
     ·exact step _ _ _ _ (aaP _)
     ·cases ht:jy (c::r) with
      |err e=>rfl
      |ok k t n=>
       have:=lA ht
       exact step _ _ _ _ (by simp;omega)
def jw (a:Nat) (s:cx) (op:Nat) (out:List Tk):qp:=dV (s.length+1) a s op out
theorem u5 (a op:Nat) (out:List Tk):jw a [] op out= .ok out:=(rfl)
def TY (a op:Nat) (out:List Tk):List Tk:=if op=0∧(out=[]∨(out.getLast?.map Tk.kind)≠some 5) then out++[⟨5,[],a⟩] else out
theorem lB (a:Nat) (c:UInt8) (r:cx) (op:Nat) (out:List Tk):jw a (c::r) op out=
  if c.toNat=32∨c.toNat=9 then jw (a+1) r op out
  else if c.toNat=35 then jw (a+((c::r).takeWhile fO).length) ((c::r).drop ((c::r).takeWhile fO).length) op out
  else if c.toNat=10 then jw (a+1) r op (TY a op out)
  else match jy (c::r) with
   | .err e=> .err a e
   | .ok k t n=>jw (a+n) ((c::r).drop n) (if k=4 then jI t op else op) (out++[⟨k,t,a⟩]):=by
 rw [jw,aaM]
 simp only [dV]
 split
 ·rfl
 ·split
  ·rename_i hc
   refine sD _ _ _ _ _ ?_
   rw [abN,if_pos (by simp [fO,hc])]
   simp;omega
  ·split
   ·rfl
   ·cases ht:jy (c::r) with
    |err e=>rfl
    |ok k t n=>
     have:=lA ht
     exact sD _ _ _ _ _ (by simp;omega)
def Yc (l:List Tk):V:= .d (.sl (l.map Tk.enc))
def Da:qp→V
 | .ok ts=> .cF [Yc ts,ai 0,ai 0]
 | .err a e=> .cF [Yc [],ai a,ai e]
theorem aG (t:Tk):t.enc=[Abs.D.int .i64 t.kind,.str t.text,Abs.D.int .i64 t.at_]:=(rfl)
theorem pU {out:List Tk} (h:out≠[]):out.getLast?.map Tk.kind=some (out.getD (out.length - 1) default).kind:=by
 rw [List.getLast?_eq_getElem?,aaK]
 have:out.length - 1<out.length:=by cases out<;>simp_all
 simp [this]
theorem rD {a op:Nat} {out:List Tk} (h:op=0) (h2:out.length=0∨(out.getD (out.length - 1) default).kind≠5):TY a op out=out++[⟨5,[],a⟩]:=by
 refine if_pos ⟨h,?_⟩
 by_cases he:out=[]
 ·exact .inl he
 ·refine .inr ?_
  rw [pU he]
  have:out.length≠0:=by simpa using he
  rcases h2 with h2|h2
  ·omega
  ·simpa using h2
theorem w5 {a op:Nat} {out:List Tk} (h:op≠0∨(out.length≠0∧(out.getD (out.length - 1) default).kind=5)):TY a op out=out:=by
 refine if_neg ?_
 rintro ⟨h1,h2⟩
 rcases h with h|⟨h3,h4⟩
 ·exact h h1
 ·have he:out≠[]:=by rintro rfl;simp at h3
  rw [pU he] at h2
  rcases h2 with h2|h2
  ·exact he h2
  ·exact h2 (by rw [h4])
