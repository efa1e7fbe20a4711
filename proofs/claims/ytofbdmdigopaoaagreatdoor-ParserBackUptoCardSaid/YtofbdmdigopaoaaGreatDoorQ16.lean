/- A step of the proofs of the seat's theorems. -/
import Derived.Test.YtofbdmdigopaoaaGreatDoorQ1
import Derived.Test.YtofbdmdigopaoaaGreatDoorQ13
import Derived.Test.YtofbdmdigopaoaaGreatDoorQ14
import Derived.Test.YtofbdmdigopaoaaGreatDoorQ15
import Derived.KernelRfl
set_option linter.unusedSimpArgs false
set_option linter.unusedVariables false
section
namespace Go.Proofs.YtofbdmdigopaoaaGreatDoor
open Go.Abs
theorem mx : Tryz.prog.follows .mixedOrders = true := Tryz.checked.mixed
theorem en10 (p : Prop) : EnP Tryz.prog 10 p = p := EnP_eq (by kernel_rfl) p
theorem en11 (p : Prop) : EnP Tryz.prog 11 p = p := EnP_eq (by kernel_rfl) p
theorem en14 (p : Prop) : EnP Tryz.prog 14 p = p := EnP_eq (by kernel_rfl) p
theorem en16 (p : Prop) : EnP Tryz.prog 16 p = p := EnP_eq (by kernel_rfl) p
theorem en17 (p : Prop) : EnP Tryz.prog 17 p = p := EnP_eq (by kernel_rfl) p
theorem en18 (p : Prop) : EnP Tryz.prog 18 p = p := EnP_eq (by kernel_rfl) p
theorem en19 (p : Prop) : EnP Tryz.prog 19 p = p := EnP_eq (by kernel_rfl) p
theorem en21 (p : Prop) : EnP Tryz.prog 21 p = p := EnP_eq (by kernel_rfl) p
theorem en22 (p : Prop) : EnP Tryz.prog 22 p = p := EnP_eq (by kernel_rfl) p
theorem en23 (p : Prop) : EnP Tryz.prog 23 p = p := EnP_eq (by kernel_rfl) p
theorem en24 (p : Prop) : EnP Tryz.prog 24 p = p := EnP_eq (by kernel_rfl) p
theorem en25 (p : Prop) : EnP Tryz.prog 25 p = p := EnP_eq (by kernel_rfl) p
theorem en26 (p : Prop) : EnP Tryz.prog 26 p = p := EnP_eq (by kernel_rfl) p
theorem en29 (p : Prop) : EnP Tryz.prog 29 p = p := EnP_eq (by kernel_rfl) p
theorem en31 (p : Prop) : EnP Tryz.prog 31 p = p := EnP_eq (by kernel_rfl) p
theorem en32 (p : Prop) : EnP Tryz.prog 32 p = p := EnP_eq (by kernel_rfl) p
theorem en33 (p : Prop) : EnP Tryz.prog 33 p = p := EnP_eq (by kernel_rfl) p
theorem en35 (p : Prop) : EnP Tryz.prog 35 p = p := EnP_eq (by kernel_rfl) p
theorem en36 (p : Prop) : EnP Tryz.prog 36 p = p := EnP_eq (by kernel_rfl) p
theorem en37 (p : Prop) : EnP Tryz.prog 37 p = p := EnP_eq (by kernel_rfl) p
theorem en38 (p : Prop) : EnP Tryz.prog 38 p = p := EnP_eq (by kernel_rfl) p
theorem en39 (p : Prop) : EnP Tryz.prog 39 p = p := EnP_eq (by kernel_rfl) p
theorem en40 (p : Prop) : EnP Tryz.prog 40 p = p := EnP_eq (by kernel_rfl) p
theorem en42 (p : Prop) : EnP Tryz.prog 42 p = p := EnP_eq (by kernel_rfl) p
theorem en43 (p : Prop) : EnP Tryz.prog 43 p = p := EnP_eq (by kernel_rfl) p
theorem en49 (p : Prop) : EnP Tryz.prog 49 p = p := EnP_eq (by kernel_rfl) p
theorem en53 (p : Prop) : EnP Tryz.prog 53 p = p := EnP_eq (by kernel_rfl) p
theorem en54 (p : Prop) : EnP Tryz.prog 54 p = p := EnP_eq (by kernel_rfl) p
theorem en55 (p : Prop) : EnP Tryz.prog 55 p = p := EnP_eq (by kernel_rfl) p
theorem en56 (p : Prop) : EnP Tryz.prog 56 p = p := EnP_eq (by kernel_rfl) p
theorem en57 (p : Prop) : EnP Tryz.prog 57 p = p := EnP_eq (by kernel_rfl) p
theorem en58 (p : Prop) : EnP Tryz.prog 58 p = p := EnP_eq (by kernel_rfl) p
theorem en59 (p : Prop) : EnP Tryz.prog 59 p = p := EnP_eq (by kernel_rfl) p
theorem en60 (p : Prop) : EnP Tryz.prog 60 p = p := EnP_eq (by kernel_rfl) p
theorem en64 (p : Prop) : EnP Tryz.prog 64 p = p := EnP_eq (by kernel_rfl) p
theorem en65 (p : Prop) : EnP Tryz.prog 65 p = p := EnP_eq (by kernel_rfl) p
theorem en66 (p : Prop) : EnP Tryz.prog 66 p = p := EnP_eq (by kernel_rfl) p
theorem en67 (p : Prop) : EnP Tryz.prog 67 p = p := EnP_eq (by kernel_rfl) p
theorem en68 (p : Prop) : EnP Tryz.prog 68 p = p := EnP_eq (by kernel_rfl) p
theorem en69 (p : Prop) : EnP Tryz.prog 69 p = p := EnP_eq (by kernel_rfl) p
theorem en70 (p : Prop) : EnP Tryz.prog 70 p = p := EnP_eq (by kernel_rfl) p
theorem en71 (p : Prop) : EnP Tryz.prog 71 p = p := EnP_eq (by kernel_rfl) p
theorem en72 (p : Prop) : EnP Tryz.prog 72 p = p := EnP_eq (by kernel_rfl) p
theorem en80 (p : Prop) : EnP Tryz.prog 80 p = p := EnP_eq (by kernel_rfl) p
theorem en81 (p : Prop) : EnP Tryz.prog 81 p = p := EnP_eq (by kernel_rfl) p
theorem en82 (p : Prop) : EnP Tryz.prog 82 p = p := EnP_eq (by kernel_rfl) p
theorem en84 (p : Prop) : EnP Tryz.prog 84 p = p := EnP_eq (by kernel_rfl) p
theorem en85 (p : Prop) : EnP Tryz.prog 85 p = p := EnP_eq (by kernel_rfl) p
theorem en86 (p : Prop) : EnP Tryz.prog 86 p = p := EnP_eq (by kernel_rfl) p
theorem en87 (p : Prop) : EnP Tryz.prog 87 p = p := EnP_eq (by kernel_rfl) p
theorem en88 (p : Prop) : EnP Tryz.prog 88 p = p := EnP_eq (by kernel_rfl) p
theorem en89 (p : Prop) : EnP Tryz.prog 89 p = p := EnP_eq (by kernel_rfl) p
theorem en90 (p : Prop) : EnP Tryz.prog 90 p = p := EnP_eq (by kernel_rfl) p
theorem en91 (p : Prop) : EnP Tryz.prog 91 p = p := EnP_eq (by kernel_rfl) p
theorem en92 (p : Prop) : EnP Tryz.prog 92 p = p := EnP_eq (by kernel_rfl) p
theorem en93 (p : Prop) : EnP Tryz.prog 93 p = p := EnP_eq (by kernel_rfl) p
theorem en94 (p : Prop) : EnP Tryz.prog 94 p = p := EnP_eq (by kernel_rfl) p
theorem en95 (p : Prop) : EnP Tryz.prog 95 p = p := EnP_eq (by kernel_rfl) p
theorem en96 (p : Prop) : EnP Tryz.prog 96 p = p := EnP_eq (by kernel_rfl) p
theorem en97 (p : Prop) : EnP Tryz.prog 97 p = p := EnP_eq (by kernel_rfl) p
theorem en101 (p : Prop) : EnP Tryz.prog 101 p = p := EnP_eq (by kernel_rfl) p
theorem en102 (p : Prop) : EnP Tryz.prog 102 p = p := EnP_eq (by kernel_rfl) p
theorem en103 (p : Prop) : EnP Tryz.prog 103 p = p := EnP_eq (by kernel_rfl) p
theorem en104 (p : Prop) : EnP Tryz.prog 104 p = p := EnP_eq (by kernel_rfl) p
theorem en105 (p : Prop) : EnP Tryz.prog 105 p = p := EnP_eq (by kernel_rfl) p
theorem en106 (p : Prop) : EnP Tryz.prog 106 p = p := EnP_eq (by kernel_rfl) p
theorem en108 (p : Prop) : EnP Tryz.prog 108 p = p := EnP_eq (by kernel_rfl) p
theorem en109 (p : Prop) : EnP Tryz.prog 109 p = p := EnP_eq (by kernel_rfl) p
theorem en110 (p : Prop) : EnP Tryz.prog 110 p = p := EnP_eq (by kernel_rfl) p
theorem en111 (p : Prop) : EnP Tryz.prog 111 p = p := EnP_eq (by kernel_rfl) p
theorem en112 (p : Prop) : EnP Tryz.prog 112 p = p := EnP_eq (by kernel_rfl) p
theorem en113 (p : Prop) : EnP Tryz.prog 113 p = p := EnP_eq (by kernel_rfl) p
theorem en117 (p : Prop) : EnP Tryz.prog 117 p = p := EnP_eq (by kernel_rfl) p
theorem en118 (p : Prop) : EnP Tryz.prog 118 p = p := EnP_eq (by kernel_rfl) p
theorem en119 (p : Prop) : EnP Tryz.prog 119 p = p := EnP_eq (by kernel_rfl) p
theorem en120 (p : Prop) : EnP Tryz.prog 120 p = p := EnP_eq (by kernel_rfl) p
theorem en121 (p : Prop) : EnP Tryz.prog 121 p = p := EnP_eq (by kernel_rfl) p
theorem en122 (p : Prop) : EnP Tryz.prog 122 p = p := EnP_eq (by kernel_rfl) p
theorem en123 (p : Prop) : EnP Tryz.prog 123 p = p := EnP_eq (by kernel_rfl) p
theorem en125 (p : Prop) : EnP Tryz.prog 125 p = p := EnP_eq (by kernel_rfl) p
theorem en126 (p : Prop) : EnP Tryz.prog 126 p = p := EnP_eq (by kernel_rfl) p
theorem en127 (p : Prop) : EnP Tryz.prog 127 p = p := EnP_eq (by kernel_rfl) p
theorem en130 (p : Prop) : EnP Tryz.prog 130 p = p := EnP_eq (by kernel_rfl) p
theorem en131 (p : Prop) : EnP Tryz.prog 131 p = p := EnP_eq (by kernel_rfl) p
theorem en132 (p : Prop) : EnP Tryz.prog 132 p = p := EnP_eq (by kernel_rfl) p
theorem en133 (p : Prop) : EnP Tryz.prog 133 p = p := EnP_eq (by kernel_rfl) p
theorem en134 (p : Prop) : EnP Tryz.prog 134 p = p := EnP_eq (by kernel_rfl) p
theorem en135 (p : Prop) : EnP Tryz.prog 135 p = p := EnP_eq (by kernel_rfl) p
theorem en136 (p : Prop) : EnP Tryz.prog 136 p = p := EnP_eq (by kernel_rfl) p
theorem en137 (p : Prop) : EnP Tryz.prog 137 p = p := EnP_eq (by kernel_rfl) p
theorem en140 (p : Prop) : EnP Tryz.prog 140 p = p := EnP_eq (by kernel_rfl) p
theorem en141 (p : Prop) : EnP Tryz.prog 141 p = p := EnP_eq (by kernel_rfl) p
theorem en142 (p : Prop) : EnP Tryz.prog 142 p = p := EnP_eq (by kernel_rfl) p
theorem en143 (p : Prop) : EnP Tryz.prog 143 p = p := EnP_eq (by kernel_rfl) p
theorem en144 (p : Prop) : EnP Tryz.prog 144 p = p := EnP_eq (by kernel_rfl) p
theorem en145 (p : Prop) : EnP Tryz.prog 145 p = p := EnP_eq (by kernel_rfl) p
theorem en146 (p : Prop) : EnP Tryz.prog 146 p = p := EnP_eq (by kernel_rfl) p
theorem en148 (p : Prop) : EnP Tryz.prog 148 p = p := EnP_eq (by kernel_rfl) p
theorem en149 (p : Prop) : EnP Tryz.prog 149 p = p := EnP_eq (by kernel_rfl) p
theorem en150 (p : Prop) : EnP Tryz.prog 150 p = p := EnP_eq (by kernel_rfl) p
theorem en151 (p : Prop) : EnP Tryz.prog 151 p = p := EnP_eq (by kernel_rfl) p
theorem en152 (p : Prop) : EnP Tryz.prog 152 p = p := EnP_eq (by kernel_rfl) p
theorem en153 (p : Prop) : EnP Tryz.prog 153 p = p := EnP_eq (by kernel_rfl) p
theorem en155 (p : Prop) : EnP Tryz.prog 155 p = p := EnP_eq (by kernel_rfl) p
theorem en156 (p : Prop) : EnP Tryz.prog 156 p = p := EnP_eq (by kernel_rfl) p
theorem en157 (p : Prop) : EnP Tryz.prog 157 p = p := EnP_eq (by kernel_rfl) p
theorem en160 (p : Prop) : EnP Tryz.prog 160 p = p := EnP_eq (by kernel_rfl) p
theorem en161 (p : Prop) : EnP Tryz.prog 161 p = p := EnP_eq (by kernel_rfl) p
theorem en162 (p : Prop) : EnP Tryz.prog 162 p = p := EnP_eq (by kernel_rfl) p
theorem en163 (p : Prop) : EnP Tryz.prog 163 p = p := EnP_eq (by kernel_rfl) p
theorem en164 (p : Prop) : EnP Tryz.prog 164 p = p := EnP_eq (by kernel_rfl) p
theorem en167 (p : Prop) : EnP Tryz.prog 167 p = p := EnP_eq (by kernel_rfl) p
theorem en168 (p : Prop) : EnP Tryz.prog 168 p = p := EnP_eq (by kernel_rfl) p
theorem en169 (p : Prop) : EnP Tryz.prog 169 p = p := EnP_eq (by kernel_rfl) p
theorem en170 (p : Prop) : EnP Tryz.prog 170 p = p := EnP_eq (by kernel_rfl) p
theorem en173 (p : Prop) : EnP Tryz.prog 173 p = p := EnP_eq (by kernel_rfl) p
theorem en174 (p : Prop) : EnP Tryz.prog 174 p = p := EnP_eq (by kernel_rfl) p
theorem en175 (p : Prop) : EnP Tryz.prog 175 p = p := EnP_eq (by kernel_rfl) p
theorem en179 (p : Prop) : EnP Tryz.prog 179 p = p := EnP_eq (by kernel_rfl) p
theorem en180 (p : Prop) : EnP Tryz.prog 180 p = p := EnP_eq (by kernel_rfl) p
theorem en183 (p : Prop) : EnP Tryz.prog 183 p = p := EnP_eq (by kernel_rfl) p
theorem en187 (p : Prop) : EnP Tryz.prog 187 p = p := EnP_eq (by kernel_rfl) p
theorem en188 (p : Prop) : EnP Tryz.prog 188 p = p := EnP_eq (by kernel_rfl) p
theorem en189 (p : Prop) : EnP Tryz.prog 189 p = p := EnP_eq (by kernel_rfl) p
theorem en190 (p : Prop) : EnP Tryz.prog 190 p = p := EnP_eq (by kernel_rfl) p
theorem en191 (p : Prop) : EnP Tryz.prog 191 p = p := EnP_eq (by kernel_rfl) p
attribute [go_sem] en10 en11 en14 en16 en17 en18 en19 en21 en22 en23 en24 en25 en26 en29 en31 en32 en33 en35 en36 en37 en38 en39 en40 en42 en43 en49 en53 en54 en55 en56 en57 en58 en59 en60 en64 en65 en66 en67 en68 en69 en70 en71 en72 en80 en81 en82 en84 en85 en86 en87 en88 en89 en90 en91 en92 en93 en94 en95 en96 en97 en101 en102 en103 en104 en105 en106 en108 en109 en110 en111 en112 en113 en117 en118 en119 en120 en121 en122 en123 en125 en126 en127 en130 en131 en132 en133 en134 en135 en136 en137 en140 en141 en142 en143 en144 en145 en146 en148 en149 en150 en151 en152 en153 en155 en156 en157 en160 en161 en162 en163 en164 en167 en168 en169 en170 en173 en174 en175 en179 en180 en183 en187 en188 en189 en190 en191 Tryz.results3 Tryz.results4 Tryz.results5 Tryz.results6 Tryz.results7 Tryz.results8 Tryz.results9 Tryz.results10 Tryz.results11 Tryz.results12 Tryz.results13 Tryz.results14 Tryz.results15 Tryz.results16 Tryz.results17 Tryz.results18 Tryz.results19 Tryz.results20 Tryz.results21 Tryz.results22 Tryz.results23 Tryz.results24 Tryz.results25 Tryz.results26 Tryz.results27 Tryz.results28 Tryz.results29 Tryz.results30 Tryz.results31 Tryz.results32 Tryz.results33 Tryz.results34 Tryz.results35 Tryz.results36 Tryz.results37 Tryz.results38 Tryz.results39 Tryz.results40 Tryz.results41 Tryz.results42 Tryz.results43 Tryz.results44 Tryz.results45 Tryz.results46 Tryz.results47 Tryz.results48 Tryz.results49 Tryz.results50 Tryz.results51 Tryz.results52 Tryz.results53 Tryz.results54 Tryz.results55 Tryz.results56 Tryz.results57 Tryz.results58 Tryz.results59 Tryz.results60 Tryz.results61 Tryz.results62 Tryz.results63 Tryz.results64 Tryz.results65 Tryz.results66 Tryz.results67 Tryz.results68 Tryz.results69 Tryz.results70 Tryz.results71 Tryz.results72 Tryz.results73 Tryz.results74 Tryz.results75 Tryz.results76 Tryz.results77 Tryz.results78 Tryz.results79 Tryz.results80 Tryz.results81 Tryz.results82 Tryz.results83 Tryz.results84 Tryz.results85 Tryz.results86 Tryz.results87 Tryz.results88 Tryz.results89 Tryz.results90 Tryz.results91 Tryz.results92 Tryz.results93 Tryz.results94 Tryz.results95 Tryz.results96 Tryz.results97 Tryz.results98 Tryz.results99 Tryz.results100 Tryz.results101 Tryz.results102 Tryz.results103 Tryz.results104 Tryz.results105 Tryz.results106 Tryz.results107 Tryz.results108 Tryz.results109 Tryz.results110 Tryz.results111 Tryz.results112 Tryz.results113 Tryz.results114 Tryz.results115 Tryz.results116 Tryz.results117 Tryz.results118 Tryz.results119 Tryz.results120 Tryz.results121 Tryz.results122 Tryz.results123 Tryz.results124 Tryz.results125 Tryz.results126 Tryz.results127 Tryz.results128 Tryz.results129 Tryz.results130 Tryz.results131 Tryz.results132 Tryz.results133 Tryz.results134 Tryz.results135 Tryz.results136 Tryz.results137 Tryz.results138 Tryz.results139 Tryz.results140 Tryz.results141 Tryz.results142 Tryz.results143 Tryz.results144 Tryz.results145 Tryz.results146 Tryz.results147 Tryz.results148 Tryz.results149 Tryz.results150 Tryz.results151 Tryz.results152 Tryz.results153 Tryz.results154 Tryz.results155 Tryz.results156 Tryz.results157 Tryz.results158 Tryz.results159 Tryz.results160 Tryz.results161 Tryz.results162 Tryz.results163 Tryz.results164 Tryz.results165 Tryz.results166 Tryz.results167 Tryz.results168 Tryz.results169 Tryz.results170 Tryz.results172 Tryz.results173 Tryz.results174 Tryz.results175 Tryz.results176 Tryz.results177 Tryz.results178 Tryz.results179 Tryz.results180 Tryz.results181 Tryz.results183 Tryz.results184 Tryz.results185 Tryz.results186 Tryz.results187 Tryz.results188 Tryz.results189 Tryz.results190 Tryz.results191 Tryz.results192 Tryz.results193 Tryz.results194 Tryz.results195 Tryz.results196 Tryz.results197 Tryz.results198 Tryz.results199 Tryz.results200 Tryz.results201 Tryz.results202 Tryz.results203 Tryz.results204 Tryz.results205 Tryz.results206 Tryz.results207 Tryz.results208 Tryz.results209 Tryz.results210 Tryz.results211 Tryz.results212 Tryz.results213 Tryz.results214 Tryz.results215 Tryz.results216 Tryz.results217 Tryz.results218 Tryz.results219 Tryz.results221 Tryz.results222 Tryz.results223 Tryz.results224 Tryz.results225 Tryz.results226 Tryz.results258 Int.cast_ofNat_Int
end Go.Proofs.YtofbdmdigopaoaaGreatDoor
end
section
namespace Go.Proofs.YtofbdmdigopaoaaGreatDoor
open Go.Abs
abbrev int (n : Int) : D := .int .i64 n
abbrev vint (n : Int) : V := .d (.int .i64 n)
def encKs (l : List Str) : List (List D) := l.map fun k => [.str k]
def Val.enc : Val → List D
 | .mk k b i s l ks => [Abs.D.int .i64 k, .bool b, Abs.D.int .i64 i, .str s, .sl (encL l), .sl (encKs ks)]
where encL : List Val → List (List D)
 | [] => []
 | v :: r => v.enc :: encL r
def Ex.enc : Ex → List D
 | .mk k nm v ar ks => [Abs.D.int .i64 k, .str nm] ++ v.enc ++ [.sl (encL ar), .sl (encKs ks)]
where encL : List Ex → List (List D)
 | [] => []
 | v :: r => v.enc :: encL r
def Tk.enc (t : Tk) : List D := [Abs.D.int .i64 t.kind, .str t.text, Abs.D.int .i64 t.at_]
theorem Val.encL_map (l : List Val) : Val.enc.encL l = l.map Val.enc := by induction l <;> simp_all [Val.enc.encL]
theorem Ex.encL_map (l : List Ex) : Ex.enc.encL l = l.map Ex.enc := by induction l <;> simp_all [Ex.enc.encL]
theorem Val.enc_eq (v : Val) : v.enc = [Abs.D.int .i64 v.kind, .bool v.bool, Abs.D.int .i64 v.int, .str v.str, .sl (v.list.map Val.enc), .sl (encKs v.keys)] := by
 cases v; simp [Val.enc, Val.encL_map, Val.kind, Val.bool, Val.int, Val.str, Val.list, Val.keys]
theorem Ex.enc_eq (e : Ex) : e.enc = [Abs.D.int .i64 e.kind, .str e.name] ++ e.value.enc ++ [.sl (e.args.map Ex.enc), .sl (encKs e.keys)] := by
 cases e; simp [Ex.enc, Ex.encL_map, Ex.kind, Ex.name, Ex.value, Ex.args, Ex.keys]
theorem Val.enc_len (v : Val) : v.enc.length = 6 := by rw [Val.enc_eq]; rfl
theorem Ex.enc_len (e : Ex) : e.enc.length = 10 := by rw [Ex.enc_eq]; simp [Val.enc_len]
theorem Tk.enc_len (t : Tk) : t.enc.length = 3 := rfl
def vE (e : Ex) : V := .agg (e.enc.map .d)
def vV (v : Val) : V := .agg (v.enc.map .d)
def vT (t : Tk) : V := .agg (t.enc.map .d)
theorem vE_cells (e : Ex) : (vE e).cells = some (e.enc.map .d) := rfl
theorem vV_cells (v : Val) : (vV v).cells = some (v.enc.map .d) := rfl
theorem vT_cells (t : Tk) : (vT t).cells = some (t.enc.map .d) := rfl
theorem one_T (t : Tk) : ((t.enc.map V.d).all fun x => x.one) = true := rfl
theorem one_V (v : Val) : ((v.enc.map V.d).all fun x => x.one) = true := by rw [Val.enc_eq]; rfl
theorem one_E (e : Ex) : ((e.enc.map V.d).all fun x => x.one) = true := by rw [Ex.enc_eq, Val.enc_eq]; rfl
attribute [go_sem] one_T one_V one_E
theorem vE_share (e : Ex) : (vE e).share = vE e := by simp [vE, share_agg, shareL_map]
theorem vV_share (v : Val) : (vV v).share = vV v := by simp [vV, share_agg, shareL_map]
theorem vT_share (t : Tk) : (vT t).share = vT t := by simp [vT, share_agg, shareL_map]
theorem vE_fold (e : Ex) : V.agg (e.enc.map .d) = vE e := rfl
theorem vV_fold (v : Val) : V.agg (v.enc.map .d) = vV v := rfl
theorem vT_fold (t : Tk) : V.agg (t.enc.map .d) = vT t := rfl
theorem Vg0 (v : Val) : (v.enc)[0]? = some (int v.kind) := by rw [Val.enc_eq]; rfl
theorem Vg1 (v : Val) : (v.enc)[1]? = some (.bool v.bool) := by rw [Val.enc_eq]; rfl
theorem Vg2 (v : Val) : (v.enc)[2]? = some (int v.int) := by rw [Val.enc_eq]; rfl
theorem Vg3 (v : Val) : (v.enc)[3]? = some (.str v.str) := by rw [Val.enc_eq]; rfl
theorem Vg4 (v : Val) : (v.enc)[4]? = some (.sl (v.list.map Val.enc)) := by rw [Val.enc_eq]; rfl
theorem Vg5 (v : Val) : (v.enc)[5]? = some (.sl (encKs v.keys)) := by rw [Val.enc_eq]; rfl
theorem Eg0 (e : Ex) : (e.enc)[0]? = some (int e.kind) := by rw [Ex.enc_eq]; rfl
theorem Eg1 (e : Ex) : (e.enc)[1]? = some (.str e.name) := by rw [Ex.enc_eq]; rfl
theorem Eg2 (e : Ex) : (e.enc)[2]? = some (int e.value.kind) := by rw [Ex.enc_eq, Val.enc_eq]; rfl
theorem Eg4 (e : Ex) : (e.enc)[4]? = some (int e.value.int) := by rw [Ex.enc_eq, Val.enc_eq]; rfl
theorem Eg8 (e : Ex) : (e.enc)[8]? = some (.sl (e.args.map Ex.enc)) := by rw [Ex.enc_eq, Val.enc_eq]; rfl
theorem Eg9 (e : Ex) : (e.enc)[9]? = some (.sl (encKs e.keys)) := by rw [Ex.enc_eq, Val.enc_eq]; rfl
theorem Ev (e : Ex) : (e.enc.drop 2).take 6 = e.value.enc := by rw [Ex.enc_eq, Val.enc_eq]; rfl
theorem Ev' (e : Ex) : ((e.enc.map V.d).drop 2).take 6 = e.value.enc.map .d := by rw [← Ev]; simp
theorem Ew (e : Ex) : (e.enc).take 10 = e.enc := by rw [← Ex.enc_len e, List.take_length]
theorem Ew' (e : Ex) : (e.enc.map V.d).take 10 = e.enc.map .d := by rw [← Ex.enc_len e, ← List.map_take, List.take_length]
theorem Vw (v : Val) : (v.enc).take 6 = v.enc := by rw [← Val.enc_len v, List.take_length]
theorem Vw' (v : Val) : (v.enc.map V.d).take 6 = v.enc.map .d := by rw [← Val.enc_len v, ← List.map_take, List.take_length]
theorem Tg0 (t : Tk) : (t.enc)[0]? = some (int t.kind) := rfl
theorem Tg1 (t : Tk) : (t.enc)[1]? = some (.str t.text) := rfl
theorem Tg2 (t : Tk) : (t.enc)[2]? = some (int t.at_) := rfl
theorem Tw (t : Tk) : (t.enc).take 3 = t.enc := rfl
theorem Tw' (t : Tk) : (t.enc.map V.d).take 3 = t.enc.map .d := rfl
theorem map_d_get (l : List D) (i : Nat) : (l.map V.d)[i]? = (l[i]?).map .d := by simp
theorem rowsLen_map {α : Type} (f : α → List D) (sz : Nat) (h : ∀ x, (f x).length = sz) (l : List α) : rowsLen sz (l.map f) = true := by simp [rowsLen, h]
theorem rowsLen_E (l : List Ex) : rowsLen 10 (l.map Ex.enc) = true := rowsLen_map _ _ Ex.enc_len l
theorem rowsLen_V (l : List Val) : rowsLen 6 (l.map Val.enc) = true := rowsLen_map _ _ Val.enc_len l
theorem rowsLen_T (l : List Tk) : rowsLen 3 (l.map Tk.enc) = true := rowsLen_map _ _ Tk.enc_len l
theorem rowsLen_K (l : List Str) : rowsLen 1 (encKs l) = true := rowsLen_map (fun k => [D.str k]) 1 (fun _ => rfl) l
@[simp] theorem encKs_len (l : List Str) : (encKs l).length = l.length := by simp [encKs]
theorem ia23 (es : List (List D)) (k : IntKind) (i : Int) : evalIndexAddr Tryz.prog 23 (.d (.sl es)) (.d (.int k i)) = ixR (rowsLen 6 es) es i := evalIndexAddr_sl T.sl23 es k i
attribute [go_sem] ia23
theorem ia24 (es : List (List D)) (k : IntKind) (i : Int) : evalIndexAddr Tryz.prog 24 (.d (.sl es)) (.d (.int k i)) = ixR (rowsLen 1 es) es i := evalIndexAddr_sl T.sl24 es k i
attribute [go_sem] ia24
theorem ia27 (es : List (List D)) (k : IntKind) (i : Int) : evalIndexAddr Tryz.prog 27 (.d (.sl es)) (.d (.int k i)) = ixR (rowsLen 10 es) es i := evalIndexAddr_sl T.sl27 es k i
attribute [go_sem] ia27
theorem ia37 (es : List (List D)) (k : IntKind) (i : Int) : evalIndexAddr Tryz.prog 37 (.d (.sl es)) (.d (.int k i)) = ixR (rowsLen 3 es) es i := evalIndexAddr_sl T.sl37 es k i
attribute [go_sem] ia37
theorem ia47 (es : List (List D)) (k : IntKind) (i : Int) : evalIndexAddr Tryz.prog 47 (.d (.sl es)) (.d (.int k i)) = ixR (rowsLen 1 es) es i := evalIndexAddr_sl T.sl47 es k i
attribute [go_sem] ia47
theorem ixK {l : List Str} {i : Int} (h0 : 0 ≤ i) (h1 : i.toNat < l.length) : ixR true (encKs l) i = some (.ep [.str (l.getD i.toNat default)] 0) := ixR_map (f := fun k => [D.str k]) h0 h1
attribute [go_sem] ixK
attribute [go_sem] vE_cells vV_cells vT_cells vE_share vV_share vT_share vE_fold vV_fold vT_fold Vg0 Vg1 Vg2 Vg3 Vg4 Vg5 Eg0 Eg1 Eg2 Eg4 Eg8 Eg9 Ev Ev' Ew Ew' Vw Vw' Tg0 Tg1 Tg2 Tw Tw' map_d_get Val.enc_len Ex.enc_len Tk.enc_len rowsLen_E rowsLen_V rowsLen_T rowsLen_K encKs_len
end Go.Proofs.YtofbdmdigopaoaaGreatDoor
end
section
set_option maxHeartbeats 8000000
namespace Go.Proofs.YtofbdmdigopaoaaGreatDoor
open Go.Abs
attribute [local irreducible] AW OX condQ GQ bodyQ RoundsA thenQ blockQ Acalls
variable {G : World → Nat → Prop}
abbrev vb (b : Bool) : V := .d (.bool b)
abbrev vs (s : Str) : V := .d (.str s)
abbrev vc (c : UInt8) : V := .d (.int .u8 c.toNat)
abbrev Ans (G : World → Nat → Prop) (f : FuncId) (args : List V) (v : V) : Prop := ∀ st, Acalls Tryz.prog G f args st (fun o s => o = .ret v ∧ s = st)
theorem ret_bool {a b : Bool} (h : a = true ↔ b = true) : Out.ret (V.d (D.bool a)) = Out.ret (V.d (D.bool b)) := by rw [Bool.eq_iff_iff.2 h]
theorem ret_int {k : IntKind} {a b : Int} (h : a = b) : Out.ret (V.d (D.int k a)) = Out.ret (V.d (D.int k b)) := by rw [h]
theorem c_lexer_letter (c : UInt8) : Ans G 66 [vc c] (vb (isLetter c)) := by
 intro st
 refine Acalls.body Tryz.func66 rfl Tryz.ntmps66 (by simp) ?_
 (try refine Wk.aw fun _ hqq => ?_); (repeat' (first | ((first | refine Wk.hd ?_ | refine Wk.i ?_); simp -implicitDefEqProofs only [go_sem, seval]) | (refine TQ_s (fun hc => ?_) (fun hc => ?_) <;> try omega) | refine Wk.ret fun _ _ => ?_ | (refine Wk.fin (by assumption) ?_; refine ⟨?_, rfl⟩) | first | refine Wk.o ?_ | refine Wk.q (by assumption) ?_)); all_goals (repeat subst hqq)
 all_goals (refine ret_bool ?_; simp only [isLetter, decide_eq_true_eq, reduceCtorEq, iff_false, false_iff, iff_true, true_iff]; omega)
theorem c_parser_letter (c : UInt8) : Ans G 179 [vc c] (vb (isLetter c)) := by
 intro st
 refine Acalls.body Tryz.func179 rfl Tryz.ntmps179 (by simp) ?_
 (try refine Wk.aw fun _ hqq => ?_); (repeat' (first | ((first | refine Wk.hd ?_ | refine Wk.i ?_); simp -implicitDefEqProofs only [go_sem, seval]) | (refine TQ_s (fun hc => ?_) (fun hc => ?_) <;> try omega) | refine Wk.ret fun _ _ => ?_ | (refine Wk.fin (by assumption) ?_; refine ⟨?_, rfl⟩) | first | refine Wk.o ?_ | refine Wk.q (by assumption) ?_)); all_goals (repeat subst hqq)
 all_goals (refine ret_bool ?_; simp only [isLetter, decide_eq_true_eq, reduceCtorEq, iff_false, false_iff, iff_true, true_iff]; omega)
theorem c_ref09_letter (c : UInt8) : Ans G 117 [vc c] (vb (isLetter c)) := by
 intro st
 refine Acalls.body Tryz.func117 rfl Tryz.ntmps117 (by simp) ?_
 (try refine Wk.aw fun _ hqq => ?_); (repeat' (first | ((first | refine Wk.hd ?_ | refine Wk.i ?_); simp -implicitDefEqProofs only [go_sem, seval]) | (refine TQ_s (fun hc => ?_) (fun hc => ?_) <;> try omega) | refine Wk.ret fun _ _ => ?_ | (refine Wk.fin (by assumption) ?_; refine ⟨?_, rfl⟩) | first | refine Wk.o ?_ | refine Wk.q (by assumption) ?_)); all_goals (repeat subst hqq)
 all_goals (refine ret_bool ?_; simp only [isLetter, decide_eq_true_eq, reduceCtorEq, iff_false, false_iff, iff_true, true_iff]; omega)
theorem c_lexer_digit (c : UInt8) : Ans G 68 [vc c] (vb (isDigit c)) := by
 intro st
 refine Acalls.body Tryz.func68 rfl Tryz.ntmps68 (by simp) ?_
 (try refine Wk.aw fun _ hqq => ?_); (repeat' (first | ((first | refine Wk.hd ?_ | refine Wk.i ?_); simp -implicitDefEqProofs only [go_sem, seval]) | (refine TQ_s (fun hc => ?_) (fun hc => ?_) <;> try omega) | refine Wk.ret fun _ _ => ?_ | (refine Wk.fin (by assumption) ?_; refine ⟨?_, rfl⟩) | first | refine Wk.o ?_ | refine Wk.q (by assumption) ?_)); all_goals (repeat subst hqq)
 all_goals (refine ret_bool ?_; simp only [isDigit, decide_eq_true_eq, reduceCtorEq, iff_false, false_iff, iff_true, true_iff]; omega)
theorem c_parser_digit (c : UInt8) : Ans G 180 [vc c] (vb (isDigit c)) := by
 intro st
 refine Acalls.body Tryz.func180 rfl Tryz.ntmps180 (by simp) ?_
 (try refine Wk.aw fun _ hqq => ?_); (repeat' (first | ((first | refine Wk.hd ?_ | refine Wk.i ?_); simp -implicitDefEqProofs only [go_sem, seval]) | (refine TQ_s (fun hc => ?_) (fun hc => ?_) <;> try omega) | refine Wk.ret fun _ _ => ?_ | (refine Wk.fin (by assumption) ?_; refine ⟨?_, rfl⟩) | first | refine Wk.o ?_ | refine Wk.q (by assumption) ?_)); all_goals (repeat subst hqq)
 all_goals (refine ret_bool ?_; simp only [isDigit, decide_eq_true_eq, reduceCtorEq, iff_false, false_iff, iff_true, true_iff]; omega)
theorem c_ref09_digit (c : UInt8) : Ans G 72 [vc c] (vb (isDigit c)) := by
 intro st
 refine Acalls.body Tryz.func72 rfl Tryz.ntmps72 (by simp) ?_
 (try refine Wk.aw fun _ hqq => ?_); (repeat' (first | ((first | refine Wk.hd ?_ | refine Wk.i ?_); simp -implicitDefEqProofs only [go_sem, seval]) | (refine TQ_s (fun hc => ?_) (fun hc => ?_) <;> try omega) | refine Wk.ret fun _ _ => ?_ | (refine Wk.fin (by assumption) ?_; refine ⟨?_, rfl⟩) | first | refine Wk.o ?_ | refine Wk.q (by assumption) ?_)); all_goals (repeat subst hqq)
 all_goals (refine ret_bool ?_; simp only [isDigit, decide_eq_true_eq, reduceCtorEq, iff_false, false_iff, iff_true, true_iff]; omega)
theorem c_ident_digit (c : UInt8) : Ans G 167 [vc c] (vb (isDigit c)) := by
 intro st
 refine Acalls.body Tryz.func167 rfl Tryz.ntmps167 (by simp) ?_
 (try refine Wk.aw fun _ hqq => ?_); (repeat' (first | ((first | refine Wk.hd ?_ | refine Wk.i ?_); simp -implicitDefEqProofs only [go_sem, seval]) | (refine TQ_s (fun hc => ?_) (fun hc => ?_) <;> try omega) | refine Wk.ret fun _ _ => ?_ | (refine Wk.fin (by assumption) ?_; refine ⟨?_, rfl⟩) | first | refine Wk.o ?_ | refine Wk.q (by assumption) ?_)); all_goals (repeat subst hqq)
 all_goals (refine ret_bool ?_; simp only [isDigit, decide_eq_true_eq, reduceCtorEq, iff_false, false_iff, iff_true, true_iff]; omega)
theorem c_ref04_digit (c : UInt8) : Ans G 149 [vc c] (vb (isDigit c)) := by
 intro st
 refine Acalls.body Tryz.func149 rfl Tryz.ntmps149 (by simp) ?_
 (try refine Wk.aw fun _ hqq => ?_); (repeat' (first | ((first | refine Wk.hd ?_ | refine Wk.i ?_); simp -implicitDefEqProofs only [go_sem, seval]) | (refine TQ_s (fun hc => ?_) (fun hc => ?_) <;> try omega) | refine Wk.ret fun _ _ => ?_ | (refine Wk.fin (by assumption) ?_; refine ⟨?_, rfl⟩) | first | refine Wk.o ?_ | refine Wk.q (by assumption) ?_)); all_goals (repeat subst hqq)
 all_goals (refine ret_bool ?_; simp only [isDigit, decide_eq_true_eq, reduceCtorEq, iff_false, false_iff, iff_true, true_iff]; omega)
theorem c_word (s : Str) : Ans G 156 [vs s] (vb (isWord s)) := by
 intro st
 refine Acalls.body Tryz.func156 rfl Tryz.ntmps156 (by simp) ?_
 (try refine Wk.aw fun _ hqq => ?_); (repeat' (first | ((first | refine Wk.hd ?_ | refine Wk.i ?_); simp -implicitDefEqProofs only [go_sem, seval]) | (refine TQ_s (fun hc => ?_) (fun hc => ?_) <;> try omega) | refine Wk.ret fun _ _ => ?_ | (refine Wk.fin (by assumption) ?_; refine ⟨?_, rfl⟩) | first | refine Wk.o ?_ | refine Wk.q (by assumption) ?_)); all_goals (repeat subst hqq)
 all_goals (refine ret_bool ?_; simp_all [isWord])
theorem c_strength (s : Str) : Ans G 60 [vs s] (vint (strength s)) := by
 intro st
 refine Acalls.body Tryz.func60 rfl Tryz.ntmps60 (by simp) ?_
 (try with_reducible refine Wk.aw fun _ hqq => ?_); (repeat' (first | ((with_reducible refine Wk.i ?_); simp -implicitDefEqProofs (disch := first | omega | (simp only [go_sem]; try omega)) only [go_sem, seval]) | (refine TQ_s (fun hc => ?_) (fun hc => ?_) <;> try (exfalso; first | omega | contradiction)) | with_reducible refine Wk.ret fun _ _ => ?_ | (refine Wk.fin (by assumption) ?_; refine ⟨?_, rfl⟩) | with_reducible first | refine Wk.o ?_ | refine Wk.q (by assumption) ?_)); all_goals (repeat subst hqq)
 all_goals (refine ret_int ?_; first | (subst hc; rfl) | (simp only [strength, *]; rfl))
theorem c_Strength (s : Str) : Ans G 64 [vs s] (vint (strength s)) := by
 intro st
 refine Acalls.body Tryz.func64 rfl Tryz.ntmps64 (by simp) ?_
 (try with_reducible refine Wk.aw fun _ hqq => ?_); (repeat' (first | ((with_reducible refine Wk.i ?_); simp -implicitDefEqProofs (disch := first | omega | (simp only [go_sem]; try omega)) only [go_sem, seval]) | (refine TQ_s (fun hc => ?_) (fun hc => ?_) <;> try (exfalso; first | omega | contradiction)) | with_reducible refine Wk.ret fun _ _ => ?_ | (refine Wk.fin (by assumption) ?_; refine ⟨?_, rfl⟩) | with_reducible first | refine Wk.o ?_ | refine Wk.q (by assumption) ?_)); all_goals (repeat subst hqq)
 all_goals (refine ret_int ?_; first | (subst hc; rfl) | (simp only [strength, *]; rfl))
theorem c_lexer_digit' (c : UInt8) : Ans G 68 [vc c] (vb (decide (48 ≤ c.toNat ∧ c.toNat ≤ 57))) := c_lexer_digit c
end Go.Proofs.YtofbdmdigopaoaaGreatDoor
end
section
set_option maxHeartbeats 8000000
namespace Go.Proofs.YtofbdmdigopaoaaGreatDoor
open Go.Abs
attribute [local irreducible] AW OX condQ GQ bodyQ RoundsA thenQ blockQ Acalls
variable {G : World → Nat → Prop}
structure IsCls (G : World → Nat → Prop) (g : FuncId) (cls : UInt8 → Bool) : Prop where
 call : ∀ args w, (callFunc g args).run Tryz.prog w = .ok (.enter g args) w
 ans : ∀ b, Ans G g [vc b] (vb (cls b))
def whileF (cls : UInt8 → Bool) (s : Str) (i : Nat) : Nat :=
 if i < s.length then if cls (s.getD i 0) then whileF cls s (i + 1) else i else i
termination_by s.length - i
theorem c_while {g : FuncId} {cls : UInt8 → Bool} (hcl : IsCls G g cls) (s : Str) (i : Nat) (hs : s.length ≤ 1048576) : Ans G 40 [vs s, vint i, .clo g []] (vint (whileF cls s i)) := by
 intro st
 refine Acalls.body Tryz.func40 rfl Tryz.ntmps40 (by simp) ?_
 (try refine Wk.aw fun _ hqq => ?_); (repeat' (first | ((refine Wk.i ?_); simp -implicitDefEqProofs (disch := omega) only [go_sem, seval]) | refine Wk.o ?_)); all_goals (repeat subst hqq)
 refine AW.loopS (fun j : Nat => [(0, vs s), (1, vint j), (2, .clo g [])]) (fun _ => []) (fun _ => []) (fun j => whileF cls s j = whileF cls s i) (fun j => s.length - j) i (by simp -implicitDefEqProofs (disch := omega) only [go_sem, seval]) (by simp -implicitDefEqProofs (disch := omega) only [go_sem, seval]) rfl ?_
 intro j hw
 rw [whileF] at hw
 (try refine Wk.aw fun _ hqq => ?_); (repeat' (first | ((first | refine Wk.hd ?_ | refine Wk.i ?_); simp -implicitDefEqProofs (disch := omega) only [go_sem, seval]) | (refine TQ_s (fun hc => ?_) (fun hc => ?_) <;> try omega) | refine EnP_h hcl.call (CQ_ok (hcl.ans _ _) ?_) | refine Wk.ret fun _ _ => ?_ | (refine Wk.fin (by assumption) ?_; refine ⟨?_, rfl⟩) | first | refine Wk.o ?_ | refine Wk.q (by assumption) ?_ | refine Wk.sw fun _ hqq => ?_)); all_goals (repeat subst hqq)
 · (refine ⟨j + 1, Nxt.mk ?_ ?_ ?_ (by simp -implicitDefEqProofs (disch := omega) only [go_sem, seval]) (by simp -implicitDefEqProofs (disch := omega) only [go_sem, seval]) (by first | rfl | (simp -implicitDefEqProofs (disch := omega) only [go_sem, seval]; all_goals omega)) (by first | rfl | (simp -implicitDefEqProofs (disch := omega) only [go_sem, seval]; all_goals omega))⟩; focus (try (simp -implicitDefEqProofs (disch := omega) only [go_sem, seval]); try ((repeat' apply And.intro) <;> first | rfl | trivial | refine vi_congr ?_ | refine vs_congr ?_ | refine vown_congr ?_ | skip)))
   all_goals first | omega | simp_all
 all_goals simp_all
end Go.Proofs.YtofbdmdigopaoaaGreatDoor
end
section
set_option maxHeartbeats 8000000
set_option maxRecDepth 20000
namespace Go.Proofs.YtofbdmdigopaoaaGreatDoor
open Go.Abs
attribute [local irreducible] AW OX condQ GQ bodyQ RoundsA thenQ blockQ Acalls
variable {G : World → Nat → Prop}
theorem drop_cons {s : Str} {i : Nat} (h : i < s.length) : s.drop i = s.getD i 0 :: s.drop (i + 1) := by
 rw [List.drop_eq_getElem_cons h]; simp [List.getD_eq_getElem?_getD, h]
theorem whileF_eq (cls : UInt8 → Bool) (s : Str) (i : Nat) : whileF cls s i = i + ((s.drop i).takeWhile cls).length := by
 rw [whileF]
 split
 · rename_i h
   rw [drop_cons h, List.takeWhile_cons]
   split
   · rw [whileF_eq cls s (i + 1)]; simp; omega
   · rfl
 · rename_i h
   rw [List.drop_of_length_le (by omega)]; rfl
termination_by s.length - i
theorem tw_le (cls : UInt8 → Bool) (s : Str) (i : Nat) (hi : i ≤ s.length) : i + ((s.drop i).takeWhile cls).length ≤ s.length := by
 have := (List.takeWhile_prefix cls (l := s.drop i)).length_le
 simp at this; omega
theorem tw_take (cls : UInt8 → Bool) (s : Str) (i : Nat) : (s.take (i + ((s.drop i).takeWhile cls).length)).drop i = (s.drop i).takeWhile cls := by
 rw [List.drop_take, show i + ((s.drop i).takeWhile cls).length - i = ((s.drop i).takeWhile cls).length by omega]
 exact (List.prefix_iff_eq_take.1 (List.takeWhile_prefix cls (l := s.drop i))).symm
theorem tw_of (cls : UInt8 → Bool) : ∀ s : Str, ∀ c ∈ s.takeWhile cls, cls c = true
 | [], c, h => by simp at h
 | a :: r, c, h => by
   rw [List.takeWhile_cons] at h
   split at h
   · rename_i ha
     rcases List.mem_cons.1 h with rfl | h
     · exact ha
     · exact tw_of cls r c h
   · simp at h
def lexT (i : Nat) : LexR → Tk
 | .ok k t _ => ⟨k, t, i⟩
 | .err _ => tk0
def lexN (i : Nat) : LexR → Int
 | .ok _ _ n => ↑(i + n)
 | .err _ => 0
def lexE : LexR → Int
 | .ok _ _ _ => 0
 | .err e => e
abbrev lexV (i : Nat) (r : LexR) : V := .tup [vT (lexT i r), vint (lexN i r), vint (lexE r)]
theorem isCls_digit : IsCls G 68 isDigit := ⟨Tryz.call68, c_lexer_digit⟩
theorem c_name1 (c : UInt8) : Ans G 107 [vc c] (vb (isAlnum c)) := by
 intro st
 refine Acalls.body Tryz.func107 rfl Tryz.ntmps107 (by simp) ?_
 (try refine Wk.aw fun _ hqq => ?_); (repeat' (first | ((first | refine Wk.hd ?_ | refine Wk.i ?_); simp -implicitDefEqProofs only [go_sem, seval]) | (refine TQ_s (fun hc => ?_) (fun hc => ?_) <;> try omega) | refine CQ_ok (c_lexer_letter _ _) ?_ | refine CQ_ok (c_lexer_digit _ _) ?_ | refine Wk.ret fun _ _ => ?_ | (refine Wk.fin (by assumption) ?_; refine ⟨?_, rfl⟩) | first | refine Wk.o ?_ | refine Wk.q (by assumption) ?_)); all_goals (repeat subst hqq)
 all_goals simp_all [isAlnum]
theorem isCls_alnum : IsCls G 107 isAlnum := ⟨Tryz.call107, c_name1⟩
theorem c_while' {g : FuncId} {cls : UInt8 → Bool} (hcl : IsCls G g cls) (s : Str) (i : Nat) (hs : s.length ≤ 1048576) : Ans G 40 [vs s, vint i, .clo g []] (vint ↑(i + ((s.drop i).takeWhile cls).length)) := by
 rw [← whileF_eq]; exact c_while hcl s i hs
theorem c_lexer_name (s : Str) (i : Nat) (hs : s.length ≤ 1048576) (hi : i ≤ s.length) : Ans G 67 [vs s, vint i] (lexV i (nameF (s.drop i))) := by
 intro st
 have h1 := tw_le isAlnum s i hi
 refine Acalls.body Tryz.func67 rfl Tryz.ntmps67 (by simp) ?_
 (try refine Wk.aw fun _ hqq => ?_); (repeat' (first | ((first | refine Wk.hd ?_ | refine Wk.i ?_); simp -implicitDefEqProofs (disch := omega) only [go_sem, seval, tw_take]) | (refine TQ_s (fun hc => ?_) (fun hc => ?_) <;> try omega) | refine CQ_ok (c_while' isCls_alnum _ _ hs _) ?_ | refine Wk.ret fun _ _ => ?_ | (refine Wk.fin (by assumption) ?_; refine ⟨?_, rfl⟩) | first | refine Wk.o ?_ | refine Wk.q (by assumption) ?_)); all_goals (repeat subst hqq)
 · rw [nameF, if_pos (by omega)]; rfl
 · rw [nameF, if_neg (by omega)]; rfl
theorem natOf_snoc (t : Str) (i : Nat) (h : i < t.length) : natOf (t.take (i + 1)) = 10 * natOf (t.take i) + ((t.getD i 0).toNat - 48) := by
 unfold natOf
 rw [List.take_succ_eq_append_getElem h, List.foldl_append]
 simp [List.getD_eq_getElem?_getD, h]
theorem natOf_le (t : Str) (i : Nat) : natOf (t.take i) ≤ natOf t := by
 have key : ∀ (l : Str) (a b : Nat), a ≤ b → a ≤ l.foldl (fun n c => 10 * n + (c.toNat - 48)) b := by
   intro l
   induction l with
   | nil => intro a b h; exact h
   | cons c r ih => intro a b h; exact ih a _ (by show a ≤ 10 * b + _; omega)
 unfold natOf
 conv => rhs; rw [← List.take_append_drop i t, List.foldl_append]
 exact key _ _ _ (Nat.le_refl _)
theorem isDigit_iff (c : UInt8) : isDigit c = true ↔ 48 ≤ c.toNat ∧ c.toNat ≤ 57 := by simp [isDigit]
theorem getD_mem0 {t : Str} {i : Nat} (h : i < t.length) : t.getD i 0 ∈ t := by simp [List.getD_eq_getElem?_getD, h]
theorem c_large (t : Str) (hs : t.length ≤ 1048576) (hd : ∀ c ∈ t, isDigit c = true) : Ans G 108 [vs t] (vb (decide (9007199254740992 < natOf t))) := by
 intro st
 refine Acalls.body Tryz.func108 rfl Tryz.ntmps108 (by simp) ?_
 (try refine Wk.aw fun _ hqq => ?_); (repeat' (first | ((refine Wk.i ?_); simp -implicitDefEqProofs (disch := omega) only [go_sem, seval]) | refine Wk.o ?_)); all_goals (repeat subst hqq)
 refine AW.loopS (fun i : Nat => [(0, vs t), (3, vint ↑(natOf (t.take i))), (4, vint ↑i)]) (fun _ => []) (fun _ => []) (fun i => i ≤ t.length ∧ natOf (t.take i) ≤ 90071992547409929) (fun i => t.length - i) 0 (by simp -implicitDefEqProofs (disch := omega) only [go_sem, seval]) (by simp -implicitDefEqProofs (disch := omega) only [go_sem, seval]; rfl) ⟨by omega, by simp [natOf]⟩ ?_
 intro i ⟨hi, hn⟩
 have h1 := natOf_snoc t i
 have h2 := fun h : i < t.length => (isDigit_iff _).1 (hd _ (getD_mem0 h))
 have h3 := natOf_le t i
 (try refine Wk.aw fun _ hqq => ?_); (repeat' (first | ((first | refine Wk.hd ?_ | refine Wk.i ?_); simp -implicitDefEqProofs (disch := omega) only [go_sem, seval]) | (refine TQ_s (fun hc => ?_) (fun hc => ?_) <;> try omega) | refine Wk.ret fun _ _ => ?_ | (refine Wk.fin (by assumption) ?_; refine ⟨?_, rfl⟩) | first | refine Wk.o ?_ | refine Wk.q (by assumption) ?_ | refine Wk.sw fun _ hqq => ?_)); all_goals (repeat subst hqq)
 · have h1 := h1 ‹_›
   have h2 := h2 ‹_›
   (refine ⟨i + 1, Nxt.mk ?_ ?_ ?_ (by simp -implicitDefEqProofs (disch := omega) only [go_sem, seval]) (by simp -implicitDefEqProofs (disch := omega) only [go_sem, seval]) (by first | rfl | (simp -implicitDefEqProofs (disch := omega) only [go_sem, seval]; all_goals omega)) (by first | rfl | (simp -implicitDefEqProofs (disch := omega) only [go_sem, seval]; all_goals omega))⟩; focus (try (simp -implicitDefEqProofs (disch := omega) only [go_sem, seval]); try ((repeat' apply And.intro) <;> first | rfl | trivial | refine vi_congr ?_ | refine vs_congr ?_ | refine vown_congr ?_ | skip)))
   all_goals omega
 all_goals (refine ret_bool ?_; simp only [decide_eq_true_eq, reduceCtorEq, iff_false, false_iff, iff_true, true_iff])
 · omega
 · have : i = t.length := by omega
   subst this
   rw [List.take_length]
   omega
theorem sdrop_len (s : Str) (i : Nat) : (s.drop i).length = s.length - i := by simp
theorem sdrop_get (s : Str) (i k : Nat) : (s.drop i).getD k 0 = s.getD (i + k) 0 := by simp [List.getD_eq_getElem?_getD]
theorem c_lexer_number (s : Str) (i : Nat) (hs : s.length ≤ 1048576) (hi : i ≤ s.length) : Ans G 69 [vs s, vint i] (lexV i (numF (s.drop i))) := by
 intro st
 have h1 := tw_le isDigit s i hi
 have h2 := tw_of isDigit (s.drop i)
 have h3 := sdrop_get s i
 have hsl := tw_take isDigit s i
 generalize ht : (s.drop i).takeWhile isDigit = t at h1 h2 hsl
 have hl : t.length ≤ 1048576 := by omega
 have hd := sdrop_len s i
 refine Acalls.body Tryz.func69 rfl Tryz.ntmps69 (by simp) ?_
 (try refine Wk.aw fun _ hqq => ?_); (repeat' (first | ((first | refine Wk.hd ?_ | refine Wk.i ?_); simp -implicitDefEqProofs (disch := omega) only [go_sem, seval, hsl, ht]) | (refine TQ_s (fun hc => ?_) (fun hc => ?_) <;> try omega) | refine CQ_ok (c_while' isCls_digit _ _ hs _) ?_ | refine CQ_ok (c_lexer_letter _ _) ?_ | refine CQ_ok (c_large _ hl h2 _) ?_ | refine Wk.ret fun _ _ => ?_ | (refine Wk.fin (by assumption) ?_; refine ⟨?_, rfl⟩) | first | refine Wk.o ?_ | refine Wk.q (by assumption) ?_)); all_goals (repeat subst hqq)
 all_goals (try simp -implicitDefEqProofs (disch := first | assumption | omega) only [numF, ht, hd, h3, if_pos, if_neg]); all_goals first | rfl | ((repeat' split) <;> first | rfl | (exfalso; omega) | grind | skip)
theorem hexV_lo (c : UInt8) : -1 ≤ hexV c ∧ hexV c ≤ 15 := by
 unfold hexV
 have := isDigit_iff c
 split
 · have := this.1 ‹_›; omega
 · split
   · omega
   · split <;> omega
theorem isDigit_t {c : UInt8} (h : 48 ≤ c.toNat ∧ c.toNat ≤ 57) : isDigit c = true := (isDigit_iff c).2 h
theorem isDigit_f {c : UInt8} (h : ¬ (48 ≤ c.toNat ∧ c.toNat ≤ 57)) : isDigit c = false := by
 rw [Bool.eq_false_iff]; exact fun h' => h ((isDigit_iff c).1 h')
theorem c_lexer_hex (c : UInt8) : Ans G 145 [vc c] (vint (hexV c)) := by
 intro st
 refine Acalls.body Tryz.func145 rfl Tryz.ntmps145 (by simp) ?_
 (try refine Wk.aw fun _ hqq => ?_); (repeat' (first | ((first | refine Wk.hd ?_ | refine Wk.i ?_); simp -implicitDefEqProofs (disch := omega) only [go_sem, seval]) | (refine TQ_s (fun hc => ?_) (fun hc => ?_) <;> try omega) | refine CQ_ok (c_lexer_digit' _ _) ?_ | refine Wk.ret fun _ _ => ?_ | (refine Wk.fin (by assumption) ?_; refine ⟨?_, rfl⟩) | first | refine Wk.o ?_ | refine Wk.q (by assumption) ?_)); all_goals (repeat subst hqq)
 all_goals (refine ret_int ?_; unfold hexV; first | rw [isDigit_t (by assumption)] | rw [isDigit_f (by assumption)])
 all_goals (repeat' split)
 all_goals first | omega | simp_all
def escV : EscR → V
 | .ok c n => .tup [vc c, vint n]
 | .err _ => .tup [vc 0, vint 0]
theorem ofNat_u8 {n : Int} (h0 : 0 ≤ n) (h1 : n ≤ 255) : ((UInt8.ofNat n.toNat).toNat : Int) = n := by
 simp only [UInt8.toNat_ofNat']; omega
def shortF (r : Str) : Bool := decide (r.length = 0 ∨ (r.length = 1 ∧ (r.getD 0 0).toNat = 120) ∨ (r.length = 2 ∧ (r.getD 0 0).toNat = 120 ∧ 0 ≤ hexV (r.getD 1 0)))
theorem shortF_err {r : Str} {e : Int} (h : escF r = .err e) : e = 4 ∧ shortF r = true ∨ e = 5 ∧ shortF r = false := by
 simp only [escF] at h
 simp only [shortF, decide_eq_true_eq, decide_eq_false_iff_not]
 have hx := hexV_lo (r.getD 1 0)
 repeat' split at h
 all_goals (cases h; try omega)
theorem str0 (r : Str) : (r = []) = (r.length = 0) := by cases r <;> simp
theorem strx (r : Str) : (r = [120]) = (r.length = 1 ∧ (r.getD 0 0).toNat = 120) := by
 match r with
 | [] => simp
 | [x] =>
   simp only [List.length_singleton, List.getD_cons_zero, true_and, List.cons.injEq, and_true]
   exact propext ⟨fun h => by rw [h]; rfl, fun h => UInt8.toNat_inj.1 (by rw [h]; rfl)⟩
 | x :: y :: z => simp
theorem c_short (s : Str) (i : Nat) (hs : s.length ≤ 1048576) (hi : i < s.length) : Ans G 112 [vs s, vint i] (vb (shortF (s.drop (i + 1)))) := by
 intro st
 have ht : s.take s.length = s := List.take_length
 have hd := sdrop_len s (i + 1)
 generalize hr : s.drop (i + 1) = r at hd
 refine Acalls.body Tryz.func112 rfl Tryz.ntmps112 (by simp) ?_
 (try refine Wk.aw fun _ hqq => ?_); (repeat' (first | ((first | refine Wk.hd ?_ | refine Wk.i ?_); simp -implicitDefEqProofs (disch := omega) only [go_sem, seval, ht, hr, str0, strx]) | (refine TQ_s (fun hc => ?_) (fun hc => ?_) <;> try omega) | refine CQ_ok (c_lexer_hex _ _) ?_ | refine Wk.ret fun _ _ => ?_ | (refine Wk.fin (by assumption) ?_; refine ⟨?_, rfl⟩) | first | refine Wk.o ?_ | refine Wk.q (by assumption) ?_)); all_goals (repeat subst hqq)
 all_goals (refine ret_bool ?_; simp only [shortF, decide_eq_true_eq, reduceCtorEq, iff_false, false_iff, iff_true, true_iff])
 all_goals omega
end Go.Proofs.YtofbdmdigopaoaaGreatDoor
end
section
set_option maxHeartbeats 8000000
set_option maxRecDepth 20000
namespace Go.Proofs.YtofbdmdigopaoaaGreatDoor
open Go.Abs
attribute [local irreducible] AW OX condQ GQ bodyQ RoundsA thenQ blockQ Acalls
variable {G : World → Nat → Prop}
theorem isName_iff (s : Str) : isName s = true ↔ s.length ≤ 64 ∧ 1 ≤ s.length ∧ ∀ k, k < s.length → (isLetter (s.getD k 0) || (decide (k ≠ 0) && isDigit (s.getD k 0))) = true := by
 cases s with
 | nil => simp [isName]
 | cons c r =>
   simp only [isName, Bool.and_eq_true, decide_eq_true_eq, List.length_cons, List.all_eq_true]
   constructor
   · rintro ⟨h1, h2, h3⟩
     refine ⟨h1, by omega, fun k hk => ?_⟩
     cases k with
     | zero => simp [h2]
     | succ k =>
       have := h3 _ (getD_mem0 (t := r) (i := k) (by omega))
       simp only [isAlnum] at this
       simpa using this
   · rintro ⟨h1, _, h3⟩
     refine ⟨h1, ?_, fun x hx => ?_⟩
     · simpa using h3 0 (by omega)
     · obtain ⟨k, hk, rfl⟩ := List.mem_iff_getElem.1 hx
       have := h3 (k + 1) (by omega)
       simp only [isAlnum]
       simpa [List.getD_eq_getElem?_getD, hk] using this
theorem isName_f {s : Str} (h : ¬ (s.length ≤ 64 ∧ 1 ≤ s.length ∧ ∀ k, k < s.length → (isLetter (s.getD k 0) || (decide (k ≠ 0) && isDigit (s.getD k 0))) = true)) : isName s = false := by
 rw [Bool.eq_false_iff]; exact fun h' => h ((isName_iff s).1 h')
theorem c_ref_Name (s : Str) (hs : s.length ≤ 1048576) : Ans G 162 [vs s] (vb (isName s)) := by
 intro st
 refine Acalls.body Tryz.func162 rfl Tryz.ntmps162 (by simp) ?_
 (try refine Wk.aw fun _ hqq => ?_); (repeat' (first | ((refine Wk.i ?_); simp -implicitDefEqProofs (disch := omega) only [go_sem, seval]) | refine Wk.o ?_)); all_goals (repeat subst hqq)
 refine AW.loopS (fun n : Nat => [(0, vs s), (3, vint ↑n)]) (fun _ => []) (fun _ => []) (fun n => n ≤ s.length ∧ ∀ k, k < n → (isLetter (s.getD k 0) || (decide (k ≠ 0) && isDigit (s.getD k 0))) = true) (fun n => s.length - n) 0 (by simp -implicitDefEqProofs (disch := omega) only [go_sem, seval]) (by simp -implicitDefEqProofs (disch := omega) only [go_sem, seval]) ⟨by omega, by omega⟩ ?_
 intro n ⟨hn, hr⟩
 have hstep : (isLetter (s.getD n 0) || (decide (n ≠ 0) && isDigit (s.getD n 0))) = true → ∀ k, k < n + 1 → (isLetter (s.getD k 0) || (decide (k ≠ 0) && isDigit (s.getD k 0))) = true := fun h k hk => by
   by_cases hkn : k = n
   · subst hkn; exact h
   · exact hr k (by omega)
 (try refine Wk.aw fun _ hqq => ?_); (repeat' (first | ((first | refine Wk.hd ?_ | refine Wk.i ?_); simp -implicitDefEqProofs (disch := omega) only [go_sem, seval]) | (refine TQ_s (fun hc => ?_) (fun hc => ?_) <;> try omega) | refine CQ_ok (c_ref09_digit _ _) ?_ | refine CQ_ok (c_ref09_letter _ _) ?_ | refine Wk.ret fun _ _ => ?_ | (refine Wk.fin (by assumption) ?_; refine ⟨?_, rfl⟩) | first | refine Wk.o ?_ | refine Wk.q (by assumption) ?_ | refine Wk.sw fun _ hqq => ?_)); all_goals (repeat subst hqq)
 · refine ret_bool ?_
   rw [isName_f fun h => ?_]
   have := h.2.2 n (by assumption)
   have h0 : n = 0 := by omega
   subst h0
   simp_all
 · refine ret_bool ?_
   rw [isName_f fun h => ?_]
   have := h.2.2 n (by assumption)
   simp_all
 · (refine ⟨n + 1, Nxt.mk ?_ ?_ ?_ (by simp -implicitDefEqProofs (disch := omega) only [go_sem, seval]) (by simp -implicitDefEqProofs (disch := omega) only [go_sem, seval]) (by first | rfl | (simp -implicitDefEqProofs (disch := omega) only [go_sem, seval]; all_goals omega)) (by first | rfl | (simp -implicitDefEqProofs (disch := omega) only [go_sem, seval]; all_goals omega))⟩; focus (try (simp -implicitDefEqProofs (disch := omega) only [go_sem, seval]); try ((repeat' apply And.intro) <;> first | rfl | trivial | refine vi_congr ?_ | refine vs_congr ?_ | refine vown_congr ?_ | skip)))
   · refine ⟨by omega, hstep ?_⟩
     have h0 : n ≠ 0 := by omega
     simp_all
   · omega
 · (refine ⟨n + 1, Nxt.mk ?_ ?_ ?_ (by simp -implicitDefEqProofs (disch := omega) only [go_sem, seval]) (by simp -implicitDefEqProofs (disch := omega) only [go_sem, seval]) (by first | rfl | (simp -implicitDefEqProofs (disch := omega) only [go_sem, seval]; all_goals omega)) (by first | rfl | (simp -implicitDefEqProofs (disch := omega) only [go_sem, seval]; all_goals omega))⟩; focus (try (simp -implicitDefEqProofs (disch := omega) only [go_sem, seval]); try ((repeat' apply And.intro) <;> first | rfl | trivial | refine vi_congr ?_ | refine vs_congr ?_ | refine vown_congr ?_ | skip)))
   · refine ⟨by omega, hstep ?_⟩
     simp_all
   · omega
 · refine ret_bool ?_
   rw [isName_iff, decide_eq_true_eq]
   have : n = s.length := by omega
   subst this
   exact ⟨fun h => ⟨by omega, by omega, hr⟩, fun h => by omega⟩
 · refine ret_bool ?_
   rw [isName_f fun h => by omega]
end Go.Proofs.YtofbdmdigopaoaaGreatDoor
end
section
set_option maxHeartbeats 8000000
set_option maxRecDepth 20000
namespace Go.Proofs.YtofbdmdigopaoaaGreatDoor
open Go.Abs
attribute [local irreducible] AW OX condQ GQ bodyQ RoundsA thenQ blockQ Acalls
variable {G : World → Nat → Prop}
end Go.Proofs.YtofbdmdigopaoaaGreatDoor
end
section
set_option maxHeartbeats 8000000
set_option maxRecDepth 20000
namespace Go.Proofs.YtofbdmdigopaoaaGreatDoor
open Go.Abs
attribute [local irreducible] AW OX condQ GQ bodyQ RoundsA thenQ blockQ Acalls
variable {G : World → Nat → Prop}
end Go.Proofs.YtofbdmdigopaoaaGreatDoor
end
