/- A part of the proof. -/
import Derived.Shelf.Strings.OnBuilder
import Derived.Shelf.Strings.Trim
import Derived.Shelf.Small.Bits
import Derived.Shelf.Utf8.RuneCount
import Derived.Shelf.Strconv.Itoa3
import Derived.Shelf.Strconv.ErrVarAll
import Derived.Shelf.Strings.Shaped
import Derived.Shelf.Sort.Plain
import Derived.Shelf.Strings.SplitShaped
import Derived.Shelf.Strings.Runes
import Derived.Shelf.Strings.AsciiSet
import Derived.Shelf.Strings.Explode
import Derived.Shelf.Unicode.DecodeLast
import Derived.Shelf.Strings.BuilderCap
import Derived.Shelf.Slices.Turned
import Derived.Shelf.Slices.Clone
import Derived.Shelf.Slices.SearchI
import Derived.Shelf.Slices.Cells
import Derived.Shelf.Slices.In.SortNone
import Derived.Shelf.Slices.Empties2
import Derived.Shelf.SlicesE.Clone
import Derived.Shelf.Bytes.SlEqualAll
import Derived.Shelf.Bytes.SlCut
import Derived.Test.YthdkamnclbfehaaGreatDoorProg
set_option linter.all false
set_option maxRecDepth 100000
namespace Go.Proofs
open Go.Shelf Tryz
theorem ga {α : Type} {o : Option α} {f g : α} (h : o = some f) (e : f = g := by kernel_rfl) : o = some g := h.trans (congrArg some e)
def Tryz.lays156_ren:Go.Shelf.Ren:=⟨fun | 156=>92 | 165=>128 | 166=>129 | 169=>130 | 240=>158 | 241=>159 | 276=>181 | 277=>182 | n=>n,fun | 31=>44 | 9=>9 | 3=>3 | 4=>4 | 0=>0 | 20=>20 | 72=>227 | 76=>185 | 70=>225 | 37=>61 | 75=>184 | 127=>249 | 164=>269 | 5=>5 | 80=>64 | n=>n,fun | n=>n⟩
theorem Tryz.lays156:Go.Proofs.Lays.n156 prog Tryz.lays156_ren:=⟨by kernel_rfl,ga func92,ga func128,ga func129,ga func130,ga func158,ga func159,ga func181,ga func182,underlying0,isAgg0,sizeOf0,zeroValue0,underlying3,isAgg3,sizeOf3,zeroValue3,underlying4,isAgg4,sizeOf4,zeroValue4,underlying9,isAgg9,sizeOf9,zeroValue9,underlying20,isAgg20,sizeOf20,zeroValue20,underlying44,isAgg44,sizeOf44,zeroValue44,underlying61,isAgg61,sizeOf61,zeroValue61,underlying225,isAgg225,sizeOf225,zeroValue225,underlying227,isAgg227,sizeOf227,zeroValue227,underlying184,isAgg184,sizeOf184,zeroValue184,underlying185,isAgg185,sizeOf185,zeroValue185,underlying249,isAgg249,sizeOf249,zeroValue249,underlying269,isAgg269,sizeOf269,zeroValue269⟩
theorem Tryz.Builder_Extra_156:Builder.Extra prog Tryz.lays156_ren:={
  sizeBuilder:=by kernel_rfl
  liesBuilder:=by kernel_rfl
  t5:=underlying5
  a5:=Tryz.isAgg5
  z5:=Tryz.sizeOf5
  v5:=Tryz.zeroValue5
  infoByte:=by kernel_rfl
  cellsByte:=by kernel_rfl
  sizeByte:=by kernel_rfl
  neB5:=by decide}
open Go.RowKit in
theorem Tryz.strings_Join_none (a:Option Addr) (c:Nat) (sep:ByteArray) (w:World) :
    Calls prog 92 #[.slice a 0 c,.string sep] w fun e w'=>e = .returned (.string ⟨#[]⟩)∧w'=w:=Any.strings_Join_none Tryz.lays156 Tryz.Builder_Extra_156 a c sep w
open Go.RowKit in
theorem Tryz.strings_Join (bk o c:Nat) (xs:List ByteArray) (sep:ByteArray) (w:World) (hcells:∀ (j:Nat) x,xs[j]?=some x→w.cell? ⟨bk,o+j,none⟩=some (.string x)) (hbk:bk < w.heap.size) (hN:xs.length≤140737488355328) (hcap:xs.length≤c) (hlen:(Lib.join (xs.map (·.data.toList)) sep.data.toList).length≤140737488355328) :
    Calls prog 92 #[.slice (some ⟨bk,o,none⟩) xs.length c,.string sep] w fun e w'=>e = .returned (.string ⟨(Lib.join (xs.map (·.data.toList)) sep.data.toList).toArray⟩)∧Below w.heap.size w w':=Any.strings_Join Tryz.lays156 Tryz.Builder_Extra_156 bk o c xs sep w hcells hbk hN hcap hlen
def Tryz.lays160_ren:Go.Shelf.Ren:=⟨fun | 160=>163 | 232=>186 | 231=>185 | 227=>187 | 234=>189 | 233=>188 | 236=>191 | 235=>190 | 228=>214 | 271=>216 | 151=>215 | 197=>197 | 120=>230 | 152=>229 | 260=>220 | 137=>232 | 119=>233 | 224=>119 | 225=>161 | 217=>160 | 266=>183 | n=>n,fun | 9=>9 | 4=>4 | 3=>3 | 5=>5 | 117=>276 | 116=>275 | 0=>0 | 124=>279 | 21=>21 | 105=>285 | 46=>158 | 119=>316 | 139=>319 | 138=>318 | n=>n,fun | 3=>7 | 4=>8 | n=>n⟩
theorem Tryz.lays160:Go.Proofs.Lays.n160 prog Tryz.lays160_ren:=⟨by kernel_rfl,ga func233,ga func230,ga func232,ga func215,ga func229,ga func163,ga func197,ga func160,ga func119,ga func161,ga func187,ga func214,ga func185,ga func186,ga func188,ga func189,ga func190,ga func191,ga func220,ga func183,ga func216,underlying0,isAgg0,sizeOf0,zeroValue0,underlying3,isAgg3,sizeOf3,zeroValue3,underlying4,isAgg4,sizeOf4,zeroValue4,underlying5,isAgg5,sizeOf5,zeroValue5,underlying9,isAgg9,sizeOf9,zeroValue9,underlying21,isAgg21,sizeOf21,zeroValue21,underlying158,isAgg158,sizeOf158,zeroValue158,underlying285,isAgg285,sizeOf285,zeroValue285,underlying275,isAgg275,sizeOf275,underlying276,isAgg276,sizeOf276,zeroValue276,underlying316,isAgg316,sizeOf316,underlying279,isAgg279,sizeOf279,zeroValue279,underlying318,isAgg318,sizeOf318,zeroValue318,underlying319,isAgg319,sizeOf319,zeroValue319,by kernel_rfl,by kernel_rfl⟩
def Tryz.lays172_ren:Go.Shelf.Ren:=⟨fun | 172=>103 | 244=>141 | 245=>142 | 247=>170 | 279=>171 | 280=>172 | 281=>173 | 282=>174 | 287=>199 | 316=>200 | 171=>96 | 205=>201 | 321=>221 | 322=>222 | 243=>135 | 246=>164 | 283=>192 | 284=>193 | 285=>194 | 286=>195 | 129=>212 | 317=>217 | 318=>218 | 319=>219 | 320=>127 | 337=>156 | 338=>157 | n=>n,fun | 9=>9 | 3=>3 | 75=>184 | 76=>185 | 4=>4 | 5=>5 | 167=>256 | 37=>61 | 0=>0 | 85=>257 | 2=>2 | 168=>259 | 53=>222 | 175=>287 | 46=>158 | 210=>291 | 127=>249 | 145=>308 | 143=>306 | 21=>21 | 171=>280 | 173=>282 | 212=>303 | 51=>220 | 20=>20 | 213=>304 | 232=>267 | 233=>268 | 80=>64 | n=>n,fun | 15=>4 | 16=>5 | 17=>6 | 18=>2 | 19=>3 | n=>n⟩
def Tryz.laysM246_ren:Go.Shelf.Ren:=⟨fun | 246=>164 | 283=>192 | 284=>193 | 285=>194 | 286=>195 | 129=>212 | 317=>217 | 318=>218 | 319=>219 | 320=>127 | 337=>156 | 338=>157 | n=>n,fun | 2=>2 | 3=>3 | 9=>9 | 4=>4 | 171=>280 | 0=>0 | 53=>222 | 37=>61 | 5=>5 | 173=>282 | 212=>303 | 51=>220 | 20=>20 | 213=>304 | 46=>158 | 232=>267 | 233=>268 | n=>n,fun | 17=>6 | 18=>2 | 19=>3 | n=>n⟩
def Tryz.laysM243_ren:Go.Shelf.Ren:=⟨fun | 243=>135 | 246=>164 | 283=>192 | 284=>193 | 285=>194 | 286=>195 | 129=>212 | 317=>217 | 318=>218 | 319=>219 | 320=>127 | 337=>156 | 338=>157 | n=>n,fun | 3=>3 | 9=>9 | 2=>2 | 4=>4 | 171=>280 | 0=>0 | 53=>222 | 37=>61 | 5=>5 | 173=>282 | 212=>303 | 51=>220 | 20=>20 | 213=>304 | 46=>158 | 232=>267 | 233=>268 | n=>n,fun | 17=>6 | 18=>2 | 19=>3 | n=>n⟩
def Tryz.laysM171_ren:Go.Shelf.Ren:=⟨fun | 171=>96 | 243=>135 | 246=>164 | 283=>192 | 284=>193 | 285=>194 | 286=>195 | 129=>212 | 317=>217 | 318=>218 | 319=>219 | 320=>127 | 337=>156 | 338=>157 | n=>n,fun | 3=>3 | 9=>9 | 2=>2 | 4=>4 | 171=>280 | 0=>0 | 53=>222 | 37=>61 | 5=>5 | 173=>282 | 212=>303 | 51=>220 | 20=>20 | 213=>304 | 46=>158 | 232=>267 | 233=>268 | n=>n,fun | 17=>6 | 18=>2 | 19=>3 | n=>n⟩
theorem Tryz.laysM171:Go.Proofs.LaysM.n171 prog Tryz.laysM171_ren:={
 mixed:=by kernel_rfl
 f129:=ga func212
 f171:=ga func96
 f243:=ga func135
 f246:=ga func164
 f283:=ga func192
 f284:=ga func193
 f285:=ga func194
 f286:=ga func195
 f317:=ga func217
 f318:=ga func218
 f319:=ga func219
 f320:=ga func127
 f337:=ga func156
 f338:=ga func157
 t0:=underlying0
 a0:=isAgg0
 z0:=sizeOf0
 v0:=zeroValue0
 t2:=underlying2
 a2:=isAgg2
 z2:=sizeOf2
 v2:=zeroValue2
 t3:=underlying3
 a3:=isAgg3
 z3:=sizeOf3
 v3:=zeroValue3
 t4:=underlying4
 a4:=isAgg4
 z4:=sizeOf4
 v4:=zeroValue4
 t5:=underlying5
 a5:=isAgg5
 z5:=sizeOf5
 v5:=zeroValue5
 t9:=underlying9
 a9:=isAgg9
 z9:=sizeOf9
 v9:=zeroValue9
 t20:=underlying20
 a20:=isAgg20
 z20:=sizeOf20
 v20:=zeroValue20
 t37:=underlying61
 a37:=isAgg61
 z37:=sizeOf61
 v37:=zeroValue61
 t46:=underlying158
 a46:=isAgg158
 z46:=sizeOf158
 v46:=zeroValue158
 t51:=underlying220
 a51:=isAgg220
 z51:=sizeOf220
 v51:=zeroValue220
 t53:=underlying222
 a53:=isAgg222
 z53:=sizeOf222
 v53:=zeroValue222
 t171:=underlying280
 a171:=isAgg280
 z171:=sizeOf280
 v171:=zeroValue280
 t173:=underlying282
 a173:=isAgg282
 z173:=sizeOf282
 v173:=zeroValue282
 t212:=underlying303
 a212:=isAgg303
 z212:=sizeOf303
 v212:=zeroValue303
 t213:=underlying304
 a213:=isAgg304
 z213:=sizeOf304
 t232:=underlying267
 a232:=isAgg267
 z232:=sizeOf267
 v232:=zeroValue267
 t233:=underlying268
 a233:=isAgg268
 z233:=sizeOf268
 v233:=zeroValue268
 g17:=by kernel_rfl
 g18:=by kernel_rfl
 g19:=by kernel_rfl
 i0:=by kernel_rfl
 i2:=by kernel_rfl
 i3:=by kernel_rfl
 i4:=by kernel_rfl
 i5:=by kernel_rfl
 i9:=by kernel_rfl
 i20:=by kernel_rfl
 i37:=by kernel_rfl
 i46:=by kernel_rfl
 i51:=by kernel_rfl
 i53:=by kernel_rfl
 i171:=by kernel_rfl
 i173:=by kernel_rfl
 i212:=by kernel_rfl
 i232:=by kernel_rfl
 i233:=by kernel_rfl
 m17:=by kernel_rfl
 m18:=by kernel_rfl
 m19:=by kernel_rfl}
open Go.RowKit Go.Sort Go.Lib in
theorem Tryz.strconv_Itoa (n : Int) (h0 : -9223372036854775808 ≤ n) (h1 : n ≤ 9223372036854775807) (w : World) (htab : Lib.TabIs prog w "internal/strconv.uint64pow10" .u64 Lib.pow10Tab) :
    Calls prog 96 #[.int .i64 n] w fun e w'=>e = .returned (.string ⟨(Lib.itoa n).toArray⟩)∧∃ k os,w'=grow (w.drewN k) os:=Any.strconv_Itoa Tryz.laysM171 n h0 h1 w htab
def Tryz.laysC172_ren:Go.Shelf.Ren:=⟨fun | 172=>103 | 244=>141 | 245=>142 | 247=>170 | 279=>171 | 280=>172 | 281=>173 | 282=>174 | 287=>199 | 316=>200 | 171=>96 | 205=>201 | 321=>221 | 322=>222 | 243=>135 | 246=>164 | 283=>192 | 284=>193 | 285=>194 | 286=>195 | 129=>212 | 317=>217 | 318=>218 | 319=>219 | 320=>127 | 337=>156 | 338=>157 | n=>n,fun | 9=>9 | 3=>3 | 75=>184 | 76=>185 | 4=>4 | 5=>5 | 167=>256 | 37=>61 | 0=>0 | 85=>257 | 2=>2 | 168=>259 | 53=>222 | 175=>287 | 46=>158 | 210=>291 | 127=>249 | 145=>308 | 143=>306 | 21=>21 | 171=>280 | 173=>282 | 212=>303 | 51=>220 | 20=>20 | 213=>304 | 232=>267 | 233=>268 | 80=>64 | n=>n,fun | 15=>4 | 16=>5 | 17=>6 | 18=>2 | 19=>3 | n=>n⟩
theorem Tryz.laysC172:Go.Proofs.LaysC.n172 prog Tryz.laysC172_ren:={
 mixed:=by kernel_rfl
 f129:=ga func212
 f171:=ga func96
 f172:=ga func103
 f205:=ga func201
 f243:=ga func135
 f244:=ga func141
 f245:=ga func142
 f246:=ga func164
 f247:=ga func170
 f279:=ga func171
 f280:=ga func172
 f281:=ga func173
 f282:=ga func174
 f283:=ga func192
 f284:=ga func193
 f285:=ga func194
 f286:=ga func195
 f287:=ga func199
 f316:=ga func200
 f317:=ga func217
 f318:=ga func218
 f319:=ga func219
 f320:=ga func127
 f321:=ga func221
 f322:=ga func222
 f337:=ga func156
 f338:=ga func157
 t0:=underlying0
 a0:=isAgg0
 z0:=sizeOf0
 v0:=zeroValue0
 t2:=underlying2
 a2:=isAgg2
 z2:=sizeOf2
 v2:=zeroValue2
 t3:=underlying3
 a3:=isAgg3
 z3:=sizeOf3
 v3:=zeroValue3
 t4:=underlying4
 a4:=isAgg4
 z4:=sizeOf4
 v4:=zeroValue4
 t5:=underlying5
 a5:=isAgg5
 z5:=sizeOf5
 v5:=zeroValue5
 t9:=underlying9
 a9:=isAgg9
 z9:=sizeOf9
 v9:=zeroValue9
 t20:=underlying20
 a20:=isAgg20
 z20:=sizeOf20
 v20:=zeroValue20
 t21:=underlying21
 a21:=isAgg21
 z21:=sizeOf21
 v21:=zeroValue21
 t37:=underlying61
 a37:=isAgg61
 z37:=sizeOf61
 v37:=zeroValue61
 t46:=underlying158
 a46:=isAgg158
 z46:=sizeOf158
 v46:=zeroValue158
 t51:=underlying220
 a51:=isAgg220
 z51:=sizeOf220
 v51:=zeroValue220
 t53:=underlying222
 a53:=isAgg222
 z53:=sizeOf222
 v53:=zeroValue222
 t75:=underlying184
 a75:=isAgg184
 z75:=sizeOf184
 v75:=zeroValue184
 t76:=underlying185
 a76:=isAgg185
 z76:=sizeOf185
 v76:=zeroValue185
 t85:=underlying257
 a85:=isAgg257
 z85:=sizeOf257
 v85:=zeroValue257
 t127:=underlying249
 a127:=isAgg249
 z127:=sizeOf249
 v127:=zeroValue249
 t143:=underlying306
 a143:=isAgg306
 z143:=sizeOf306
 v143:=zeroValue306
 t145:=underlying308
 a145:=isAgg308
 z145:=sizeOf308
 v145:=zeroValue308
 t167:=underlying256
 a167:=isAgg256
 z167:=sizeOf256
 v167:=zeroValue256
 t168:=underlying259
 a168:=isAgg259
 z168:=sizeOf259
 v168:=zeroValue259
 t171:=underlying280
 a171:=isAgg280
 z171:=sizeOf280
 v171:=zeroValue280
 t173:=underlying282
 a173:=isAgg282
 z173:=sizeOf282
 v173:=zeroValue282
 t175:=underlying287
 a175:=isAgg287
 z175:=sizeOf287
 v175:=zeroValue287
 t210:=underlying291
 a210:=isAgg291
 z210:=sizeOf291
 v210:=zeroValue291
 t212:=underlying303
 a212:=isAgg303
 z212:=sizeOf303
 v212:=zeroValue303
 t213:=underlying304
 a213:=isAgg304
 z213:=sizeOf304
 t232:=underlying267
 a232:=isAgg267
 z232:=sizeOf267
 v232:=zeroValue267
 t233:=underlying268
 a233:=isAgg268
 z233:=sizeOf268
 v233:=zeroValue268
 g15:=by kernel_rfl
 g16:=by kernel_rfl
 g17:=by kernel_rfl
 g18:=by kernel_rfl
 g19:=by kernel_rfl
 t80:=underlying64
 a80:=isAgg64
 z80:=sizeOf64
 v80:=zeroValue64
 i0:=by kernel_rfl
 i2:=by kernel_rfl
 i3:=by kernel_rfl
 i4:=by kernel_rfl
 i5:=by kernel_rfl
 i9:=by kernel_rfl
 i20:=by kernel_rfl
 i21:=by kernel_rfl
 i37:=by kernel_rfl
 i46:=by kernel_rfl
 i51:=by kernel_rfl
 i53:=by kernel_rfl
 i75:=by kernel_rfl
 i76:=by kernel_rfl
 i80:=by kernel_rfl
 i85:=by kernel_rfl
 i127:=by kernel_rfl
 i143:=by kernel_rfl
 i145:=by kernel_rfl
 i167:=by kernel_rfl
 i168:=by kernel_rfl
 i171:=by kernel_rfl
 i173:=by kernel_rfl
 i175:=by kernel_rfl
 i210:=by kernel_rfl
 i212:=by kernel_rfl
 i232:=by kernel_rfl
 i233:=by kernel_rfl
 m15:=by kernel_rfl
 m16:=by kernel_rfl
 m17:=by kernel_rfl
 m18:=by kernel_rfl
 m19:=by kernel_rfl
 c0:=by kernel_rfl
 c2:=by kernel_rfl
 c3:=by kernel_rfl
 c4:=by kernel_rfl
 c5:=by kernel_rfl
 c9:=by kernel_rfl
 c20:=by kernel_rfl
 c21:=by kernel_rfl
 c37:=by kernel_rfl
 c46:=by kernel_rfl
 c51:=by kernel_rfl
 c53:=by kernel_rfl
 c75:=by kernel_rfl
 c76:=by kernel_rfl
 c80:=by kernel_rfl
 c85:=by kernel_rfl
 c127:=by kernel_rfl
 c143:=by kernel_rfl
 c145:=by kernel_rfl
 c167:=by kernel_rfl
 c168:=by kernel_rfl
 c171:=by kernel_rfl
 c173:=by kernel_rfl
 c175:=by kernel_rfl
 c210:=by kernel_rfl
 c212:=by kernel_rfl
 c213:=by kernel_rfl
 c232:=by kernel_rfl
 c233:=by kernel_rfl}
open Go.RowKit in
theorem Tryz.strconv_Atoi_ok (s:ByteArray) (hmax:s.size≤9223372036854775806) (v:Int) (h:Lib.atoiAll s.data.toList = .ok v) (w:World) :
    Calls prog 103 #[.string s] w fun e w'=>e = .returned (.tuple #[.int .i64 v,.nilIface])∧(w'=w∨∃ t,w'=Lib.bytesWorld w 5 t):=Any.strconv_Atoi_ok Tryz.laysC172 s hmax v h w
open Go.RowKit in
open Go.RowKit in
theorem Tryz.strconv_Atoi_range (s:ByteArray) (hlim:s.size≤281474976710656) (h:Lib.atoiAll s.data.toList = .range) (ev:Value) (w:World) (hv:w.cell? ⟨5,0,none⟩=some ev) (hev:ev = .nilIface∨∃ te pe,ev = .iface te pe) :
    Calls prog 103 #[.string s] w fun e w'=>∃ N,e = .returned (.tuple #[.int .i64 (Lib.atoiSat s.data.toList),.iface 259 (.pointer (some ⟨N,0,none⟩))])∧w.heap.size≤N∧w'.heap[N]?=some (.cells #[.string ⟨#[65,116,111,105]⟩,.string s,ev] 291 (0,0))∧Below w.heap.size w w':=Any.strconv_Atoi_range Tryz.laysC172 s hlim h ev w hv hev
def Tryz.lays219_ren:Go.Shelf.Ren:=⟨fun | 219=>131 | 217=>160 | 225=>161 | 224=>119 | 267=>162 | 266=>183 | 314=>184 | n=>n,fun | 9=>9 | 3=>3 | 4=>4 | 5=>5 | 46=>158 | 146=>247 | 51=>220 | n=>n,fun | 1=>1 | n=>n⟩
def Tryz.lays145_ren:Go.Shelf.Ren:=⟨fun | 145=>66 | 220=>94 | 219=>131 | 217=>160 | 225=>161 | 224=>119 | 267=>162 | 266=>183 | 314=>184 | n=>n,fun | 9=>9 | 4=>4 | 59=>123 | 3=>3 | 5=>5 | 46=>158 | 146=>247 | 51=>220 | n=>n,fun | 1=>1 | n=>n⟩
theorem Tryz.lays145:Go.Proofs.Lays.n145 prog Tryz.lays145_ren:=⟨by kernel_rfl,ga func66,ga func160,ga func131,ga func94,ga func119,ga func161,ga func183,ga func162,ga func184,underlying3,isAgg3,sizeOf3,zeroValue3,underlying4,isAgg4,sizeOf4,zeroValue4,underlying5,isAgg5,sizeOf5,zeroValue5,underlying9,isAgg9,sizeOf9,zeroValue9,underlying158,isAgg158,sizeOf158,zeroValue158,underlying220,isAgg220,sizeOf220,zeroValue220,underlying123,isAgg123,sizeOf123,zeroValue123,underlying247,isAgg247,sizeOf247,zeroValue247,by kernel_rfl⟩
open Go.RowKit Go.Lib in
theorem Tryz.strings_Cut (s sep:ByteArray) (m:Int) (w:World) (hs:s.size < 4294967281) (hm:w.cell? ⟨1,0,none⟩=some (.int .i64 m)) :
    Calls prog 66 #[.string s,.string sep] w fun e w'=>e = .returned (.tuple #[.string ⟨(Lib.cut s.data.toList sep.data.toList).1.toArray⟩,.string ⟨(Lib.cut s.data.toList sep.data.toList).2.1.toArray⟩,.bool (Lib.cut s.data.toList sep.data.toList).2.2])∧∃ n,w'=w.drewN n:=Any.strings_Cut Tryz.lays145 s sep m w hs hm
def Tryz.lays189_ren:Go.Shelf.Ren:=⟨fun | 189=>143 | 125=>176 | 257=>175 | 128=>211 | 129=>212 | 294=>202 | 295=>203 | 296=>204 | 297=>205 | 298=>206 | 299=>207 | 216=>208 | 300=>209 | 301=>210 | 328=>223 | 329=>224 | 330=>225 | 331=>226 | 332=>227 | 215=>228 | 343=>231 | n=>n,fun | 28=>34 | 3=>3 | 46=>158 | 0=>0 | 51=>220 | 53=>222 | 4=>4 | 183=>295 | 182=>294 | 131=>121 | 5=>5 | 9=>9 | 218=>309 | 222=>313 | 228=>320 | 229=>321 | n=>n,fun | n=>n⟩
theorem Tryz.lays189:Go.Proofs.Lays.n189 prog Tryz.lays189_ren:=⟨by kernel_rfl,ga func176,ga func211,ga func212,ga func143,ga func228,ga func208,ga func175,ga func202,ga func203,ga func204,ga func205,ga func206,ga func207,ga func209,ga func210,ga func223,ga func224,ga func225,ga func226,ga func227,ga func231,underlying0,isAgg0,sizeOf0,zeroValue0,underlying3,isAgg3,sizeOf3,zeroValue3,underlying4,isAgg4,sizeOf4,zeroValue4,underlying5,isAgg5,sizeOf5,zeroValue5,underlying9,isAgg9,sizeOf9,zeroValue9,underlying34,isAgg34,sizeOf34,zeroValue34,underlying158,isAgg158,sizeOf158,zeroValue158,underlying220,isAgg220,sizeOf220,zeroValue220,underlying222,isAgg222,sizeOf222,zeroValue222,underlying121,isAgg121,sizeOf121,zeroValue121,underlying294,isAgg294,sizeOf294,zeroValue294,underlying295,isAgg295,sizeOf295,zeroValue295,underlying309,isAgg309,sizeOf309,zeroValue309,underlying313,isAgg313,sizeOf313,zeroValue313,underlying320,isAgg320,sizeOf320,zeroValue320,underlying321,isAgg321,sizeOf321,zeroValue321⟩
open Go.Sort Go.RowKit in
theorem Tryz.slices_Sort_int (blk off cap:Nat) (zs:List Int) (w:World) (hH:Holds (Value.int .i64) w blk off zs.toArray) (hblk:blk < w.heap.size) (hsz:zs.length < 4611686018427387904) :
    Calls prog 143 #[.slice (some ⟨blk,off,none⟩) zs.length cap] w fun e w'=>
      e = .returned (.tuple #[])∧∃ n os,w'=grow (putRow (Value.int .i64) (Sort.ahead w n) blk off (zs.mergeSort fun x y=>decide (x≤y)).toArray) os:=Any.slices_Sort_int Tryz.lays189 blk off cap zs w hH hblk hsz
def Tryz.lays221_ren:Go.Shelf.Ren:=⟨fun | 221=>139 | 268=>167 | 138=>168 | 143=>169 | 195=>196 | 197=>197 | 218=>198 | 219=>131 | 260=>220 | 217=>160 | 225=>161 | 224=>119 | 267=>162 | 266=>183 | 314=>184 | n=>n,fun | 9=>9 | 3=>3 | 31=>44 | 4=>4 | 0=>0 | 105=>285 | 21=>21 | 5=>5 | 46=>158 | 119=>316 | 139=>319 | 138=>318 | 146=>247 | 51=>220 | n=>n,fun | 1=>1 | 3=>7 | 4=>8 | n=>n⟩
def Tryz.lays146_ren:Go.Shelf.Ren:=⟨fun | 146=>101 | 221=>139 | 268=>167 | 138=>168 | 143=>169 | 195=>196 | 197=>197 | 218=>198 | 219=>131 | 260=>220 | 217=>160 | 225=>161 | 224=>119 | 267=>162 | 266=>183 | 314=>184 | n=>n,fun | 9=>9 | 31=>44 | 3=>3 | 4=>4 | 0=>0 | 105=>285 | 21=>21 | 5=>5 | 46=>158 | 119=>316 | 139=>319 | 138=>318 | 146=>247 | 51=>220 | n=>n,fun | 1=>1 | 3=>7 | 4=>8 | n=>n⟩
theorem Tryz.lays146:Go.Proofs.Lays.n146 prog Tryz.lays146_ren:=⟨by kernel_rfl,ga func168,ga func169,ga func101,ga func196,ga func197,ga func160,ga func198,ga func131,ga func139,ga func119,ga func161,ga func220,ga func183,ga func162,ga func167,ga func184,underlying0,isAgg0,sizeOf0,zeroValue0,underlying3,isAgg3,sizeOf3,zeroValue3,underlying4,isAgg4,sizeOf4,zeroValue4,underlying5,isAgg5,sizeOf5,zeroValue5,underlying9,isAgg9,sizeOf9,zeroValue9,underlying21,isAgg21,sizeOf21,zeroValue21,underlying44,isAgg44,sizeOf44,zeroValue44,underlying158,isAgg158,sizeOf158,zeroValue158,underlying220,isAgg220,sizeOf220,zeroValue220,underlying285,isAgg285,sizeOf285,zeroValue285,underlying316,isAgg316,sizeOf316,underlying318,isAgg318,sizeOf318,zeroValue318,underlying319,isAgg319,sizeOf319,zeroValue319,underlying247,isAgg247,sizeOf247,zeroValue247,by kernel_rfl,by kernel_rfl,by kernel_rfl⟩
open Go.RowKit Go.Lib in
theorem Tryz.strings_Split (s sep:ByteArray) (m:Int) (w:World) (hs:s.size < 4294967281) (hm:w.cell? ⟨1,0,none⟩=some (.int .i64 m)) (h1:1≤sep.size) :
    Calls prog 101 #[.string s,.string sep] w fun e w'=>
      e = .returned (.slice (some ⟨w.heap.size,0,none⟩) (Lib.countB s sep+1) (Lib.countB s sep+1))∧w'=w.alloc (.cells ((Lib.splitB sep 0 (Lib.countB s sep) s).map Value.string).toArray 9):=Any.strings_Split Tryz.lays146 (by kernel_rfl) s sep m w hs hm h1
def Tryz.lays110_ren:Go.Shelf.Ren:=⟨fun | 110=>136 | 109=>165 | n=>n,fun | 31=>44 | 9=>9 | 4=>4 | 3=>3 | 0=>0 | n=>n,fun | n=>n⟩
theorem Tryz.lays110:Go.Proofs.Lays.n110 prog Tryz.lays110_ren:=⟨by kernel_rfl,ga func165,ga func136,underlying0,isAgg0,sizeOf0,zeroValue0,underlying3,isAgg3,sizeOf3,zeroValue3,underlying4,isAgg4,sizeOf4,zeroValue4,underlying9,isAgg9,sizeOf9,zeroValue9,underlying44,isAgg44,sizeOf44,zeroValue44⟩
open Go.Lib in
theorem Tryz.slices_Contains_string (b off n c:Nat) (zs:List ByteArray) (x:ByteArray) (w:World) (hz:n≤zs.length) (hbig:n≤9223372036854775807) (hc:∀ j,j < zs.length→w.cell? ⟨b,off+j,none⟩=some (.string (zs.getD j ByteArray.empty))) :
    Calls prog 136 #[.slice (some ⟨b,off,none⟩) n c,.string x] w fun e w'=>e = .returned (.bool (Lib.containsS (zs.take n) x))∧w'=w:=Any.slices_Contains_string Tryz.lays110 b off n c zs x w hz hbig hc
def Tryz.laysNm220_ren:Go.Shelf.Ren:=⟨fun | 20=>144 | n=>n,fun | 22=>34 | 3=>3 | 4=>4 | 0=>0 | n=>n,fun | n=>n⟩
theorem Tryz.laysNm220:Go.Proofs.Lays2.n20 prog Tryz.laysNm220_ren:=⟨by kernel_rfl,ga func144,underlying0,isAgg0,sizeOf0,zeroValue0,underlying3,isAgg3,sizeOf3,zeroValue3,underlying4,isAgg4,sizeOf4,zeroValue4,underlying34,isAgg34,sizeOf34,zeroValue34,by kernel_rfl⟩
open Go.RowKit Go.Lib Go.Sort in
theorem Tryz.slices_Compact_int (blk off cap:Nat) (zs:List Int) (w:World) (hH:Holds (Value.int .i64) w blk off zs.toArray) (hsz:zs.length≤9223372036854775807) (hcap:zs.length≤cap) :
    Calls prog 144 #[.slice (some ⟨blk,off,none⟩) zs.length cap] w fun e w'=>e = .returned (.slice (some ⟨blk,off,none⟩) (Lib.compact zs).length cap)∧∃ q,w'=putRow (Value.int .i64) (Sort.ahead w q) blk off (Lib.compact zs++List.replicate (zs.length - (Lib.compact zs).length) 0).toArray:=Any.slices_Compact_int Tryz.laysNm220 blk off cap zs w hH hsz hcap
open Go.RowKit Go.Lib Go.Sort in
theorem Tryz.slices_Compact_int_empty (a:Option Addr) (cap:Nat) (w:World) :
    Calls prog 144 #[.slice a 0 cap] w fun e w'=>e = .returned (.slice a 0 cap)∧w'=w:=Any.slices_Compact_int_empty Tryz.laysNm220 a cap w
open Go.RowKit Go.Sort in
theorem Tryz.slices_Sort_int_none (p:Option Addr) (cap:Nat) (w:World) :
    Calls prog 143 #[.slice p 0 cap] w fun e w'=>e = .returned (.tuple #[])∧w'=w:=Any.slices_Sort_int_none Tryz.lays189 p cap w
def Tryz.laysSlT4_ren:Go.Shelf.Ren:=⟨fun | 4=>56 | 5=>79 | 6=>117 | 7=>50 | 8=>118 | 9=>119 | 10=>120 | 11=>153 | 12=>154 | n=>n,fun | 22=>61 | 4=>4 | 3=>3 | 0=>0 | 5=>5 | 29=>158 | 9=>9 | 31=>247 | 30=>220 | n=>n,fun | 0=>1 | n=>n⟩
theorem Tryz.laysSlT4:Go.Proofs.SlLaysT.n4 prog Tryz.laysSlT4_ren:=⟨by kernel_rfl,ga func56,ga func79,ga func117,ga func50,ga func118,ga func119,ga func120,ga func153,ga func154,underlying0,isAgg0,sizeOf0,zeroValue0,underlying3,isAgg3,sizeOf3,zeroValue3,underlying4,isAgg4,sizeOf4,zeroValue4,underlying5,isAgg5,sizeOf5,zeroValue5,underlying9,isAgg9,sizeOf9,zeroValue9,underlying61,isAgg61,sizeOf61,zeroValue61,underlying158,isAgg158,sizeOf158,zeroValue158,underlying220,isAgg220,sizeOf220,zeroValue220,underlying247,isAgg247,sizeOf247,zeroValue247,by kernel_rfl⟩
theorem Tryz.bytes_Cut_all (p1 p2:Option Addr) (n c1 k c2:Nat) (xs ys:List Int) (m:Int) (w:World) (hx:xs.length=n) (hy:ys.length=k) (hr1:∀ x∈xs,0≤x∧x < 256) (hr2:∀ y∈ys,0≤y∧y < 256) (h1:Lib.BytesIn w p1 n xs) (h2:Lib.BytesIn w p2 k ys) (hp1:p1=none→c1=0) (hcap:n≤c1) (hs:n < 4294967281) (hk:k≤9223372036854775807) (hm:w.cell? ⟨1,0,none⟩=some (.int .i64 m)) :
    Calls prog 56 #[.slice p1 n c1,.slice p2 k c2] w fun e w'=>e = .returned (Lib.cutV p1 n c1 k (Lib.index (Lib.bytesOf xs) (Lib.bytesOf ys)))∧∃ q,w'=w.drewN q:=Any.bytes_Cut_all Tryz.laysSlT4 p1 p2 n c1 k c2 xs ys m w hx hy hr1 hr2 h1 h2 hp1 hcap hs hk hm
end Go.Proofs
