/- LIBRARY FUNCTIONS: their contracts in the logic's form. -/
import Derived.Shelf.Strings.OnBuilder
import Derived.Shelf.Small.Wraps
import Derived.Shelf.LaysM
import Derived.Shelf.Strconv.Itoa4
import Derived.Shelf.LaysC
import Derived.Shelf.Strconv.ParseIntPublic10
import Derived.Shelf.Strings.Cut
import Derived.Shelf.GgClosure.StringsRunes
import Derived.Shelf.Strings.Split
import Derived.Test.YtpnchponfnbmiaaGreatDoorProg
import Derived.Test.YtpnchponfnbmiaaGreatDoorRows
import Derived.Test.YtpnchponfnbmiaaGreatDoorHG
import Derived.Lib.LaidTab
import Derived.Lib.ParseIntBTie
import Derived.Lib.CutLaws
import Derived.Lib.CountLaws
import Derived.Lib.ItoaLen
namespace Go.Proofs
open Go.Shelf
abbrev Tryz.rv:String:=(YtpnchponfnbmiaaGreatDoor.Rows.fnExactThenSchemaMapsRow.laid.getD 2 ("",.nil)).1
def Tryz.QT:Go.Shelf.Ren:=⟨fun | 145=>164 | 220=>198 | 219=>221 | 217=>243 | 225=>244 | 224=>245 | 267=>246 | 266=>259 | 314=>260 | n=>n,fun | 9=>9 | 4=>4 | 59=>242 | 3=>3 | 5=>5 | 46=>298 | 146=>352 | 51=>303 | n=>n,fun | 1=>3 | n=>n⟩
theorem Tryz.QS:Go.Proofs.Lays.n145 Tryz.prog Tryz.QT:={
 mixed:=by kernel_rfl
 f145:=Tryz.func164.trans (congrArg some (by kernel_rfl))
 f217:=Tryz.func243.trans (congrArg some (by kernel_rfl))
 f219:=Tryz.func221.trans (congrArg some (by kernel_rfl))
 f220:=Tryz.func198.trans (congrArg some (by kernel_rfl))
 f224:=Tryz.func245.trans (congrArg some (by kernel_rfl))
 f225:=Tryz.func244.trans (congrArg some (by kernel_rfl))
 f266:=Tryz.func259.trans (congrArg some (by kernel_rfl))
 f267:=Tryz.func246.trans (congrArg some (by kernel_rfl))
 f314:=Tryz.func260.trans (congrArg some (by kernel_rfl))
 t3:=Tryz.underlying3
 a3:=Tryz.isAgg3
 z3:=Tryz.sizeOf3
 v3:=Tryz.zeroValue3
 t4:=Tryz.underlying4
 a4:=Tryz.isAgg4
 z4:=Tryz.sizeOf4
 v4:=Tryz.zeroValue4
 t5:=Tryz.underlying5
 a5:=Tryz.isAgg5
 z5:=Tryz.sizeOf5
 v5:=Tryz.zeroValue5
 t9:=Tryz.underlying9
 a9:=Tryz.isAgg9
 z9:=Tryz.sizeOf9
 v9:=Tryz.zeroValue9
 t46:=Tryz.underlying298
 a46:=Tryz.isAgg298
 z46:=Tryz.sizeOf298
 v46:=Tryz.zeroValue298
 t51:=Tryz.underlying303
 a51:=Tryz.isAgg303
 z51:=Tryz.sizeOf303
 v51:=Tryz.zeroValue303
 t59:=Tryz.underlying242
 a59:=Tryz.isAgg242
 z59:=Tryz.sizeOf242
 v59:=Tryz.zeroValue242
 t146:=Tryz.underlying352
 a146:=Tryz.isAgg352
 z146:=Tryz.sizeOf352
 v146:=Tryz.zeroValue352
 g1:=by kernel_rfl }
open Go.RowKit Go.Lib in
theorem Tryz.strings_Cut(s sep:ByteArray)(m:Int)(w:World)(hs:s.size<4294967281)(hm:w.cell? ⟨3,0,none⟩=some (.int .i64 m)) :
  Calls Tryz.prog 164 #[.string s,.string sep] w fun e w'=>e=.returned (.tuple #[.string ⟨(Lib.cut s.data.toList sep.data.toList).1.toArray⟩,.string ⟨(Lib.cut s.data.toList sep.data.toList).2.1.toArray⟩,.bool (Lib.cut s.data.toList sep.data.toList).2.2])/\∃n,w'=w.drewN n:=Any.strings_Cut Tryz.QS s sep m w hs hm
def Tryz.QR:Go.Shelf.Ren:=⟨fun | 103=>165 | 210=>199 | 206=>222 | n=>n,fun | 9=>9 | 4=>4 | 24=>244 | 3=>3 | n=>n,fun | n=>n⟩
theorem Tryz.QQ:Go.Proofs.Lays.n103 Tryz.prog Tryz.QR:={
 mixed:=by kernel_rfl
 f103:=Tryz.func165.trans (congrArg some (by kernel_rfl))
 f206:=Tryz.func222.trans (congrArg some (by kernel_rfl))
 f210:=Tryz.func199.trans (congrArg some (by kernel_rfl))
 t3:=Tryz.underlying3
 a3:=Tryz.isAgg3
 z3:=Tryz.sizeOf3
 v3:=Tryz.zeroValue3
 t4:=Tryz.underlying4
 a4:=Tryz.isAgg4
 z4:=Tryz.sizeOf4
 v4:=Tryz.zeroValue4
 t9:=Tryz.underlying9
 a9:=Tryz.isAgg9
 z9:=Tryz.sizeOf9
 v9:=Tryz.zeroValue9
 t24:=Tryz.underlying244
 a24:=Tryz.isAgg244
 z24:=Tryz.sizeOf244
 v24:=Tryz.zeroValue244 }
open Go.RowKit in
theorem Tryz.strings_CutPrefix(s p:ByteArray)(w:World) :
  Calls Tryz.prog 165 #[.string s,.string p] w fun e w'=>e=.returned (.tuple #[.string ⟨(Lib.trimPrefix s.data.toList p.data.toList).toArray⟩,.bool (Lib.hasPrefix s.data.toList p.data.toList)])/\w'=w:=Any.strings_CutPrefix Tryz.QQ s p w
def Tryz.QY:Go.Shelf.Ren:=⟨fun | 15=>247 | 20=>261 | n=>n,fun | 9=>9 | 23=>335 | 3=>3 | 4=>4 | 0=>0 | 21=>21 | n=>n,fun | n=>n⟩
theorem Tryz.QX:Go.Proofs.LaysGw.n15 Tryz.prog Tryz.QY:={
 mixed:=by kernel_rfl
 f15:=Tryz.func247.trans (congrArg some (by kernel_rfl))
 f20:=Tryz.func261.trans (congrArg some (by kernel_rfl))
 t0:=Tryz.underlying0
 a0:=Tryz.isAgg0
 z0:=Tryz.sizeOf0
 v0:=Tryz.zeroValue0
 i0:=by kernel_rfl
 t3:=Tryz.underlying3
 a3:=Tryz.isAgg3
 z3:=Tryz.sizeOf3
 v3:=Tryz.zeroValue3
 i3:=by kernel_rfl
 t4:=Tryz.underlying4
 a4:=Tryz.isAgg4
 z4:=Tryz.sizeOf4
 v4:=Tryz.zeroValue4
 i4:=by kernel_rfl
 t9:=Tryz.underlying9
 a9:=Tryz.isAgg9
 z9:=Tryz.sizeOf9
 v9:=Tryz.zeroValue9
 i9:=by kernel_rfl
 t21:=Tryz.underlying21
 a21:=Tryz.isAgg21
 z21:=Tryz.sizeOf21
 v21:=Tryz.zeroValue21
 i21:=by kernel_rfl
 t23:=Tryz.underlying335
 a23:=Tryz.isAgg335
 z23:=Tryz.sizeOf335
 v23:=Tryz.zeroValue335
 i23:=by kernel_rfl }
open Go.RowKit Go.Lib in
theorem Tryz.strings_IndexFunc_runes(g:Nat)(lb:Array Value)(eg:∀args w,(callFunc g args).run Tryz.prog w=.ok (.enter g args) w)(p:Nat->Bool)(s:ByteArray)(w:World)(hp:PredAtRunes Tryz.prog g lb p w) :
  Calls Tryz.prog 247 #[.string s,.func (.func g) #[] lb] w fun e w'=>e=.returned (.int .i64 (Lib.idxFunc p true s))/\Below w.heap.size w w':=Any.strings_IndexFunc_runes Tryz.QX g lb eg p s w hp
def Tryz.GZ:Go.Shelf.Ren:=⟨fun | 156=>119 | 165=>152 | 166=>153 | 169=>154 | 240=>194 | 241=>195 | 276=>219 | 277=>220 | n=>n,fun | 31=>184 | 9=>9 | 3=>3 | 4=>4 | 0=>0 | 20=>20 | 72=>230 | 76=>232 | 70=>228 | 37=>190 | 75=>177 | 127=>284 | 164=>216 | 5=>5 | 80=>143 | n=>n,fun | n=>n⟩
theorem Tryz.GY:Go.Proofs.Lays.n156 Tryz.prog Tryz.GZ:={
 mixed:=by kernel_rfl
 f156:=Tryz.func119.trans (congrArg some (by kernel_rfl))
 f165:=Tryz.func152.trans (congrArg some (by kernel_rfl))
 f166:=Tryz.func153.trans (congrArg some (by kernel_rfl))
 f169:=Tryz.func154.trans (congrArg some (by kernel_rfl))
 f240:=Tryz.func194.trans (congrArg some (by kernel_rfl))
 f241:=Tryz.func195.trans (congrArg some (by kernel_rfl))
 f276:=Tryz.func219.trans (congrArg some (by kernel_rfl))
 f277:=Tryz.func220.trans (congrArg some (by kernel_rfl))
 t0:=Tryz.underlying0
 a0:=Tryz.isAgg0
 z0:=Tryz.sizeOf0
 v0:=Tryz.zeroValue0
 t3:=Tryz.underlying3
 a3:=Tryz.isAgg3
 z3:=Tryz.sizeOf3
 v3:=Tryz.zeroValue3
 t4:=Tryz.underlying4
 a4:=Tryz.isAgg4
 z4:=Tryz.sizeOf4
 v4:=Tryz.zeroValue4
 t9:=Tryz.underlying9
 a9:=Tryz.isAgg9
 z9:=Tryz.sizeOf9
 v9:=Tryz.zeroValue9
 t20:=Tryz.underlying20
 a20:=Tryz.isAgg20
 z20:=Tryz.sizeOf20
 v20:=Tryz.zeroValue20
 t31:=Tryz.underlying184
 a31:=Tryz.isAgg184
 z31:=Tryz.sizeOf184
 v31:=Tryz.zeroValue184
 t37:=Tryz.underlying190
 a37:=Tryz.isAgg190
 z37:=Tryz.sizeOf190
 v37:=Tryz.zeroValue190
 t70:=Tryz.underlying228
 a70:=Tryz.isAgg228
 z70:=Tryz.sizeOf228
 v70:=Tryz.zeroValue228
 t72:=Tryz.underlying230
 a72:=Tryz.isAgg230
 z72:=Tryz.sizeOf230
 v72:=Tryz.zeroValue230
 t75:=Tryz.underlying177
 a75:=Tryz.isAgg177
 z75:=Tryz.sizeOf177
 v75:=Tryz.zeroValue177
 t76:=Tryz.underlying232
 a76:=Tryz.isAgg232
 z76:=Tryz.sizeOf232
 v76:=Tryz.zeroValue232
 t127:=Tryz.underlying284
 a127:=Tryz.isAgg284
 z127:=Tryz.sizeOf284
 v127:=Tryz.zeroValue284
 t164:=Tryz.underlying216
 a164:=Tryz.isAgg216
 z164:=Tryz.sizeOf216
 v164:=Tryz.zeroValue216 }
theorem Tryz.DT:Builder.Extra Tryz.prog Tryz.GZ:={
 sizeBuilder:=by kernel_rfl
 liesBuilder:=by kernel_rfl
 t5:=Tryz.underlying5
 a5:=Tryz.isAgg5
 z5:=Tryz.sizeOf5
 v5:=Tryz.zeroValue5
 infoByte:=by kernel_rfl
 cellsByte:=by kernel_rfl
 sizeByte:=by kernel_rfl
 neB5:=by decide }
open Go.RowKit in
theorem Tryz.strings_Join(bk o c:Nat)(xs:List ByteArray)(sep:ByteArray)(w:World)(hcells:∀(j:Nat) x,xs[j]?=some x->w.cell? ⟨bk,o+j,none⟩=some (.string x))(hbk:bk<w.heap.size)(hN:xs.length<=140737488355328)(hcap:xs.length<=c)(hlen:(Lib.join (xs.map (·.data.toList)) sep.data.toList).length<=140737488355328) :
  Calls Tryz.prog 119 #[.slice (some ⟨bk,o,none⟩) xs.length c,.string sep] w fun e w'=>e=.returned (.string ⟨(Lib.join (xs.map (·.data.toList)) sep.data.toList).toArray⟩)/\Below w.heap.size w w':=Any.strings_Join Tryz.GY Tryz.DT bk o c xs sep w hcells hbk hN hcap hlen
open Go.RowKit in
theorem Tryz.strings_Join_none(a:Option Addr)(c:Nat)(sep:ByteArray)(w:World) :
  Calls Tryz.prog 119 #[.slice a 0 c,.string sep] w fun e w'=>e=.returned (.string ⟨#[]⟩)/\w'=w:=Any.strings_Join_none Tryz.GY Tryz.DT a c sep w
def Tryz.QV:Go.Shelf.Ren:=⟨fun | 146=>202 | 221=>229 | 268=>249 | 138=>250 | 143=>251 | 195=>262 | 197=>263 | 218=>264 | 219=>221 | 260=>271 | 217=>243 | 225=>244 | 224=>245 | 267=>246 | 266=>259 | 314=>260 | n=>n,fun | 9=>9 | 31=>184 | 3=>3 | 4=>4 | 0=>0 | 105=>356 | 21=>21 | 5=>5 | 46=>298 | 119=>372 | 139=>375 | 138=>374 | 146=>352 | 51=>303 | n=>n,fun | 1=>3 | 3=>8 | 4=>9 | n=>n⟩
theorem Tryz.QU:Go.Proofs.Lays.n146 Tryz.prog Tryz.QV:={
 mixed:=by kernel_rfl
 f138:=Tryz.func250.trans (congrArg some (by kernel_rfl))
 f143:=Tryz.func251.trans (congrArg some (by kernel_rfl))
 f146:=Tryz.func202.trans (congrArg some (by kernel_rfl))
 f195:=Tryz.func262.trans (congrArg some (by kernel_rfl))
 f197:=Tryz.func263.trans (congrArg some (by kernel_rfl))
 f217:=Tryz.func243.trans (congrArg some (by kernel_rfl))
 f218:=Tryz.func264.trans (congrArg some (by kernel_rfl))
 f219:=Tryz.func221.trans (congrArg some (by kernel_rfl))
 f221:=Tryz.func229.trans (congrArg some (by kernel_rfl))
 f224:=Tryz.func245.trans (congrArg some (by kernel_rfl))
 f225:=Tryz.func244.trans (congrArg some (by kernel_rfl))
 f260:=Tryz.func271.trans (congrArg some (by kernel_rfl))
 f266:=Tryz.func259.trans (congrArg some (by kernel_rfl))
 f267:=Tryz.func246.trans (congrArg some (by kernel_rfl))
 f268:=Tryz.func249.trans (congrArg some (by kernel_rfl))
 f314:=Tryz.func260.trans (congrArg some (by kernel_rfl))
 t0:=Tryz.underlying0
 a0:=Tryz.isAgg0
 z0:=Tryz.sizeOf0
 v0:=Tryz.zeroValue0
 t3:=Tryz.underlying3
 a3:=Tryz.isAgg3
 z3:=Tryz.sizeOf3
 v3:=Tryz.zeroValue3
 t4:=Tryz.underlying4
 a4:=Tryz.isAgg4
 z4:=Tryz.sizeOf4
 v4:=Tryz.zeroValue4
 t5:=Tryz.underlying5
 a5:=Tryz.isAgg5
 z5:=Tryz.sizeOf5
 v5:=Tryz.zeroValue5
 t9:=Tryz.underlying9
 a9:=Tryz.isAgg9
 z9:=Tryz.sizeOf9
 v9:=Tryz.zeroValue9
 t21:=Tryz.underlying21
 a21:=Tryz.isAgg21
 z21:=Tryz.sizeOf21
 v21:=Tryz.zeroValue21
 t31:=Tryz.underlying184
 a31:=Tryz.isAgg184
 z31:=Tryz.sizeOf184
 v31:=Tryz.zeroValue184
 t46:=Tryz.underlying298
 a46:=Tryz.isAgg298
 z46:=Tryz.sizeOf298
 v46:=Tryz.zeroValue298
 t51:=Tryz.underlying303
 a51:=Tryz.isAgg303
 z51:=Tryz.sizeOf303
 v51:=Tryz.zeroValue303
 t105:=Tryz.underlying356
 a105:=Tryz.isAgg356
 z105:=Tryz.sizeOf356
 v105:=Tryz.zeroValue356
 t119:=Tryz.underlying372
 a119:=Tryz.isAgg372
 z119:=Tryz.sizeOf372
 t138:=Tryz.underlying374
 a138:=Tryz.isAgg374
 z138:=Tryz.sizeOf374
 v138:=Tryz.zeroValue374
 t139:=Tryz.underlying375
 a139:=Tryz.isAgg375
 z139:=Tryz.sizeOf375
 v139:=Tryz.zeroValue375
 t146:=Tryz.underlying352
 a146:=Tryz.isAgg352
 z146:=Tryz.sizeOf352
 v146:=Tryz.zeroValue352
 g1:=by kernel_rfl
 g3:=by kernel_rfl
 g4:=by kernel_rfl }
open Go.RowKit Go.Lib in
theorem Tryz.strings_Split(s sep:ByteArray)(m:Int)(w:World)(hs:s.size<4294967281)(hm:w.cell? ⟨3,0,none⟩=some (.int .i64 m))(h1 : 1<=sep.size) :
  Calls Tryz.prog 202 #[.string s,.string sep] w fun e w' =>
   e=.returned (.slice (some ⟨w.heap.size,0,none⟩) (Lib.countB s sep+1) (Lib.countB s sep+1))/\w'=w.alloc (.cells ((Lib.splitB sep 0 (Lib.countB s sep) s).map Value.string).toArray 9):=Any.strings_Split Tryz.QU (by kernel_rfl) s sep m w hs hm h1
def Tryz.Q0:Go.Shelf.Ren:=⟨fun | 173=>117 | 246=>151 | 283=>190 | 284=>191 | 285=>192 | 286=>193 | 129=>215 | 317=>214 | 318=>216 | 319=>217 | 320=>218 | 337=>241 | 338=>242 | n=>n,fun | 2=>2 | 3=>3 | 9=>9 | 4=>4 | 171=>278 | 0=>0 | 53=>279 | 37=>190 | 5=>5 | 173=>282 | 212=>302 | 51=>303 | 20=>20 | 213=>304 | 46=>298 | 232=>350 | 233=>351 | n=>n,fun | 17=>2 | 18=>4 | 19=>5 | n=>n⟩
theorem Tryz.QZ:Go.Proofs.LaysM.n173 Tryz.prog Tryz.Q0:={
 mixed:=by kernel_rfl
 f129:=Tryz.func215.trans (congrArg some (by kernel_rfl))
 f173:=Tryz.func117.trans (congrArg some (by kernel_rfl))
 f246:=Tryz.func151.trans (congrArg some (by kernel_rfl))
 f283:=Tryz.func190.trans (congrArg some (by kernel_rfl))
 f284:=Tryz.func191.trans (congrArg some (by kernel_rfl))
 f285:=Tryz.func192.trans (congrArg some (by kernel_rfl))
 f286:=Tryz.func193.trans (congrArg some (by kernel_rfl))
 f317:=Tryz.func214.trans (congrArg some (by kernel_rfl))
 f318:=Tryz.func216.trans (congrArg some (by kernel_rfl))
 f319:=Tryz.func217.trans (congrArg some (by kernel_rfl))
 f320:=Tryz.func218.trans (congrArg some (by kernel_rfl))
 f337:=Tryz.func241.trans (congrArg some (by kernel_rfl))
 f338:=Tryz.func242.trans (congrArg some (by kernel_rfl))
 t0:=Tryz.underlying0
 a0:=Tryz.isAgg0
 z0:=Tryz.sizeOf0
 v0:=Tryz.zeroValue0
 t2:=Tryz.underlying2
 a2:=Tryz.isAgg2
 z2:=Tryz.sizeOf2
 v2:=Tryz.zeroValue2
 t3:=Tryz.underlying3
 a3:=Tryz.isAgg3
 z3:=Tryz.sizeOf3
 v3:=Tryz.zeroValue3
 t4:=Tryz.underlying4
 a4:=Tryz.isAgg4
 z4:=Tryz.sizeOf4
 v4:=Tryz.zeroValue4
 t5:=Tryz.underlying5
 a5:=Tryz.isAgg5
 z5:=Tryz.sizeOf5
 v5:=Tryz.zeroValue5
 t9:=Tryz.underlying9
 a9:=Tryz.isAgg9
 z9:=Tryz.sizeOf9
 v9:=Tryz.zeroValue9
 t20:=Tryz.underlying20
 a20:=Tryz.isAgg20
 z20:=Tryz.sizeOf20
 v20:=Tryz.zeroValue20
 t37:=Tryz.underlying190
 a37:=Tryz.isAgg190
 z37:=Tryz.sizeOf190
 v37:=Tryz.zeroValue190
 t46:=Tryz.underlying298
 a46:=Tryz.isAgg298
 z46:=Tryz.sizeOf298
 v46:=Tryz.zeroValue298
 t51:=Tryz.underlying303
 a51:=Tryz.isAgg303
 z51:=Tryz.sizeOf303
 v51:=Tryz.zeroValue303
 t53:=Tryz.underlying279
 a53:=Tryz.isAgg279
 z53:=Tryz.sizeOf279
 v53:=Tryz.zeroValue279
 t171:=Tryz.underlying278
 a171:=Tryz.isAgg278
 z171:=Tryz.sizeOf278
 v171:=Tryz.zeroValue278
 t173:=Tryz.underlying282
 a173:=Tryz.isAgg282
 z173:=Tryz.sizeOf282
 v173:=Tryz.zeroValue282
 t212:=Tryz.underlying302
 a212:=Tryz.isAgg302
 z212:=Tryz.sizeOf302
 v212:=Tryz.zeroValue302
 t213:=Tryz.underlying304
 a213:=Tryz.isAgg304
 z213:=Tryz.sizeOf304
 t232:=Tryz.underlying350
 a232:=Tryz.isAgg350
 z232:=Tryz.sizeOf350
 v232:=Tryz.zeroValue350
 t233:=Tryz.underlying351
 a233:=Tryz.isAgg351
 z233:=Tryz.sizeOf351
 v233:=Tryz.zeroValue351
 g17:=by kernel_rfl
 g18:=by kernel_rfl
 g19:=by kernel_rfl
 i0:=by kernel_rfl
 i2:=by kernel_rfl
 i3:=by kernel_rfl
 i4:=by kernel_rfl
 i5:=by kernel_rfl
 i9:=by kernel_rfl
 i20:=by kernel_rfl
 i37:=by kernel_rfl
 i46:=by kernel_rfl
 i51:=by kernel_rfl
 i53:=by kernel_rfl
 i171:=by kernel_rfl
 i173:=by kernel_rfl
 i212:=by kernel_rfl
 i232:=by kernel_rfl
 i233:=by kernel_rfl
 m17:=by kernel_rfl
 m18:=by kernel_rfl
 m19:=by kernel_rfl }
open Go.RowKit Go.Sort Go.Lib in
theorem Tryz.strconv_FormatInt_10(n:Int)(h0 : -9223372036854775808<=n)(h1:n<=9223372036854775807)(w:World)(htab:Lib.TabIs Tryz.prog w Tryz.rv .u64 Lib.pow10Tab) :
  Calls Tryz.prog 117 #[.int .i64 n,.int .i64 10] w fun e w'=>e=.returned (.string ⟨(Lib.itoa n).toArray⟩)/\∃k os,w'=grow (w.drewN k) os:=Any.strconv_FormatInt_10 Tryz.QZ n h0 h1 w htab
def Tryz.QW:Go.Shelf.Ren:=⟨fun | 174=>230 | 247=>252 | 245=>253 | 287=>265 | 279=>266 | 280=>267 | 281=>268 | 282=>269 | 321=>272 | 322=>273 | 316=>274 | 171=>276 | 205=>275 | 243=>277 | 246=>151 | 283=>190 | 284=>191 | 285=>192 | 286=>193 | 129=>215 | 317=>214 | 318=>216 | 319=>217 | 320=>218 | 337=>241 | 338=>242 | n=>n,fun | 9=>9 | 3=>3 | 2=>2 | 75=>177 | 85=>310 | 4=>4 | 167=>358 | 5=>5 | 53=>279 | 175=>359 | 46=>298 | 168=>361 | 37=>190 | 0=>0 | 210=>370 | 21=>21 | 127=>284 | 145=>378 | 143=>376 | 171=>278 | 173=>282 | 212=>302 | 51=>303 | 20=>20 | 213=>304 | 232=>350 | 233=>351 | 80=>143 | n=>n,fun | 15=>6 | 16=>7 | 17=>2 | 18=>4 | 19=>5 | n=>n⟩
theorem Tryz.zg:Go.Proofs.LaysC.n174 Tryz.prog Tryz.QW:={
 mixed:=by kernel_rfl
 f129:=Tryz.func215.trans (congrArg some (by kernel_rfl))
 f171:=Tryz.func276.trans (congrArg some (by kernel_rfl))
 f174:=Tryz.func230.trans (congrArg some (by kernel_rfl))
 f205:=Tryz.func275.trans (congrArg some (by kernel_rfl))
 f243:=Tryz.func277.trans (congrArg some (by kernel_rfl))
 f245:=Tryz.func253.trans (congrArg some (by kernel_rfl))
 f246:=Tryz.func151.trans (congrArg some (by kernel_rfl))
 f247:=Tryz.func252.trans (congrArg some (by kernel_rfl))
 f279:=Tryz.func266.trans (congrArg some (by kernel_rfl))
 f280:=Tryz.func267.trans (congrArg some (by kernel_rfl))
 f281:=Tryz.func268.trans (congrArg some (by kernel_rfl))
 f282:=Tryz.func269.trans (congrArg some (by kernel_rfl))
 f283:=Tryz.func190.trans (congrArg some (by kernel_rfl))
 f284:=Tryz.func191.trans (congrArg some (by kernel_rfl))
 f285:=Tryz.func192.trans (congrArg some (by kernel_rfl))
 f286:=Tryz.func193.trans (congrArg some (by kernel_rfl))
 f287:=Tryz.func265.trans (congrArg some (by kernel_rfl))
 f316:=Tryz.func274.trans (congrArg some (by kernel_rfl))
 f317:=Tryz.func214.trans (congrArg some (by kernel_rfl))
 f318:=Tryz.func216.trans (congrArg some (by kernel_rfl))
 f319:=Tryz.func217.trans (congrArg some (by kernel_rfl))
 f320:=Tryz.func218.trans (congrArg some (by kernel_rfl))
 f321:=Tryz.func272.trans (congrArg some (by kernel_rfl))
 f322:=Tryz.func273.trans (congrArg some (by kernel_rfl))
 f337:=Tryz.func241.trans (congrArg some (by kernel_rfl))
 f338:=Tryz.func242.trans (congrArg some (by kernel_rfl))
 t0:=Tryz.underlying0
 a0:=Tryz.isAgg0
 z0:=Tryz.sizeOf0
 v0:=Tryz.zeroValue0
 t2:=Tryz.underlying2
 a2:=Tryz.isAgg2
 z2:=Tryz.sizeOf2
 v2:=Tryz.zeroValue2
 t3:=Tryz.underlying3
 a3:=Tryz.isAgg3
 z3:=Tryz.sizeOf3
 v3:=Tryz.zeroValue3
 t4:=Tryz.underlying4
 a4:=Tryz.isAgg4
 z4:=Tryz.sizeOf4
 v4:=Tryz.zeroValue4
 t5:=Tryz.underlying5
 a5:=Tryz.isAgg5
 z5:=Tryz.sizeOf5
 v5:=Tryz.zeroValue5
 t9:=Tryz.underlying9
 a9:=Tryz.isAgg9
 z9:=Tryz.sizeOf9
 v9:=Tryz.zeroValue9
 t20:=Tryz.underlying20
 a20:=Tryz.isAgg20
 z20:=Tryz.sizeOf20
 v20:=Tryz.zeroValue20
 t21:=Tryz.underlying21
 a21:=Tryz.isAgg21
 z21:=Tryz.sizeOf21
 v21:=Tryz.zeroValue21
 t37:=Tryz.underlying190
 a37:=Tryz.isAgg190
 z37:=Tryz.sizeOf190
 v37:=Tryz.zeroValue190
 t46:=Tryz.underlying298
 a46:=Tryz.isAgg298
 z46:=Tryz.sizeOf298
 v46:=Tryz.zeroValue298
 t51:=Tryz.underlying303
 a51:=Tryz.isAgg303
 z51:=Tryz.sizeOf303
 v51:=Tryz.zeroValue303
 t53:=Tryz.underlying279
 a53:=Tryz.isAgg279
 z53:=Tryz.sizeOf279
 v53:=Tryz.zeroValue279
 t75:=Tryz.underlying177
 a75:=Tryz.isAgg177
 z75:=Tryz.sizeOf177
 v75:=Tryz.zeroValue177
 t85:=Tryz.underlying310
 a85:=Tryz.isAgg310
 z85:=Tryz.sizeOf310
 v85:=Tryz.zeroValue310
 t127:=Tryz.underlying284
 a127:=Tryz.isAgg284
 z127:=Tryz.sizeOf284
 v127:=Tryz.zeroValue284
 t143:=Tryz.underlying376
 a143:=Tryz.isAgg376
 z143:=Tryz.sizeOf376
 v143:=Tryz.zeroValue376
 t145:=Tryz.underlying378
 a145:=Tryz.isAgg378
 z145:=Tryz.sizeOf378
 v145:=Tryz.zeroValue378
 t167:=Tryz.underlying358
 a167:=Tryz.isAgg358
 z167:=Tryz.sizeOf358
 v167:=Tryz.zeroValue358
 t168:=Tryz.underlying361
 a168:=Tryz.isAgg361
 z168:=Tryz.sizeOf361
 v168:=Tryz.zeroValue361
 t171:=Tryz.underlying278
 a171:=Tryz.isAgg278
 z171:=Tryz.sizeOf278
 v171:=Tryz.zeroValue278
 t173:=Tryz.underlying282
 a173:=Tryz.isAgg282
 z173:=Tryz.sizeOf282
 v173:=Tryz.zeroValue282
 t175:=Tryz.underlying359
 a175:=Tryz.isAgg359
 z175:=Tryz.sizeOf359
 v175:=Tryz.zeroValue359
 t210:=Tryz.underlying370
 a210:=Tryz.isAgg370
 z210:=Tryz.sizeOf370
 v210:=Tryz.zeroValue370
 t212:=Tryz.underlying302
 a212:=Tryz.isAgg302
 z212:=Tryz.sizeOf302
 v212:=Tryz.zeroValue302
 t213:=Tryz.underlying304
 a213:=Tryz.isAgg304
 z213:=Tryz.sizeOf304
 t232:=Tryz.underlying350
 a232:=Tryz.isAgg350
 z232:=Tryz.sizeOf350
 v232:=Tryz.zeroValue350
 t233:=Tryz.underlying351
 a233:=Tryz.isAgg351
 z233:=Tryz.sizeOf351
 v233:=Tryz.zeroValue351
 g15:=by kernel_rfl
 g16:=by kernel_rfl
 g17:=by kernel_rfl
 g18:=by kernel_rfl
 g19:=by kernel_rfl
 t80:=Tryz.underlying143
 a80:=Tryz.isAgg143
 z80:=Tryz.sizeOf143
 v80:=Tryz.zeroValue143
 i0:=by kernel_rfl
 i2:=by kernel_rfl
 i3:=by kernel_rfl
 i4:=by kernel_rfl
 i5:=by kernel_rfl
 i9:=by kernel_rfl
 i20:=by kernel_rfl
 i21:=by kernel_rfl
 i37:=by kernel_rfl
 i46:=by kernel_rfl
 i51:=by kernel_rfl
 i53:=by kernel_rfl
 i75:=by kernel_rfl
 i80:=by kernel_rfl
 i85:=by kernel_rfl
 i127:=by kernel_rfl
 i143:=by kernel_rfl
 i145:=by kernel_rfl
 i167:=by kernel_rfl
 i168:=by kernel_rfl
 i171:=by kernel_rfl
 i173:=by kernel_rfl
 i175:=by kernel_rfl
 i210:=by kernel_rfl
 i212:=by kernel_rfl
 i232:=by kernel_rfl
 i233:=by kernel_rfl
 m15:=by kernel_rfl
 m16:=by kernel_rfl
 m17:=by kernel_rfl
 m18:=by kernel_rfl
 m19:=by kernel_rfl
 c0:=by kernel_rfl
 c2:=by kernel_rfl
 c3:=by kernel_rfl
 c4:=by kernel_rfl
 c5:=by kernel_rfl
 c9:=by kernel_rfl
 c20:=by kernel_rfl
 c21:=by kernel_rfl
 c37:=by kernel_rfl
 c46:=by kernel_rfl
 c51:=by kernel_rfl
 c53:=by kernel_rfl
 c75:=by kernel_rfl
 c80:=by kernel_rfl
 c85:=by kernel_rfl
 c127:=by kernel_rfl
 c143:=by kernel_rfl
 c145:=by kernel_rfl
 c167:=by kernel_rfl
 c168:=by kernel_rfl
 c171:=by kernel_rfl
 c173:=by kernel_rfl
 c175:=by kernel_rfl
 c210:=by kernel_rfl
 c212:=by kernel_rfl
 c213:=by kernel_rfl
 c232:=by kernel_rfl
 c233:=by kernel_rfl }
open Go.RowKit in
theorem Tryz.strconv_ParseInt_10_at64_ok(s:ByteArray)(hmax:s.size<=9223372036854775806)(v:Int)(h:Lib.parseIntB 64 s.data.toList=.ok v)(w:World) :
  Calls Tryz.prog 230 #[.string s,.int .i64 10,.int .i64 64] w fun e w'=>e=.returned (.tuple #[.int .i64 v,.nilIface])/\(w'=w\/∃t,w'=Lib.bytesWorld w 5 t):=Any.strconv_ParseInt_10_at64_ok Tryz.zg s hmax v h w
open Go.RowKit in
theorem Tryz.strconv_ParseInt_10_at64_syntax(s:ByteArray)(hlim:s.size<=281474976710656)(h:(¬∃v,Lib.parseIntB 64 s.data.toList=.ok v)/\Lib.parseIntB 64 s.data.toList≠.range)(ev:Value)(w:World)(hv:w.cell? ⟨6,0,none⟩=some ev)(hev:ev=.nilIface\/∃te pe,ev=.iface te pe) :
  Calls Tryz.prog 230 #[.string s,.int .i64 10,.int .i64 64] w fun e w'=>∃N,e=.returned (.tuple #[.int .i64 (0),.iface 361 (.pointer (some ⟨N,0,none⟩))])/\w.heap.size<=N/\w'.heap[N]?=some (.cells #[.string ⟨#[80,97,114,115,101,73,110,116]⟩,.string s,ev] 370 (0,0))/\Below w.heap.size w w':=Any.strconv_ParseInt_10_at64_syntax Tryz.zg s hlim (by generalize Lib.parseIntB 64 s.data.toList=r at h|-;cases r<;>first | rfl | exact absurd ⟨_,rfl⟩ h.1 | exact absurd rfl h.2) ev w hv hev
open Go.RowKit in
theorem Tryz.strconv_ParseInt_10_at64_range(s:ByteArray)(hlim:s.size<=281474976710656)(h:Lib.parseIntB 64 s.data.toList=.range)(ev:Value)(w:World)(hv:w.cell? ⟨7,0,none⟩=some ev)(hev:ev=.nilIface\/∃te pe,ev=.iface te pe) :
  Calls Tryz.prog 230 #[.string s,.int .i64 10,.int .i64 64] w fun e w'=>∃N,e=.returned (.tuple #[.int .i64 (Lib.intSat 64 s.data.toList),.iface 361 (.pointer (some ⟨N,0,none⟩))])/\w.heap.size<=N/\w'.heap[N]?=some (.cells #[.string ⟨#[80,97,114,115,101,73,110,116]⟩,.string s,ev] 370 (0,0))/\Below w.heap.size w w':=Any.strconv_ParseInt_10_at64_range Tryz.zg s hlim h ev w hv hev
end Go.Proofs
namespace Go.D3
open Go Go.RowKit
theorem JN{P:Program}{f:FuncId}{xs:List D}{res:D}(h:∀(w:World)(A:Nat->Prop)(vs:Array Value),fb w A->(∀b,A b->b<w.heap.size)->vs.size=xs.length->(∀(j:Nat)(d:D),xs[j]?=some d->Rd w A (vs.getD j undef) d) ->
  Calls P f vs w fun e w'=>∃(v:Value)(F:Nat->Prop),e=.returned v/\aj w' (fun b=>A b\/(w.heap.size<=b/\b<w'.heap.size/\¬F b)) v res F/\(∀b,F b->w.heap.size<=b/\b<w'.heap.size)/\Below w.heap.size w w'):aw P f (xs.map .v) res:=by
 intro w A vs Fs hg hA hvs hpre _ _;refine(h w A vs hg hA (by simpa using hvs) fun j d hd=>?_).mono ?_
 ·exact(hpre j (.v d) (by simp[hd])).1
 ·rintro e w' ⟨v,F,rfl,hown,hF,hb⟩
  refine⟨v,F,fun _ _=>False,rfl,hb.size,hown.mono (fun b h=>h.imp id fun h=>⟨h.1,h.2.1,h.2.2,fun _ h=>h⟩) (fun _ _=>rfl) (fun _ _=>rfl) fun _ h=>h,fun j a ha=>?_,fun b h=>⟨(hF b h).2,.inl (hF b h).1,fun _ h=>h⟩,fun _ _ h=>h.elim,fun _ _ _ _ h=>h.elim,fun b h _=>hb.block b h,hb.os,hb.tape,rq hb.output⟩;rw[List.getElem?_map,Option.map_eq_some_iff] at ha;obtain⟨d,_,rfl⟩:=ha;exact fun _ h=>h
theorem mP{P:Program}{f:FuncId}{xs:List D}{res:D}(h:∀(w:World)(A:Nat->Prop)(vs:Array Value),fb w A->(∀b,A b->b<w.heap.size)->vs.size=xs.length->(∀(j:Nat)(d:D),xs[j]?=some d->Rd w A (vs.getD j undef) d) ->
  Calls P f vs w fun e w'=>∃v:Value,e=.returned v/\aj w' (fun _=>False) v res (fun _=>False)/\Below w.heap.size w w'):aw P f (xs.map .v) res :=
 JN fun w A vs hg hA hvs hpre=>(h w A vs hg hA hvs hpre).mono fun _ _ ⟨v,he,hown,hb⟩=>⟨v,fun _=>False,he,hown.mono (fun _ h=>h.elim) (fun _ _=>rfl) (fun _ _=>rfl) fun _ h=>h,fun _ h=>h.elim,hb⟩
theorem Oi(w:World)(n:Nat):Below w.heap.size w (w.drewN n):=⟨rfl,rfl,rfl,Nat.le_refl _,fun _ _=>rfl⟩
theorem NM{vs:Array Value}(h:vs.size=1):vs=#[vs.getD 0 undef]:=by
 match vs,h with
 | ⟨[a]⟩,_=>rfl
theorem lS{vs:Array Value}(h:vs.size=2):vs=#[vs.getD 0 undef,vs.getD 1 undef]:=by
 match vs,h with
 | ⟨[a,b]⟩,_=>rfl
theorem NN{vs:Array Value}(h:vs.size=3):vs=#[vs.getD 0 undef,vs.getD 1 undef,vs.getD 2 undef]:=by
 match vs,h with
 | ⟨[a,b,c]⟩,_=>rfl
theorem lK{w:World}{A:Nat->Prop}{v:Value}{s:List UInt8}(h:Rd w A v (.str s)):v=.string ⟨s.toArray⟩/\s.length<=maxLen:=by cases h;exact⟨rfl,‹_›⟩
theorem wz{w:World}{A:Nat->Prop}{v:Value}{k:IntKind}{n:Int}(h:Rd w A v (.int k n)):v=.int k n/\k.has n:=by cases h;exact⟨rfl,‹_›⟩
theorem tE{s sep:List UInt8}(hs:s.length<4294967281):aw Go.Proofs.Tryz.prog 164 [.v (.str s),.v (.str sep)] (.al [.str (Lib.cut s sep).1,.str (Lib.cut s sep).2.1,.bool (Lib.cut s sep).2.2]):=by
 refine mP (xs:=[.str s,.str sep]) fun w A vs hg hA hvs hpre=>?_
 rw[lS hvs];obtain⟨e1,l1⟩:=lK (hpre 0 _ rfl);obtain⟨e2,_⟩:=lK (hpre 1 _ rfl);rw[e1,e2];obtain⟨m,hm,_⟩:=hg.maxLen;refine(Go.Proofs.Tryz.strings_Cut ⟨s.toArray⟩ ⟨sep.toArray⟩ m w (by show s.toArray.size<_;simpa using hs) hm).mono ?_;rintro e w' ⟨rfl,hw⟩
 have hb:Below w.heap.size w w':=by
  first | (obtain⟨n,rfl⟩:=hw;exact Oi w n) | (subst hw;exact Below.refl _ _)
 have hc:(Lib.cut s sep).1.length<=s.length/\(Lib.cut s sep).2.1.length<=s.length:=by
  unfold Lib.cut;split
  ·exact⟨by simp only[List.length_take];omega,by simp⟩
  ·exact⟨Nat.le_refl _,by simp⟩
 refine⟨_,rfl,.al (fun _ _=>False) rfl (fun j x hj=>?_) (fun _ _ h=>h) (fun _ _ _ _ h=>h.elim),hb⟩
 match j,hj with
 | 0,hj=>simp at hj;subst hj;exact .str (Nat.le_trans hc.1 l1)
 | 1,hj=>simp at hj;subst hj;exact .str (Nat.le_trans hc.2 l1)
 | 2,hj=>simp at hj;subst hj;exact .bool
 | j+3,hj=>simp at hj
theorem Js{s p:List UInt8}:aw Go.Proofs.Tryz.prog 165 [.v (.str s),.v (.str p)] (.al [.str (Lib.trimPrefix s p),.bool (Lib.hasPrefix s p)]):=by
 refine mP (xs:=[.str s,.str p]) fun w A vs hg hA hvs hpre=>?_
 rw[lS hvs];obtain⟨e1,l1⟩:=lK (hpre 0 _ rfl);obtain⟨e2,_⟩:=lK (hpre 1 _ rfl);rw[e1,e2];refine(Go.Proofs.Tryz.strings_CutPrefix ⟨s.toArray⟩ ⟨p.toArray⟩ w).mono ?_;rintro e w' ⟨rfl,rfl⟩;have hc:(Lib.trimPrefix s p).length<=s.length:=by unfold Lib.trimPrefix;split<;>simp
 refine⟨_,rfl,.al (fun _ _=>False) rfl (fun j x hj=>?_) (fun _ _ h=>h) (fun _ _ _ _ h=>h.elim),Below.refl _ _⟩
 match j,hj with
 | 0,hj=>simp at hj;subst hj;exact .str (Nat.le_trans hc l1)
 | 1,hj=>simp at hj;subst hj;exact .bool
 | j+2,hj=>simp at hj
theorem aaE{w:World}{A:Nat->Prop}(h:fb w A):Lib.TabIs Go.Proofs.Tryz.prog w Go.Proofs.Tryz.rv .u64 Lib.pow10Tab:=by
 obtain⟨t,fz,h1,_⟩:=h.pow;unfold Lib.TabIs World.var?;rw[show Go.Proofs.Tryz.prog.globalNamed Go.Proofs.Tryz.rv=some 2 by kernel_rfl];simp[h1]
theorem rG{n:Int}:aw Go.Proofs.Tryz.prog 117 [.v (.int .i64 n),.v (.int .i64 10)] (.str (Lib.itoa n)):=by
 refine mP (xs:=[.int .i64 n,.int .i64 10]) fun w A vs hg hA hvs hpre=>?_
 rw[lS hvs];obtain⟨e1,l1⟩:=wz (hpre 0 _ rfl);obtain⟨e2,_⟩:=wz (hpre 1 _ rfl);rw[e1,e2]
 have h1 : -9223372036854775808<=n/\n<=9223372036854775807:=by
  have:=l1;simp[IntKind.has,IntKind.min,IntKind.max,IntKind.signed,IntKind.bits] at this;exact this
 refine(Go.Proofs.Tryz.strconv_FormatInt_10 n h1.1 h1.2 w (aaE hg)).mono ?_;rintro e w' ⟨rfl,k,os,rfl⟩;refine⟨_,rfl,.str ?_,⟨rfl,rfl,rfl,by simp[Go.Sort.grow],fun j hj=>?_⟩⟩
 ·have:=Lib.itoa_length_le n h1.1 h1.2
  simp only[maxLen];omega
 ·show(w.heap++os)[j]?=_
  rw[Array.getElem?_append_left hj]
def Ai(s:List UInt8):D :=
 match Lib.parseIntB 64 s with
 | .ok v=>.al [.int .i64 v,.aY]
 | .range=>.al [.int .i64 (Lib.intSat 64 s),.bf 361 .dead]
 | _=>.al [.int .i64 0,.bf 361 .dead]
theorem Yw{s:List UInt8}(hs:s.length<=281474976710656):aw Go.Proofs.Tryz.prog 230 [.v (.str s),.v (.int .i64 10),.v (.int .i64 64)] (Ai s):=by
 refine mP (xs:=[.str s,.int .i64 10,.int .i64 64]) fun w A vs hg hA hvs hpre=>?_
 rw[NN hvs];obtain⟨e1,l1⟩:=lK (hpre 0 _ rfl);obtain⟨e2,_⟩:=wz (hpre 1 _ rfl);obtain⟨e3,_⟩:=wz (hpre 2 _ rfl);rw[e1,e2,e3]
 have two:∀{w':World}{n:Int}{y:D}{v:Value},IntKind.i64.has n->aj w' (fun _=>False) v y (fun _=>False)->aj w' (fun _=>False) (.tuple #[.int .i64 n,v]) (.al [.int .i64 n,y]) (fun _=>False):=by
  intro w' n y v h1 h2;refine .al (fun _ _=>False) rfl (fun j x hj=>?_) (fun _ _ h=>h) (fun _ _ _ _ h=>h.elim)
  match j,hj with
  | 0,hj=>simp at hj;subst hj;exact .int h1
  | 1,hj=>simp at hj;subst hj;exact h2
  | j+2,hj=>simp at hj
 unfold Ai;cases hp:Lib.parseIntB 64 s with
 | ok v =>
  have hv:=Lib.parseIntB_bounds hp;refine(Go.Proofs.Tryz.strconv_ParseInt_10_at64_ok ⟨s.toArray⟩ (by show s.toArray.size<=_;simp;omega) v hp w).mono ?_;rintro e w' ⟨rfl,hw⟩;refine⟨_,rfl,two ?_ .aY,?_⟩
  ·simp[IntKind.has,IntKind.min,IntKind.max,IntKind.signed,IntKind.bits];omega
  ·rcases hw with rfl | ⟨t,rfl⟩
   ·exact Below.refl _ _
   ·exact⟨rfl,rfl,rfl,by rw[Lib.bytesWorld_size];omega,fun j hj=>Lib.bytesWorld_at_old w 5 t j hj⟩
 | range =>
  obtain⟨te,pe,hc,_⟩:=hg.fq;refine(Go.Proofs.Tryz.strconv_ParseInt_10_at64_range ⟨s.toArray⟩ (by show s.toArray.size<=_;simpa using hs) hp (.iface te pe) w hc (.inr ⟨_,_,rfl⟩)).mono ?_;rintro e w' ⟨N,rfl,_,_,hb⟩;refine⟨_,rfl,two ?_ (.bf .dead),hb⟩;show IntKind.i64.has (Lib.intSat 64 s);unfold Lib.intSat;split<;>exact⟨by decide,by decide⟩
 | _ =>
  obtain⟨te,pe,hc,_⟩:=hg.syn;refine(Go.Proofs.Tryz.strconv_ParseInt_10_at64_syntax ⟨s.toArray⟩ (by show s.toArray.size<=_;simpa using hs) ⟨(by rintro⟨v,h⟩;have h:=hp.symm.trans h;cases h),(fun h=>by have h:=hp.symm.trans h;cases h)⟩ (.iface te pe) w hc (.inr ⟨_,_,rfl⟩)).mono ?_;rintro e w' ⟨N,rfl,_,_,hb⟩;exact⟨_,rfl,two ⟨by decide,by decide⟩ (.bf .dead),hb⟩
def jj(s sep:List UInt8):List (List UInt8):=(Lib.splitB ⟨sep.toArray⟩ 0 (Lib.countB ⟨s.toArray⟩ ⟨sep.toArray⟩) ⟨s.toArray⟩).map (·.data.toList)
theorem Of(x:ByteArray):(⟨x.data.toList.toArray⟩:ByteArray)=x:=by cases x;simp
theorem Y9{s sep:List UInt8}(hs:s.length<4294967281)(h1 : 1<=sep.length)(hlen:∀x∈jj s sep,x.length<=maxLen)(hn:(jj s sep).length=Lib.countB ⟨s.toArray⟩ ⟨sep.toArray⟩+1)(hm:(jj s sep).length<=maxLen) :
  aw Go.Proofs.Tryz.prog 202 [.v (.str s),.v (.str sep)] (dR (jj s sep)):=by
 refine JN (xs:=[.str s,.str sep]) fun w A vs hg hA hvs hpre=>?_
 rw[lS hvs];obtain⟨e1,l1⟩:=lK (hpre 0 _ rfl);obtain⟨e2,_⟩:=lK (hpre 1 _ rfl);rw[e1,e2];obtain⟨m,hmx,_⟩:=hg.maxLen;refine(Go.Proofs.Tryz.strings_Split ⟨s.toArray⟩ ⟨sep.toArray⟩ m w (by show s.toArray.size<_;simpa using hs) hmx (by show 1<=sep.toArray.size;simpa using h1)).mono ?_;rintro e w' ⟨rfl,rfl⟩;rw[<-hn];have hnew:(w.alloc (.cells ((Lib.splitB ⟨sep.toArray⟩ 0 (Lib.countB ⟨s.toArray⟩ ⟨sep.toArray⟩) ⟨s.toArray⟩).map Value.string).toArray 9)).heap[w.heap.size]?=some (.cells ((Lib.splitB ⟨sep.toArray⟩ 0 (Lib.countB ⟨s.toArray⟩ ⟨sep.toArray⟩) ⟨s.toArray⟩).map Value.string).toArray 9 (0,0)):=heap_alloc_new w _;refine⟨_,(·=w.heap.size),rfl,?_,fun b hb=>by subst hb;simp,?_⟩
 ·have hl:(jj s sep).length=((jj s sep).map D.str).length:=by simp
  unfold dR ae;rw[hl];refine aj.slice (sz:=1) (fun _ _=>False) hnew (by simp[jj]) (Nat.le_refl _) (by simpa using hm) (by decide) rfl (fun x hx=>by obtain⟨y,_,rfl⟩:=List.mem_map.1 hx;rfl) (fun j x hj=>?_) rfl (fun _ _ h=>h.elim) fun _ _ _ _ h=>h.elim
  unfold cellAt at hj;rw[Nat.div_one,Nat.mod_one,List.getElem?_map] at hj;cases hq:(jj s sep)[j]? with
  | none=>rw[hq] at hj;cases hj
  | some y =>
   rw[hq] at hj;simp only[Option.map_some,Option.bind_some,D.cells,List.getElem?_cons_zero,Option.some.injEq] at hj;subst hj;have hmem:=List.mem_of_getElem? hq;unfold jj at hq;rw[List.getElem?_map,Option.map_eq_some_iff] at hq;obtain⟨z,hz,rfl⟩:=hq
   have hv:((Lib.splitB ⟨sep.toArray⟩ 0 (Lib.countB ⟨s.toArray⟩ ⟨sep.toArray⟩) ⟨s.toArray⟩).map Value.string).toArray.getD (0+j) undef=.string ⟨z.data.toList.toArray⟩:=by
    rw[Nat.zero_add,Array.getD_eq_getD_getElem?,List.getElem?_toArray,List.getElem?_map,hz,Of];rfl
   rw[hv];exact .str (hlen _ hmem)
 ·exact⟨rfl,rfl,rfl,by simp,fun j hj=>heap_alloc_old w _ hj⟩
theorem JH{l:List (List UInt8)}{sep:List UInt8}(hn:l.length<=140737488355328)(hlen:(Lib.join l sep).length<=140737488355328) :
  aw Go.Proofs.Tryz.prog 119 [.v (dR l),.v (.str sep)] (.str (Lib.join l sep)):=by
 refine mP (xs:=[dR l,.str sep]) fun w A vs hg hA hvs hpre=>?_
 rw[lS hvs];obtain⟨e2,_⟩:=lK (hpre 1 _ rfl);rw[e2];have h0:Rd w A (vs.getD 0 undef) (dR l):=hpre 0 _ rfl
 have none:∀{p:Option Addr}{c:Nat},l=[]->Calls Go.Proofs.Tryz.prog 119 #[.slice p 0 c,.string ⟨sep.toArray⟩] w fun e w'=>∃v:Value,e=.returned v/\aj w' (fun _=>False) v (.str (Lib.join l sep)) (fun _=>False)/\Below w.heap.size w w':=by
  rintro p c rfl;refine(Go.Proofs.Tryz.strings_Join_none p c ⟨sep.toArray⟩ w).mono ?_;rintro e w' ⟨rfl,rfl⟩;exact⟨_,rfl,aj.str (s:=[]) (by simp),Below.refl _ _⟩
 unfold dR ae at h0;generalize hL:l.map D.str=L at h0;generalize vs.getD 0 undef=v0 at h0;cases h0 with
 | nil=>exact none (by simpa using hL)
 | empty hm=>exact none (by simpa using hL)
 | @slice z L b off cap sz hAb hc hm hz hzz hsz us hcells hr =>
  have hsz1:sz=1:=by simpa[D.cells] using hzz.symm
  subst hsz1
  have key:∀(j:Nat) x,(l.map fun x=>(⟨x.toArray⟩:ByteArray))[j]?=some x->w.cell? ⟨b,off+j,Option.none⟩=some (.string x):=by
   intro j x hj;rw[List.getElem?_map,Option.map_eq_some_iff] at hj;obtain⟨y,hy,rfl⟩:=hj
   have hcj:cellAt L 1 j=some (.str y):=by
    unfold cellAt;rw[Nat.div_one,Nat.mod_one,<-hL,List.getElem?_map,hy];rfl
   rw[hcells j _ hcj];exact congrArg some (lK (hr j _ hcj)).1
  have hmap:(l.map fun x=>(⟨x.toArray⟩:ByteArray)).map (·.data.toList)=l:=by rw[List.map_map];simp[Function.comp_def]
  have:=Go.Proofs.Tryz.strings_Join b off cap (l.map fun x=>⟨x.toArray⟩) ⟨sep.toArray⟩ w key (hA b hAb) (by simpa using hn) (by rw[List.length_map];rw[<-hL,List.length_map] at hc;exact hc) (by rw[hmap];simpa using hlen);rw[hmap,List.length_map] at this;rw[show L.length=l.length by rw[<-hL,List.length_map]];refine this.mono ?_;rintro e w' ⟨rfl,hb⟩;refine⟨_,rfl,aj.str ?_,hb⟩;simp only[maxLen];omega
end Go.D3
