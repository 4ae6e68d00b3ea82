/- CONTRACTS: the journals: types,small functions,copies and comparisons. -/
import Derived.Shelf.Strings.OnBuilder
import Derived.Shelf.Small.Wraps
import Derived.Shelf.LaysM
import Derived.Shelf.Strconv.Itoa4
import Derived.Shelf.LaysC
import Derived.Shelf.Strconv.ParseIntPublic10
import Derived.Shelf.Strings.Cut
import Derived.Shelf.GgClosure.StringsRunes
import Derived.Shelf.Strings.Split
import Derived.Test.YtgieggnpnepkfaaGreatDoorProg
import Derived.Test.YtgieggnpnepkfaaGreatDoorRows
import Derived.Test.YtgieggnpnepkfaaGreatDoorKitG
import Derived.Lib.LaidTab
import Derived.Lib.ParseIntBTie
import Derived.Lib.CutLaws
import Derived.Lib.CountLaws
import Derived.Lib.ItoaLen
import Derived.Test.YtgieggnpnepkfaaGreatDoorChecked
import Derived.WalkKit
import Derived.LaidEql
import Derived.Stop.Asserts
import Derived.RowKitTokens
namespace Go.Proofs
open Go.Shelf
abbrev Tryz.powN:String:=(YtgieggnpnepkfaaGreatDoor.Rows.fnExactReadJournalRow.laid.getD 2 ("",.nil)).1
def Tryz.lays145_ren:Go.Shelf.Ren:=⟨fun | 145=>81 | 220=>99 | 219=>114 | 217=>130 | 225=>131 | 224=>132 | 267=>133 | 266=>142 | 314=>143 | n=>n,fun | 9=>9 | 4=>4 | 59=>126 | 3=>3 | 5=>5 | 46=>164 | 146=>208 | 51=>161 | n=>n,fun | 1=>2 | n=>n⟩
theorem Tryz.lays145:Go.Proofs.Lays.n145 Tryz.prog Tryz.lays145_ren:={
 mixed:=by kernel_rfl
 f145:=Tryz.func81.trans (congrArg some (by kernel_rfl))
 f217:=Tryz.func130.trans (congrArg some (by kernel_rfl))
 f219:=Tryz.func114.trans (congrArg some (by kernel_rfl))
 f220:=Tryz.func99.trans (congrArg some (by kernel_rfl))
 f224:=Tryz.func132.trans (congrArg some (by kernel_rfl))
 f225:=Tryz.func131.trans (congrArg some (by kernel_rfl))
 f266:=Tryz.func142.trans (congrArg some (by kernel_rfl))
 f267:=Tryz.func133.trans (congrArg some (by kernel_rfl))
 f314:=Tryz.func143.trans (congrArg some (by kernel_rfl))
 t3:=Tryz.underlying3
 a3:=Tryz.isAgg3
 z3:=Tryz.sizeOf3
 v3:=Tryz.zeroValue3
 t4:=Tryz.underlying4
 a4:=Tryz.isAgg4
 z4:=Tryz.sizeOf4
 v4:=Tryz.zeroValue4
 t5:=Tryz.underlying5
 a5:=Tryz.isAgg5
 z5:=Tryz.sizeOf5
 v5:=Tryz.zeroValue5
 t9:=Tryz.underlying9
 a9:=Tryz.isAgg9
 z9:=Tryz.sizeOf9
 v9:=Tryz.zeroValue9
 t46:=Tryz.underlying164
 a46:=Tryz.isAgg164
 z46:=Tryz.sizeOf164
 v46:=Tryz.zeroValue164
 t51:=Tryz.underlying161
 a51:=Tryz.isAgg161
 z51:=Tryz.sizeOf161
 v51:=Tryz.zeroValue161
 t59:=Tryz.underlying126
 a59:=Tryz.isAgg126
 z59:=Tryz.sizeOf126
 v59:=Tryz.zeroValue126
 t146:=Tryz.underlying208
 a146:=Tryz.isAgg208
 z146:=Tryz.sizeOf208
 v146:=Tryz.zeroValue208
 g1:=by kernel_rfl }
open Go.RowKit Go.Lib in
theorem Tryz.strings_Cut (s sep:ByteArray) (m:Int) (w:World) (hs:s.size<4294967281) (hm:w.cell? ⟨2,0,none⟩=some (.int .i64 m)) :
  Calls Tryz.prog 81 #[.string s,.string sep] w fun e w'=>e=.returned (.tuple #[.string ⟨(Lib.cut s.data.toList sep.data.toList).1.toArray⟩,.string ⟨(Lib.cut s.data.toList sep.data.toList).2.1.toArray⟩,.bool (Lib.cut s.data.toList sep.data.toList).2.2])∧∃ n,w'=w.drewN n:=Any.strings_Cut Tryz.lays145 s sep m w hs hm
def Tryz.lays103_ren:Go.Shelf.Ren:=⟨fun | 103=>82 | 210=>100 | 206=>115 | n=>n,fun | 9=>9 | 4=>4 | 24=>128 | 3=>3 | n=>n,fun | n=>n⟩
theorem Tryz.lays103:Go.Proofs.Lays.n103 Tryz.prog Tryz.lays103_ren:={
 mixed:=by kernel_rfl
 f103:=Tryz.func82.trans (congrArg some (by kernel_rfl))
 f206:=Tryz.func115.trans (congrArg some (by kernel_rfl))
 f210:=Tryz.func100.trans (congrArg some (by kernel_rfl))
 t3:=Tryz.underlying3
 a3:=Tryz.isAgg3
 z3:=Tryz.sizeOf3
 v3:=Tryz.zeroValue3
 t4:=Tryz.underlying4
 a4:=Tryz.isAgg4
 z4:=Tryz.sizeOf4
 v4:=Tryz.zeroValue4
 t9:=Tryz.underlying9
 a9:=Tryz.isAgg9
 z9:=Tryz.sizeOf9
 v9:=Tryz.zeroValue9
 t24:=Tryz.underlying128
 a24:=Tryz.isAgg128
 z24:=Tryz.sizeOf128
 v24:=Tryz.zeroValue128 }
open Go.RowKit in
theorem Tryz.strings_CutPrefix (s p:ByteArray) (w:World) :
  Calls Tryz.prog 82 #[.string s,.string p] w fun e w'=>e=.returned (.tuple #[.string ⟨(Lib.trimPrefix s.data.toList p.data.toList).toArray⟩,.bool (Lib.hasPrefix s.data.toList p.data.toList)])∧w'=w:=Any.strings_CutPrefix Tryz.lays103 s p w
def Tryz.laysGw15_ren:Go.Shelf.Ren:=⟨fun | 15=>134 | 20=>144 | n=>n,fun | 9=>9 | 23=>188 | 3=>3 | 4=>4 | 0=>0 | 21=>21 | n=>n,fun | n=>n⟩
theorem Tryz.laysGw15:Go.Proofs.LaysGw.n15 Tryz.prog Tryz.laysGw15_ren:={
 mixed:=by kernel_rfl
 f15:=Tryz.func134.trans (congrArg some (by kernel_rfl))
 f20:=Tryz.func144.trans (congrArg some (by kernel_rfl))
 t0:=Tryz.underlying0
 a0:=Tryz.isAgg0
 z0:=Tryz.sizeOf0
 v0:=Tryz.zeroValue0
 i0:=by kernel_rfl
 t3:=Tryz.underlying3
 a3:=Tryz.isAgg3
 z3:=Tryz.sizeOf3
 v3:=Tryz.zeroValue3
 i3:=by kernel_rfl
 t4:=Tryz.underlying4
 a4:=Tryz.isAgg4
 z4:=Tryz.sizeOf4
 v4:=Tryz.zeroValue4
 i4:=by kernel_rfl
 t9:=Tryz.underlying9
 a9:=Tryz.isAgg9
 z9:=Tryz.sizeOf9
 v9:=Tryz.zeroValue9
 i9:=by kernel_rfl
 t21:=Tryz.underlying21
 a21:=Tryz.isAgg21
 z21:=Tryz.sizeOf21
 v21:=Tryz.zeroValue21
 i21:=by kernel_rfl
 t23:=Tryz.underlying188
 a23:=Tryz.isAgg188
 z23:=Tryz.sizeOf188
 v23:=Tryz.zeroValue188
 i23:=by kernel_rfl }
open Go.RowKit Go.Lib in
theorem Tryz.strings_IndexFunc_runes (g:Nat) (lb:Array Value) (eg:∀ args w,(callFunc g args).run Tryz.prog w=.ok (.enter g args) w) (p:Nat→Bool) (s:ByteArray) (w:World) (hp:PredAtRunes Tryz.prog g lb p w) :
  Calls Tryz.prog 134 #[.string s,.func (.func g) #[] lb] w fun e w'=>e=.returned (.int .i64 (Lib.idxFunc p true s))∧Below w.heap.size w w':=Any.strings_IndexFunc_runes Tryz.laysGw15 g lb eg p s w hp
def Tryz.lays156_ren:Go.Shelf.Ren:=⟨fun | 156=>66 | 165=>85 | 166=>86 | 169=>87 | 240=>106 | 241=>107 | 276=>126 | 277=>127 | n=>n,fun | 31=>104 | 9=>9 | 3=>3 | 4=>4 | 0=>0 | 20=>20 | 72=>132 | 76=>136 | 70=>130 | 37=>103 | 75=>135 | 127=>157 | 164=>182 | 5=>5 | 80=>95 | n=>n,fun | n=>n⟩
theorem Tryz.lays156:Go.Proofs.Lays.n156 Tryz.prog Tryz.lays156_ren:={
 mixed:=by kernel_rfl
 f156:=Tryz.func66.trans (congrArg some (by kernel_rfl))
 f165:=Tryz.func85.trans (congrArg some (by kernel_rfl))
 f166:=Tryz.func86.trans (congrArg some (by kernel_rfl))
 f169:=Tryz.func87.trans (congrArg some (by kernel_rfl))
 f240:=Tryz.func106.trans (congrArg some (by kernel_rfl))
 f241:=Tryz.func107.trans (congrArg some (by kernel_rfl))
 f276:=Tryz.func126.trans (congrArg some (by kernel_rfl))
 f277:=Tryz.func127.trans (congrArg some (by kernel_rfl))
 t0:=Tryz.underlying0
 a0:=Tryz.isAgg0
 z0:=Tryz.sizeOf0
 v0:=Tryz.zeroValue0
 t3:=Tryz.underlying3
 a3:=Tryz.isAgg3
 z3:=Tryz.sizeOf3
 v3:=Tryz.zeroValue3
 t4:=Tryz.underlying4
 a4:=Tryz.isAgg4
 z4:=Tryz.sizeOf4
 v4:=Tryz.zeroValue4
 t9:=Tryz.underlying9
 a9:=Tryz.isAgg9
 z9:=Tryz.sizeOf9
 v9:=Tryz.zeroValue9
 t20:=Tryz.underlying20
 a20:=Tryz.isAgg20
 z20:=Tryz.sizeOf20
 v20:=Tryz.zeroValue20
 t31:=Tryz.underlying104
 a31:=Tryz.isAgg104
 z31:=Tryz.sizeOf104
 v31:=Tryz.zeroValue104
 t37:=Tryz.underlying103
 a37:=Tryz.isAgg103
 z37:=Tryz.sizeOf103
 v37:=Tryz.zeroValue103
 t70:=Tryz.underlying130
 a70:=Tryz.isAgg130
 z70:=Tryz.sizeOf130
 v70:=Tryz.zeroValue130
 t72:=Tryz.underlying132
 a72:=Tryz.isAgg132
 z72:=Tryz.sizeOf132
 v72:=Tryz.zeroValue132
 t75:=Tryz.underlying135
 a75:=Tryz.isAgg135
 z75:=Tryz.sizeOf135
 v75:=Tryz.zeroValue135
 t76:=Tryz.underlying136
 a76:=Tryz.isAgg136
 z76:=Tryz.sizeOf136
 v76:=Tryz.zeroValue136
 t127:=Tryz.underlying157
 a127:=Tryz.isAgg157
 z127:=Tryz.sizeOf157
 v127:=Tryz.zeroValue157
 t164:=Tryz.underlying182
 a164:=Tryz.isAgg182
 z164:=Tryz.sizeOf182
 v164:=Tryz.zeroValue182 }
theorem Tryz.Builder_Extra_156:Builder.Extra Tryz.prog Tryz.lays156_ren:={
 sizeBuilder:=by kernel_rfl
 liesBuilder:=by kernel_rfl
 t5:=Tryz.underlying5
 a5:=Tryz.isAgg5
 z5:=Tryz.sizeOf5
 v5:=Tryz.zeroValue5
 infoByte:=by kernel_rfl
 cellsByte:=by kernel_rfl
 sizeByte:=by kernel_rfl
 neB5:=by decide }
open Go.RowKit in
theorem Tryz.strings_Join (bk o c:Nat) (xs:List ByteArray) (sep:ByteArray) (w:World) (hcells:∀ (j:Nat) x,xs[j]?=some x→w.cell? ⟨bk,o+j,none⟩=some (.string x)) (hbk:bk<w.heap.size) (hN:xs.length≤140737488355328) (hcap:xs.length≤c) (hlen:(Lib.join (xs.map (·.data.toList)) sep.data.toList).length≤140737488355328) :
  Calls Tryz.prog 66 #[.slice (some ⟨bk,o,none⟩) xs.length c,.string sep] w fun e w'=>e=.returned (.string ⟨(Lib.join (xs.map (·.data.toList)) sep.data.toList).toArray⟩)∧Below w.heap.size w w':=Any.strings_Join Tryz.lays156 Tryz.Builder_Extra_156 bk o c xs sep w hcells hbk hN hcap hlen
open Go.RowKit in
theorem Tryz.strings_Join_none (a:Option Addr) (c:Nat) (sep:ByteArray) (w:World) :
  Calls Tryz.prog 66 #[.slice a 0 c,.string sep] w fun e w'=>e=.returned (.string ⟨#[]⟩)∧w'=w:=Any.strings_Join_none Tryz.lays156 Tryz.Builder_Extra_156 a c sep w
def Tryz.lays146_ren:Go.Shelf.Ren:=⟨fun | 146=>104 | 221=>124 | 268=>137 | 138=>138 | 143=>139 | 195=>145 | 197=>146 | 218=>147 | 219=>114 | 260=>153 | 217=>130 | 225=>131 | 224=>132 | 267=>133 | 266=>142 | 314=>143 | n=>n,fun | 9=>9 | 31=>104 | 3=>3 | 4=>4 | 0=>0 | 105=>212 | 21=>21 | 5=>5 | 46=>164 | 119=>225 | 139=>228 | 138=>227 | 146=>208 | 51=>161 | n=>n,fun | 1=>2 | 3=>7 | 4=>8 | n=>n⟩
theorem Tryz.lays146:Go.Proofs.Lays.n146 Tryz.prog Tryz.lays146_ren:={
 mixed:=by kernel_rfl
 f138:=Tryz.func138.trans (congrArg some (by kernel_rfl))
 f143:=Tryz.func139.trans (congrArg some (by kernel_rfl))
 f146:=Tryz.func104.trans (congrArg some (by kernel_rfl))
 f195:=Tryz.func145.trans (congrArg some (by kernel_rfl))
 f197:=Tryz.func146.trans (congrArg some (by kernel_rfl))
 f217:=Tryz.func130.trans (congrArg some (by kernel_rfl))
 f218:=Tryz.func147.trans (congrArg some (by kernel_rfl))
 f219:=Tryz.func114.trans (congrArg some (by kernel_rfl))
 f221:=Tryz.func124.trans (congrArg some (by kernel_rfl))
 f224:=Tryz.func132.trans (congrArg some (by kernel_rfl))
 f225:=Tryz.func131.trans (congrArg some (by kernel_rfl))
 f260:=Tryz.func153.trans (congrArg some (by kernel_rfl))
 f266:=Tryz.func142.trans (congrArg some (by kernel_rfl))
 f267:=Tryz.func133.trans (congrArg some (by kernel_rfl))
 f268:=Tryz.func137.trans (congrArg some (by kernel_rfl))
 f314:=Tryz.func143.trans (congrArg some (by kernel_rfl))
 t0:=Tryz.underlying0
 a0:=Tryz.isAgg0
 z0:=Tryz.sizeOf0
 v0:=Tryz.zeroValue0
 t3:=Tryz.underlying3
 a3:=Tryz.isAgg3
 z3:=Tryz.sizeOf3
 v3:=Tryz.zeroValue3
 t4:=Tryz.underlying4
 a4:=Tryz.isAgg4
 z4:=Tryz.sizeOf4
 v4:=Tryz.zeroValue4
 t5:=Tryz.underlying5
 a5:=Tryz.isAgg5
 z5:=Tryz.sizeOf5
 v5:=Tryz.zeroValue5
 t9:=Tryz.underlying9
 a9:=Tryz.isAgg9
 z9:=Tryz.sizeOf9
 v9:=Tryz.zeroValue9
 t21:=Tryz.underlying21
 a21:=Tryz.isAgg21
 z21:=Tryz.sizeOf21
 v21:=Tryz.zeroValue21
 t31:=Tryz.underlying104
 a31:=Tryz.isAgg104
 z31:=Tryz.sizeOf104
 v31:=Tryz.zeroValue104
 t46:=Tryz.underlying164
 a46:=Tryz.isAgg164
 z46:=Tryz.sizeOf164
 v46:=Tryz.zeroValue164
 t51:=Tryz.underlying161
 a51:=Tryz.isAgg161
 z51:=Tryz.sizeOf161
 v51:=Tryz.zeroValue161
 t105:=Tryz.underlying212
 a105:=Tryz.isAgg212
 z105:=Tryz.sizeOf212
 v105:=Tryz.zeroValue212
 t119:=Tryz.underlying225
 a119:=Tryz.isAgg225
 z119:=Tryz.sizeOf225
 t138:=Tryz.underlying227
 a138:=Tryz.isAgg227
 z138:=Tryz.sizeOf227
 v138:=Tryz.zeroValue227
 t139:=Tryz.underlying228
 a139:=Tryz.isAgg228
 z139:=Tryz.sizeOf228
 v139:=Tryz.zeroValue228
 t146:=Tryz.underlying208
 a146:=Tryz.isAgg208
 z146:=Tryz.sizeOf208
 v146:=Tryz.zeroValue208
 g1:=by kernel_rfl
 g3:=by kernel_rfl
 g4:=by kernel_rfl }
open Go.RowKit Go.Lib in
theorem Tryz.strings_Split (s sep:ByteArray) (m:Int) (w:World) (hs:s.size<4294967281) (hm:w.cell? ⟨2,0,none⟩=some (.int .i64 m)) (h1 : 1≤sep.size) :
  Calls Tryz.prog 104 #[.string s,.string sep] w fun e w' =>
   e=.returned (.slice (some ⟨w.heap.size,0,none⟩) (Lib.countB s sep+1) (Lib.countB s sep+1))∧w'=w.alloc (.cells ((Lib.splitB sep 0 (Lib.countB s sep) s).map Value.string).toArray 9):=Any.strings_Split Tryz.lays146 (by kernel_rfl) s sep m w hs hm h1
def Tryz.laysM173_ren:Go.Shelf.Ren:=⟨fun | 173=>51 | 246=>68 | 283=>88 | 284=>89 | 285=>90 | 286=>91 | 129=>109 | 317=>108 | 318=>110 | 319=>111 | 320=>112 | 337=>128 | 338=>129 | n=>n,fun | 2=>2 | 3=>3 | 9=>9 | 4=>4 | 171=>139 | 0=>0 | 53=>140 | 37=>103 | 5=>5 | 173=>143 | 212=>160 | 51=>161 | 20=>20 | 213=>162 | 46=>164 | 232=>206 | 233=>207 | n=>n,fun | 17=>1 | 18=>3 | 19=>4 | n=>n⟩
theorem Tryz.laysM173:Go.Proofs.LaysM.n173 Tryz.prog Tryz.laysM173_ren:={
 mixed:=by kernel_rfl
 f129:=Tryz.func109.trans (congrArg some (by kernel_rfl))
 f173:=Tryz.func51.trans (congrArg some (by kernel_rfl))
 f246:=Tryz.func68.trans (congrArg some (by kernel_rfl))
 f283:=Tryz.func88.trans (congrArg some (by kernel_rfl))
 f284:=Tryz.func89.trans (congrArg some (by kernel_rfl))
 f285:=Tryz.func90.trans (congrArg some (by kernel_rfl))
 f286:=Tryz.func91.trans (congrArg some (by kernel_rfl))
 f317:=Tryz.func108.trans (congrArg some (by kernel_rfl))
 f318:=Tryz.func110.trans (congrArg some (by kernel_rfl))
 f319:=Tryz.func111.trans (congrArg some (by kernel_rfl))
 f320:=Tryz.func112.trans (congrArg some (by kernel_rfl))
 f337:=Tryz.func128.trans (congrArg some (by kernel_rfl))
 f338:=Tryz.func129.trans (congrArg some (by kernel_rfl))
 t0:=Tryz.underlying0
 a0:=Tryz.isAgg0
 z0:=Tryz.sizeOf0
 v0:=Tryz.zeroValue0
 t2:=Tryz.underlying2
 a2:=Tryz.isAgg2
 z2:=Tryz.sizeOf2
 v2:=Tryz.zeroValue2
 t3:=Tryz.underlying3
 a3:=Tryz.isAgg3
 z3:=Tryz.sizeOf3
 v3:=Tryz.zeroValue3
 t4:=Tryz.underlying4
 a4:=Tryz.isAgg4
 z4:=Tryz.sizeOf4
 v4:=Tryz.zeroValue4
 t5:=Tryz.underlying5
 a5:=Tryz.isAgg5
 z5:=Tryz.sizeOf5
 v5:=Tryz.zeroValue5
 t9:=Tryz.underlying9
 a9:=Tryz.isAgg9
 z9:=Tryz.sizeOf9
 v9:=Tryz.zeroValue9
 t20:=Tryz.underlying20
 a20:=Tryz.isAgg20
 z20:=Tryz.sizeOf20
 v20:=Tryz.zeroValue20
 t37:=Tryz.underlying103
 a37:=Tryz.isAgg103
 z37:=Tryz.sizeOf103
 v37:=Tryz.zeroValue103
 t46:=Tryz.underlying164
 a46:=Tryz.isAgg164
 z46:=Tryz.sizeOf164
 v46:=Tryz.zeroValue164
 t51:=Tryz.underlying161
 a51:=Tryz.isAgg161
 z51:=Tryz.sizeOf161
 v51:=Tryz.zeroValue161
 t53:=Tryz.underlying140
 a53:=Tryz.isAgg140
 z53:=Tryz.sizeOf140
 v53:=Tryz.zeroValue140
 t171:=Tryz.underlying139
 a171:=Tryz.isAgg139
 z171:=Tryz.sizeOf139
 v171:=Tryz.zeroValue139
 t173:=Tryz.underlying143
 a173:=Tryz.isAgg143
 z173:=Tryz.sizeOf143
 v173:=Tryz.zeroValue143
 t212:=Tryz.underlying160
 a212:=Tryz.isAgg160
 z212:=Tryz.sizeOf160
 v212:=Tryz.zeroValue160
 t213:=Tryz.underlying162
 a213:=Tryz.isAgg162
 z213:=Tryz.sizeOf162
 t232:=Tryz.underlying206
 a232:=Tryz.isAgg206
 z232:=Tryz.sizeOf206
 v232:=Tryz.zeroValue206
 t233:=Tryz.underlying207
 a233:=Tryz.isAgg207
 z233:=Tryz.sizeOf207
 v233:=Tryz.zeroValue207
 g17:=by kernel_rfl
 g18:=by kernel_rfl
 g19:=by kernel_rfl
 i0:=by kernel_rfl
 i2:=by kernel_rfl
 i3:=by kernel_rfl
 i4:=by kernel_rfl
 i5:=by kernel_rfl
 i9:=by kernel_rfl
 i20:=by kernel_rfl
 i37:=by kernel_rfl
 i46:=by kernel_rfl
 i51:=by kernel_rfl
 i53:=by kernel_rfl
 i171:=by kernel_rfl
 i173:=by kernel_rfl
 i212:=by kernel_rfl
 i232:=by kernel_rfl
 i233:=by kernel_rfl
 m17:=by kernel_rfl
 m18:=by kernel_rfl
 m19:=by kernel_rfl }
open Go.RowKit Go.Sort Go.Lib in
theorem Tryz.strconv_FormatInt_10 (n:Int) (h0 : -9223372036854775808≤n) (h1:n≤9223372036854775807) (w:World) (htab:Lib.TabIs Tryz.prog w Tryz.powN .u64 Lib.pow10Tab) :
  Calls Tryz.prog 51 #[.int .i64 n,.int .i64 10] w fun e w'=>e=.returned (.string ⟨(Lib.itoa n).toArray⟩)∧∃ k os,w'=grow (w.drewN k) os:=Any.strconv_FormatInt_10 Tryz.laysM173 n h0 h1 w htab
def Tryz.laysC174_ren:Go.Shelf.Ren:=⟨fun | 174=>125 | 247=>140 | 245=>141 | 287=>148 | 279=>149 | 280=>150 | 281=>151 | 282=>152 | 321=>154 | 322=>155 | 316=>156 | 171=>158 | 205=>157 | 243=>159 | 246=>68 | 283=>88 | 284=>89 | 285=>90 | 286=>91 | 129=>109 | 317=>108 | 318=>110 | 319=>111 | 320=>112 | 337=>128 | 338=>129 | n=>n,fun | 9=>9 | 3=>3 | 2=>2 | 75=>135 | 85=>168 | 4=>4 | 167=>214 | 5=>5 | 53=>140 | 175=>215 | 46=>164 | 168=>217 | 37=>103 | 0=>0 | 210=>223 | 21=>21 | 127=>157 | 145=>231 | 143=>229 | 171=>139 | 173=>143 | 212=>160 | 51=>161 | 20=>20 | 213=>162 | 232=>206 | 233=>207 | 80=>95 | n=>n,fun | 15=>5 | 16=>6 | 17=>1 | 18=>3 | 19=>4 | n=>n⟩
theorem Tryz.laysC174:Go.Proofs.LaysC.n174 Tryz.prog Tryz.laysC174_ren:={
 mixed:=by kernel_rfl
 f129:=Tryz.func109.trans (congrArg some (by kernel_rfl))
 f171:=Tryz.func158.trans (congrArg some (by kernel_rfl))
 f174:=Tryz.func125.trans (congrArg some (by kernel_rfl))
 f205:=Tryz.func157.trans (congrArg some (by kernel_rfl))
 f243:=Tryz.func159.trans (congrArg some (by kernel_rfl))
 f245:=Tryz.func141.trans (congrArg some (by kernel_rfl))
 f246:=Tryz.func68.trans (congrArg some (by kernel_rfl))
 f247:=Tryz.func140.trans (congrArg some (by kernel_rfl))
 f279:=Tryz.func149.trans (congrArg some (by kernel_rfl))
 f280:=Tryz.func150.trans (congrArg some (by kernel_rfl))
 f281:=Tryz.func151.trans (congrArg some (by kernel_rfl))
 f282:=Tryz.func152.trans (congrArg some (by kernel_rfl))
 f283:=Tryz.func88.trans (congrArg some (by kernel_rfl))
 f284:=Tryz.func89.trans (congrArg some (by kernel_rfl))
 f285:=Tryz.func90.trans (congrArg some (by kernel_rfl))
 f286:=Tryz.func91.trans (congrArg some (by kernel_rfl))
 f287:=Tryz.func148.trans (congrArg some (by kernel_rfl))
 f316:=Tryz.func156.trans (congrArg some (by kernel_rfl))
 f317:=Tryz.func108.trans (congrArg some (by kernel_rfl))
 f318:=Tryz.func110.trans (congrArg some (by kernel_rfl))
 f319:=Tryz.func111.trans (congrArg some (by kernel_rfl))
 f320:=Tryz.func112.trans (congrArg some (by kernel_rfl))
 f321:=Tryz.func154.trans (congrArg some (by kernel_rfl))
 f322:=Tryz.func155.trans (congrArg some (by kernel_rfl))
 f337:=Tryz.func128.trans (congrArg some (by kernel_rfl))
 f338:=Tryz.func129.trans (congrArg some (by kernel_rfl))
 t0:=Tryz.underlying0
 a0:=Tryz.isAgg0
 z0:=Tryz.sizeOf0
 v0:=Tryz.zeroValue0
 t2:=Tryz.underlying2
 a2:=Tryz.isAgg2
 z2:=Tryz.sizeOf2
 v2:=Tryz.zeroValue2
 t3:=Tryz.underlying3
 a3:=Tryz.isAgg3
 z3:=Tryz.sizeOf3
 v3:=Tryz.zeroValue3
 t4:=Tryz.underlying4
 a4:=Tryz.isAgg4
 z4:=Tryz.sizeOf4
 v4:=Tryz.zeroValue4
 t5:=Tryz.underlying5
 a5:=Tryz.isAgg5
 z5:=Tryz.sizeOf5
 v5:=Tryz.zeroValue5
 t9:=Tryz.underlying9
 a9:=Tryz.isAgg9
 z9:=Tryz.sizeOf9
 v9:=Tryz.zeroValue9
 t20:=Tryz.underlying20
 a20:=Tryz.isAgg20
 z20:=Tryz.sizeOf20
 v20:=Tryz.zeroValue20
 t21:=Tryz.underlying21
 a21:=Tryz.isAgg21
 z21:=Tryz.sizeOf21
 v21:=Tryz.zeroValue21
 t37:=Tryz.underlying103
 a37:=Tryz.isAgg103
 z37:=Tryz.sizeOf103
 v37:=Tryz.zeroValue103
 t46:=Tryz.underlying164
 a46:=Tryz.isAgg164
 z46:=Tryz.sizeOf164
 v46:=Tryz.zeroValue164
 t51:=Tryz.underlying161
 a51:=Tryz.isAgg161
 z51:=Tryz.sizeOf161
 v51:=Tryz.zeroValue161
 t53:=Tryz.underlying140
 a53:=Tryz.isAgg140
 z53:=Tryz.sizeOf140
 v53:=Tryz.zeroValue140
 t75:=Tryz.underlying135
 a75:=Tryz.isAgg135
 z75:=Tryz.sizeOf135
 v75:=Tryz.zeroValue135
 t85:=Tryz.underlying168
 a85:=Tryz.isAgg168
 z85:=Tryz.sizeOf168
 v85:=Tryz.zeroValue168
 t127:=Tryz.underlying157
 a127:=Tryz.isAgg157
 z127:=Tryz.sizeOf157
 v127:=Tryz.zeroValue157
 t143:=Tryz.underlying229
 a143:=Tryz.isAgg229
 z143:=Tryz.sizeOf229
 v143:=Tryz.zeroValue229
 t145:=Tryz.underlying231
 a145:=Tryz.isAgg231
 z145:=Tryz.sizeOf231
 v145:=Tryz.zeroValue231
 t167:=Tryz.underlying214
 a167:=Tryz.isAgg214
 z167:=Tryz.sizeOf214
 v167:=Tryz.zeroValue214
 t168:=Tryz.underlying217
 a168:=Tryz.isAgg217
 z168:=Tryz.sizeOf217
 v168:=Tryz.zeroValue217
 t171:=Tryz.underlying139
 a171:=Tryz.isAgg139
 z171:=Tryz.sizeOf139
 v171:=Tryz.zeroValue139
 t173:=Tryz.underlying143
 a173:=Tryz.isAgg143
 z173:=Tryz.sizeOf143
 v173:=Tryz.zeroValue143
 t175:=Tryz.underlying215
 a175:=Tryz.isAgg215
 z175:=Tryz.sizeOf215
 v175:=Tryz.zeroValue215
 t210:=Tryz.underlying223
 a210:=Tryz.isAgg223
 z210:=Tryz.sizeOf223
 v210:=Tryz.zeroValue223
 t212:=Tryz.underlying160
 a212:=Tryz.isAgg160
 z212:=Tryz.sizeOf160
 v212:=Tryz.zeroValue160
 t213:=Tryz.underlying162
 a213:=Tryz.isAgg162
 z213:=Tryz.sizeOf162
 t232:=Tryz.underlying206
 a232:=Tryz.isAgg206
 z232:=Tryz.sizeOf206
 v232:=Tryz.zeroValue206
 t233:=Tryz.underlying207
 a233:=Tryz.isAgg207
 z233:=Tryz.sizeOf207
 v233:=Tryz.zeroValue207
 g15:=by kernel_rfl
 g16:=by kernel_rfl
 g17:=by kernel_rfl
 g18:=by kernel_rfl
 g19:=by kernel_rfl
 t80:=Tryz.underlying95
 a80:=Tryz.isAgg95
 z80:=Tryz.sizeOf95
 v80:=Tryz.zeroValue95
 i0:=by kernel_rfl
 i2:=by kernel_rfl
 i3:=by kernel_rfl
 i4:=by kernel_rfl
 i5:=by kernel_rfl
 i9:=by kernel_rfl
 i20:=by kernel_rfl
 i21:=by kernel_rfl
 i37:=by kernel_rfl
 i46:=by kernel_rfl
 i51:=by kernel_rfl
 i53:=by kernel_rfl
 i75:=by kernel_rfl
 i80:=by kernel_rfl
 i85:=by kernel_rfl
 i127:=by kernel_rfl
 i143:=by kernel_rfl
 i145:=by kernel_rfl
 i167:=by kernel_rfl
 i168:=by kernel_rfl
 i171:=by kernel_rfl
 i173:=by kernel_rfl
 i175:=by kernel_rfl
 i210:=by kernel_rfl
 i212:=by kernel_rfl
 i232:=by kernel_rfl
 i233:=by kernel_rfl
 m15:=by kernel_rfl
 m16:=by kernel_rfl
 m17:=by kernel_rfl
 m18:=by kernel_rfl
 m19:=by kernel_rfl
 c0:=by kernel_rfl
 c2:=by kernel_rfl
 c3:=by kernel_rfl
 c4:=by kernel_rfl
 c5:=by kernel_rfl
 c9:=by kernel_rfl
 c20:=by kernel_rfl
 c21:=by kernel_rfl
 c37:=by kernel_rfl
 c46:=by kernel_rfl
 c51:=by kernel_rfl
 c53:=by kernel_rfl
 c75:=by kernel_rfl
 c80:=by kernel_rfl
 c85:=by kernel_rfl
 c127:=by kernel_rfl
 c143:=by kernel_rfl
 c145:=by kernel_rfl
 c167:=by kernel_rfl
 c168:=by kernel_rfl
 c171:=by kernel_rfl
 c173:=by kernel_rfl
 c175:=by kernel_rfl
 c210:=by kernel_rfl
 c212:=by kernel_rfl
 c213:=by kernel_rfl
 c232:=by kernel_rfl
 c233:=by kernel_rfl }
open Go.RowKit in
theorem Tryz.strconv_ParseInt_10_at64_ok (s:ByteArray) (hmax:s.size≤9223372036854775806) (v:Int) (h:Lib.parseIntB 64 s.data.toList=.ok v) (w:World) :
  Calls Tryz.prog 125 #[.string s,.int .i64 10,.int .i64 64] w fun e w'=>e=.returned (.tuple #[.int .i64 v,.nilIface])∧(w'=w∨∃ t,w'=Lib.bytesWorld w 5 t):=Any.strconv_ParseInt_10_at64_ok Tryz.laysC174 s hmax v h w
open Go.RowKit in
theorem Tryz.strconv_ParseInt_10_at64_syntax (s:ByteArray) (hlim:s.size≤281474976710656) (h:(¬ ∃ v,Lib.parseIntB 64 s.data.toList=.ok v)∧Lib.parseIntB 64 s.data.toList≠.range) (ev:Value) (w:World) (hv:w.cell? ⟨5,0,none⟩=some ev) (hev:ev=.nilIface∨∃ te pe,ev=.iface te pe) :
  Calls Tryz.prog 125 #[.string s,.int .i64 10,.int .i64 64] w fun e w'=>∃ N,e=.returned (.tuple #[.int .i64 (0),.iface 217 (.pointer (some ⟨N,0,none⟩))])∧w.heap.size≤N∧w'.heap[N]?=some (.cells #[.string ⟨#[80,97,114,115,101,73,110,116]⟩,.string s,ev] 223 (0,0))∧Below w.heap.size w w':=Any.strconv_ParseInt_10_at64_syntax Tryz.laysC174 s hlim (by generalize Lib.parseIntB 64 s.data.toList=r at h ⊢;cases r<;>first | rfl | exact absurd ⟨_,rfl⟩ h.1 | exact absurd rfl h.2) ev w hv hev
open Go.RowKit in
theorem Tryz.strconv_ParseInt_10_at64_range (s:ByteArray) (hlim:s.size≤281474976710656) (h:Lib.parseIntB 64 s.data.toList=.range) (ev:Value) (w:World) (hv:w.cell? ⟨6,0,none⟩=some ev) (hev:ev=.nilIface∨∃ te pe,ev=.iface te pe) :
  Calls Tryz.prog 125 #[.string s,.int .i64 10,.int .i64 64] w fun e w'=>∃ N,e=.returned (.tuple #[.int .i64 (Lib.intSat 64 s.data.toList),.iface 217 (.pointer (some ⟨N,0,none⟩))])∧w.heap.size≤N∧w'.heap[N]?=some (.cells #[.string ⟨#[80,97,114,115,101,73,110,116]⟩,.string s,ev] 223 (0,0))∧Below w.heap.size w w':=Any.strconv_ParseInt_10_at64_range Tryz.laysC174 s hlim h ev w hv hev
end Go.Proofs
namespace Go.D3
open Go Go.RowKit
theorem ret_lib {P:Program} {f:FuncId} {xs:List D} {res:D} (h:∀ (w:World) (A:Nat→Prop) (vs:Array Value),GOk w A→(∀ b,A b→b<w.heap.size)→vs.size=xs.length→(∀ (j:Nat) (d:D),xs[j]?=some d→Rd w A (vs.getD j undef) d) →
  Calls P f vs w fun e w'=>∃ (v:Value) (F:Nat→Prop),e=.returned v∧Own w' (fun b=>A b∨(w.heap.size≤b∧b<w'.heap.size∧¬ F b)) v res F∧(∀ b,F b→w.heap.size≤b∧b<w'.heap.size)∧Below w.heap.size w w'):Ret P f (xs.map .v) res:=by
 intro w A vs Fs hg hA hvs hpre _ _
 refine (h w A vs hg hA (by simpa using hvs) fun j d hd=>?_).mono ?_
 ·exact (hpre j (.v d) (by simp [hd])).1
 ·rintro e w' ⟨v,F,rfl,hown,hF,hb⟩
  refine ⟨v,F,fun _ _=>False,rfl,hb.size,hown.mono (fun b h=>h.imp id fun h=>⟨h.1,h.2.1,h.2.2,fun _ h=>h⟩) (fun _ _=>rfl) (fun _ _=>rfl) fun _ h=>h,fun j a ha=>?_,fun b h=>⟨(hF b h).2,.inl (hF b h).1,fun _ h=>h⟩,fun _ _ h=>h.elim,fun _ _ _ _ h=>h.elim,fun b h _=>hb.block b h,hb.os,hb.tape,hb.output⟩
  rw [List.getElem?_map,Option.map_eq_some_iff] at ha
  obtain ⟨d,_,rfl⟩:=ha
  exact fun _ h=>h
theorem ret_lib0 {P:Program} {f:FuncId} {xs:List D} {res:D} (h:∀ (w:World) (A:Nat→Prop) (vs:Array Value),GOk w A→(∀ b,A b→b<w.heap.size)→vs.size=xs.length→(∀ (j:Nat) (d:D),xs[j]?=some d→Rd w A (vs.getD j undef) d) →
  Calls P f vs w fun e w'=>∃ v:Value,e=.returned v∧Own w' (fun _=>False) v res (fun _=>False)∧Below w.heap.size w w'):Ret P f (xs.map .v) res :=
 ret_lib fun w A vs hg hA hvs hpre=>(h w A vs hg hA hvs hpre).mono fun _ _ ⟨v,he,hown,hb⟩=>⟨v,fun _=>False,he,hown.mono (fun _ h=>h.elim) (fun _ _=>rfl) (fun _ _=>rfl) fun _ h=>h,fun _ h=>h.elim,hb⟩
theorem below_drew (w:World) (n:Nat):Below w.heap.size w (w.drewN n):=⟨rfl,rfl,rfl,Nat.le_refl _,fun _ _=>rfl⟩
theorem args1 {vs:Array Value} (h:vs.size=1):vs=#[vs.getD 0 undef]:=by
 match vs,h with
 | ⟨[a]⟩,_=>rfl
theorem args2 {vs:Array Value} (h:vs.size=2):vs=#[vs.getD 0 undef,vs.getD 1 undef]:=by
 match vs,h with
 | ⟨[a,b]⟩,_=>rfl
theorem args3 {vs:Array Value} (h:vs.size=3):vs=#[vs.getD 0 undef,vs.getD 1 undef,vs.getD 2 undef]:=by
 match vs,h with
 | ⟨[a,b,c]⟩,_=>rfl
theorem rd_str {w:World} {A:Nat→Prop} {v:Value} {s:List UInt8} (h:Rd w A v (.str s)):v=.string ⟨s.toArray⟩∧s.length≤maxLen:=by cases h;exact ⟨rfl,‹_›⟩
theorem rd_int {w:World} {A:Nat→Prop} {v:Value} {k:IntKind} {n:Int} (h:Rd w A v (.int k n)):v=.int k n∧k.has n:=by cases h;exact ⟨rfl,‹_›⟩
theorem ret_cut {s sep:List UInt8} (hs:s.length<4294967281):Ret Go.Proofs.Tryz.prog 81 [.v (.str s),.v (.str sep)] (.tup [.str (Lib.cut s sep).1,.str (Lib.cut s sep).2.1,.bool (Lib.cut s sep).2.2]):=by
 refine ret_lib0 (xs:=[.str s,.str sep]) fun w A vs hg hA hvs hpre=>?_
 rw [args2 hvs]
 obtain ⟨e1,l1⟩:=rd_str (hpre 0 _ rfl)
 obtain ⟨e2,_⟩:=rd_str (hpre 1 _ rfl)
 rw [e1,e2]
 obtain ⟨m,hm,_⟩:=hg.maxLen
 refine (Go.Proofs.Tryz.strings_Cut ⟨s.toArray⟩ ⟨sep.toArray⟩ m w (by show s.toArray.size<_;simpa using hs) hm).mono ?_
 rintro e w' ⟨rfl,hw⟩
 have hb:Below w.heap.size w w':=by
  first | (obtain ⟨n,rfl⟩:=hw;exact below_drew w n) | (subst hw;exact Below.refl _ _)
 have hc:(Lib.cut s sep).1.length≤s.length∧(Lib.cut s sep).2.1.length≤s.length:=by
  unfold Lib.cut
  split
  ·exact ⟨by simp only [List.length_take];omega,by simp⟩
  ·exact ⟨Nat.le_refl _,by simp⟩
 refine ⟨_,rfl,.tup (fun _ _=>False) rfl (fun j x hj=>?_) (fun _ _ h=>h) (fun _ _ _ _ h=>h.elim),hb⟩
 match j,hj with
 | 0,hj=>simp at hj;subst hj;exact .str (Nat.le_trans hc.1 l1)
 | 1,hj=>simp at hj;subst hj;exact .str (Nat.le_trans hc.2 l1)
 | 2,hj=>simp at hj;subst hj;exact .bool
 | j+3,hj=>simp at hj
theorem ret_cutPrefix {s p:List UInt8}:Ret Go.Proofs.Tryz.prog 82 [.v (.str s),.v (.str p)] (.tup [.str (Lib.trimPrefix s p),.bool (Lib.hasPrefix s p)]):=by
 refine ret_lib0 (xs:=[.str s,.str p]) fun w A vs hg hA hvs hpre=>?_
 rw [args2 hvs]
 obtain ⟨e1,l1⟩:=rd_str (hpre 0 _ rfl)
 obtain ⟨e2,_⟩:=rd_str (hpre 1 _ rfl)
 rw [e1,e2]
 refine (Go.Proofs.Tryz.strings_CutPrefix ⟨s.toArray⟩ ⟨p.toArray⟩ w).mono ?_
 rintro e w' ⟨rfl,rfl⟩
 have hc:(Lib.trimPrefix s p).length≤s.length:=by unfold Lib.trimPrefix;split<;>simp
 refine ⟨_,rfl,.tup (fun _ _=>False) rfl (fun j x hj=>?_) (fun _ _ h=>h) (fun _ _ _ _ h=>h.elim),Below.refl _ _⟩
 match j,hj with
 | 0,hj=>simp at hj;subst hj;exact .str (Nat.le_trans hc l1)
 | 1,hj=>simp at hj;subst hj;exact .bool
 | j+2,hj=>simp at hj
theorem tab_of {w:World} {A:Nat→Prop} (h:GOk w A):Lib.TabIs Go.Proofs.Tryz.prog w Go.Proofs.Tryz.powN .u64 Lib.pow10Tab:=by
 obtain ⟨t,fz,h1,_⟩:=h.pow
 unfold Lib.TabIs World.var?
 rw [show Go.Proofs.Tryz.prog.globalNamed Go.Proofs.Tryz.powN=some 1 by kernel_rfl]
 simp [h1]
theorem ret_itoa {n:Int}:Ret Go.Proofs.Tryz.prog 51 [.v (.int .i64 n),.v (.int .i64 10)] (.str (Lib.itoa n)):=by
 refine ret_lib0 (xs:=[.int .i64 n,.int .i64 10]) fun w A vs hg hA hvs hpre=>?_
 rw [args2 hvs]
 obtain ⟨e1,l1⟩:=rd_int (hpre 0 _ rfl)
 obtain ⟨e2,_⟩:=rd_int (hpre 1 _ rfl)
 rw [e1,e2]
 have h1 : -9223372036854775808≤n∧n≤9223372036854775807:=by
  have:=l1
  simp [IntKind.has,IntKind.min,IntKind.max,IntKind.signed,IntKind.bits] at this
  exact this
 refine (Go.Proofs.Tryz.strconv_FormatInt_10 n h1.1 h1.2 w (tab_of hg)).mono ?_
 rintro e w' ⟨rfl,k,os,rfl⟩
 refine ⟨_,rfl,.str ?_,⟨rfl,rfl,rfl,by simp [Go.Sort.grow],fun j hj=>?_⟩⟩
 ·have:=Lib.itoa_length_le n h1.1 h1.2
  simp only [maxLen];omega
 ·show (w.heap++os)[j]?=_
  rw [Array.getElem?_append_left hj]
def pintD (s:List UInt8):D :=
 match Lib.parseIntB 64 s with
 | .ok v=>.tup [.int .i64 v,.nifc]
 | .range=>.tup [.int .i64 (Lib.intSat 64 s),.ifc 217 .dead]
 | _=>.tup [.int .i64 0,.ifc 217 .dead]
theorem ret_parseInt {s:List UInt8} (hs:s.length≤281474976710656):Ret Go.Proofs.Tryz.prog 125 [.v (.str s),.v (.int .i64 10),.v (.int .i64 64)] (pintD s):=by
 refine ret_lib0 (xs:=[.str s,.int .i64 10,.int .i64 64]) fun w A vs hg hA hvs hpre=>?_
 rw [args3 hvs]
 obtain ⟨e1,l1⟩:=rd_str (hpre 0 _ rfl)
 obtain ⟨e2,_⟩:=rd_int (hpre 1 _ rfl)
 obtain ⟨e3,_⟩:=rd_int (hpre 2 _ rfl)
 rw [e1,e2,e3]
 have two:∀ {w':World} {n:Int} {y:D} {v:Value},IntKind.i64.has n→Own w' (fun _=>False) v y (fun _=>False)→Own w' (fun _=>False) (.tuple #[.int .i64 n,v]) (.tup [.int .i64 n,y]) (fun _=>False):=by
  intro w' n y v h1 h2
  refine .tup (fun _ _=>False) rfl (fun j x hj=>?_) (fun _ _ h=>h) (fun _ _ _ _ h=>h.elim)
  match j,hj with
  | 0,hj=>simp at hj;subst hj;exact .int h1
  | 1,hj=>simp at hj;subst hj;exact h2
  | j+2,hj=>simp at hj
 unfold pintD
 cases hp:Lib.parseIntB 64 s with
 | ok v =>
  have hv:=Lib.parseIntB_bounds hp
  refine (Go.Proofs.Tryz.strconv_ParseInt_10_at64_ok ⟨s.toArray⟩ (by show s.toArray.size≤_;simp;omega) v hp w).mono ?_
  rintro e w' ⟨rfl,hw⟩
  refine ⟨_,rfl,two ?_ .nifc,?_⟩
  ·simp [IntKind.has,IntKind.min,IntKind.max,IntKind.signed,IntKind.bits];omega
  ·rcases hw with rfl | ⟨t,rfl⟩
   ·exact Below.refl _ _
   ·exact ⟨rfl,rfl,rfl,by rw [Lib.bytesWorld_size];omega,fun j hj=>Lib.bytesWorld_at_old w 5 t j hj⟩
 | range =>
  obtain ⟨te,pe,hc,_⟩:=hg.rng
  refine (Go.Proofs.Tryz.strconv_ParseInt_10_at64_range ⟨s.toArray⟩ (by show s.toArray.size≤_;simpa using hs) hp (.iface te pe) w hc (.inr ⟨_,_,rfl⟩)).mono ?_
  rintro e w' ⟨N,rfl,_,_,hb⟩
  refine ⟨_,rfl,two ?_ (.ifc .dead),hb⟩
  show IntKind.i64.has (Lib.intSat 64 s)
  unfold Lib.intSat
  split<;>exact ⟨by decide,by decide⟩
 | _ =>
  obtain ⟨te,pe,hc,_⟩:=hg.syn
  refine (Go.Proofs.Tryz.strconv_ParseInt_10_at64_syntax ⟨s.toArray⟩ (by show s.toArray.size≤_;simpa using hs) ⟨(by rintro ⟨v,h⟩;have h:=hp.symm.trans h;cases h),(fun h=>by have h:=hp.symm.trans h;cases h)⟩ (.iface te pe) w hc (.inr ⟨_,_,rfl⟩)).mono ?_
  rintro e w' ⟨N,rfl,_,_,hb⟩
  exact ⟨_,rfl,two ⟨by decide,by decide⟩ (.ifc .dead),hb⟩
def splitL (s sep:List UInt8):List (List UInt8):=(Lib.splitB ⟨sep.toArray⟩ 0 (Lib.countB ⟨s.toArray⟩ ⟨sep.toArray⟩) ⟨s.toArray⟩).map (·.data.toList)
theorem ba_eta (x:ByteArray):(⟨x.data.toList.toArray⟩:ByteArray)=x:=by cases x;simp
theorem ret_split {s sep:List UInt8} (hs:s.length<4294967281) (h1 : 1≤sep.length) (hlen:∀ x∈splitL s sep,x.length≤maxLen) (hn:(splitL s sep).length=Lib.countB ⟨s.toArray⟩ ⟨sep.toArray⟩+1) (hm:(splitL s sep).length≤maxLen) :
  Ret Go.Proofs.Tryz.prog 104 [.v (.str s),.v (.str sep)] (strs (splitL s sep)):=by
 refine ret_lib (xs:=[.str s,.str sep]) fun w A vs hg hA hvs hpre=>?_
 rw [args2 hvs]
 obtain ⟨e1,l1⟩:=rd_str (hpre 0 _ rfl)
 obtain ⟨e2,_⟩:=rd_str (hpre 1 _ rfl)
 rw [e1,e2]
 obtain ⟨m,hmx,_⟩:=hg.maxLen
 refine (Go.Proofs.Tryz.strings_Split ⟨s.toArray⟩ ⟨sep.toArray⟩ m w (by show s.toArray.size<_;simpa using hs) hmx (by show 1≤sep.toArray.size;simpa using h1)).mono ?_
 rintro e w' ⟨rfl,rfl⟩
 rw [← hn]
 have hnew:(w.alloc (.cells ((Lib.splitB ⟨sep.toArray⟩ 0 (Lib.countB ⟨s.toArray⟩ ⟨sep.toArray⟩) ⟨s.toArray⟩).map Value.string).toArray 9)).heap[w.heap.size]?=some (.cells ((Lib.splitB ⟨sep.toArray⟩ 0 (Lib.countB ⟨s.toArray⟩ ⟨sep.toArray⟩) ⟨s.toArray⟩).map Value.string).toArray 9 (0,0)):=heap_alloc_new w _
 refine ⟨_,(·=w.heap.size),rfl,?_,fun b hb=>by subst hb;simp,?_⟩
 ·have hl:(splitL s sep).length=((splitL s sep).map D.str).length:=by simp
  unfold strs lst
  rw [hl]
  refine Own.slice (sz:=1) (fun _ _=>False) hnew (by simp [splitL]) (Nat.le_refl _) (by simpa using hm) (by decide) rfl (fun x hx=>by obtain ⟨y,_,rfl⟩:=List.mem_map.1 hx;rfl) (fun j x hj=>?_) rfl (fun _ _ h=>h.elim) fun _ _ _ _ h=>h.elim
  unfold cellAt at hj
  rw [Nat.div_one,Nat.mod_one,List.getElem?_map] at hj
  cases hq:(splitL s sep)[j]? with
  | none=>rw [hq] at hj;cases hj
  | some y =>
   rw [hq] at hj
   simp only [Option.map_some,Option.bind_some,D.cells,List.getElem?_cons_zero,Option.some.injEq] at hj
   subst hj
   have hmem:=List.mem_of_getElem? hq
   unfold splitL at hq
   rw [List.getElem?_map,Option.map_eq_some_iff] at hq
   obtain ⟨z,hz,rfl⟩:=hq
   have hv:((Lib.splitB ⟨sep.toArray⟩ 0 (Lib.countB ⟨s.toArray⟩ ⟨sep.toArray⟩) ⟨s.toArray⟩).map Value.string).toArray.getD (0+j) undef=.string ⟨z.data.toList.toArray⟩:=by
    rw [Nat.zero_add,Array.getD_eq_getD_getElem?,List.getElem?_toArray,List.getElem?_map,hz,ba_eta]
    rfl
   rw [hv]
   exact .str (hlen _ hmem)
 ·exact ⟨rfl,rfl,rfl,by simp,fun j hj=>heap_alloc_old w _ hj⟩
theorem ret_join {l:List (List UInt8)} {sep:List UInt8} (hn:l.length≤140737488355328) (hlen:(Lib.join l sep).length≤140737488355328) :
  Ret Go.Proofs.Tryz.prog 66 [.v (strs l),.v (.str sep)] (.str (Lib.join l sep)):=by
 refine ret_lib0 (xs:=[strs l,.str sep]) fun w A vs hg hA hvs hpre=>?_
 rw [args2 hvs]
 obtain ⟨e2,_⟩:=rd_str (hpre 1 _ rfl)
 rw [e2]
 have h0:Rd w A (vs.getD 0 undef) (strs l):=hpre 0 _ rfl
 have none:∀ {p:Option Addr} {c:Nat},l=[]→Calls Go.Proofs.Tryz.prog 66 #[.slice p 0 c,.string ⟨sep.toArray⟩] w fun e w'=>∃ v:Value,e=.returned v∧Own w' (fun _=>False) v (.str (Lib.join l sep)) (fun _=>False)∧Below w.heap.size w w':=by
  rintro p c rfl
  refine (Go.Proofs.Tryz.strings_Join_none p c ⟨sep.toArray⟩ w).mono ?_
  rintro e w' ⟨rfl,rfl⟩
  exact ⟨_,rfl,Own.str (s:=[]) (by simp),Below.refl _ _⟩
 unfold strs lst at h0
 generalize hL:l.map D.str=L at h0
 generalize vs.getD 0 undef=v0 at h0
 cases h0 with
 | nil=>exact none (by simpa using hL)
 | empty hm=>exact none (by simpa using hL)
 | @slice z L b off cap sz hAb hc hm hz hzz hsz us hcells hr =>
  have hsz1:sz=1:=by simpa [D.cells] using hzz.symm
  subst hsz1
  have key:∀ (j:Nat) x,(l.map fun x=>(⟨x.toArray⟩:ByteArray))[j]?=some x→w.cell? ⟨b,off+j,Option.none⟩=some (.string x):=by
   intro j x hj
   rw [List.getElem?_map,Option.map_eq_some_iff] at hj
   obtain ⟨y,hy,rfl⟩:=hj
   have hcj:cellAt L 1 j=some (.str y):=by
    unfold cellAt
    rw [Nat.div_one,Nat.mod_one,← hL,List.getElem?_map,hy]
    rfl
   rw [hcells j _ hcj]
   exact congrArg some (rd_str (hr j _ hcj)).1
  have hmap:(l.map fun x=>(⟨x.toArray⟩:ByteArray)).map (·.data.toList)=l:=by rw [List.map_map];simp [Function.comp_def]
  have:=Go.Proofs.Tryz.strings_Join b off cap (l.map fun x=>⟨x.toArray⟩) ⟨sep.toArray⟩ w key (hA b hAb) (by simpa using hn) (by rw [List.length_map];rw [← hL,List.length_map] at hc;exact hc) (by rw [hmap];simpa using hlen)
  rw [hmap,List.length_map] at this
  rw [show L.length=l.length by rw [← hL,List.length_map]]
  refine this.mono ?_
  rintro e w' ⟨rfl,hb⟩
  refine ⟨_,rfl,Own.str ?_,hb⟩
  simp only [maxLen];omega
end Go.D3
namespace Go.D3
open Go Go.RowKit Go.Extern.Stop Go.Stop Go.Extern
set_option maxRecDepth 100000
def cmpE:Array Value→Sem Value:=Extern.ReflectliteType.method fun t=>do Go.Extern.Rtype.noPackHeld "Comparable" t;pure (.bool (← typeInfo t).comparable)
theorem isTypeOf (v:Value) (w:World):(Extern.ReflectliteType.typeOf #[.iface 229 v]).run Go.Proofs.Tryz.prog w=.ok (.iface 194 (.agg #[.pointer (some ⟨9,229,none⟩)])) w:=by kernel_rfl
theorem isComparable (w:World):(cmpE #[.agg #[.pointer (some ⟨9,229,none⟩)]]).run Go.Proofs.Tryz.prog w=.ok (.bool true) w:=by kernel_rfl
theorem isMethodComparable (v:Value) (w:World):(Go.method 362 194 v "Comparable").run Go.Proofs.Tryz.prog w=.ok (181,v) w:=by kernel_rfl
theorem isComp:(Go.Proofs.Tryz.prog.info? 229).map (·.comparable)=some true:=by kernel_rfl
theorem isSize:(Go.Proofs.Tryz.prog.info? 231).map (·.size)=some 1:=by kernel_rfl
theorem noIsE (v:Value) (xT:TypeId) (w:World):(Instr.typeAssert (.iface 229 v) xT 196 true).run Go.Proofs.Tryz.prog w=.ok (.tuple #[.nilIface,.bool false]) w:=run_typeAssert_lacksB Go.Proofs.Tryz.underlying196 (by kernel_rfl) (by kernel_rfl) v xT w
theorem noIsJ (v:Value) (xT:TypeId) (w:World):(Instr.typeAssert (.iface 190 v) xT 196 true).run Go.Proofs.Tryz.prog w=.ok (.tuple #[.nilIface,.bool false]) w:=run_typeAssert_lacksB Go.Proofs.Tryz.underlying196 (by kernel_rfl) (by kernel_rfl) v xT w
theorem noUnwrapJ (v:Value) (xT:TypeId) (w:World):(Instr.typeAssert (.iface 190 v) xT 199 true).run Go.Proofs.Tryz.prog w=.ok (.tuple #[.nilIface,.bool false]) w:=run_typeAssert_lacksB Go.Proofs.Tryz.underlying199 (by kernel_rfl) (by kernel_rfl) v xT w
theorem hasUnwrapsJ (v:Value) (xT:TypeId) (w:World):(Instr.typeAssert (.iface 190 v) xT 201 true).run Go.Proofs.Tryz.prog w=.ok (.tuple #[.iface 190 v,.bool true]) w:=run_typeAssert_hasB Go.Proofs.Tryz.underlying201 (by kernel_rfl) v xT w
theorem methodUnwrap (v:Value) (w:World):(Go.method 362 190 v "Unwrap").run Go.Proofs.Tryz.prog w=.ok (177,v) w:=by kernel_rfl
theorem is_same (a:Addr) (w:World) :
  Calls Go.Proofs.Tryz.prog 102 #[.iface 229 (.pointer (some a)),.iface 229 (.pointer (some a))] w fun e w'=>e=.returned (.bool true)∧w'=w:=by
 obtain ⟨i,hi,hcmp⟩:=Option.map_eq_some_iff.1 isComp
 obtain ⟨j,hj,hjs⟩:=Option.map_eq_some_iff.1 isSize
 have h8:=@run_callFunc_extern Go.Proofs.Tryz.prog 121 _ Extern.ReflectliteType.typeOf Go.Proofs.Tryz.func121 (by kernel_rfl) (by kernel_rfl) (by kernel_rfl) (by kernel_rfl)
 have h32:=@run_callFunc_extern Go.Proofs.Tryz.prog 181 _ cmpE Go.Proofs.Tryz.func181 (by kernel_rfl) (by kernel_rfl) (by kernel_rfl) (by kernel_rfl)
 have tT:=isTypeOf
 have cT:=isComparable
 have mR:=isMethodComparable
 have heq:=run_eql_iface_ptr_same (P:=Go.Proofs.Tryz.prog) w a Go.Proofs.Tryz.underlying135 Go.Proofs.Tryz.underlying229 hi hcmp hj
 go_enter Go.Proofs.Tryz.func102,Go.Proofs.Tryz.ntmps102
 go_wp2
 refine wp_loop_rounds 1 ?_
 rw [rounds_succ]
 go_wp2
 go_ret
 exact ⟨rfl,rfl⟩
theorem is_nil (b:Addr) (w:World) :
  Calls Go.Proofs.Tryz.prog 102 #[.nilIface,.iface 229 (.pointer (some b))] w fun e w'=>e=.returned (.bool false)∧w'=w:=by
 have hn:=run_eql_iface_nil_left (P:=Go.Proofs.Tryz.prog) w 229 (.pointer (some b)) Go.Proofs.Tryz.underlying135
 go_enter Go.Proofs.Tryz.func102,Go.Proofs.Tryz.ntmps102
 go_wp2
 go_ret
 exact ⟨rfl,rfl⟩
theorem is_join (pb po sb so n c:Nat) (b:Addr) (w:World) (h1:w.cell? ⟨pb,po,none⟩=some (.slice (some ⟨sb,so,none⟩) n c)) (hn : 0<n) (_:n≤maxLen) (h2:w.cell? ⟨sb,so,none⟩=some (.iface 229 (.pointer (some b)))) :
  Calls Go.Proofs.Tryz.prog 102 #[.iface 190 (.pointer (some ⟨pb,po,none⟩)),.iface 229 (.pointer (some b))] w fun e w'=>e=.returned (.bool true)∧w'=w:=by
 obtain ⟨i,hi,hcmp⟩:=Option.map_eq_some_iff.1 isComp
 obtain ⟨j,hj,hjs⟩:=Option.map_eq_some_iff.1 isSize
 have h8:=@run_callFunc_extern Go.Proofs.Tryz.prog 121 _ Extern.ReflectliteType.typeOf Go.Proofs.Tryz.func121 (by kernel_rfl) (by kernel_rfl) (by kernel_rfl) (by kernel_rfl)
 have h32:=@run_callFunc_extern Go.Proofs.Tryz.prog 181 _ cmpE Go.Proofs.Tryz.func181 (by kernel_rfl) (by kernel_rfl) (by kernel_rfl) (by kernel_rfl)
 have tT:=isTypeOf
 have cT:=isComparable
 have mR:=isMethodComparable
 have nE:=noIsE
 have nJ:=noIsJ
 have uJ:=noUnwrapJ
 have hJ:=hasUnwrapsJ
 have mU:=methodUnwrap
 have hlt:(0:Int)<(n:Int):=by omega
 have heq:=run_eql_iface_ptr_same (P:=Go.Proofs.Tryz.prog) w b Go.Proofs.Tryz.underlying135 Go.Proofs.Tryz.underlying229 hi hcmp hj
 have hty:=run_eql_iface_types (P:=Go.Proofs.Tryz.prog) 190 229 (.pointer (some ⟨pb,po,none⟩)) (.pointer (some b)) Go.Proofs.Tryz.underlying135 (by decide) w
 go_enter Go.Proofs.Tryz.func102,Go.Proofs.Tryz.ntmps102
 go_wp2
 refine wp_loop_rounds 1 ?_
 rw [rounds_succ]
 go_wp2
 refine wp_loop_rounds 1 ?_
 rw [rounds_succ]
 go_wp2
 refine wp_loop_rounds 1 ?_
 rw [rounds_succ]
 go_wp2
 go_ret
 exact ⟨rfl,rfl⟩
end Go.D3
namespace Go.D3
open Go Go.RowKit Go.Extern.Stop Go.Stop Go.Extern
set_option maxRecDepth 100000
def JoinP (w:World) (l:List Value) (e:Ending) (w':World):Prop :=
 ∃ pb sb c,e=.returned (.iface 190 (.pointer (some ⟨pb,0,none⟩)))∧(w.heap.size≤pb∧pb<w'.heap.size∧w.heap.size≤sb∧sb<w'.heap.size)∧w'.cell? ⟨pb,0,none⟩=some (.slice (some ⟨sb,0,none⟩) l.length c)∧l.length≤c∧c≤2∧(∀ (j:Nat) (v:Value),l[j]?=some v→w'.cell? ⟨sb,j,none⟩=some v)∧Below w.heap.size w w'
theorem alloc_at (w:World) (o:Obj) (k:Nat):(w.alloc o).heap[k]?=if k=w.heap.size then some o else w.heap[k]?:=by
 show (w.heap.push o)[k]?=_
 rw [Array.getElem?_push]
theorem alloc_size (w:World) (o:Obj):(w.alloc o).heap.size=w.heap.size+1:=by simp
theorem below_more {w w':World} {o:Obj} (h:Below w.heap.size w w'):Below w.heap.size w (w'.alloc o) :=
 ⟨h.os,h.tape,h.output,Nat.le_trans h.size (by simp),fun k hk=>(heap_alloc_old _ _ (by have:=h.size;omega)).trans (h.block k hk)⟩
theorem join_ee (b o c:Nat) (t1 t2:TypeId) (v1 v2:Value) (w:World) (hb:b<w.heap.size) (h1:w.cell? ⟨b,o,none⟩=some (.iface t1 v1)) (h2:w.cell? ⟨b,o+1,none⟩=some (.iface t2 v2)) :
  Calls Go.Proofs.Tryz.prog 120 #[.slice (some ⟨b,o,none⟩) 2 c] w (JoinP w [.iface t1 v1,.iface t2 v2]):=by
 have n1:=fun (w:World) (t:TypeId) (v:Value)=>run_eql_iface_nil_left (P:=Go.Proofs.Tryz.prog) w t v Go.Proofs.Tryz.underlying135
 have hmk:∀ w:World,(Instr.makeSlice 189 (.int .i64 0) (.int .i64 2)).run Go.Proofs.Tryz.prog w=.ok (.slice (some ⟨w.heap.size,0,none⟩) 0 2) (w.alloc (.cells #[.nilIface,.nilIface] 135)):=fun w=>by kernel_rfl
 have c2:∀ (x y:Obj) (k:Nat),((w.alloc x).alloc y).cell? ⟨b,k,none⟩=w.cell? ⟨b,k,none⟩:=fun x y k=>cell_of_heap ((heap_alloc_old _ _ (by simp;omega)).trans (heap_alloc_old _ _ hb))
 have c3:∀ (x y z:Obj) (k:Nat),(((w.alloc x).alloc y).alloc z).cell? ⟨b,k,none⟩=w.cell? ⟨b,k,none⟩:=fun x y z k=>(cell_of_heap (heap_alloc_old _ _ (by simp;omega))).trans (c2 x y k)
 go_enter Go.Proofs.Tryz.func120,Go.Proofs.Tryz.ntmps120
 go_wp2
 refine wp_loop_rounds 3 ?_
 rw [rounds_succ]
 go_wp2
 rw [rounds_succ]
 go_wp2
 rw [rounds_succ]
 go_wp2
 refine wp_loop_rounds 3 ?_
 rw [rounds_succ]
 go_wp2
 rw [rounds_succ]
 go_wp2
 rw [rounds_succ]
 go_wp2
 go_ret
 refine ⟨w.heap.size+1,w.heap.size,2,rfl,⟨by omega,by simp,Nat.le_refl _,by simp;omega⟩,by simp only [World.cell?,alloc_at,alloc_size];simp<;>omega,by simp,by omega,fun j v hj=>?_,?_⟩
 ·match j,hj with
  | 0,hj=>simp at hj;subst hj;simp only [World.cell?,alloc_at,alloc_size];rw [if_neg (by omega),if_neg (by omega),if_neg (by omega),if_pos trivial];rfl
  | 1,hj=>simp at hj;subst hj;simp only [World.cell?,alloc_at,alloc_size];rw [if_neg (by omega),if_neg (by omega),if_neg (by omega),if_pos trivial];rfl
  | j+2,hj=>simp at hj
 ·exact below_more (below_more (below_more (below_more (Below.refl _ _))))
theorem join_en (b o c:Nat) (t1 _:TypeId) (v1 _:Value) (w:World) (hb:b<w.heap.size) (h1:w.cell? ⟨b,o,none⟩=some (.iface t1 v1)) (h2:w.cell? ⟨b,o+1,none⟩=some (.nilIface)) :
  Calls Go.Proofs.Tryz.prog 120 #[.slice (some ⟨b,o,none⟩) 2 c] w (JoinP w [.iface t1 v1]):=by
 have n1:=fun (w:World) (t:TypeId) (v:Value)=>run_eql_iface_nil_left (P:=Go.Proofs.Tryz.prog) w t v Go.Proofs.Tryz.underlying135
 have hmk:∀ w:World,(Instr.makeSlice 189 (.int .i64 0) (.int .i64 1)).run Go.Proofs.Tryz.prog w=.ok (.slice (some ⟨w.heap.size,0,none⟩) 0 1) (w.alloc (.cells #[.nilIface] 135)):=fun w=>by kernel_rfl
 have c2:∀ (x y:Obj) (k:Nat),((w.alloc x).alloc y).cell? ⟨b,k,none⟩=w.cell? ⟨b,k,none⟩:=fun x y k=>cell_of_heap ((heap_alloc_old _ _ (by simp;omega)).trans (heap_alloc_old _ _ hb))
 have c3:∀ (x y z:Obj) (k:Nat),(((w.alloc x).alloc y).alloc z).cell? ⟨b,k,none⟩=w.cell? ⟨b,k,none⟩:=fun x y z k=>(cell_of_heap (heap_alloc_old _ _ (by simp;omega))).trans (c2 x y k)
 go_enter Go.Proofs.Tryz.func120,Go.Proofs.Tryz.ntmps120
 go_wp2
 refine wp_loop_rounds 3 ?_
 rw [rounds_succ]
 go_wp2
 rw [rounds_succ]
 go_wp2
 rw [rounds_succ]
 go_wp2
 refine wp_loop_rounds 3 ?_
 rw [rounds_succ]
 go_wp2
 rw [rounds_succ]
 go_wp2
 rw [rounds_succ]
 go_wp2
 go_ret
 refine ⟨w.heap.size+1,w.heap.size,1,rfl,⟨by omega,by simp,Nat.le_refl _,by simp;omega⟩,by simp only [World.cell?,alloc_at,alloc_size];simp<;>omega,by simp,by omega,fun j v hj=>?_,?_⟩
 ·match j,hj with
  | 0,hj=>simp at hj;subst hj;simp only [World.cell?,alloc_at,alloc_size];rw [if_neg (by omega),if_neg (by omega),if_pos trivial];rfl
  | j+1,hj=>simp at hj
 ·exact below_more (below_more (below_more (Below.refl _ _)))
theorem join_ne (b o c:Nat) (_ t2:TypeId) (_ v2:Value) (w:World) (hb:b<w.heap.size) (h1:w.cell? ⟨b,o,none⟩=some (.nilIface)) (h2:w.cell? ⟨b,o+1,none⟩=some (.iface t2 v2)) :
  Calls Go.Proofs.Tryz.prog 120 #[.slice (some ⟨b,o,none⟩) 2 c] w (JoinP w [.iface t2 v2]):=by
 have n1:=fun (w:World) (t:TypeId) (v:Value)=>run_eql_iface_nil_left (P:=Go.Proofs.Tryz.prog) w t v Go.Proofs.Tryz.underlying135
 have hmk:∀ w:World,(Instr.makeSlice 189 (.int .i64 0) (.int .i64 1)).run Go.Proofs.Tryz.prog w=.ok (.slice (some ⟨w.heap.size,0,none⟩) 0 1) (w.alloc (.cells #[.nilIface] 135)):=fun w=>by kernel_rfl
 have c2:∀ (x y:Obj) (k:Nat),((w.alloc x).alloc y).cell? ⟨b,k,none⟩=w.cell? ⟨b,k,none⟩:=fun x y k=>cell_of_heap ((heap_alloc_old _ _ (by simp;omega)).trans (heap_alloc_old _ _ hb))
 have c3:∀ (x y z:Obj) (k:Nat),(((w.alloc x).alloc y).alloc z).cell? ⟨b,k,none⟩=w.cell? ⟨b,k,none⟩:=fun x y z k=>(cell_of_heap (heap_alloc_old _ _ (by simp;omega))).trans (c2 x y k)
 go_enter Go.Proofs.Tryz.func120,Go.Proofs.Tryz.ntmps120
 go_wp2
 refine wp_loop_rounds 3 ?_
 rw [rounds_succ]
 go_wp2
 rw [rounds_succ]
 go_wp2
 rw [rounds_succ]
 go_wp2
 refine wp_loop_rounds 3 ?_
 rw [rounds_succ]
 go_wp2
 rw [rounds_succ]
 go_wp2
 rw [rounds_succ]
 go_wp2
 go_ret
 refine ⟨w.heap.size+1,w.heap.size,1,rfl,⟨by omega,by simp,Nat.le_refl _,by simp;omega⟩,by simp only [World.cell?,alloc_at,alloc_size];simp<;>omega,by simp,by omega,fun j v hj=>?_,?_⟩
 ·match j,hj with
  | 0,hj=>simp at hj;subst hj;simp only [World.cell?,alloc_at,alloc_size];rw [if_neg (by omega),if_neg (by omega),if_pos trivial];rfl
  | j+1,hj=>simp at hj
 ·exact below_more (below_more (below_more (Below.refl _ _)))
theorem join_nn (b o c:Nat) (_ _:TypeId) (_ _:Value) (w:World) (_:b<w.heap.size) (h1:w.cell? ⟨b,o,none⟩=some (.nilIface)) (h2:w.cell? ⟨b,o+1,none⟩=some (.nilIface)) :
  Calls Go.Proofs.Tryz.prog 120 #[.slice (some ⟨b,o,none⟩) 2 c] w fun e w'=>e=.returned .nilIface∧w'=w:=by
 have n1:=fun (w:World) (t:TypeId) (v:Value)=>run_eql_iface_nil_left (P:=Go.Proofs.Tryz.prog) w t v Go.Proofs.Tryz.underlying135
 go_enter Go.Proofs.Tryz.func120,Go.Proofs.Tryz.ntmps120
 go_wp2
 refine wp_loop_rounds 3 ?_
 rw [rounds_succ]
 go_wp2
 rw [rounds_succ]
 go_wp2
 rw [rounds_succ]
 go_wp2
 go_ret
 exact ⟨rfl,rfl⟩
end Go.D3
namespace Go.D3
open Go Go.RowKit
set_option maxRecDepth 100000
abbrev eS:D:=.ifc 229 (.sent 0)
def errD (b:Bool):D:=match b with | true=>eS | false=>.nifc
theorem rd_eS {w:World} {A:Nat→Prop} {v:Value} (h:Rd w A v eS):∃ a t,v=.iface 229 (.pointer (some a))∧A 0∧w.cell? ⟨0,0,none⟩=some (.iface t (.pointer (some a))):=by
 cases h with
 | ifc h =>
  cases h with
  | sent hA hc=>exact ⟨_,_,rfl,hA,hc⟩
theorem eS_same {w:World} {a b:Addr} {t u:TypeId} (h1:w.cell? ⟨0,0,none⟩=some (.iface t (.pointer (some a)))) (h2:w.cell? ⟨0,0,none⟩=some (.iface u (.pointer (some b)))):a=b:=by
 rw [h1] at h2
 simp only [Option.some.injEq,Value.iface.injEq,Value.pointer.injEq] at h2
 exact h2.2
theorem ret_isNil:Ret Go.Proofs.Tryz.prog 102 [.v .nifc,.v eS] (.bool false):=by
 refine ret_lib0 (xs:=[.nifc,eS]) fun w A vs hg hA hvs hpre=>?_
 rw [args2 hvs]
 have e1:vs.getD 0 undef=.nilIface:=by have:=hpre 0 _ rfl;generalize vs.getD 0 undef=v at this;cases this;rfl
 obtain ⟨a,t,e2,_,_⟩:=rd_eS (hpre 1 _ rfl)
 rw [e1,e2]
 refine (is_nil a w).mono ?_
 rintro e w' ⟨rfl,rfl⟩
 exact ⟨_,rfl,.bool,Below.refl _ _⟩
theorem ret_isSame:Ret Go.Proofs.Tryz.prog 102 [.v eS,.v eS] (.bool true):=by
 refine ret_lib0 (xs:=[eS,eS]) fun w A vs hg hA hvs hpre=>?_
 rw [args2 hvs]
 obtain ⟨a,t,e1,_,c1⟩:=rd_eS (hpre 0 _ rfl)
 obtain ⟨b,u,e2,_,c2⟩:=rd_eS (hpre 1 _ rfl)
 rw [e1,e2,eS_same c1 c2]
 refine (is_same b w).mono ?_
 rintro e w' ⟨rfl,rfl⟩
 exact ⟨_,rfl,.bool,Below.refl _ _⟩
def joinD (l:List D):D:=.ifc 190 (.ptr [.slice .nifc l])
theorem ret_isJoin {r:List D}:Ret Go.Proofs.Tryz.prog 102 [.v (joinD (eS::r)),.v eS] (.bool true):=by
 refine ret_lib0 (xs:=[joinD (eS::r),eS]) fun w A vs hg hA hvs hpre=>?_
 rw [args2 hvs]
 obtain ⟨b,u,e2,_,c2⟩:=rd_eS (hpre 1 _ rfl)
 have h0:Rd w A (vs.getD 0 undef) (joinD (eS::r)):=hpre 0 _ rfl
 rw [e2]
 generalize vs.getD 0 undef=v0 at h0
 unfold joinD at h0
 cases h0 with
 | ifc h0 =>
  cases h0 with
  | @ptr pb po l hAb us hcells hr =>
   have hc:=hcells 0 _ rfl
   have hs:=hr 0 _ rfl
   generalize hL:eS::r=L at hs
   generalize us 0=v1 at hc hs
   cases hs with
   | nil=>cases hL
   | empty hm=>cases hL
   | @slice z L' sb so cap sz hAs hcc hm hz hzz hsz ws hcs hrs =>
    have hsz1:sz=1:=by simpa [D.cells] using hzz.symm
    subst hsz1
    have hca:cellAt L 1 0=some eS:=by rw [← hL];rfl
    have e3:=hrs 0 _ hca
    have c3:=hcs 0 _ hca
    obtain ⟨b',u',e4,_,c4⟩:=rd_eS e3
    rw [e4,eS_same c4 c2] at c3
    refine (is_join pb po sb so L.length cap b w (by simpa using hc) (by rw [← hL];simp) (by omega) (by simpa using c3)).mono ?_
    rintro e w' ⟨rfl,rfl⟩
    exact ⟨_,rfl,.bool,Below.refl _ _⟩
theorem rd_join {w w':World} {A':Nat→Prop} {l:List Value} {ds:List D} {e:Ending} (h:JoinP w l e w') (hl:l.length=ds.length) (hds:∀ (j:Nat) (d:D) (v:Value),ds[j]?=some d→l[j]?=some v→d.cells.length=1∧Rd w' A' v d) (hnew:∀ b,w.heap.size≤b→b<w'.heap.size→A' b) (hd1:∀ d∈ds,d.cells=[d]) (_:ds≠[]) :
  ∃ v,e=.returned v∧Own w' A' v (joinD ds) (fun _=>False)∧Below w.heap.size w w':=by
 obtain ⟨pb,sb,c,rfl,⟨n1,n2,n3,n4⟩,hc,hlc,hc2,hcell,hb⟩:=h
 refine ⟨_,rfl,.ifc (.ptr (hnew _ n1 n2) (fun _=>.slice (some ⟨sb,0,none⟩) l.length c) (fun j x hj=>?_) fun j x hj=>?_),hb⟩
 ·match j,hj with
  | 0,_=>simpa using hc
  | j+1,hj=>simp at hj
 ·match j,hj with
  | j+1,hj=>simp at hj
  | 0,hj =>
   simp at hj
   subst hj
   rw [hl]
   have hcg:∀ (j:Nat) (x:D),cellAt ds 1 j=some x→∃ v,l[j]?=some v∧ds[j]?=some x:=by
    intro j x hj
    unfold cellAt at hj
    rw [Nat.div_one,Nat.mod_one] at hj
    cases hd:ds[j]? with
    | none=>rw [hd] at hj;cases hj
    | some d =>
     rw [hd] at hj
     rw [Option.bind_some,hd1 d (List.mem_of_getElem? hd)] at hj
     simp only [List.getElem?_cons_zero,Option.some.injEq] at hj
     subst hj
     have hlt:=(List.getElem?_eq_some_iff.1 hd).1
     exact ⟨l[j],List.getElem?_eq_getElem (by omega),rfl⟩
   refine Rd.slice (sz:=1) (hnew _ n3 n4) (by omega) (by simp only [maxLen];omega) (by decide) rfl (fun x hx=>by rw [hd1 x hx];rfl) (fun j=>l.getD j undef) (fun j x hj=>?_) (fun j x hj=>?_)
   ·obtain ⟨v,h1,h2⟩:=hcg j x hj
    rw [Nat.zero_add,hcell j v h1,List.getD_eq_getElem?_getD,h1];rfl
   ·obtain ⟨v,h1,h2⟩:=hcg j x hj
    rw [List.getD_eq_getElem?_getD,h1]
    exact (hds j x v h2 h1).2
def joinE (a b:Bool):D:=match a,b with
 | false,false=>.nifc
 | true,true=>joinD [eS,eS]
 | _,_=>joinD [eS]
theorem ret_joinG {a b:Bool}:RetG Go.Proofs.Tryz.prog 120 [.sub 0 []] [.row .nifc [errD a,errD b]] (joinE a b) [.dead]:=by
 refine ⟨by decide +kernel,?_⟩
 intro w A vs gv Fs hg hA hvs hpre hgpre hgemp hFd hFs
 rw [args1 hvs]
 obtain ⟨bk,sz,cs,et,hv0,hbc,hcs,_,hsz0,hzz,hsz,hcell,hFb⟩:RowOk w A (RefOk w (nth [D.row .nifc [errD a,errD b]]) gv) (gv 0) (Fs 0) .nifc [errD a,errD b]:=hgpre 0
 have hs1:sz=1:=by simpa [D.cells] using hzz.symm
 subst hs1
 have hval:vs.getD 0 undef=gv 0:=by
  obtain ⟨_,hval,_⟩:=pl_sub (hpre 0 _ rfl)
  simpa [valAt] using hval.symm
 have hc1:∀ b:Bool,(errD b).cells=[errD b]:=fun b=>by cases b<;>rfl
 obtain ⟨v1,c1,r1⟩:∃ v1,w.cell? ⟨bk,0,none⟩=some v1∧Rd w A v1 (errD a):=by
  have h1:=(hcell 0 (errD a) (by unfold cellAt;simp [hc1])).1
  refine ⟨cs.getD 0 undef,cell_own hbc (by rw [hcs];simp),?_⟩
  cases a<;>exact pl_rd h1 (by intro k p h;cases h) (by intro k p h;cases h) (by intro k p h;cases h) (by intro k h;cases h) (by intro k h;cases h) (by intro k p n h;cases h)
 obtain ⟨v2,c2,r2⟩:∃ v2,w.cell? ⟨bk,0+1,none⟩=some v2∧Rd w A v2 (errD b):=by
  have h1:=(hcell 1 (errD b) (by unfold cellAt;simp [hc1])).1
  refine ⟨cs.getD 1 undef,cell_own hbc (by rw [hcs];simp),?_⟩
  cases b<;>exact pl_rd h1 (by intro k p h;cases h) (by intro k p h;cases h) (by intro k p h;cases h) (by intro k h;cases h) (by intro k h;cases h) (by intro k p n h;cases h)
 rw [hval,hv0]
 have hbk:bk<w.heap.size:=(hFs 0 bk hFb).1
 refine Calls.mono (R:=fun e w'=>∃ v:Value,e=.returned v∧Rd w' (fun b=>A b∨(w.heap.size≤b∧b<w'.heap.size)) v (joinE a b)∧Below w.heap.size w w') ?_ ?_
 rotate_left
 ·rintro e w' ⟨v,he,hrd,hb⟩
  have key:∀ b,b<w.heap.size→w'.heap[b]?=w.heap[b]?:=fun b h=>hb.block b h
  refine ⟨_,_,v,fun _=>False,gv,fun _ _=>False,⟨rfl,rfl⟩,he,hb.size,?_,fun _ _ h=>h,fun k=>?_,fun _ _ _ h=>h,fun _ _=>rfl,fun _ h=>h.elim,fun _ _ h=>h.elim,fun _ _ _ _ h=>h.elim,fun b h _=>key b h,hb.os,hb.tape,hb.output⟩
  ·have:=hrd.mono (A':=fun b=>A b∨(w.heap.size≤b∧b<w'.heap.size∧¬ False∧∀ j:Nat,¬ False)) (fun b h=>h.imp id fun h=>⟨h.1,h.2,id,fun _=>id⟩) fun _ _=>rfl
   cases a<;>cases b<;>exact .rd this
  ·match k with
   | 0=>exact Pl.dead
   | _+1=>exact Pl.dead
 show Calls _ _ #[.slice (some ⟨bk,0,none⟩) 2 2] _ _
 have fin:∀ {l:List Value} {ds:List D} {e:Ending} {w':World},JoinP w l e w'→l.length=ds.length→(∀ (j:Nat) (d:D) (v:Value),ds[j]?=some d→l[j]?=some v→d=eS∧Rd w A v eS)→ds≠[]→∃ v:Value,e=.returned v∧Rd w' (fun b=>A b∨(w.heap.size≤b∧b<w'.heap.size)) v (joinD ds)∧Below w.heap.size w w':=by
  intro l ds e w' h hl hd hne
  have hb:Below w.heap.size w w':=by obtain ⟨_,_,_,_,_,_,_,_,_,hb⟩:=h;exact hb
  obtain ⟨v,he,hown,hb⟩:=rd_join (A':=fun b=>A b∨(w.heap.size≤b∧b<w'.heap.size)) h hl (fun j d v h1 h2=>by obtain ⟨rfl,h3⟩:=hd j d v h1 h2;exact ⟨rfl,h3.mono (fun _ h=>.inl h) fun b hb'=>hb.block b (hA b hb')⟩) (fun b h1 h2=>.inr ⟨h1,h2⟩)
   (fun d hdm=>by obtain ⟨j,hj,rfl⟩:=List.getElem_of_mem hdm;obtain ⟨h1,_⟩:=hd j _ (l[j]'(by omega)) (List.getElem?_eq_getElem hj) (List.getElem?_eq_getElem (by omega));rw [h1];rfl) hne
  exact ⟨v,he,hown.rd (fun _ h=>h) fun _ h=>h.elim,hb⟩
 cases a<;>cases b
 ·cases r1;cases r2
  refine (join_nn bk 0 2 0 0 undef undef w hbk c1 c2).mono ?_
  rintro e w' ⟨rfl,rfl⟩
  exact ⟨_,rfl,.nifc,Below.refl _ _⟩
 ·cases r1
  obtain ⟨a2,t2,rfl,_,_⟩:=rd_eS r2
  refine (join_ne bk 0 2 0 229 undef _ w hbk c1 c2).mono ?_
  intro e w' h
  refine fin h rfl (fun j d v h1 h2=>?_) (by simp)
  match j,h1,h2 with
  | 0,h1,h2=>simp at h1 h2;subst h1;subst h2;exact ⟨rfl,r2⟩
  | j+1,h1,_=>simp at h1
 ·cases r2
  obtain ⟨a2,t2,rfl,_,_⟩:=rd_eS r1
  refine (join_en bk 0 2 229 0 _ undef w hbk c1 c2).mono ?_
  intro e w' h
  refine fin h rfl (fun j d v h1 h2=>?_) (by simp)
  match j,h1,h2 with
  | 0,h1,h2=>simp at h1 h2;subst h1;subst h2;exact ⟨rfl,r1⟩
  | j+1,h1,_=>simp at h1
 ·obtain ⟨a1,t1,rfl,_,_⟩:=rd_eS r1
  obtain ⟨a2,t2,rfl,_,_⟩:=rd_eS r2
  refine (join_ee bk 0 2 229 229 _ _ w hbk c1 c2).mono ?_
  intro e w' h
  refine fin h rfl (fun j d v h1 h2=>?_) (by simp)
  match j,h1,h2 with
  | 0,h1,h2=>simp at h1 h2;subst h1;subst h2;exact ⟨rfl,r1⟩
  | 1,h1,h2=>simp at h1 h2;subst h1;subst h2;exact ⟨rfl,r2⟩
  | j+2,h1,_=>simp at h1
end Go.D3
namespace Go.D3
open Go Go.RowKit Go.Proofs
set_option maxRecDepth 100000
def noDig (x:Nat):Bool:=decide (x<48) || decide (57<x)
theorem noDig_gives (x:Nat) (hx:x≤1114111) (W:World):FnGives Go.Proofs.Tryz.prog 135 #[] #[encR x] (.bool (noDig x)) W:=by
 unfold FnGives
 show Calls Go.Proofs.Tryz.prog 135 #[.int .i32 x] W _
 go_enter Go.Proofs.Tryz.func135,Go.Proofs.Tryz.ntmps135
 go_wp2
 all_goals go_ret
 all_goals refine ⟨?_,0,rfl⟩
 all_goals simp [noDig]
 ·have e1:(decide ((x:Int)<48))=decide (x<48):=decide_eq_decide.2 (by omega)
  have e2:(decide ((57:Int)<(x:Int)))=decide (57<x):=decide_eq_decide.2 (by omega)
  rw [e1,e2]
 ·omega
theorem ret_indexNoDig {s:List UInt8}:Ret Go.Proofs.Tryz.prog 134 [.v (.str s),.v (.fn 135 [])] (.int .i64 (Lib.idxFunc noDig true ⟨s.toArray⟩)):=by
 refine ret_lib0 (xs:=[.str s,.fn 135 []]) fun w A vs hg hA hvs hpre=>?_
 rw [args2 hvs]
 obtain ⟨e1,l1⟩:=rd_str (hpre 0 _ rfl)
 have e2:vs.getD 1 undef=.func (.func 135) #[] #[]:=by
  have:=hpre 1 _ rfl
  generalize vs.getD 1 undef=v at this
  cases this with
  | @fn f cs l hs hr=>rw [Array.eq_empty_of_size_eq_zero hs]
 rw [e1,e2]
 refine (Tryz.strings_IndexFunc_runes 135 #[] (fun args w=>by kernel_rfl) noDig ⟨s.toArray⟩ w fun W x hx _=>noDig_gives x hx W).mono ?_
 rintro e w' ⟨rfl,hb⟩
 refine ⟨_,rfl,.int ?_,hb⟩
 have h:=Lib.idxFuncFrom_range noDig true ⟨s.toArray⟩ s.length 0
 have hsz:(⟨s.toArray⟩:ByteArray).size=s.length:=by show s.toArray.size=_;simp
 unfold Lib.idxFunc
 rw [hsz] at h ⊢
 simp only [maxLen] at l1
 simp [IntKind.has,IntKind.min,IntKind.max,IntKind.signed,IntKind.bits]
 omega
end Go.D3
namespace Go.D3
open Go
set_option maxRecDepth 100000
structure Chg where
 kd:Int
 fi:Int
 se:Int
 th:Int
def Chg.cells (x:Chg):List D:=[.int .i64 x.kd,.int .i64 x.fi,.int .i64 x.se,.int .i64 x.th]
def Chg.d (x:Chg):D:=.agg x.cells
def Chg.zero:Chg:=⟨0,0,0,0⟩
def Chg.cost (_:Chg):Nat:=0
theorem slice_Chg:D.slice (.agg [.int .i64 0,.int .i64 0,.int .i64 0,.int .i64 0]) []=lst Chg.d Chg.zero []:=rfl
theorem rep_Chg {n:Nat}:D.slice (.agg [.int .i64 0,.int .i64 0,.int .i64 0,.int .i64 0]) (List.replicate n (.agg [.int .i64 0,.int .i64 0,.int .i64 0,.int .i64 0]))=lst Chg.d Chg.zero (List.replicate n Chg.zero):=by unfold lst;rw [List.map_replicate];rfl
theorem setCs_Chg {l:List Chg} {i:Nat} {kd:Int} {fi:Int} {se:Int} {th:Int}:setCs (.o (lst Chg.d Chg.zero l)) [(i,0)] 0 [.int .i64 kd,.int .i64 fi,.int .i64 se,.int .i64 th]=.o (lst Chg.d Chg.zero (l.set i ⟨kd,fi,se,th⟩)):=setCs_lst (n:=4) (fun _=>⟨_,rfl,rfl⟩) rfl
attribute [go_sem] Chg.cells.eq_1 Chg.d.eq_1 slice_Chg rep_Chg
theorem app_Chg {l:List Chg} {kd:Int} {fi:Int} {se:Int} {th:Int}:(lst Chg.d Chg.zero l).appL [.agg [.int .i64 kd,.int .i64 fi,.int .i64 se,.int .i64 th]]=lst Chg.d Chg.zero (l++[⟨kd,fi,se,th⟩]):=lst_app1 (f:=Chg.d) (x:=⟨kd,fi,se,th⟩)
attribute [go_sem high] setCs_Chg app_Chg
theorem nv_Chg (x:Chg):x.d.novw=true:=by simp only [Chg.d,Chg.cells,D.novw,novwL,Bool.and_self]
structure Pth where
 st:Int
 ed:List (Int)
def Pth.cells (x:Pth):List D:=[.int .i64 x.st,ints x.ed]
def Pth.d (x:Pth):D:=.agg x.cells
def Pth.zero:Pth:=⟨0,[]⟩
def Pth.cost (x:Pth):Nat:=x.ed.length
theorem slice_Pth:D.slice (.agg [.int .i64 0,ints []]) []=lst Pth.d Pth.zero []:=rfl
theorem rep_Pth {n:Nat}:D.slice (.agg [.int .i64 0,ints []]) (List.replicate n (.agg [.int .i64 0,ints []]))=lst Pth.d Pth.zero (List.replicate n Pth.zero):=by unfold lst;rw [List.map_replicate];rfl
theorem setCs_Pth {l:List Pth} {i:Nat} {st:Int} {ed:List (Int)}:setCs (.o (lst Pth.d Pth.zero l)) [(i,0)] 0 [.int .i64 st,ints ed]=.o (lst Pth.d Pth.zero (l.set i ⟨st,ed⟩)):=setCs_lst (n:=2) (fun _=>⟨_,rfl,rfl⟩) rfl
attribute [go_sem] Pth.cells.eq_1 Pth.d.eq_1 slice_Pth rep_Pth
theorem app_Pth {l:List Pth} {st:Int} {ed:List (Int)}:(lst Pth.d Pth.zero l).appL [.agg [.int .i64 st,ints ed]]=lst Pth.d Pth.zero (l++[⟨st,ed⟩]):=lst_app1 (f:=Pth.d) (x:=⟨st,ed⟩)
attribute [go_sem high] setCs_Pth app_Pth
theorem nv_Pth (x:Pth):x.d.novw=true:=by simp only [Pth.d,Pth.cells,D.novw,novwL,nv_ints,Bool.and_self]
structure Sch where
 nd:Int
 fr:List (Int)
 to:List (Int)
 lf:List (Pth)
 rt:List (Pth)
def Sch.cells (x:Sch):List D:=[.int .i64 x.nd,ints x.fr,ints x.to,lst Pth.d Pth.zero x.lf,lst Pth.d Pth.zero x.rt]
def Sch.d (x:Sch):D:=.agg x.cells
def Sch.zero:Sch:=⟨0,[],[],[],[]⟩
def Sch.cost (x:Sch):Nat:=x.fr.length+x.to.length+costL Pth.cost x.lf+costL Pth.cost x.rt
theorem slice_Sch:D.slice (.agg [.int .i64 0,ints [],ints [],lst Pth.d Pth.zero [],lst Pth.d Pth.zero []]) []=lst Sch.d Sch.zero []:=rfl
theorem rep_Sch {n:Nat}:D.slice (.agg [.int .i64 0,ints [],ints [],lst Pth.d Pth.zero [],lst Pth.d Pth.zero []]) (List.replicate n (.agg [.int .i64 0,ints [],ints [],lst Pth.d Pth.zero [],lst Pth.d Pth.zero []]))=lst Sch.d Sch.zero (List.replicate n Sch.zero):=by unfold lst;rw [List.map_replicate];rfl
theorem setCs_Sch {l:List Sch} {i:Nat} {nd:Int} {fr:List (Int)} {to:List (Int)} {lf:List (Pth)} {rt:List (Pth)}:setCs (.o (lst Sch.d Sch.zero l)) [(i,0)] 0 [.int .i64 nd,ints fr,ints to,lst Pth.d Pth.zero lf,lst Pth.d Pth.zero rt]=.o (lst Sch.d Sch.zero (l.set i ⟨nd,fr,to,lf,rt⟩)):=setCs_lst (n:=5) (fun _=>⟨_,rfl,rfl⟩) rfl
attribute [go_sem] Sch.cells.eq_1 Sch.d.eq_1 slice_Sch rep_Sch
theorem app_Sch {l:List Sch} {nd:Int} {fr:List (Int)} {to:List (Int)} {lf:List (Pth)} {rt:List (Pth)}:(lst Sch.d Sch.zero l).appL [.agg [.int .i64 nd,ints fr,ints to,lst Pth.d Pth.zero lf,lst Pth.d Pth.zero rt]]=lst Sch.d Sch.zero (l++[⟨nd,fr,to,lf,rt⟩]):=lst_app1 (f:=Sch.d) (x:=⟨nd,fr,to,lf,rt⟩)
attribute [go_sem high] setCs_Sch app_Sch
theorem nv_Sch (x:Sch):x.d.novw=true:=by simp only [Sch.d,Sch.cells,D.novw,novwL,nv_ints,nv_lst nv_Pth,Bool.and_self]
structure Dat where
 sz:List (Int)
 mp:List (List (Int))
def Dat.cells (x:Dat):List D:=[ints x.sz,intss x.mp]
def Dat.d (x:Dat):D:=.agg x.cells
def Dat.zero:Dat:=⟨[],[]⟩
def Dat.cost (x:Dat):Nat:=x.sz.length+costL List.length x.mp
theorem slice_Dat:D.slice (.agg [ints [],intss []]) []=lst Dat.d Dat.zero []:=rfl
theorem rep_Dat {n:Nat}:D.slice (.agg [ints [],intss []]) (List.replicate n (.agg [ints [],intss []]))=lst Dat.d Dat.zero (List.replicate n Dat.zero):=by unfold lst;rw [List.map_replicate];rfl
theorem setCs_Dat {l:List Dat} {i:Nat} {sz:List (Int)} {mp:List (List (Int))}:setCs (.o (lst Dat.d Dat.zero l)) [(i,0)] 0 [ints sz,intss mp]=.o (lst Dat.d Dat.zero (l.set i ⟨sz,mp⟩)):=setCs_lst (n:=2) (fun _=>⟨_,rfl,rfl⟩) rfl
attribute [go_sem] Dat.cells.eq_1 Dat.d.eq_1 slice_Dat rep_Dat
theorem app_Dat {l:List Dat} {sz:List (Int)} {mp:List (List (Int))}:(lst Dat.d Dat.zero l).appL [.agg [ints sz,intss mp]]=lst Dat.d Dat.zero (l++[⟨sz,mp⟩]):=lst_app1 (f:=Dat.d) (x:=⟨sz,mp⟩)
attribute [go_sem high] setCs_Dat app_Dat
theorem nv_Dat (x:Dat):x.d.novw=true:=by simp only [Dat.d,Dat.cells,D.novw,novwL,nv_ints,nv_intss,Bool.and_self]
structure Hst where
 sc:Sch
 dt:List (Dat)
 tx:List (List (Chg))
 gd:Int
def Hst.cells (x:Hst):List D:=[.int .i64 x.sc.nd,ints x.sc.fr,ints x.sc.to,lst Pth.d Pth.zero x.sc.lf,lst Pth.d Pth.zero x.sc.rt,lst Dat.d Dat.zero x.dt,lst (lst Chg.d Chg.zero) [] x.tx,.int .i64 x.gd]
def Hst.d (x:Hst):D:=.agg x.cells
def Hst.zero:Hst:=⟨Sch.zero,[],[],0⟩
def Hst.cost (x:Hst):Nat:=Sch.cost x.sc+costL Dat.cost x.dt+costL (costL Chg.cost) x.tx
theorem slice_Hst:D.slice (.agg [.int .i64 0,ints [],ints [],lst Pth.d Pth.zero [],lst Pth.d Pth.zero [],lst Dat.d Dat.zero [],lst (lst Chg.d Chg.zero) [] [],.int .i64 0]) []=lst Hst.d Hst.zero []:=rfl
theorem rep_Hst {n:Nat}:D.slice (.agg [.int .i64 0,ints [],ints [],lst Pth.d Pth.zero [],lst Pth.d Pth.zero [],lst Dat.d Dat.zero [],lst (lst Chg.d Chg.zero) [] [],.int .i64 0]) (List.replicate n (.agg [.int .i64 0,ints [],ints [],lst Pth.d Pth.zero [],lst Pth.d Pth.zero [],lst Dat.d Dat.zero [],lst (lst Chg.d Chg.zero) [] [],.int .i64 0]))=lst Hst.d Hst.zero (List.replicate n Hst.zero):=by unfold lst;rw [List.map_replicate];rfl
theorem setCs_Hst {l:List Hst} {i:Nat} {scnd:Int} {scfr:List (Int)} {scto:List (Int)} {sclf:List (Pth)} {scrt:List (Pth)} {dt:List (Dat)} {tx:List (List (Chg))} {gd:Int}:setCs (.o (lst Hst.d Hst.zero l)) [(i,0)] 0 [.int .i64 scnd,ints scfr,ints scto,lst Pth.d Pth.zero sclf,lst Pth.d Pth.zero scrt,lst Dat.d Dat.zero dt,lst (lst Chg.d Chg.zero) [] tx,.int .i64 gd]=.o (lst Hst.d Hst.zero (l.set i ⟨⟨scnd,scfr,scto,sclf,scrt⟩,dt,tx,gd⟩)):=setCs_lst (n:=8) (fun _=>⟨_,rfl,rfl⟩) rfl
attribute [go_sem] Hst.cells.eq_1 Hst.d.eq_1 slice_Hst rep_Hst
theorem app_Hst {l:List Hst} {scnd:Int} {scfr:List (Int)} {scto:List (Int)} {sclf:List (Pth)} {scrt:List (Pth)} {dt:List (Dat)} {tx:List (List (Chg))} {gd:Int}:(lst Hst.d Hst.zero l).appL [.agg [.int .i64 scnd,ints scfr,ints scto,lst Pth.d Pth.zero sclf,lst Pth.d Pth.zero scrt,lst Dat.d Dat.zero dt,lst (lst Chg.d Chg.zero) [] tx,.int .i64 gd]]=lst Hst.d Hst.zero (l++[⟨⟨scnd,scfr,scto,sclf,scrt⟩,dt,tx,gd⟩]):=lst_app1 (f:=Hst.d) (x:=⟨⟨scnd,scfr,scto,sclf,scrt⟩,dt,tx,gd⟩)
attribute [go_sem high] setCs_Hst app_Hst
def inR (n lo hi:Int):Bool:=decide (lo≤n)&&decide (n≤hi)
def mapB (n:Int) (f:List Int):Bool:=f.all fun y=>decide (0≤y)&&decide (y<n)
def c_spec_l01In:C := (.seq (.ops [] [⟨none,.asg 3 (.k (.bool false))⟩] []) (.seq (.ops [] [⟨none,.mv (.v 0)⟩,⟨none,.mv (.v 1)⟩,⟨none,.bin .geq (.t 0) (.t 1)⟩,⟨none,.mv (.t 2)⟩,⟨some (3,true),.mv (.v 0)⟩,⟨some (3,true),.mv (.v 2)⟩,⟨some (3,true),.bin .leq (.t 4) (.t 5)⟩,⟨none,.pick (.t 3) (.t 6) (.k (.bool false))⟩,⟨none,.asg 3 (.t 7)⟩] []) .ret))
def tr_spec_l01In:List Nat:=[0,1,2,6]
def rs_spec_l01In:List RS:=[.t 3]
theorem ok_spec_l01In:fnOk Go.Proofs.Tryz.prog Go.Proofs.Tryz.f30 tr_spec_l01In c_spec_l01In 3 rs_spec_l01In=true:=by decide +kernel
theorem ret_spec_l01In (n lo hi:Int):Ret Go.Proofs.Tryz.prog 30 [.v (.int .i64 n),.v (.int .i64 lo),.v (.int .i64 hi)] (.bool (inR n lo hi)):=by
 unfold inR
 refine ret_fn Go.Proofs.Tryz.func30 ok_spec_l01In rfl (show 3<500 by decide) rfl ?_;unfold c_spec_l01In tr_spec_l01In rs_spec_l01In;simp only [go_sem,Nat.reduceLT,Nat.reduceAdd,Nat.reduceSub,↓reduceIte]
def c_impl_inRange:C := (.seq (.ops [] [⟨none,.asg 3 (.k (.bool false))⟩] []) (.seq (.ops [] [⟨none,.mv (.v 0)⟩,⟨none,.mv (.v 1)⟩,⟨none,.bin .geq (.t 0) (.t 1)⟩,⟨none,.mv (.t 2)⟩,⟨some (3,true),.mv (.v 0)⟩,⟨some (3,true),.mv (.v 2)⟩,⟨some (3,true),.bin .leq (.t 4) (.t 5)⟩,⟨none,.pick (.t 3) (.t 6) (.k (.bool false))⟩,⟨none,.asg 3 (.t 7)⟩] []) .ret))
def tr_impl_inRange:List Nat:=[0,1,2,6]
def rs_impl_inRange:List RS:=[.t 3]
theorem ok_impl_inRange:fnOk Go.Proofs.Tryz.prog Go.Proofs.Tryz.f31 tr_impl_inRange c_impl_inRange 3 rs_impl_inRange=true:=by decide +kernel
theorem ret_impl_inRange (n lo hi:Int):Ret Go.Proofs.Tryz.prog 31 [.v (.int .i64 n),.v (.int .i64 lo),.v (.int .i64 hi)] (.bool (inR n lo hi)):=by
 unfold inR
 refine ret_fn Go.Proofs.Tryz.func31 ok_impl_inRange rfl (show 3<500 by decide) rfl ?_;unfold c_impl_inRange tr_impl_inRange rs_impl_inRange;simp only [go_sem,Nat.reduceLT,Nat.reduceAdd,Nat.reduceSub,↓reduceIte]
def c_spec_l01Map:C := (.seq (.ops [] [⟨none,.asg 2 (.k (.bool false))⟩] []) (.seq (.seq (.ops [] [⟨none,.asg 3 (.i 0)⟩] []) (.block 0 (.loop (.seq (.opc [] [⟨none,.mv (.v 3)⟩,⟨none,.mv (.v 1)⟩,⟨none,.len (.t 1)⟩,⟨none,.bin .lss (.t 0) (.t 2)⟩] [] (.t 3) .skip (.exit 0)) (.seq (.block 1 (.opc [] [⟨none,.mv (.v 1)⟩,⟨none,.mv (.v 3)⟩,⟨none,.idxA 1 (.t 0) (.t 1)⟩,⟨none,.ld (.t 2)⟩,⟨none,.bin .lss (.t 3) (.i 0)⟩,⟨none,.mv (.t 4)⟩,⟨some (5,false),.mv (.v 1)⟩,⟨some (5,false),.mv (.v 3)⟩,⟨some (5,false),.idxA 1 (.t 6) (.t 7)⟩,⟨some (5,false),.ld (.t 8)⟩,⟨some (5,false),.mv (.v 0)⟩,⟨some (5,false),.bin .geq (.t 9) (.t 10)⟩,⟨none,.pick (.t 5) (.k (.bool true)) (.t 11)⟩] [] (.t 12) (.seq (.ops [] [⟨none,.asg 2 (.k (.bool false))⟩] []) .ret) .skip)) (.ops [] [⟨none,.mv (.v 3)⟩,⟨none,.bin .add (.t 0) (.i 1)⟩,⟨none,.asg 3 (.t 1)⟩] [])))))) (.seq (.ops [] [⟨none,.asg 2 (.k (.bool true))⟩] []) .ret)))
def tr_spec_l01Map:List Nat:=[0,1,4,5]
def rs_spec_l01Map:List RS:=[.t 2]
theorem ok_spec_l01Map:fnOk Go.Proofs.Tryz.prog Go.Proofs.Tryz.f96 tr_spec_l01Map c_spec_l01Map 2 rs_spec_l01Map=true:=by decide +kernel
theorem ret_spec_l01Map (n:Int) (f:List Int):Ret Go.Proofs.Tryz.prog 96 [.v (.int .i64 n),.v (ints f)] (.bool (mapB n f)):=by
 refine ret_wf fun hw=>?_
 simp only [argsWf,wfd_lst] at hw
 obtain ⟨-,⟨hw,-⟩,-⟩:=hw
 refine ret_fn Go.Proofs.Tryz.func96 ok_spec_l01Map rfl (show 2<500 by decide) rfl ?_;unfold c_spec_l01Map tr_spec_l01Map rs_spec_l01Map;simp only [go_sem,Nat.reduceLT,Nat.reduceAdd,↓reduceIte]
 refine loop_set [] (fun (i:Nat)=>[(3,.int .i64 i)]) (fun i=>i≤f.length∧mapB n (f.take i)=true) (fun i=>f.length-i) 0 rfl ⟨Nat.zero_le _,rfl⟩ rfl ?_
 rintro i ⟨hi,ha⟩
 simp only [go_sem,Nat.reduceLT,Nat.reduceAdd,Nat.reduceSub,↓reduceIte]
 (repeat' (first | (refine And.intro ?_ ?_) | intro))<;>(try (first | trivial | assumption | omega | (simp_all;done) | (simp_all;omega)))
 ·rename_i h1 h2
  symm;refine all_stop (d:=0) h1 ?_
  simp only [Bool.or_eq_true,decide_eq_true_eq] at h2
  simp only [Bool.and_eq_false_iff,decide_eq_false_iff_not];omega
 ·rename_i h1 h2
  simp only [Bool.or_eq_false_iff,decide_eq_false_iff_not] at h2
  exact ⟨i+1,⟨by omega,all_step (d:=0) h1 ha (by simp only [Bool.and_eq_true,decide_eq_true_eq];omega)⟩,by omega,by rw [wrap_lt h1 hw]⟩
 ·rename_i h1
  exact (all_end (by omega) ha).symm
def c_impl_within:C := (.seq (.ops [] [⟨none,.asg 2 (.k (.bool false))⟩] []) (.seq (.seq (.ops [5] [⟨none,.asg 4 (.v 0)⟩,⟨none,.len (.v 4)⟩,⟨none,.asg 6 (.i 0)⟩] [(5,1)]) (.block 0 (.loop (.opq [] [⟨none,.bin .lss (.v 6) (.v 5)⟩] [] (.t 0) .skip (.exit 0) (.seq (.block 1 (.seq (.ops [] [⟨none,.idxA 1 (.v 4) (.v 6)⟩,⟨none,.ld (.t 0)⟩,⟨none,.asg 3 (.t 1)⟩] []) (.opc [] [⟨none,.mv (.v 3)⟩,⟨none,.mv (.v 1)⟩,⟨none,.bin .sub (.t 1) (.i 1)⟩,⟨none,.call 31 [(.t 0),(.i 0),(.t 2)]⟩,⟨none,.not (.t 3)⟩] [] (.t 4) (.seq (.ops [] [⟨none,.asg 2 (.k (.bool false))⟩] []) .ret) .skip))) (.ops [] [⟨none,.bin .add (.v 6) (.i 1)⟩,⟨none,.asg 6 (.t 0)⟩] [])))))) (.seq (.ops [] [⟨none,.asg 2 (.k (.bool true))⟩] []) .ret)))
def tr_impl_within:List Nat:=[0,1,4,6,7,8,9]
def rs_impl_within:List RS:=[.t 2]
theorem ok_impl_within:fnOk Go.Proofs.Tryz.prog Go.Proofs.Tryz.f113 tr_impl_within c_impl_within 2 rs_impl_within=true:=by decide +kernel
theorem inR_pred {y n:Int} (hn : -4611686018427387904≤n) (hn2:n≤9223372036854775807):inR y 0 (IntKind.i64.wrap (n-1))=(decide (0≤y)&&decide (y<n)):=by
 unfold inR
 rw [wrap_of_has ⟨by simp [IntKind.min,IntKind.signed,IntKind.bits];omega,by simp [IntKind.max,IntKind.signed,IntKind.bits];omega⟩]
 congr 1
 exact decide_eq_decide.2 ⟨fun h=>by omega,fun h=>by omega⟩
theorem ret_impl_within (n:Int) (f:List Int) (hn : 0≤n):Ret Go.Proofs.Tryz.prog 113 [.v (ints f),.v (.int .i64 n)] (.bool (mapB n f)):=by
 refine ret_wf fun hw=>?_
 simp only [argsWf,wfd_lst,D.wfd,IntKind.has,IntKind.max,IntKind.signed,IntKind.bits] at hw
 obtain ⟨⟨hw,-⟩,⟨-,hn2⟩,-⟩:=hw
 have hp:=fun y=>inR_pred (y:=y) (n:=n) (by omega) (by simpa using hn2)
 refine ret_fn Go.Proofs.Tryz.func113 ok_impl_within rfl (show 2<500 by decide) rfl ?_;unfold c_impl_within tr_impl_within rs_impl_within;simp only [go_sem,Nat.reduceLT,Nat.reduceAdd,Nat.reduceSub,↓reduceIte]
 refine loop_set [3] (fun (i:Nat)=>[(6,.int .i64 i)]) (fun i=>i≤f.length∧mapB n (f.take i)=true) (fun i=>f.length-i) 0 rfl ⟨Nat.zero_le _,rfl⟩ rfl ?_
 rintro i ⟨hi,ha⟩
 simp only [go_sem,Nat.reduceLT,Nat.reduceAdd,Nat.reduceSub,↓reduceIte]
 refine ⟨fun h=>⟨h,call_of (ret_impl_inRange _ _ _) rfl (.inl rfl) ?_⟩,fun h=>(all_end (by omega) ha).symm⟩
 simp only [go_sem,Nat.reduceLT,Nat.reduceAdd,Nat.reduceSub,↓reduceIte]
 rw [hp]
 refine ⟨fun h2=>?_,fun h2=>⟨i+1,⟨by omega,all_step (d:=0) h ha (by simpa using h2)⟩,by omega,by rw [wrap_lt h hw]⟩⟩
 exact (all_stop (d:=0) h (by rw [Bool.not_eq_true'] at h2;exact h2)).symm
theorem scal_ints (a:List Int):∀ e∈a.map (D.int .i64),e.scal=true:=fun e he=>by
 obtain ⟨x,_,rfl⟩:=List.mem_map.1 he;rfl
def c_impl_clone:C := (.seq (.ops [] [⟨none,.asg 1 (.k (.nils (.int .i64 0)))⟩] []) (.seq (.ops [] [⟨none,.bldS (.int .i64 0) 0 []⟩,⟨none,.mv (.v 0)⟩,⟨none,.app 1 8 (.t 0) (.t 1)⟩,⟨none,.asg 1 (.t 2)⟩] []) .ret))
def tr_impl_clone:List Nat:=[0,2]
def rs_impl_clone:List RS:=[.t 1]
theorem ok_impl_clone:fnOk Go.Proofs.Tryz.prog Go.Proofs.Tryz.f71 tr_impl_clone c_impl_clone 1 rs_impl_clone=true:=by decide +kernel
theorem ret_impl_clone (a:List Int) (hs:a.length≤1048576):Ret Go.Proofs.Tryz.prog 71 [.v (ints a)] (ints a):=by
 refine ret_fn Go.Proofs.Tryz.func71 ok_impl_clone rfl (show 1<500 by decide) rfl ?_;unfold c_impl_clone tr_impl_clone rs_impl_clone;simp only [go_sem,Nat.reduceLT,Nat.reduceAdd,Nat.reduceSub,↓reduceIte]
 exact ⟨scal_ints a,by rw [List.length_map];omega⟩
def c_spec_l01Own:C := (.seq (.ops [] [⟨none,.asg 1 (.k (.nils (.int .i64 0)))⟩] []) (.seq (.ops [] [⟨none,.bldS (.int .i64 0) 0 []⟩,⟨none,.mv (.v 0)⟩,⟨none,.app 1 8 (.t 0) (.t 1)⟩,⟨none,.asg 1 (.t 2)⟩] []) .ret))
def tr_spec_l01Own:List Nat:=[0,2]
def rs_spec_l01Own:List RS:=[.t 1]
theorem ok_spec_l01Own:fnOk Go.Proofs.Tryz.prog Go.Proofs.Tryz.f26 tr_spec_l01Own c_spec_l01Own 1 rs_spec_l01Own=true:=by decide +kernel
theorem ret_spec_l01Own (a:List Int) (hs:a.length≤1048576):Ret Go.Proofs.Tryz.prog 26 [.v (ints a)] (ints a):=by
 refine ret_fn Go.Proofs.Tryz.func26 ok_spec_l01Own rfl (show 1<500 by decide) rfl ?_;unfold c_spec_l01Own tr_spec_l01Own rs_spec_l01Own;simp only [go_sem,Nat.reduceLT,Nat.reduceAdd,Nat.reduceSub,↓reduceIte]
 exact ⟨scal_ints a,by rw [List.length_map];omega⟩
def c_impl_clones:C := (.seq (.ops [] [⟨none,.asg 1 (.k (.nils (ints [])))⟩] []) (.seq (.ops [] [⟨none,.mv (.v 0)⟩,⟨none,.len (.t 0)⟩,⟨none,.mkS (ints []) 24 (.i 0) (.t 1)⟩,⟨none,.asg 2 (.t 2)⟩] []) (.seq (.seq (.ops [5] [⟨none,.asg 4 (.v 0)⟩,⟨none,.len (.v 4)⟩,⟨none,.asg 6 (.i 0)⟩] [(5,1)]) (.block 0 (.loop (.opq [] [⟨none,.bin .lss (.v 6) (.v 5)⟩] [] (.t 0) .skip (.exit 0) (.seq (.block 1 (.seq (.ops [] [⟨none,.idxA 1 (.v 4) (.v 6)⟩,⟨none,.ld (.t 0)⟩,⟨none,.asg 3 (.t 1)⟩] []) (.ops [] [⟨none,.mv (.v 2)⟩,⟨none,.mv (.v 3)⟩,⟨none,.call 71 [(.t 1)]⟩,⟨none,.bldS (ints []) 1 [(0,(.t 2))]⟩,⟨none,.app 1 24 (.t 0) (.t 3)⟩,⟨none,.asg 2 (.t 4)⟩] []))) (.ops [] [⟨none,.bin .add (.v 6) (.i 1)⟩,⟨none,.asg 6 (.t 0)⟩] [])))))) (.seq (.ops [] [⟨none,.mv (.v 2)⟩,⟨none,.asg 1 (.t 0)⟩] []) .ret))))
def tr_impl_clones:List Nat:=[0,2,3,5,9,10,11]
def rs_impl_clones:List RS:=[.t 1]
theorem ok_impl_clones:fnOk Go.Proofs.Tryz.prog Go.Proofs.Tryz.f72 tr_impl_clones c_impl_clones 1 rs_impl_clones=true:=by decide +kernel
theorem ret_impl_clones (a:List (List Int)) (hs:costL List.length a≤1048576):Ret Go.Proofs.Tryz.prog 72 [.v (intss a)] (intss a):=by
 have hl:a.length≤1048576:=by unfold costL at hs;omega
 have hm:a.length≤maxLen:=by simp only [maxLen];omega
 refine ret_fn Go.Proofs.Tryz.func72 ok_impl_clones rfl (show 1<500 by decide) rfl ?_;unfold c_impl_clones tr_impl_clones rs_impl_clones;simp only [go_sem,Nat.reduceLT,Nat.reduceAdd,Nat.reduceSub,↓reduceIte]
 refine ⟨⟨by omega,by omega⟩,?_⟩
 refine loop_set [3] (fun (i:Nat)=>[(6,.int .i64 i),(2,.o (intss (a.take i)))]) (fun i=>i≤a.length) (fun i=>a.length-i) 0 (by simp only [go_sem,Nat.reduceLT,↓reduceIte];rfl) (Nat.zero_le _) rfl ?_
 rintro i hi
 simp only [go_sem,Nat.reduceLT,Nat.reduceAdd,Nat.reduceSub,Nat.reduceBEq,↓reduceIte]
 refine ⟨fun h=>⟨h,call_of (ret_impl_clone (a.getD i []) (Nat.le_trans (cost_getD (cost:=List.length) h _) hs)) rfl (.inl (nv_ints _)) ?_⟩,fun h=>by rw [List.take_of_length_le (by omega)]⟩
 simp only [go_sem,Nat.reduceLT,Nat.reduceAdd,Nat.reduceSub,Nat.reduceEqDiff,Nat.reduceBEq,↓reduceIte]
 refine ⟨by rw [List.length_take];omega,i+1,by omega,by omega,by rw [take_snoc h [],wrap_lt h hm]⟩
def c_spec_l01Own2:C := (.seq (.ops [] [⟨none,.asg 1 (.k (.nils (ints [])))⟩] []) (.seq (.ops [] [⟨none,.bldS (ints []) 0 []⟩,⟨none,.asg 2 (.t 0)⟩] []) (.seq (.seq (.ops [] [⟨none,.asg 3 (.i 0)⟩] []) (.block 0 (.loop (.seq (.opc [] [⟨none,.mv (.v 3)⟩,⟨none,.mv (.v 0)⟩,⟨none,.len (.t 1)⟩,⟨none,.bin .lss (.t 0) (.t 2)⟩] [] (.t 3) .skip (.exit 0)) (.seq (.block 1 (.ops [] [⟨none,.mv (.v 2)⟩,⟨none,.mv (.v 0)⟩,⟨none,.mv (.v 3)⟩,⟨none,.idxA 1 (.t 1) (.t 2)⟩,⟨none,.ld (.t 3)⟩,⟨none,.call 26 [(.t 4)]⟩,⟨none,.bldS (ints []) 1 [(0,(.t 5))]⟩,⟨none,.app 1 24 (.t 0) (.t 6)⟩,⟨none,.asg 2 (.t 7)⟩] [])) (.ops [] [⟨none,.mv (.v 3)⟩,⟨none,.bin .add (.t 0) (.i 1)⟩,⟨none,.asg 3 (.t 1)⟩] [])))))) (.seq (.ops [] [⟨none,.mv (.v 2)⟩,⟨none,.asg 1 (.t 0)⟩] []) .ret))))
def tr_spec_l01Own2:List Nat:=[0,2,3,4]
def rs_spec_l01Own2:List RS:=[.t 1]
theorem ok_spec_l01Own2:fnOk Go.Proofs.Tryz.prog Go.Proofs.Tryz.f27 tr_spec_l01Own2 c_spec_l01Own2 1 rs_spec_l01Own2=true:=by decide +kernel
theorem ret_spec_l01Own2 (a:List (List Int)) (hs:costL List.length a≤1048576):Ret Go.Proofs.Tryz.prog 27 [.v (intss a)] (intss a):=by
 have hl:a.length≤1048576:=by unfold costL at hs;omega
 have hm:a.length≤maxLen:=by simp only [maxLen];omega
 refine ret_fn Go.Proofs.Tryz.func27 ok_spec_l01Own2 rfl (show 1<500 by decide) rfl ?_;unfold c_spec_l01Own2 tr_spec_l01Own2 rs_spec_l01Own2;simp only [go_sem,Nat.reduceLT,Nat.reduceAdd,Nat.reduceSub,↓reduceIte]
 refine loop_set [] (fun (i:Nat)=>[(3,.int .i64 i),(2,.o (intss (a.take i)))]) (fun i=>i≤a.length) (fun i=>a.length-i) 0 (by simp only [go_sem];rfl) (Nat.zero_le _) rfl ?_
 rintro i hi
 simp only [go_sem,Nat.reduceLT,Nat.reduceAdd,Nat.reduceSub,Nat.reduceBEq,↓reduceIte]
 refine ⟨fun h=>⟨h,call_of (ret_spec_l01Own (a.getD i []) (Nat.le_trans (cost_getD (cost:=List.length) h _) hs)) rfl (.inl (nv_ints _)) ?_⟩,fun h=>by rw [List.take_of_length_le (by omega)]⟩
 simp only [go_sem,Nat.reduceLT,Nat.reduceAdd,Nat.reduceSub,Nat.reduceEqDiff,Nat.reduceBEq,↓reduceIte]
 refine ⟨by rw [List.length_take];omega,i+1,by omega,by omega,by rw [take_snoc h [],wrap_lt h hm]⟩
def c_spec_l01Has:C := (.seq (.ops [] [⟨none,.asg 2 (.k (.bool false))⟩] []) (.seq (.seq (.ops [] [⟨none,.asg 3 (.i 0)⟩] []) (.block 0 (.loop (.seq (.opc [] [⟨none,.mv (.v 3)⟩,⟨none,.mv (.v 0)⟩,⟨none,.len (.t 1)⟩,⟨none,.bin .lss (.t 0) (.t 2)⟩] [] (.t 3) .skip (.exit 0)) (.seq (.block 1 (.opc [] [⟨none,.mv (.v 0)⟩,⟨none,.mv (.v 3)⟩,⟨none,.idxA 1 (.t 0) (.t 1)⟩,⟨none,.ld (.t 2)⟩,⟨none,.mv (.v 1)⟩,⟨none,.bin .eql (.t 3) (.t 4)⟩] [] (.t 5) (.seq (.ops [] [⟨none,.asg 2 (.k (.bool true))⟩] []) .ret) .skip)) (.ops [] [⟨none,.mv (.v 3)⟩,⟨none,.bin .add (.t 0) (.i 1)⟩,⟨none,.asg 3 (.t 1)⟩] [])))))) (.seq (.ops [] [⟨none,.asg 2 (.k (.bool false))⟩] []) .ret)))
def tr_spec_l01Has:List Nat:=[0,1,4,5]
def rs_spec_l01Has:List RS:=[.t 2]
theorem ok_spec_l01Has:fnOk Go.Proofs.Tryz.prog Go.Proofs.Tryz.f69 tr_spec_l01Has c_spec_l01Has 2 rs_spec_l01Has=true:=by decide +kernel
theorem ret_spec_l01Has (l:List Int) (x:Int) (hm:l.length≤1048576):Ret Go.Proofs.Tryz.prog 69 [.v (ints l),.v (.int .i64 x)] (.bool (l.contains x)):=by
 refine ret_fn Go.Proofs.Tryz.func69 ok_spec_l01Has rfl (show 2<500 by decide) rfl ?_;unfold c_spec_l01Has tr_spec_l01Has rs_spec_l01Has;simp only [go_sem,Nat.reduceLT,Nat.reduceAdd,↓reduceIte]
 refine loop_set [] (fun (i:Nat)=>[(3,.int .i64 i)]) (fun i=>i≤l.length∧(l.take i).contains x=false) (fun i=>l.length-i) 0 (by simp only [go_sem];rfl) ⟨Nat.zero_le _,rfl⟩ rfl ?_
 rintro i ⟨hi,hn⟩
 simp only [go_sem,Nat.reduceLT,Nat.reduceAdd,Nat.reduceSub,↓reduceIte]
 refine ⟨fun h=>⟨h,fun h2=>?_,fun h2=>⟨i+1,⟨h,?_⟩,by omega,by rw [wrap_lt h (by simp only [maxLen];omega)]⟩⟩,fun h=>by rw [show i=l.length by omega,List.take_length] at hn;exact hn.symm⟩
 ·have h2:l.getD i 0=x:=by simpa using h2
  rw [getD_lt h] at h2
  exact (List.contains_iff_mem.2 (h2▸List.getElem_mem _)).symm
 ·have h2:l.getD i 0≠x:=by simpa using h2
  rw [take_snoc h 0,List.contains_append,hn,Bool.false_or]
  generalize l.getD i 0=v at h2
  simp;exact fun e=>h2 e.symm
def c_impl_isMapOf:C := (.seq (.ops [] [⟨none,.asg 3 (.k (.bool false))⟩] []) (.seq (.ops [] [⟨none,.mv (.v 0)⟩,⟨none,.len (.t 0)⟩,⟨none,.mv (.v 1)⟩,⟨none,.bin .eql (.t 1) (.t 2)⟩,⟨none,.mv (.t 3)⟩,⟨some (4,true),.mv (.v 0)⟩,⟨some (4,true),.mv (.v 2)⟩,⟨some (4,true),.call 113 [(.t 5),(.t 6)]⟩,⟨none,.pick (.t 4) (.t 7) (.k (.bool false))⟩,⟨none,.asg 3 (.t 8)⟩] []) .ret))
def tr_impl_isMapOf:List Nat:=[0,1,2,6]
def rs_impl_isMapOf:List RS:=[.t 3]
theorem ok_impl_isMapOf:fnOk Go.Proofs.Tryz.prog Go.Proofs.Tryz.f94 tr_impl_isMapOf c_impl_isMapOf 3 rs_impl_isMapOf=true:=by decide +kernel
theorem ret_impl_isMapOf (l:List Int) (m n:Int) (hn : 0≤n):Ret Go.Proofs.Tryz.prog 94 [.v (ints l),.v (.int .i64 m),.v (.int .i64 n)] (.bool ((l.length:Int) == m&&mapB n l)):=by
 refine ret_fn Go.Proofs.Tryz.func94 ok_impl_isMapOf rfl (show 3<500 by decide) rfl ?_;unfold c_impl_isMapOf tr_impl_isMapOf rs_impl_isMapOf;simp only [go_sem,Nat.reduceLT,Nat.reduceAdd,Nat.reduceSub,↓reduceIte]
 refine callg_of (fun _=>ret_impl_within n l hn) rfl (fun h=>h) (.inl rfl) ?_
 simp only [go_sem,Nat.reduceLT,Nat.reduceAdd,Nat.reduceSub,↓reduceIte]
def c_laws_eqInt64S:C := (.seq (.ops [] [⟨none,.asg 2 (.k (.bool false))⟩] []) (.seq (.opc [] [⟨none,.mv (.v 0)⟩,⟨none,.len (.t 0)⟩,⟨none,.mv (.v 1)⟩,⟨none,.len (.t 2)⟩,⟨none,.bin .neq (.t 1) (.t 3)⟩] [] (.t 4) (.seq (.ops [] [⟨none,.asg 2 (.k (.bool false))⟩] []) .ret) .skip) (.seq (.seq (.ops [] [⟨none,.asg 3 (.i 0)⟩] []) (.block 0 (.loop (.seq (.opc [] [⟨none,.mv (.v 3)⟩,⟨none,.mv (.v 0)⟩,⟨none,.len (.t 1)⟩,⟨none,.bin .lss (.t 0) (.t 2)⟩] [] (.t 3) .skip (.exit 0)) (.seq (.block 1 (.opc [] [⟨none,.mv (.v 0)⟩,⟨none,.mv (.v 3)⟩,⟨none,.idxA 1 (.t 0) (.t 1)⟩,⟨none,.ld (.t 2)⟩,⟨none,.mv (.v 1)⟩,⟨none,.mv (.v 3)⟩,⟨none,.idxA 1 (.t 4) (.t 5)⟩,⟨none,.ld (.t 6)⟩,⟨none,.bin .neq (.t 3) (.t 7)⟩] [] (.t 8) (.seq (.ops [] [⟨none,.asg 2 (.k (.bool false))⟩] []) .ret) .skip)) (.ops [] [⟨none,.mv (.v 3)⟩,⟨none,.bin .add (.t 0) (.i 1)⟩,⟨none,.asg 3 (.t 1)⟩] [])))))) (.seq (.ops [] [⟨none,.asg 2 (.k (.bool true))⟩] []) .ret))))
def tr_laws_eqInt64S:List Nat:=[0,1,4,5]
def rs_laws_eqInt64S:List RS:=[.t 2]
theorem ok_laws_eqInt64S:fnOk Go.Proofs.Tryz.prog Go.Proofs.Tryz.f9 tr_laws_eqInt64S c_laws_eqInt64S 2 rs_laws_eqInt64S=true:=by decide +kernel
theorem ret_laws_eqInt64S (a:List (Int)):Ret Go.Proofs.Tryz.prog 9 [.v (ints a),.v (ints a)] (.bool true):=by
 refine ret_wf fun hw=>?_
 simp only [argsWf,wfd_lst] at hw
 have hm:=hw.1.1
 refine ret_fn Go.Proofs.Tryz.func9 ok_laws_eqInt64S rfl (show 2<500 by decide) rfl ?_;unfold c_laws_eqInt64S tr_laws_eqInt64S rs_laws_eqInt64S;simp only [go_sem,Nat.reduceLT,Nat.reduceAdd,Nat.reduceSub,↓reduceIte]
 refine ⟨fun h=>by simp at h,fun _=>?_⟩
 refine loop_set [] (fun (i:Nat)=>[(3,.int .i64 i)]) (fun i=>i≤a.length) (fun i=>a.length-i) 0 rfl (Nat.zero_le _) rfl ?_
 rintro i hi
 simp only [go_sem,Nat.reduceLT,Nat.reduceAdd,Nat.reduceSub,↓reduceIte]
 exact fun h=>⟨h,h,fun h2=>by simp at h2,fun _=>⟨i+1,by omega,by omega,by rw [wrap_lt h hm]⟩⟩
def c_laws_eqInt64SS:C := (.seq (.ops [] [⟨none,.asg 2 (.k (.bool false))⟩] []) (.seq (.opc [] [⟨none,.mv (.v 0)⟩,⟨none,.len (.t 0)⟩,⟨none,.mv (.v 1)⟩,⟨none,.len (.t 2)⟩,⟨none,.bin .neq (.t 1) (.t 3)⟩] [] (.t 4) (.seq (.ops [] [⟨none,.asg 2 (.k (.bool false))⟩] []) .ret) .skip) (.seq (.seq (.ops [] [⟨none,.asg 3 (.i 0)⟩] []) (.block 0 (.loop (.seq (.opc [] [⟨none,.mv (.v 3)⟩,⟨none,.mv (.v 0)⟩,⟨none,.len (.t 1)⟩,⟨none,.bin .lss (.t 0) (.t 2)⟩] [] (.t 3) .skip (.exit 0)) (.seq (.block 1 (.opc [] [⟨none,.mv (.v 0)⟩,⟨none,.mv (.v 3)⟩,⟨none,.idxA 1 (.t 0) (.t 1)⟩,⟨none,.ld (.t 2)⟩,⟨none,.mv (.v 1)⟩,⟨none,.mv (.v 3)⟩,⟨none,.idxA 1 (.t 4) (.t 5)⟩,⟨none,.ld (.t 6)⟩,⟨none,.call 9 [(.t 3),(.t 7)]⟩,⟨none,.not (.t 8)⟩] [] (.t 9) (.seq (.ops [] [⟨none,.asg 2 (.k (.bool false))⟩] []) .ret) .skip)) (.ops [] [⟨none,.mv (.v 3)⟩,⟨none,.bin .add (.t 0) (.i 1)⟩,⟨none,.asg 3 (.t 1)⟩] [])))))) (.seq (.ops [] [⟨none,.asg 2 (.k (.bool true))⟩] []) .ret))))
def tr_laws_eqInt64SS:List Nat:=[0,1,4,5]
def rs_laws_eqInt64SS:List RS:=[.t 2]
theorem ok_laws_eqInt64SS:fnOk Go.Proofs.Tryz.prog Go.Proofs.Tryz.f10 tr_laws_eqInt64SS c_laws_eqInt64SS 2 rs_laws_eqInt64SS=true:=by decide +kernel
theorem ret_laws_eqInt64SS (a:List (List (Int))):Ret Go.Proofs.Tryz.prog 10 [.v (intss a),.v (intss a)] (.bool true):=by
 refine ret_wf fun hw=>?_
 simp only [argsWf,wfd_lst] at hw
 have hm:=hw.1.1
 refine ret_fn Go.Proofs.Tryz.func10 ok_laws_eqInt64SS rfl (show 2<500 by decide) rfl ?_;unfold c_laws_eqInt64SS tr_laws_eqInt64SS rs_laws_eqInt64SS;simp only [go_sem,Nat.reduceLT,Nat.reduceAdd,Nat.reduceSub,↓reduceIte]
 refine ⟨fun h=>by simp at h,fun _=>?_⟩
 refine loop_set [] (fun (i:Nat)=>[(3,.int .i64 i)]) (fun i=>i≤a.length) (fun i=>a.length-i) 0 rfl (Nat.zero_le _) rfl ?_
 rintro i hi
 simp only [go_sem,Nat.reduceLT,Nat.reduceAdd,Nat.reduceSub,↓reduceIte]
 refine fun h=>⟨h,h,call_of (ret_laws_eqInt64S (a.getD i [])) rfl (.inl rfl) ?_⟩
 simp only [go_sem,Nat.reduceLT,Nat.reduceAdd,Nat.reduceSub,↓reduceIte]
 exact ⟨i+1,by omega,by omega,by rw [wrap_lt h hm]⟩
def c_laws_szChangeS:C := (.seq (.ops [] [⟨none,.asg 2 (.i 0)⟩] []) (.seq (.ops [] [⟨none,.mv (.v 1)⟩,⟨none,.mv (.v 0)⟩,⟨none,.len (.t 1)⟩,⟨none,.bin .sub (.t 0) (.t 2)⟩,⟨none,.asg 1 (.t 3)⟩] []) (.seq (.opc [] [⟨none,.mv (.v 1)⟩,⟨none,.bin .lss (.t 0) (.i 0)⟩] [] (.t 1) (.seq (.ops [] [⟨none,.asg 2 (.i (-1))⟩] []) .ret) .skip) (.seq (.ops [] [⟨none,.mv (.v 1)⟩,⟨none,.asg 2 (.t 0)⟩] []) .ret))))
def tr_laws_szChangeS:List Nat:=[0,1,4]
def rs_laws_szChangeS:List RS:=[.t 2]
theorem ok_laws_szChangeS:fnOk Go.Proofs.Tryz.prog Go.Proofs.Tryz.f19 tr_laws_szChangeS c_laws_szChangeS 2 rs_laws_szChangeS=true:=by decide +kernel
theorem ret_laws_szChangeS (a:List Chg) (left:Int) (h0 : 0≤left) (h1:left≤1048576):Ret Go.Proofs.Tryz.prog 19 [.v (lst Chg.d Chg.zero a),.v (.int .i64 left)] (.int .i64 (sb left a.length)):=by
 refine ret_wf fun hw=>?_
 simp only [argsWf,wfd_lst] at hw
 obtain ⟨⟨hw,-⟩,-⟩:=hw
 refine ret_fn Go.Proofs.Tryz.func19 ok_laws_szChangeS rfl (show 2<500 by decide) rfl ?_;unfold c_laws_szChangeS tr_laws_szChangeS rs_laws_szChangeS;simp only [go_sem,Nat.reduceLT,Nat.reduceAdd,Nat.reduceSub,↓reduceIte]
 rw [wrap_sub h0 (by simp only [maxLen];omega) hw]
 refine ⟨fun h=>?_,fun h=>?_⟩
 ·unfold sb;rw [if_neg (by omega)]
 ·unfold sb;rw [if_pos (by omega)]
def c_laws_toChange:C := (.seq (.ops [2,1] [⟨none,.boxv 4 (.v 0)⟩,⟨none,.alc [.int .i64 0,.int .i64 0,.int .i64 0,.int .i64 0]⟩] [(2,0),(1,1)]) (.seq (.ops [3] [⟨none,.alc [.int .i64 0,.int .i64 0,.int .i64 0,.int .i64 0]⟩] [(3,0)]) (.seq (.ops [] [⟨none,.fA 0 (.v 2)⟩,⟨none,.ld (.t 0)⟩,⟨none,.fA 0 (.v 3)⟩,⟨none,.st (.t 2) (.t 1)⟩] []) (.seq (.ops [] [⟨none,.fA 1 (.v 2)⟩,⟨none,.ld (.t 0)⟩,⟨none,.fA 1 (.v 3)⟩,⟨none,.st (.t 2) (.t 1)⟩] []) (.seq (.ops [] [⟨none,.fA 2 (.v 2)⟩,⟨none,.ld (.t 0)⟩,⟨none,.fA 2 (.v 3)⟩,⟨none,.st (.t 2) (.t 1)⟩] []) (.seq (.ops [] [⟨none,.fA 3 (.v 2)⟩,⟨none,.ld (.t 0)⟩,⟨none,.fA 3 (.v 3)⟩,⟨none,.st (.t 2) (.t 1)⟩] []) (.seq (.ops [] [⟨none,.lda 4 (.v 3)⟩,⟨none,.stn 4 (.v 1) (.t 0)⟩] []) .ret)))))))
def tr_laws_toChange:List Nat:=[0,2,1,3]
def rs_laws_toChange:List RS:=[.c 1 4 true]
theorem ok_laws_toChange:fnOk Go.Proofs.Tryz.prog Go.Proofs.Tryz.f38 tr_laws_toChange c_laws_toChange 1 rs_laws_toChange=true:=by decide +kernel
theorem ret_laws_toChange (a:Chg):Ret Go.Proofs.Tryz.prog 38 [.v (Chg.d a)] (Chg.d a):=by
 refine ret_fn Go.Proofs.Tryz.func38 ok_laws_toChange rfl (show 1<500 by decide) rfl ?_;unfold c_laws_toChange tr_laws_toChange rs_laws_toChange;simp only [go_sem,Nat.reduceLT,Nat.reduceAdd,Nat.reduceSub,Nat.reduceBEq,Nat.reduceLeDiff,↓reduceIte]
 all_goals rfl
def c_laws_toChangeS:C := (.seq (.ops [] [⟨none,.asg 1 (.k (.nils (.agg [.int .i64 0,.int .i64 0,.int .i64 0,.int .i64 0])))⟩] []) (.seq (.ops [] [⟨none,.mv (.v 0)⟩,⟨none,.len (.t 0)⟩,⟨none,.mkS (.agg [.int .i64 0,.int .i64 0,.int .i64 0,.int .i64 0]) 32 (.t 1) (.t 1)⟩,⟨none,.asg 2 (.t 2)⟩] []) (.seq (.seq (.ops [] [⟨none,.asg 3 (.i 0)⟩] []) (.block 0 (.loop (.seq (.opc [] [⟨none,.mv (.v 3)⟩,⟨none,.mv (.v 0)⟩,⟨none,.len (.t 1)⟩,⟨none,.bin .lss (.t 0) (.t 2)⟩] [] (.t 3) .skip (.exit 0)) (.seq (.block 1 (.ops [] [⟨none,.mv (.v 2)⟩,⟨none,.mv (.v 3)⟩,⟨none,.mv (.v 0)⟩,⟨none,.mv (.v 3)⟩,⟨none,.idxA 4 (.t 2) (.t 3)⟩,⟨none,.lda 4 (.t 4)⟩,⟨none,.call 38 [(.t 5)]⟩,⟨none,.idxA 4 (.t 0) (.t 1)⟩,⟨none,.stn 4 (.t 7) (.t 6)⟩] [])) (.ops [] [⟨none,.mv (.v 3)⟩,⟨none,.bin .add (.t 0) (.i 1)⟩,⟨none,.asg 3 (.t 1)⟩] [])))))) (.seq (.ops [] [⟨none,.mv (.v 2)⟩,⟨none,.asg 1 (.t 0)⟩] []) .ret))))
def tr_laws_toChangeS:List Nat:=[0,2,3,4]
def rs_laws_toChangeS:List RS:=[.t 1]
theorem ok_laws_toChangeS:fnOk Go.Proofs.Tryz.prog Go.Proofs.Tryz.f21 tr_laws_toChangeS c_laws_toChangeS 1 rs_laws_toChangeS=true:=by decide +kernel
theorem ret_laws_toChangeS (a:List Chg) (hs:a.length≤1048576):Ret Go.Proofs.Tryz.prog 21 [.v (lst Chg.d Chg.zero a)] (lst Chg.d Chg.zero a):=by
 have hm:a.length≤maxLen:=by simp only [maxLen];omega
 refine ret_fn Go.Proofs.Tryz.func21 ok_laws_toChangeS rfl (show 1<500 by decide) rfl ?_;unfold c_laws_toChangeS tr_laws_toChangeS rs_laws_toChangeS;simp only [go_sem,Nat.reduceLT,Nat.reduceAdd,Nat.reduceSub,↓reduceIte]
 refine ⟨by omega,?_⟩
 refine loop_set [] (fun (i:Nat)=>[(2,.o (lst Chg.d Chg.zero (cpy a Chg.zero i))),(3,.int .i64 i)]) (fun i=>i≤a.length) (fun i=>a.length-i) 0 rfl (Nat.zero_le _) ?_ ?_
 ·simp only [go_sem,cpy_zero];rfl
 rintro i hi
 simp only [go_sem,Nat.reduceLT,Nat.reduceAdd,Nat.reduceSub,Nat.reduceBEq,Nat.reduceLeDiff,↓reduceIte]
 refine ⟨fun h=>⟨h,call_of (ret_laws_toChange (a.getD i Chg.zero)) rfl (.inl (nv_Chg _)) ?_⟩,fun h=>by rw [cpy_end h]⟩
 simp only [go_sem,Nat.reduceLT,Nat.reduceAdd,Nat.reduceSub,Nat.reduceBEq,Nat.reduceLeDiff,↓reduceIte]
 exact ⟨by rw [cpy_len hi];exact h,by rw [cpy_len hi];exact h,i+1,by omega,by omega,by rw [cpy_set h,wrap_lt h hm]⟩
def c_laws_eqChange:C := (.seq (.ops [3,4] [⟨none,.boxv 4 (.v 0)⟩,⟨none,.boxv 4 (.v 1)⟩,⟨none,.asg 2 (.k (.bool false))⟩] [(3,0),(4,1)]) (.seq (.opc [] [⟨none,.fA 0 (.v 3)⟩,⟨none,.ld (.t 0)⟩,⟨none,.fA 0 (.v 4)⟩,⟨none,.ld (.t 2)⟩,⟨none,.bin .neq (.t 1) (.t 3)⟩] [] (.t 4) (.seq (.ops [] [⟨none,.asg 2 (.k (.bool false))⟩] []) .ret) .skip) (.seq (.opc [] [⟨none,.fA 1 (.v 3)⟩,⟨none,.ld (.t 0)⟩,⟨none,.fA 1 (.v 4)⟩,⟨none,.ld (.t 2)⟩,⟨none,.bin .neq (.t 1) (.t 3)⟩] [] (.t 4) (.seq (.ops [] [⟨none,.asg 2 (.k (.bool false))⟩] []) .ret) .skip) (.seq (.opc [] [⟨none,.fA 2 (.v 3)⟩,⟨none,.ld (.t 0)⟩,⟨none,.fA 2 (.v 4)⟩,⟨none,.ld (.t 2)⟩,⟨none,.bin .neq (.t 1) (.t 3)⟩] [] (.t 4) (.seq (.ops [] [⟨none,.asg 2 (.k (.bool false))⟩] []) .ret) .skip) (.seq (.opc [] [⟨none,.fA 3 (.v 3)⟩,⟨none,.ld (.t 0)⟩,⟨none,.fA 3 (.v 4)⟩,⟨none,.ld (.t 2)⟩,⟨none,.bin .neq (.t 1) (.t 3)⟩] [] (.t 4) (.seq (.ops [] [⟨none,.asg 2 (.k (.bool false))⟩] []) .ret) .skip) (.seq (.ops [] [⟨none,.asg 2 (.k (.bool true))⟩] []) .ret))))))
def tr_laws_eqChange:List Nat:=[0,1,4,2,3]
def rs_laws_eqChange:List RS:=[.t 2]
theorem ok_laws_eqChange:fnOk Go.Proofs.Tryz.prog Go.Proofs.Tryz.f40 tr_laws_eqChange c_laws_eqChange 2 rs_laws_eqChange=true:=by decide +kernel
theorem ret_laws_eqChange (a:Chg):Ret Go.Proofs.Tryz.prog 40 [.v (Chg.d a),.v (Chg.d a)] (.bool true):=by
 refine ret_fn Go.Proofs.Tryz.func40 ok_laws_eqChange rfl (show 2<500 by decide) rfl ?_;unfold c_laws_eqChange tr_laws_eqChange rs_laws_eqChange;simp only [go_sem,Nat.reduceLT,Nat.reduceAdd,Nat.reduceSub,↓reduceIte]
 refine ⟨fun h=>by simp at h,fun _=>?_⟩
 refine ⟨fun h=>by simp at h,fun _=>?_⟩
 refine ⟨fun h=>by simp at h,fun _=>?_⟩
 refine fun h=>?_
 simp at h
def c_laws_eqChangeS:C := (.seq (.ops [] [⟨none,.asg 2 (.k (.bool false))⟩] []) (.seq (.opc [] [⟨none,.mv (.v 0)⟩,⟨none,.len (.t 0)⟩,⟨none,.mv (.v 1)⟩,⟨none,.len (.t 2)⟩,⟨none,.bin .neq (.t 1) (.t 3)⟩] [] (.t 4) (.seq (.ops [] [⟨none,.asg 2 (.k (.bool false))⟩] []) .ret) .skip) (.seq (.seq (.ops [] [⟨none,.asg 3 (.i 0)⟩] []) (.block 0 (.loop (.seq (.opc [] [⟨none,.mv (.v 3)⟩,⟨none,.mv (.v 0)⟩,⟨none,.len (.t 1)⟩,⟨none,.bin .lss (.t 0) (.t 2)⟩] [] (.t 3) .skip (.exit 0)) (.seq (.block 1 (.opc [] [⟨none,.mv (.v 0)⟩,⟨none,.mv (.v 3)⟩,⟨none,.idxA 4 (.t 0) (.t 1)⟩,⟨none,.lda 4 (.t 2)⟩,⟨none,.mv (.v 1)⟩,⟨none,.mv (.v 3)⟩,⟨none,.idxA 4 (.t 4) (.t 5)⟩,⟨none,.lda 4 (.t 6)⟩,⟨none,.call 40 [(.t 3),(.t 7)]⟩,⟨none,.not (.t 8)⟩] [] (.t 9) (.seq (.ops [] [⟨none,.asg 2 (.k (.bool false))⟩] []) .ret) .skip)) (.ops [] [⟨none,.mv (.v 3)⟩,⟨none,.bin .add (.t 0) (.i 1)⟩,⟨none,.asg 3 (.t 1)⟩] [])))))) (.seq (.ops [] [⟨none,.asg 2 (.k (.bool true))⟩] []) .ret))))
def tr_laws_eqChangeS:List Nat:=[0,1,4,5]
def rs_laws_eqChangeS:List RS:=[.t 2]
theorem ok_laws_eqChangeS:fnOk Go.Proofs.Tryz.prog Go.Proofs.Tryz.f23 tr_laws_eqChangeS c_laws_eqChangeS 2 rs_laws_eqChangeS=true:=by decide +kernel
theorem ret_laws_eqChangeS (a:List (Chg)):Ret Go.Proofs.Tryz.prog 23 [.v (lst Chg.d Chg.zero a),.v (lst Chg.d Chg.zero a)] (.bool true):=by
 refine ret_wf fun hw=>?_
 simp only [argsWf,wfd_lst] at hw
 have hm:=hw.1.1
 refine ret_fn Go.Proofs.Tryz.func23 ok_laws_eqChangeS rfl (show 2<500 by decide) rfl ?_;unfold c_laws_eqChangeS tr_laws_eqChangeS rs_laws_eqChangeS;simp only [go_sem,Nat.reduceLT,Nat.reduceAdd,Nat.reduceSub,↓reduceIte]
 refine ⟨fun h=>by simp at h,fun _=>?_⟩
 refine loop_set [] (fun (i:Nat)=>[(3,.int .i64 i)]) (fun i=>i≤a.length) (fun i=>a.length-i) 0 rfl (Nat.zero_le _) rfl ?_
 rintro i hi
 simp only [go_sem,Nat.reduceLT,Nat.reduceAdd,Nat.reduceSub,Nat.reduceLeDiff,↓reduceIte]
 refine fun h=>⟨h,h,call_of (ret_laws_eqChange (a.getD i Chg.zero)) rfl (.inl rfl) ?_⟩
 simp only [go_sem,Nat.reduceLT,Nat.reduceAdd,Nat.reduceSub,↓reduceIte]
 exact ⟨i+1,by omega,by omega,by rw [wrap_lt h hm]⟩
end Go.D3
