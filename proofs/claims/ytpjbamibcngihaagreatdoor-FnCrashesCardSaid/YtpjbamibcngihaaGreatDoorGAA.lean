/- errors.Is, errors.Join, strings.IndexFunc: contracts. The walks of errors.Is are turned from the kit's worked SentryIs. -/
import Derived.Shelf.Strings.OnBuilder
import Derived.Shelf.Small.Wraps
import Derived.Shelf.LaysM
import Derived.Shelf.Strconv.Itoa4
import Derived.Shelf.LaysC
import Derived.Shelf.Strconv.ParseIntPublic10
import Derived.Shelf.Strings.Cut
import Derived.Shelf.GgClosure.StringsRunes
import Derived.Shelf.Strings.Split
import Derived.Test.YtpjbamibcngihaaGreatDoorProg
import Derived.Test.YtpjbamibcngihaaGreatDoorRows
import Derived.Test.YtpjbamibcngihaaGreatDoorHG
import Derived.Lib.LaidTab
import Derived.Lib.ParseIntBTie
import Derived.Lib.CutLaws
import Derived.Lib.CountLaws
import Derived.Lib.ItoaLen
import Derived.Test.YtpjbamibcngihaaGreatDoorChecked
import Derived.WalkKit
import Derived.LaidEql
import Derived.Stop.Asserts
import Derived.RowKitTokens
namespace Go.Proofs
open Go.Shelf
abbrev Tryz.rF:String:=(YtpjbamibcngihaaGreatDoor.Rows.fnSourcesRow.laid.getD 2 ("",.nil)).1
def Tryz.N4:Go.Shelf.Ren:=⟨fun | 145=>71 | 220=>100 | 219=>130 | 217=>157 | 225=>158 | 224=>159 | 267=>160 | 266=>173 | 314=>174 | n=>n,fun | 9=>9 | 4=>4 | 59=>124 | 3=>3 | 5=>5 | 46=>98 | 146=>249 | 51=>222 | n=>n,fun | 1=>2 | n=>n⟩
theorem Tryz.N3:Go.Proofs.Lays.n145 Tryz.prog Tryz.N4:={
 mixed:=by kernel_rfl
 f145:=Tryz.func71.trans (congrArg some (by kernel_rfl))
 f217:=Tryz.func157.trans (congrArg some (by kernel_rfl))
 f219:=Tryz.func130.trans (congrArg some (by kernel_rfl))
 f220:=Tryz.func100.trans (congrArg some (by kernel_rfl))
 f224:=Tryz.func159.trans (congrArg some (by kernel_rfl))
 f225:=Tryz.func158.trans (congrArg some (by kernel_rfl))
 f266:=Tryz.func173.trans (congrArg some (by kernel_rfl))
 f267:=Tryz.func160.trans (congrArg some (by kernel_rfl))
 f314:=Tryz.func174.trans (congrArg some (by kernel_rfl))
 t3:=Tryz.underlying3
 a3:=Tryz.isAgg3
 z3:=Tryz.sizeOf3
 v3:=Tryz.zeroValue3
 t4:=Tryz.underlying4
 a4:=Tryz.isAgg4
 z4:=Tryz.sizeOf4
 v4:=Tryz.zeroValue4
 t5:=Tryz.underlying5
 a5:=Tryz.isAgg5
 z5:=Tryz.sizeOf5
 v5:=Tryz.zeroValue5
 t9:=Tryz.underlying9
 a9:=Tryz.isAgg9
 z9:=Tryz.sizeOf9
 v9:=Tryz.zeroValue9
 t46:=Tryz.underlying98
 a46:=Tryz.isAgg98
 z46:=Tryz.sizeOf98
 v46:=Tryz.zeroValue98
 t51:=Tryz.underlying222
 a51:=Tryz.isAgg222
 z51:=Tryz.sizeOf222
 v51:=Tryz.zeroValue222
 t59:=Tryz.underlying124
 a59:=Tryz.isAgg124
 z59:=Tryz.sizeOf124
 v59:=Tryz.zeroValue124
 t146:=Tryz.underlying249
 a146:=Tryz.isAgg249
 z146:=Tryz.sizeOf249
 v146:=Tryz.zeroValue249
 g1:=by kernel_rfl }
open Go.RowKit Go.Lib in
theorem Tryz.strings_Cut(s sep:ByteArray)(m:Int)(w:World)(hs:s.size<4294967281)(hm:w.cell? ⟨2,0,none⟩=some (.int .i64 m)) :
  Calls Tryz.prog 71 #[.string s,.string sep] w fun e w'=>e=.returned (.tuple #[.string ⟨(Lib.cut s.data.toList sep.data.toList).1.toArray⟩,.string ⟨(Lib.cut s.data.toList sep.data.toList).2.1.toArray⟩,.bool (Lib.cut s.data.toList sep.data.toList).2.2])/\∃n,w'=w.drewN n:=Any.strings_Cut Tryz.N3 s sep m w hs hm
def Tryz.N2:Go.Shelf.Ren:=⟨fun | 103=>72 | 210=>101 | 206=>131 | n=>n,fun | 9=>9 | 4=>4 | 24=>126 | 3=>3 | n=>n,fun | n=>n⟩
theorem Tryz.N1:Go.Proofs.Lays.n103 Tryz.prog Tryz.N2:={
 mixed:=by kernel_rfl
 f103:=Tryz.func72.trans (congrArg some (by kernel_rfl))
 f206:=Tryz.func131.trans (congrArg some (by kernel_rfl))
 f210:=Tryz.func101.trans (congrArg some (by kernel_rfl))
 t3:=Tryz.underlying3
 a3:=Tryz.isAgg3
 z3:=Tryz.sizeOf3
 v3:=Tryz.zeroValue3
 t4:=Tryz.underlying4
 a4:=Tryz.isAgg4
 z4:=Tryz.sizeOf4
 v4:=Tryz.zeroValue4
 t9:=Tryz.underlying9
 a9:=Tryz.isAgg9
 z9:=Tryz.sizeOf9
 v9:=Tryz.zeroValue9
 t24:=Tryz.underlying126
 a24:=Tryz.isAgg126
 z24:=Tryz.sizeOf126
 v24:=Tryz.zeroValue126 }
open Go.RowKit in
theorem Tryz.strings_CutPrefix(s p:ByteArray)(w:World) :
  Calls Tryz.prog 72 #[.string s,.string p] w fun e w'=>e=.returned (.tuple #[.string ⟨(Lib.trimPrefix s.data.toList p.data.toList).toArray⟩,.bool (Lib.hasPrefix s.data.toList p.data.toList)])/\w'=w:=Any.strings_CutPrefix Tryz.N1 s p w
def Tryz.N9:Go.Shelf.Ren:=⟨fun | 15=>162 | 20=>178 | n=>n,fun | 9=>9 | 23=>229 | 3=>3 | 4=>4 | 0=>0 | 21=>21 | n=>n,fun | n=>n⟩
theorem Tryz.N8:Go.Proofs.LaysGw.n15 Tryz.prog Tryz.N9:={
 mixed:=by kernel_rfl
 f15:=Tryz.func162.trans (congrArg some (by kernel_rfl))
 f20:=Tryz.func178.trans (congrArg some (by kernel_rfl))
 t0:=Tryz.underlying0
 a0:=Tryz.isAgg0
 z0:=Tryz.sizeOf0
 v0:=Tryz.zeroValue0
 i0:=by kernel_rfl
 t3:=Tryz.underlying3
 a3:=Tryz.isAgg3
 z3:=Tryz.sizeOf3
 v3:=Tryz.zeroValue3
 i3:=by kernel_rfl
 t4:=Tryz.underlying4
 a4:=Tryz.isAgg4
 z4:=Tryz.sizeOf4
 v4:=Tryz.zeroValue4
 i4:=by kernel_rfl
 t9:=Tryz.underlying9
 a9:=Tryz.isAgg9
 z9:=Tryz.sizeOf9
 v9:=Tryz.zeroValue9
 i9:=by kernel_rfl
 t21:=Tryz.underlying21
 a21:=Tryz.isAgg21
 z21:=Tryz.sizeOf21
 v21:=Tryz.zeroValue21
 i21:=by kernel_rfl
 t23:=Tryz.underlying229
 a23:=Tryz.isAgg229
 z23:=Tryz.sizeOf229
 v23:=Tryz.zeroValue229
 i23:=by kernel_rfl }
open Go.RowKit Go.Lib in
theorem Tryz.strings_IndexFunc_runes(g:Nat)(lb:Array Value)(eg:∀args w,(callFunc g args).run Tryz.prog w=.ok (.enter g args) w)(p:Nat->Bool)(s:ByteArray)(w:World)(hp:PredAtRunes Tryz.prog g lb p w) :
  Calls Tryz.prog 162 #[.string s,.func (.func g) #[] lb] w fun e w'=>e=.returned (.int .i64 (Lib.idxFunc p true s))/\Below w.heap.size w w':=Any.strings_IndexFunc_runes Tryz.N8 g lb eg p s w hp
def Tryz.Ff:Go.Shelf.Ren:=⟨fun | 156=>106 | 165=>140 | 166=>141 | 169=>142 | 240=>164 | 241=>165 | 276=>179 | 277=>180 | n=>n,fun | 31=>138 | 9=>9 | 3=>3 | 4=>4 | 0=>0 | 20=>20 | 72=>208 | 76=>210 | 70=>206 | 37=>22 | 75=>159 | 127=>244 | 164=>253 | 5=>5 | 80=>119 | n=>n,fun | n=>n⟩
theorem Tryz.Fe:Go.Proofs.Lays.n156 Tryz.prog Tryz.Ff:={
 mixed:=by kernel_rfl
 f156:=Tryz.func106.trans (congrArg some (by kernel_rfl))
 f165:=Tryz.func140.trans (congrArg some (by kernel_rfl))
 f166:=Tryz.func141.trans (congrArg some (by kernel_rfl))
 f169:=Tryz.func142.trans (congrArg some (by kernel_rfl))
 f240:=Tryz.func164.trans (congrArg some (by kernel_rfl))
 f241:=Tryz.func165.trans (congrArg some (by kernel_rfl))
 f276:=Tryz.func179.trans (congrArg some (by kernel_rfl))
 f277:=Tryz.func180.trans (congrArg some (by kernel_rfl))
 t0:=Tryz.underlying0
 a0:=Tryz.isAgg0
 z0:=Tryz.sizeOf0
 v0:=Tryz.zeroValue0
 t3:=Tryz.underlying3
 a3:=Tryz.isAgg3
 z3:=Tryz.sizeOf3
 v3:=Tryz.zeroValue3
 t4:=Tryz.underlying4
 a4:=Tryz.isAgg4
 z4:=Tryz.sizeOf4
 v4:=Tryz.zeroValue4
 t9:=Tryz.underlying9
 a9:=Tryz.isAgg9
 z9:=Tryz.sizeOf9
 v9:=Tryz.zeroValue9
 t20:=Tryz.underlying20
 a20:=Tryz.isAgg20
 z20:=Tryz.sizeOf20
 v20:=Tryz.zeroValue20
 t31:=Tryz.underlying138
 a31:=Tryz.isAgg138
 z31:=Tryz.sizeOf138
 v31:=Tryz.zeroValue138
 t37:=Tryz.underlying22
 a37:=Tryz.isAgg22
 z37:=Tryz.sizeOf22
 v37:=Tryz.zeroValue22
 t70:=Tryz.underlying206
 a70:=Tryz.isAgg206
 z70:=Tryz.sizeOf206
 v70:=Tryz.zeroValue206
 t72:=Tryz.underlying208
 a72:=Tryz.isAgg208
 z72:=Tryz.sizeOf208
 v72:=Tryz.zeroValue208
 t75:=Tryz.underlying159
 a75:=Tryz.isAgg159
 z75:=Tryz.sizeOf159
 v75:=Tryz.zeroValue159
 t76:=Tryz.underlying210
 a76:=Tryz.isAgg210
 z76:=Tryz.sizeOf210
 v76:=Tryz.zeroValue210
 t127:=Tryz.underlying244
 a127:=Tryz.isAgg244
 z127:=Tryz.sizeOf244
 v127:=Tryz.zeroValue244
 t164:=Tryz.underlying253
 a164:=Tryz.isAgg253
 z164:=Tryz.sizeOf253
 v164:=Tryz.zeroValue253 }
theorem Tryz.Cs:Builder.Extra Tryz.prog Tryz.Ff:={
 sizeBuilder:=by kernel_rfl
 liesBuilder:=by kernel_rfl
 t5:=Tryz.underlying5
 a5:=Tryz.isAgg5
 z5:=Tryz.sizeOf5
 v5:=Tryz.zeroValue5
 infoByte:=by kernel_rfl
 cellsByte:=by kernel_rfl
 sizeByte:=by kernel_rfl
 neB5:=by decide }
open Go.RowKit in
theorem Tryz.strings_Join(bk o c:Nat)(xs:List ByteArray)(sep:ByteArray)(w:World)(hcells:∀(j:Nat) x,xs[j]?=some x->w.cell? ⟨bk,o+j,none⟩=some (.string x))(hbk:bk<w.heap.size)(hN:xs.length<=140737488355328)(hcap:xs.length<=c)(hlen:(Lib.join (xs.map (·.data.toList)) sep.data.toList).length<=140737488355328) :
  Calls Tryz.prog 106 #[.slice (some ⟨bk,o,none⟩) xs.length c,.string sep] w fun e w'=>e=.returned (.string ⟨(Lib.join (xs.map (·.data.toList)) sep.data.toList).toArray⟩)/\Below w.heap.size w w':=Any.strings_Join Tryz.Fe Tryz.Cs bk o c xs sep w hcells hbk hN hcap hlen
open Go.RowKit in
theorem Tryz.strings_Join_none(a:Option Addr)(c:Nat)(sep:ByteArray)(w:World) :
  Calls Tryz.prog 106 #[.slice a 0 c,.string sep] w fun e w'=>e=.returned (.string ⟨#[]⟩)/\w'=w:=Any.strings_Join_none Tryz.Fe Tryz.Cs a c sep w
def Tryz.N6:Go.Shelf.Ren:=⟨fun | 146=>132 | 221=>161 | 268=>175 | 138=>176 | 143=>177 | 195=>183 | 197=>184 | 218=>185 | 219=>130 | 260=>191 | 217=>157 | 225=>158 | 224=>159 | 267=>160 | 266=>173 | 314=>174 | n=>n,fun | 9=>9 | 31=>138 | 3=>3 | 4=>4 | 0=>0 | 105=>260 | 21=>21 | 5=>5 | 46=>98 | 119=>274 | 139=>277 | 138=>276 | 146=>249 | 51=>222 | n=>n,fun | 1=>2 | 3=>7 | 4=>8 | n=>n⟩
theorem Tryz.N5:Go.Proofs.Lays.n146 Tryz.prog Tryz.N6:={
 mixed:=by kernel_rfl
 f138:=Tryz.func176.trans (congrArg some (by kernel_rfl))
 f143:=Tryz.func177.trans (congrArg some (by kernel_rfl))
 f146:=Tryz.func132.trans (congrArg some (by kernel_rfl))
 f195:=Tryz.func183.trans (congrArg some (by kernel_rfl))
 f197:=Tryz.func184.trans (congrArg some (by kernel_rfl))
 f217:=Tryz.func157.trans (congrArg some (by kernel_rfl))
 f218:=Tryz.func185.trans (congrArg some (by kernel_rfl))
 f219:=Tryz.func130.trans (congrArg some (by kernel_rfl))
 f221:=Tryz.func161.trans (congrArg some (by kernel_rfl))
 f224:=Tryz.func159.trans (congrArg some (by kernel_rfl))
 f225:=Tryz.func158.trans (congrArg some (by kernel_rfl))
 f260:=Tryz.func191.trans (congrArg some (by kernel_rfl))
 f266:=Tryz.func173.trans (congrArg some (by kernel_rfl))
 f267:=Tryz.func160.trans (congrArg some (by kernel_rfl))
 f268:=Tryz.func175.trans (congrArg some (by kernel_rfl))
 f314:=Tryz.func174.trans (congrArg some (by kernel_rfl))
 t0:=Tryz.underlying0
 a0:=Tryz.isAgg0
 z0:=Tryz.sizeOf0
 v0:=Tryz.zeroValue0
 t3:=Tryz.underlying3
 a3:=Tryz.isAgg3
 z3:=Tryz.sizeOf3
 v3:=Tryz.zeroValue3
 t4:=Tryz.underlying4
 a4:=Tryz.isAgg4
 z4:=Tryz.sizeOf4
 v4:=Tryz.zeroValue4
 t5:=Tryz.underlying5
 a5:=Tryz.isAgg5
 z5:=Tryz.sizeOf5
 v5:=Tryz.zeroValue5
 t9:=Tryz.underlying9
 a9:=Tryz.isAgg9
 z9:=Tryz.sizeOf9
 v9:=Tryz.zeroValue9
 t21:=Tryz.underlying21
 a21:=Tryz.isAgg21
 z21:=Tryz.sizeOf21
 v21:=Tryz.zeroValue21
 t31:=Tryz.underlying138
 a31:=Tryz.isAgg138
 z31:=Tryz.sizeOf138
 v31:=Tryz.zeroValue138
 t46:=Tryz.underlying98
 a46:=Tryz.isAgg98
 z46:=Tryz.sizeOf98
 v46:=Tryz.zeroValue98
 t51:=Tryz.underlying222
 a51:=Tryz.isAgg222
 z51:=Tryz.sizeOf222
 v51:=Tryz.zeroValue222
 t105:=Tryz.underlying260
 a105:=Tryz.isAgg260
 z105:=Tryz.sizeOf260
 v105:=Tryz.zeroValue260
 t119:=Tryz.underlying274
 a119:=Tryz.isAgg274
 z119:=Tryz.sizeOf274
 t138:=Tryz.underlying276
 a138:=Tryz.isAgg276
 z138:=Tryz.sizeOf276
 v138:=Tryz.zeroValue276
 t139:=Tryz.underlying277
 a139:=Tryz.isAgg277
 z139:=Tryz.sizeOf277
 v139:=Tryz.zeroValue277
 t146:=Tryz.underlying249
 a146:=Tryz.isAgg249
 z146:=Tryz.sizeOf249
 v146:=Tryz.zeroValue249
 g1:=by kernel_rfl
 g3:=by kernel_rfl
 g4:=by kernel_rfl }
open Go.RowKit Go.Lib in
theorem Tryz.strings_Split(s sep:ByteArray)(m:Int)(w:World)(hs:s.size<4294967281)(hm:w.cell? ⟨2,0,none⟩=some (.int .i64 m))(h1 : 1<=sep.size) :
  Calls Tryz.prog 132 #[.string s,.string sep] w fun e w' =>
   e=.returned (.slice (some ⟨w.heap.size,0,none⟩) (Lib.countB s sep+1) (Lib.countB s sep+1))/\w'=w.alloc (.cells ((Lib.splitB sep 0 (Lib.countB s sep) s).map Value.string).toArray 9):=Any.strings_Split Tryz.N5 (by kernel_rfl) s sep m w hs hm h1
def Tryz.Ob:Go.Shelf.Ren:=⟨fun | 173=>66 | 246=>95 | 283=>125 | 284=>126 | 285=>127 | 286=>128 | 129=>153 | 317=>152 | 318=>154 | 319=>155 | 320=>156 | 337=>171 | 338=>172 | n=>n,fun | 2=>2 | 3=>3 | 9=>9 | 4=>4 | 171=>187 | 0=>0 | 53=>49 | 37=>22 | 5=>5 | 173=>190 | 212=>221 | 51=>222 | 20=>20 | 213=>223 | 46=>98 | 232=>257 | 233=>258 | n=>n,fun | 17=>1 | 18=>3 | 19=>4 | n=>n⟩
theorem Tryz.Oa:Go.Proofs.LaysM.n173 Tryz.prog Tryz.Ob:={
 mixed:=by kernel_rfl
 f129:=Tryz.func153.trans (congrArg some (by kernel_rfl))
 f173:=Tryz.func66.trans (congrArg some (by kernel_rfl))
 f246:=Tryz.func95.trans (congrArg some (by kernel_rfl))
 f283:=Tryz.func125.trans (congrArg some (by kernel_rfl))
 f284:=Tryz.func126.trans (congrArg some (by kernel_rfl))
 f285:=Tryz.func127.trans (congrArg some (by kernel_rfl))
 f286:=Tryz.func128.trans (congrArg some (by kernel_rfl))
 f317:=Tryz.func152.trans (congrArg some (by kernel_rfl))
 f318:=Tryz.func154.trans (congrArg some (by kernel_rfl))
 f319:=Tryz.func155.trans (congrArg some (by kernel_rfl))
 f320:=Tryz.func156.trans (congrArg some (by kernel_rfl))
 f337:=Tryz.func171.trans (congrArg some (by kernel_rfl))
 f338:=Tryz.func172.trans (congrArg some (by kernel_rfl))
 t0:=Tryz.underlying0
 a0:=Tryz.isAgg0
 z0:=Tryz.sizeOf0
 v0:=Tryz.zeroValue0
 t2:=Tryz.underlying2
 a2:=Tryz.isAgg2
 z2:=Tryz.sizeOf2
 v2:=Tryz.zeroValue2
 t3:=Tryz.underlying3
 a3:=Tryz.isAgg3
 z3:=Tryz.sizeOf3
 v3:=Tryz.zeroValue3
 t4:=Tryz.underlying4
 a4:=Tryz.isAgg4
 z4:=Tryz.sizeOf4
 v4:=Tryz.zeroValue4
 t5:=Tryz.underlying5
 a5:=Tryz.isAgg5
 z5:=Tryz.sizeOf5
 v5:=Tryz.zeroValue5
 t9:=Tryz.underlying9
 a9:=Tryz.isAgg9
 z9:=Tryz.sizeOf9
 v9:=Tryz.zeroValue9
 t20:=Tryz.underlying20
 a20:=Tryz.isAgg20
 z20:=Tryz.sizeOf20
 v20:=Tryz.zeroValue20
 t37:=Tryz.underlying22
 a37:=Tryz.isAgg22
 z37:=Tryz.sizeOf22
 v37:=Tryz.zeroValue22
 t46:=Tryz.underlying98
 a46:=Tryz.isAgg98
 z46:=Tryz.sizeOf98
 v46:=Tryz.zeroValue98
 t51:=Tryz.underlying222
 a51:=Tryz.isAgg222
 z51:=Tryz.sizeOf222
 v51:=Tryz.zeroValue222
 t53:=Tryz.underlying49
 a53:=Tryz.isAgg49
 z53:=Tryz.sizeOf49
 v53:=Tryz.zeroValue49
 t171:=Tryz.underlying187
 a171:=Tryz.isAgg187
 z171:=Tryz.sizeOf187
 v171:=Tryz.zeroValue187
 t173:=Tryz.underlying190
 a173:=Tryz.isAgg190
 z173:=Tryz.sizeOf190
 v173:=Tryz.zeroValue190
 t212:=Tryz.underlying221
 a212:=Tryz.isAgg221
 z212:=Tryz.sizeOf221
 v212:=Tryz.zeroValue221
 t213:=Tryz.underlying223
 a213:=Tryz.isAgg223
 z213:=Tryz.sizeOf223
 t232:=Tryz.underlying257
 a232:=Tryz.isAgg257
 z232:=Tryz.sizeOf257
 v232:=Tryz.zeroValue257
 t233:=Tryz.underlying258
 a233:=Tryz.isAgg258
 z233:=Tryz.sizeOf258
 v233:=Tryz.zeroValue258
 g17:=by kernel_rfl
 g18:=by kernel_rfl
 g19:=by kernel_rfl
 i0:=by kernel_rfl
 i2:=by kernel_rfl
 i3:=by kernel_rfl
 i4:=by kernel_rfl
 i5:=by kernel_rfl
 i9:=by kernel_rfl
 i20:=by kernel_rfl
 i37:=by kernel_rfl
 i46:=by kernel_rfl
 i51:=by kernel_rfl
 i53:=by kernel_rfl
 i171:=by kernel_rfl
 i173:=by kernel_rfl
 i212:=by kernel_rfl
 i232:=by kernel_rfl
 i233:=by kernel_rfl
 m17:=by kernel_rfl
 m18:=by kernel_rfl
 m19:=by kernel_rfl }
open Go.RowKit Go.Sort Go.Lib in
theorem Tryz.strconv_FormatInt_10(n:Int)(h0 : -9223372036854775808<=n)(h1:n<=9223372036854775807)(w:World)(htab:Lib.TabIs Tryz.prog w Tryz.rF .u64 Lib.pow10Tab) :
  Calls Tryz.prog 66 #[.int .i64 n,.int .i64 10] w fun e w'=>e=.returned (.string ⟨(Lib.itoa n).toArray⟩)/\∃k os,w'=grow (w.drewN k) os:=Any.strconv_FormatInt_10 Tryz.Oa n h0 h1 w htab
def Tryz.N7:Go.Shelf.Ren:=⟨fun | 174=>166 | 247=>181 | 245=>182 | 287=>186 | 279=>187 | 280=>188 | 281=>189 | 282=>190 | 321=>192 | 322=>193 | 316=>194 | 171=>196 | 205=>195 | 243=>197 | 246=>95 | 283=>125 | 284=>126 | 285=>127 | 286=>128 | 129=>153 | 317=>152 | 318=>154 | 319=>155 | 320=>156 | 337=>171 | 338=>172 | n=>n,fun | 9=>9 | 3=>3 | 2=>2 | 75=>159 | 85=>195 | 4=>4 | 167=>262 | 5=>5 | 53=>49 | 175=>263 | 46=>98 | 168=>265 | 37=>22 | 0=>0 | 210=>272 | 21=>21 | 127=>244 | 145=>280 | 143=>278 | 171=>187 | 173=>190 | 212=>221 | 51=>222 | 20=>20 | 213=>223 | 232=>257 | 233=>258 | 80=>119 | n=>n,fun | 15=>5 | 16=>6 | 17=>1 | 18=>3 | 19=>4 | n=>n⟩
theorem Tryz.xL:Go.Proofs.LaysC.n174 Tryz.prog Tryz.N7:={
 mixed:=by kernel_rfl
 f129:=Tryz.func153.trans (congrArg some (by kernel_rfl))
 f171:=Tryz.func196.trans (congrArg some (by kernel_rfl))
 f174:=Tryz.func166.trans (congrArg some (by kernel_rfl))
 f205:=Tryz.func195.trans (congrArg some (by kernel_rfl))
 f243:=Tryz.func197.trans (congrArg some (by kernel_rfl))
 f245:=Tryz.func182.trans (congrArg some (by kernel_rfl))
 f246:=Tryz.func95.trans (congrArg some (by kernel_rfl))
 f247:=Tryz.func181.trans (congrArg some (by kernel_rfl))
 f279:=Tryz.func187.trans (congrArg some (by kernel_rfl))
 f280:=Tryz.func188.trans (congrArg some (by kernel_rfl))
 f281:=Tryz.func189.trans (congrArg some (by kernel_rfl))
 f282:=Tryz.func190.trans (congrArg some (by kernel_rfl))
 f283:=Tryz.func125.trans (congrArg some (by kernel_rfl))
 f284:=Tryz.func126.trans (congrArg some (by kernel_rfl))
 f285:=Tryz.func127.trans (congrArg some (by kernel_rfl))
 f286:=Tryz.func128.trans (congrArg some (by kernel_rfl))
 f287:=Tryz.func186.trans (congrArg some (by kernel_rfl))
 f316:=Tryz.func194.trans (congrArg some (by kernel_rfl))
 f317:=Tryz.func152.trans (congrArg some (by kernel_rfl))
 f318:=Tryz.func154.trans (congrArg some (by kernel_rfl))
 f319:=Tryz.func155.trans (congrArg some (by kernel_rfl))
 f320:=Tryz.func156.trans (congrArg some (by kernel_rfl))
 f321:=Tryz.func192.trans (congrArg some (by kernel_rfl))
 f322:=Tryz.func193.trans (congrArg some (by kernel_rfl))
 f337:=Tryz.func171.trans (congrArg some (by kernel_rfl))
 f338:=Tryz.func172.trans (congrArg some (by kernel_rfl))
 t0:=Tryz.underlying0
 a0:=Tryz.isAgg0
 z0:=Tryz.sizeOf0
 v0:=Tryz.zeroValue0
 t2:=Tryz.underlying2
 a2:=Tryz.isAgg2
 z2:=Tryz.sizeOf2
 v2:=Tryz.zeroValue2
 t3:=Tryz.underlying3
 a3:=Tryz.isAgg3
 z3:=Tryz.sizeOf3
 v3:=Tryz.zeroValue3
 t4:=Tryz.underlying4
 a4:=Tryz.isAgg4
 z4:=Tryz.sizeOf4
 v4:=Tryz.zeroValue4
 t5:=Tryz.underlying5
 a5:=Tryz.isAgg5
 z5:=Tryz.sizeOf5
 v5:=Tryz.zeroValue5
 t9:=Tryz.underlying9
 a9:=Tryz.isAgg9
 z9:=Tryz.sizeOf9
 v9:=Tryz.zeroValue9
 t20:=Tryz.underlying20
 a20:=Tryz.isAgg20
 z20:=Tryz.sizeOf20
 v20:=Tryz.zeroValue20
 t21:=Tryz.underlying21
 a21:=Tryz.isAgg21
 z21:=Tryz.sizeOf21
 v21:=Tryz.zeroValue21
 t37:=Tryz.underlying22
 a37:=Tryz.isAgg22
 z37:=Tryz.sizeOf22
 v37:=Tryz.zeroValue22
 t46:=Tryz.underlying98
 a46:=Tryz.isAgg98
 z46:=Tryz.sizeOf98
 v46:=Tryz.zeroValue98
 t51:=Tryz.underlying222
 a51:=Tryz.isAgg222
 z51:=Tryz.sizeOf222
 v51:=Tryz.zeroValue222
 t53:=Tryz.underlying49
 a53:=Tryz.isAgg49
 z53:=Tryz.sizeOf49
 v53:=Tryz.zeroValue49
 t75:=Tryz.underlying159
 a75:=Tryz.isAgg159
 z75:=Tryz.sizeOf159
 v75:=Tryz.zeroValue159
 t85:=Tryz.underlying195
 a85:=Tryz.isAgg195
 z85:=Tryz.sizeOf195
 v85:=Tryz.zeroValue195
 t127:=Tryz.underlying244
 a127:=Tryz.isAgg244
 z127:=Tryz.sizeOf244
 v127:=Tryz.zeroValue244
 t143:=Tryz.underlying278
 a143:=Tryz.isAgg278
 z143:=Tryz.sizeOf278
 v143:=Tryz.zeroValue278
 t145:=Tryz.underlying280
 a145:=Tryz.isAgg280
 z145:=Tryz.sizeOf280
 v145:=Tryz.zeroValue280
 t167:=Tryz.underlying262
 a167:=Tryz.isAgg262
 z167:=Tryz.sizeOf262
 v167:=Tryz.zeroValue262
 t168:=Tryz.underlying265
 a168:=Tryz.isAgg265
 z168:=Tryz.sizeOf265
 v168:=Tryz.zeroValue265
 t171:=Tryz.underlying187
 a171:=Tryz.isAgg187
 z171:=Tryz.sizeOf187
 v171:=Tryz.zeroValue187
 t173:=Tryz.underlying190
 a173:=Tryz.isAgg190
 z173:=Tryz.sizeOf190
 v173:=Tryz.zeroValue190
 t175:=Tryz.underlying263
 a175:=Tryz.isAgg263
 z175:=Tryz.sizeOf263
 v175:=Tryz.zeroValue263
 t210:=Tryz.underlying272
 a210:=Tryz.isAgg272
 z210:=Tryz.sizeOf272
 v210:=Tryz.zeroValue272
 t212:=Tryz.underlying221
 a212:=Tryz.isAgg221
 z212:=Tryz.sizeOf221
 v212:=Tryz.zeroValue221
 t213:=Tryz.underlying223
 a213:=Tryz.isAgg223
 z213:=Tryz.sizeOf223
 t232:=Tryz.underlying257
 a232:=Tryz.isAgg257
 z232:=Tryz.sizeOf257
 v232:=Tryz.zeroValue257
 t233:=Tryz.underlying258
 a233:=Tryz.isAgg258
 z233:=Tryz.sizeOf258
 v233:=Tryz.zeroValue258
 g15:=by kernel_rfl
 g16:=by kernel_rfl
 g17:=by kernel_rfl
 g18:=by kernel_rfl
 g19:=by kernel_rfl
 t80:=Tryz.underlying119
 a80:=Tryz.isAgg119
 z80:=Tryz.sizeOf119
 v80:=Tryz.zeroValue119
 i0:=by kernel_rfl
 i2:=by kernel_rfl
 i3:=by kernel_rfl
 i4:=by kernel_rfl
 i5:=by kernel_rfl
 i9:=by kernel_rfl
 i20:=by kernel_rfl
 i21:=by kernel_rfl
 i37:=by kernel_rfl
 i46:=by kernel_rfl
 i51:=by kernel_rfl
 i53:=by kernel_rfl
 i75:=by kernel_rfl
 i80:=by kernel_rfl
 i85:=by kernel_rfl
 i127:=by kernel_rfl
 i143:=by kernel_rfl
 i145:=by kernel_rfl
 i167:=by kernel_rfl
 i168:=by kernel_rfl
 i171:=by kernel_rfl
 i173:=by kernel_rfl
 i175:=by kernel_rfl
 i210:=by kernel_rfl
 i212:=by kernel_rfl
 i232:=by kernel_rfl
 i233:=by kernel_rfl
 m15:=by kernel_rfl
 m16:=by kernel_rfl
 m17:=by kernel_rfl
 m18:=by kernel_rfl
 m19:=by kernel_rfl
 c0:=by kernel_rfl
 c2:=by kernel_rfl
 c3:=by kernel_rfl
 c4:=by kernel_rfl
 c5:=by kernel_rfl
 c9:=by kernel_rfl
 c20:=by kernel_rfl
 c21:=by kernel_rfl
 c37:=by kernel_rfl
 c46:=by kernel_rfl
 c51:=by kernel_rfl
 c53:=by kernel_rfl
 c75:=by kernel_rfl
 c80:=by kernel_rfl
 c85:=by kernel_rfl
 c127:=by kernel_rfl
 c143:=by kernel_rfl
 c145:=by kernel_rfl
 c167:=by kernel_rfl
 c168:=by kernel_rfl
 c171:=by kernel_rfl
 c173:=by kernel_rfl
 c175:=by kernel_rfl
 c210:=by kernel_rfl
 c212:=by kernel_rfl
 c213:=by kernel_rfl
 c232:=by kernel_rfl
 c233:=by kernel_rfl }
open Go.RowKit in
theorem Tryz.strconv_ParseInt_10_at64_ok(s:ByteArray)(hmax:s.size<=9223372036854775806)(v:Int)(h:Lib.parseIntB 64 s.data.toList=.ok v)(w:World) :
  Calls Tryz.prog 166 #[.string s,.int .i64 10,.int .i64 64] w fun e w'=>e=.returned (.tuple #[.int .i64 v,.nilIface])/\(w'=w\/∃t,w'=Lib.bytesWorld w 5 t):=Any.strconv_ParseInt_10_at64_ok Tryz.xL s hmax v h w
open Go.RowKit in
theorem Tryz.strconv_ParseInt_10_at64_syntax(s:ByteArray)(hlim:s.size<=281474976710656)(h:(¬∃v,Lib.parseIntB 64 s.data.toList=.ok v)/\Lib.parseIntB 64 s.data.toList≠.range)(ev:Value)(w:World)(hv:w.cell? ⟨5,0,none⟩=some ev)(hev:ev=.nilIface\/∃te pe,ev=.iface te pe) :
  Calls Tryz.prog 166 #[.string s,.int .i64 10,.int .i64 64] w fun e w'=>∃N,e=.returned (.tuple #[.int .i64 (0),.iface 265 (.pointer (some ⟨N,0,none⟩))])/\w.heap.size<=N/\w'.heap[N]?=some (.cells #[.string ⟨#[80,97,114,115,101,73,110,116]⟩,.string s,ev] 272 (0,0))/\Below w.heap.size w w':=Any.strconv_ParseInt_10_at64_syntax Tryz.xL s hlim (by generalize Lib.parseIntB 64 s.data.toList=r at h|-;cases r<;>first | rfl | exact absurd ⟨_,rfl⟩ h.1 | exact absurd rfl h.2) ev w hv hev
open Go.RowKit in
theorem Tryz.strconv_ParseInt_10_at64_range(s:ByteArray)(hlim:s.size<=281474976710656)(h:Lib.parseIntB 64 s.data.toList=.range)(ev:Value)(w:World)(hv:w.cell? ⟨6,0,none⟩=some ev)(hev:ev=.nilIface\/∃te pe,ev=.iface te pe) :
  Calls Tryz.prog 166 #[.string s,.int .i64 10,.int .i64 64] w fun e w'=>∃N,e=.returned (.tuple #[.int .i64 (Lib.intSat 64 s.data.toList),.iface 265 (.pointer (some ⟨N,0,none⟩))])/\w.heap.size<=N/\w'.heap[N]?=some (.cells #[.string ⟨#[80,97,114,115,101,73,110,116]⟩,.string s,ev] 272 (0,0))/\Below w.heap.size w w':=Any.strconv_ParseInt_10_at64_range Tryz.xL s hlim h ev w hv hev
end Go.Proofs
namespace Go.D3
open Go Go.RowKit
theorem HO{P:Program}{f:FuncId}{xs:List D}{res:D}(h:∀(w:World)(A:Nat->Prop)(vs:Array Value),eX w A->(∀b,A b->b<w.heap.size)->vs.size=xs.length->(∀(j:Nat)(d:D),xs[j]?=some d->Rd w A (vs.getD j undef) d) ->
  Calls P f vs w fun e w'=>∃(v:Value)(F:Nat->Prop),e=.returned v/\an w' (fun b=>A b\/(w.heap.size<=b/\b<w'.heap.size/\¬F b)) v res F/\(∀b,F b->w.heap.size<=b/\b<w'.heap.size)/\Below w.heap.size w w'):aC P f (xs.map .v) res:=by
 intro w A vs Fs hg hA hvs hpre _ _;refine(h w A vs hg hA (by simpa using hvs) fun j d hd=>?_).mono ?_
 ·exact(hpre j (.v d) (by simp[hd])).1
 ·rintro e w' ⟨v,F,rfl,hown,hF,hb⟩
  refine⟨v,F,fun _ _=>False,rfl,hb.size,hown.mono (fun b h=>h.imp id fun h=>⟨h.1,h.2.1,h.2.2,fun _ h=>h⟩) (fun _ _=>rfl) (fun _ _=>rfl) fun _ h=>h,fun j a ha=>?_,fun b h=>⟨(hF b h).2,.inl (hF b h).1,fun _ h=>h⟩,fun _ _ h=>h.elim,fun _ _ _ _ h=>h.elim,fun b h _=>hb.block b h,hb.os,hb.tape,hb.output⟩;rw[List.getElem?_map,Option.map_eq_some_iff] at ha;obtain⟨d,_,rfl⟩:=ha;exact fun _ h=>h
theorem lE{P:Program}{f:FuncId}{xs:List D}{res:D}(h:∀(w:World)(A:Nat->Prop)(vs:Array Value),eX w A->(∀b,A b->b<w.heap.size)->vs.size=xs.length->(∀(j:Nat)(d:D),xs[j]?=some d->Rd w A (vs.getD j undef) d) ->
  Calls P f vs w fun e w'=>∃v:Value,e=.returned v/\an w' (fun _=>False) v res (fun _=>False)/\Below w.heap.size w w'):aC P f (xs.map .v) res :=
 HO fun w A vs hg hA hvs hpre=>(h w A vs hg hA hvs hpre).mono fun _ _ ⟨v,he,hown,hb⟩=>⟨v,fun _=>False,he,hown.mono (fun _ h=>h.elim) (fun _ _=>rfl) (fun _ _=>rfl) fun _ h=>h,fun _ h=>h.elim,hb⟩
theorem LN(w:World)(n:Nat):Below w.heap.size w (w.drewN n):=⟨rfl,rfl,rfl,Nat.le_refl _,fun _ _=>rfl⟩
theorem LC{vs:Array Value}(h:vs.size=1):vs=#[vs.getD 0 undef]:=by
 match vs,h with
 | ⟨[a]⟩,_=>rfl
theorem kN{vs:Array Value}(h:vs.size=2):vs=#[vs.getD 0 undef,vs.getD 1 undef]:=by
 match vs,h with
 | ⟨[a,b]⟩,_=>rfl
theorem LD{vs:Array Value}(h:vs.size=3):vs=#[vs.getD 0 undef,vs.getD 1 undef,vs.getD 2 undef]:=by
 match vs,h with
 | ⟨[a,b,c]⟩,_=>rfl
theorem kB{w:World}{A:Nat->Prop}{v:Value}{s:List UInt8}(h:Rd w A v (.str s)):v=.string ⟨s.toArray⟩/\s.length<=maxLen:=by cases h;exact⟨rfl,‹_›⟩
theorem uS{w:World}{A:Nat->Prop}{v:Value}{k:IntKind}{n:Int}(h:Rd w A v (.int k n)):v=.int k n/\k.has n:=by cases h;exact⟨rfl,‹_›⟩
theorem rL{s sep:List UInt8}(hs:s.length<4294967281):aC Go.Proofs.Tryz.prog 71 [.v (.str s),.v (.str sep)] (.au [.str (Lib.cut s sep).1,.str (Lib.cut s sep).2.1,.bool (Lib.cut s sep).2.2]):=by
 refine lE (xs:=[.str s,.str sep]) fun w A vs hg hA hvs hpre=>?_
 rw[kN hvs];obtain⟨e1,l1⟩:=kB (hpre 0 _ rfl);obtain⟨e2,_⟩:=kB (hpre 1 _ rfl);rw[e1,e2];obtain⟨m,hm,_⟩:=hg.maxLen;refine(Go.Proofs.Tryz.strings_Cut ⟨s.toArray⟩ ⟨sep.toArray⟩ m w (by show s.toArray.size<_;simpa using hs) hm).mono ?_;rintro e w' ⟨rfl,hw⟩
 have hb:Below w.heap.size w w':=by
  first | (obtain⟨n,rfl⟩:=hw;exact LN w n) | (subst hw;exact Below.refl _ _)
 have hc:(Lib.cut s sep).1.length<=s.length/\(Lib.cut s sep).2.1.length<=s.length:=by
  unfold Lib.cut;split
  ·exact⟨by simp only[List.length_take];omega,by simp⟩
  ·exact⟨Nat.le_refl _,by simp⟩
 refine⟨_,rfl,.au (fun _ _=>False) rfl (fun j x hj=>?_) (fun _ _ h=>h) (fun _ _ _ _ h=>h.elim),hb⟩
 match j,hj with
 | 0,hj=>simp at hj;subst hj;exact .str (Nat.le_trans hc.1 l1)
 | 1,hj=>simp at hj;subst hj;exact .str (Nat.le_trans hc.2 l1)
 | 2,hj=>simp at hj;subst hj;exact .bool
 | j+3,hj=>simp at hj
theorem Hv{s p:List UInt8}:aC Go.Proofs.Tryz.prog 72 [.v (.str s),.v (.str p)] (.au [.str (Lib.trimPrefix s p),.bool (Lib.hasPrefix s p)]):=by
 refine lE (xs:=[.str s,.str p]) fun w A vs hg hA hvs hpre=>?_
 rw[kN hvs];obtain⟨e1,l1⟩:=kB (hpre 0 _ rfl);obtain⟨e2,_⟩:=kB (hpre 1 _ rfl);rw[e1,e2];refine(Go.Proofs.Tryz.strings_CutPrefix ⟨s.toArray⟩ ⟨p.toArray⟩ w).mono ?_;rintro e w' ⟨rfl,rfl⟩;have hc:(Lib.trimPrefix s p).length<=s.length:=by unfold Lib.trimPrefix;split<;>simp
 refine⟨_,rfl,.au (fun _ _=>False) rfl (fun j x hj=>?_) (fun _ _ h=>h) (fun _ _ _ _ h=>h.elim),Below.refl _ _⟩
 match j,hj with
 | 0,hj=>simp at hj;subst hj;exact .str (Nat.le_trans hc l1)
 | 1,hj=>simp at hj;subst hj;exact .bool
 | j+2,hj=>simp at hj
theorem WK{w:World}{A:Nat->Prop}(h:eX w A):Lib.TabIs Go.Proofs.Tryz.prog w Go.Proofs.Tryz.rF .u64 Lib.pow10Tab:=by
 obtain⟨t,fz,h1,_⟩:=h.pow;unfold Lib.TabIs World.var?;rw[show Go.Proofs.Tryz.prog.globalNamed Go.Proofs.Tryz.rF=some 1 by kernel_rfl];simp[h1]
theorem kE{n:Int}:aC Go.Proofs.Tryz.prog 66 [.v (.int .i64 n),.v (.int .i64 10)] (.str (Lib.itoa n)):=by
 refine lE (xs:=[.int .i64 n,.int .i64 10]) fun w A vs hg hA hvs hpre=>?_
 rw[kN hvs];obtain⟨e1,l1⟩:=uS (hpre 0 _ rfl);obtain⟨e2,_⟩:=uS (hpre 1 _ rfl);rw[e1,e2]
 have h1 : -9223372036854775808<=n/\n<=9223372036854775807:=by
  have:=l1;simp[IntKind.has,IntKind.min,IntKind.max,IntKind.signed,IntKind.bits] at this;exact this
 refine(Go.Proofs.Tryz.strconv_FormatInt_10 n h1.1 h1.2 w (WK hg)).mono ?_;rintro e w' ⟨rfl,k,os,rfl⟩;refine⟨_,rfl,.str ?_,⟨rfl,rfl,rfl,by simp[Go.Sort.grow],fun j hj=>?_⟩⟩
 ·have:=Lib.itoa_length_le n h1.1 h1.2
  simp only[maxLen];omega
 ·show(w.heap++os)[j]?=_
  rw[Array.getElem?_append_left hj]
def yP(s:List UInt8):D :=
 match Lib.parseIntB 64 s with
 | .ok v=>.au [.int .i64 v,.bj]
 | .range=>.au [.int .i64 (Lib.intSat 64 s),.bD 265 .dead]
 | _=>.au [.int .i64 0,.bD 265 .dead]
theorem UK{s:List UInt8}(hs:s.length<=281474976710656):aC Go.Proofs.Tryz.prog 166 [.v (.str s),.v (.int .i64 10),.v (.int .i64 64)] (yP s):=by
 refine lE (xs:=[.str s,.int .i64 10,.int .i64 64]) fun w A vs hg hA hvs hpre=>?_
 rw[LD hvs];obtain⟨e1,l1⟩:=kB (hpre 0 _ rfl);obtain⟨e2,_⟩:=uS (hpre 1 _ rfl);obtain⟨e3,_⟩:=uS (hpre 2 _ rfl);rw[e1,e2,e3]
 have two:∀{w':World}{n:Int}{y:D}{v:Value},IntKind.i64.has n->an w' (fun _=>False) v y (fun _=>False)->an w' (fun _=>False) (.tuple #[.int .i64 n,v]) (.au [.int .i64 n,y]) (fun _=>False):=by
  intro w' n y v h1 h2;refine .au (fun _ _=>False) rfl (fun j x hj=>?_) (fun _ _ h=>h) (fun _ _ _ _ h=>h.elim)
  match j,hj with
  | 0,hj=>simp at hj;subst hj;exact .int h1
  | 1,hj=>simp at hj;subst hj;exact h2
  | j+2,hj=>simp at hj
 unfold yP;cases hp:Lib.parseIntB 64 s with
 | ok v =>
  have hv:=Lib.parseIntB_bounds hp;refine(Go.Proofs.Tryz.strconv_ParseInt_10_at64_ok ⟨s.toArray⟩ (by show s.toArray.size<=_;simp;omega) v hp w).mono ?_;rintro e w' ⟨rfl,hw⟩;refine⟨_,rfl,two ?_ .bj,?_⟩
  ·simp[IntKind.has,IntKind.min,IntKind.max,IntKind.signed,IntKind.bits];omega
  ·rcases hw with rfl | ⟨t,rfl⟩
   ·exact Below.refl _ _
   ·exact⟨rfl,rfl,rfl,by rw[Lib.bytesWorld_size];omega,fun j hj=>Lib.bytesWorld_at_old w 5 t j hj⟩
 | range =>
  obtain⟨te,pe,hc,_⟩:=hg.eL;refine(Go.Proofs.Tryz.strconv_ParseInt_10_at64_range ⟨s.toArray⟩ (by show s.toArray.size<=_;simpa using hs) hp (.iface te pe) w hc (.inr ⟨_,_,rfl⟩)).mono ?_;rintro e w' ⟨N,rfl,_,_,hb⟩;refine⟨_,rfl,two ?_ (.bD .dead),hb⟩;show IntKind.i64.has (Lib.intSat 64 s);unfold Lib.intSat;split<;>exact⟨by decide,by decide⟩
 | _ =>
  obtain⟨te,pe,hc,_⟩:=hg.WI;refine(Go.Proofs.Tryz.strconv_ParseInt_10_at64_syntax ⟨s.toArray⟩ (by show s.toArray.size<=_;simpa using hs) ⟨(by rintro⟨v,h⟩;have h:=hp.symm.trans h;cases h),(fun h=>by have h:=hp.symm.trans h;cases h)⟩ (.iface te pe) w hc (.inr ⟨_,_,rfl⟩)).mono ?_;rintro e w' ⟨N,rfl,_,_,hb⟩;exact⟨_,rfl,two ⟨by decide,by decide⟩ (.bD .dead),hb⟩
def iC(s sep:List UInt8):List (List UInt8):=(Lib.splitB ⟨sep.toArray⟩ 0 (Lib.countB ⟨s.toArray⟩ ⟨sep.toArray⟩) ⟨s.toArray⟩).map (·.data.toList)
theorem LK(x:ByteArray):(⟨x.data.toList.toArray⟩:ByteArray)=x:=by cases x;simp
theorem Vo{s sep:List UInt8}(hs:s.length<4294967281)(h1 : 1<=sep.length)(hlen:∀x∈iC s sep,x.length<=maxLen)(hn:(iC s sep).length=Lib.countB ⟨s.toArray⟩ ⟨sep.toArray⟩+1)(hm:(iC s sep).length<=maxLen) :
  aC Go.Proofs.Tryz.prog 132 [.v (.str s),.v (.str sep)] (dY (iC s sep)):=by
 refine HO (xs:=[.str s,.str sep]) fun w A vs hg hA hvs hpre=>?_
 rw[kN hvs];obtain⟨e1,l1⟩:=kB (hpre 0 _ rfl);obtain⟨e2,_⟩:=kB (hpre 1 _ rfl);rw[e1,e2];obtain⟨m,hmx,_⟩:=hg.maxLen;refine(Go.Proofs.Tryz.strings_Split ⟨s.toArray⟩ ⟨sep.toArray⟩ m w (by show s.toArray.size<_;simpa using hs) hmx (by show 1<=sep.toArray.size;simpa using h1)).mono ?_;rintro e w' ⟨rfl,rfl⟩;rw[<-hn];have hnew:(w.alloc (.cells ((Lib.splitB ⟨sep.toArray⟩ 0 (Lib.countB ⟨s.toArray⟩ ⟨sep.toArray⟩) ⟨s.toArray⟩).map Value.string).toArray 9)).heap[w.heap.size]?=some (.cells ((Lib.splitB ⟨sep.toArray⟩ 0 (Lib.countB ⟨s.toArray⟩ ⟨sep.toArray⟩) ⟨s.toArray⟩).map Value.string).toArray 9 (0,0)):=heap_alloc_new w _;refine⟨_,(·=w.heap.size),rfl,?_,fun b hb=>by subst hb;simp,?_⟩
 ·have hl:(iC s sep).length=((iC s sep).map D.str).length:=by simp
  unfold dY ae;rw[hl];refine an.slice (sz:=1) (fun _ _=>False) hnew (by simp[iC]) (Nat.le_refl _) (by simpa using hm) (by decide) rfl (fun x hx=>by obtain⟨y,_,rfl⟩:=List.mem_map.1 hx;rfl) (fun j x hj=>?_) rfl (fun _ _ h=>h.elim) fun _ _ _ _ h=>h.elim
  unfold cellAt at hj;rw[Nat.div_one,Nat.mod_one,List.getElem?_map] at hj;cases hq:(iC s sep)[j]? with
  | none=>rw[hq] at hj;cases hj
  | some y =>
   rw[hq] at hj;simp only[Option.map_some,Option.bind_some,D.cells,List.getElem?_cons_zero,Option.some.injEq] at hj;subst hj;have hmem:=List.mem_of_getElem? hq;unfold iC at hq;rw[List.getElem?_map,Option.map_eq_some_iff] at hq;obtain⟨z,hz,rfl⟩:=hq
   have hv:((Lib.splitB ⟨sep.toArray⟩ 0 (Lib.countB ⟨s.toArray⟩ ⟨sep.toArray⟩) ⟨s.toArray⟩).map Value.string).toArray.getD (0+j) undef=.string ⟨z.data.toList.toArray⟩:=by
    rw[Nat.zero_add,Array.getD_eq_getD_getElem?,List.getElem?_toArray,List.getElem?_map,hz,LK];rfl
   rw[hv];exact .str (hlen _ hmem)
 ·exact⟨rfl,rfl,rfl,by simp,fun j hj=>heap_alloc_old w _ hj⟩
theorem HM{l:List (List UInt8)}{sep:List UInt8}(hn:l.length<=140737488355328)(hlen:(Lib.join l sep).length<=140737488355328) :
  aC Go.Proofs.Tryz.prog 106 [.v (dY l),.v (.str sep)] (.str (Lib.join l sep)):=by
 refine lE (xs:=[dY l,.str sep]) fun w A vs hg hA hvs hpre=>?_
 rw[kN hvs];obtain⟨e2,_⟩:=kB (hpre 1 _ rfl);rw[e2];have h0:Rd w A (vs.getD 0 undef) (dY l):=hpre 0 _ rfl
 have none:∀{p:Option Addr}{c:Nat},l=[]->Calls Go.Proofs.Tryz.prog 106 #[.slice p 0 c,.string ⟨sep.toArray⟩] w fun e w'=>∃v:Value,e=.returned v/\an w' (fun _=>False) v (.str (Lib.join l sep)) (fun _=>False)/\Below w.heap.size w w':=by
  rintro p c rfl;refine(Go.Proofs.Tryz.strings_Join_none p c ⟨sep.toArray⟩ w).mono ?_;rintro e w' ⟨rfl,rfl⟩;exact⟨_,rfl,an.str (s:=[]) (by simp),Below.refl _ _⟩
 unfold dY ae at h0;generalize hL:l.map D.str=L at h0;generalize vs.getD 0 undef=v0 at h0;cases h0 with
 | nil=>exact none (by simpa using hL)
 | empty hm=>exact none (by simpa using hL)
 | @slice z L b off cap sz hAb hc hm hz hzz hsz us hcells hr =>
  have hsz1:sz=1:=by simpa[D.cells] using hzz.symm
  subst hsz1
  have key:∀(j:Nat) x,(l.map fun x=>(⟨x.toArray⟩:ByteArray))[j]?=some x->w.cell? ⟨b,off+j,Option.none⟩=some (.string x):=by
   intro j x hj;rw[List.getElem?_map,Option.map_eq_some_iff] at hj;obtain⟨y,hy,rfl⟩:=hj
   have hcj:cellAt L 1 j=some (.str y):=by
    unfold cellAt;rw[Nat.div_one,Nat.mod_one,<-hL,List.getElem?_map,hy];rfl
   rw[hcells j _ hcj];exact congrArg some (kB (hr j _ hcj)).1
  have hmap:(l.map fun x=>(⟨x.toArray⟩:ByteArray)).map (·.data.toList)=l:=by rw[List.map_map];simp[Function.comp_def]
  have:=Go.Proofs.Tryz.strings_Join b off cap (l.map fun x=>⟨x.toArray⟩) ⟨sep.toArray⟩ w key (hA b hAb) (by simpa using hn) (by rw[List.length_map];rw[<-hL,List.length_map] at hc;exact hc) (by rw[hmap];simpa using hlen);rw[hmap,List.length_map] at this;rw[show L.length=l.length by rw[<-hL,List.length_map]];refine this.mono ?_;rintro e w' ⟨rfl,hb⟩;refine⟨_,rfl,an.str ?_,hb⟩;simp only[maxLen];omega
end Go.D3
namespace Go.D3
open Go Go.RowKit Go.Extern.Stop Go.Stop Go.Extern
set_option maxRecDepth 100000
def wR:Array Value->Sem Value:=Extern.ReflectliteType.method fun t=>do Go.Extern.Rtype.noPackHeld "Comparable" t;pure (.bool (<-typeInfo t).comparable)
theorem EY(v:Value)(w:World):(Extern.ReflectliteType.typeOf #[.iface 278 v]).run Go.Proofs.Tryz.prog w=.ok (.iface 235 (.agg #[.pointer (some ⟨9,278,none⟩)])) w:=by kernel_rfl
theorem EU(w:World):(wR #[.agg #[.pointer (some ⟨9,278,none⟩)]]).run Go.Proofs.Tryz.prog w=.ok (.bool true) w:=by kernel_rfl
theorem EV(v:Value)(w:World):(Go.method 411 235 v "Comparable").run Go.Proofs.Tryz.prog w=.ok (219,v) w:=by kernel_rfl
theorem ET:(Go.Proofs.Tryz.prog.info? 278).map (·.comparable)=some true:=by kernel_rfl
theorem EX:(Go.Proofs.Tryz.prog.info? 280).map (·.size)=some 1:=by kernel_rfl
theorem P7(v:Value)(xT:TypeId)(w:World):(Instr.typeAssert (.iface 278 v) xT 237 true).run Go.Proofs.Tryz.prog w=.ok (.tuple #[.nilIface,.bool false]) w:=run_typeAssert_lacksB Go.Proofs.Tryz.underlying237 (by kernel_rfl) (by kernel_rfl) v xT w
theorem P8(v:Value)(xT:TypeId)(w:World):(Instr.typeAssert (.iface 231 v) xT 237 true).run Go.Proofs.Tryz.prog w=.ok (.tuple #[.nilIface,.bool false]) w:=run_typeAssert_lacksB Go.Proofs.Tryz.underlying237 (by kernel_rfl) (by kernel_rfl) v xT w
theorem Qa(v:Value)(xT:TypeId)(w:World):(Instr.typeAssert (.iface 231 v) xT 240 true).run Go.Proofs.Tryz.prog w=.ok (.tuple #[.nilIface,.bool false]) w:=run_typeAssert_lacksB Go.Proofs.Tryz.underlying240 (by kernel_rfl) (by kernel_rfl) v xT w
theorem Ng(v:Value)(xT:TypeId)(w:World):(Instr.typeAssert (.iface 231 v) xT 242 true).run Go.Proofs.Tryz.prog w=.ok (.tuple #[.iface 231 v,.bool true]) w:=run_typeAssert_hasB Go.Proofs.Tryz.underlying242 (by kernel_rfl) v xT w
theorem Pf(v:Value)(w:World):(Go.method 411 231 v "Unwrap").run Go.Proofs.Tryz.prog w=.ok (215,v) w:=by kernel_rfl
theorem NH(a:Addr)(w:World) :
  Calls Go.Proofs.Tryz.prog 103 #[.iface 278 (.pointer (some a)),.iface 278 (.pointer (some a))] w fun e w'=>e=.returned (.bool true)/\w'=w:=by
 obtain⟨i,hi,hcmp⟩:=Option.map_eq_some_iff.1 ET;obtain⟨j,hj,hjs⟩:=Option.map_eq_some_iff.1 EX;have h8:=@run_callFunc_extern Go.Proofs.Tryz.prog 138 _ Extern.ReflectliteType.typeOf Go.Proofs.Tryz.func138 (by kernel_rfl) (by kernel_rfl) (by kernel_rfl) (by kernel_rfl);have h32:=@run_callFunc_extern Go.Proofs.Tryz.prog 219 _ wR Go.Proofs.Tryz.func219 (by kernel_rfl) (by kernel_rfl) (by kernel_rfl) (by kernel_rfl);have tT:=EY;have cT:=EU;have mR:=EV;have heq:=run_eql_iface_ptr_same (P:=Go.Proofs.Tryz.prog) w a Go.Proofs.Tryz.underlying159 Go.Proofs.Tryz.underlying278 hi hcmp hj
 go_enter Go.Proofs.Tryz.func103,Go.Proofs.Tryz.ntmps103
 go_wp2
 refine wp_loop_rounds 1 ?_;rw[rounds_succ]
 go_wp2
 go_ret
 exact⟨rfl,rfl⟩
theorem NG(b:Addr)(w:World) :
  Calls Go.Proofs.Tryz.prog 103 #[.nilIface,.iface 278 (.pointer (some b))] w fun e w'=>e=.returned (.bool false)/\w'=w:=by
 have hn:=run_eql_iface_nil_left (P:=Go.Proofs.Tryz.prog) w 278 (.pointer (some b)) Go.Proofs.Tryz.underlying159
 go_enter Go.Proofs.Tryz.func103,Go.Proofs.Tryz.ntmps103
 go_wp2
 go_ret
 exact⟨rfl,rfl⟩
theorem NF(pb po sb so n c:Nat)(b:Addr)(w:World)(h1:w.cell? ⟨pb,po,none⟩=some (.slice (some ⟨sb,so,none⟩) n c))(hn : 0<n)(_:n<=maxLen)(h2:w.cell? ⟨sb,so,none⟩=some (.iface 278 (.pointer (some b)))) :
  Calls Go.Proofs.Tryz.prog 103 #[.iface 231 (.pointer (some ⟨pb,po,none⟩)),.iface 278 (.pointer (some b))] w fun e w'=>e=.returned (.bool true)/\w'=w:=by
 obtain⟨i,hi,hcmp⟩:=Option.map_eq_some_iff.1 ET;obtain⟨j,hj,hjs⟩:=Option.map_eq_some_iff.1 EX;have h8:=@run_callFunc_extern Go.Proofs.Tryz.prog 138 _ Extern.ReflectliteType.typeOf Go.Proofs.Tryz.func138 (by kernel_rfl) (by kernel_rfl) (by kernel_rfl) (by kernel_rfl);have h32:=@run_callFunc_extern Go.Proofs.Tryz.prog 219 _ wR Go.Proofs.Tryz.func219 (by kernel_rfl) (by kernel_rfl) (by kernel_rfl) (by kernel_rfl);have tT:=EY;have cT:=EU;have mR:=EV;have nE:=P7;have nJ:=P8;have uJ:=Qa;have hJ:=Ng;have mU:=Pf;have hlt:(0:Int)<(n:Int):=by omega
 have heq:=run_eql_iface_ptr_same (P:=Go.Proofs.Tryz.prog) w b Go.Proofs.Tryz.underlying159 Go.Proofs.Tryz.underlying278 hi hcmp hj;have hty:=run_eql_iface_types (P:=Go.Proofs.Tryz.prog) 231 278 (.pointer (some ⟨pb,po,none⟩)) (.pointer (some b)) Go.Proofs.Tryz.underlying159 (by decide) w
 go_enter Go.Proofs.Tryz.func103,Go.Proofs.Tryz.ntmps103
 go_wp2
 refine wp_loop_rounds 1 ?_;rw[rounds_succ]
 go_wp2
 refine wp_loop_rounds 1 ?_;rw[rounds_succ]
 go_wp2
 refine wp_loop_rounds 1 ?_;rw[rounds_succ]
 go_wp2
 go_ret
 exact⟨rfl,rfl⟩
end Go.D3
