/- Joined out of: Shelf SuA IpA IpB IpC TxA Ad IpD TxB TxC. -/
import Derived.Test.YteflnojjjdkgmaaGreatDoorNaa
import Derived.Shelf.Strings.Builder1
import Derived.Shelf.Strings.Builder2
import Derived.Shelf.Strings.OnBuilder
import Derived.Shelf.Strings.Trim
import Derived.Shelf.Small.Utf8
import Derived.Shelf.Small.Bits
import Derived.Shelf.Small.Strs
import Derived.Shelf.Strings.BuilderF
import Derived.Shelf.Strings.BuilderK
import Derived.Shelf.Utf8.RuneCount
import Derived.Shelf.Strings.Builder2Cap
import Derived.Shelf.Strconv.Itoa0
import Derived.Shelf.Strconv.Itoa1
import Derived.Shelf.LaysM
import Derived.Shelf.Strconv.Itoa2
import Derived.Shelf.Strconv.Itoa3
import Derived.Shelf.Strconv.Clone
import Derived.Shelf.Strconv.SyntaxError
import Derived.Shelf.LaysC
import Derived.Shelf.Strconv.ToError
import Derived.Shelf.Strconv.Lower
import Derived.Shelf.Strconv.ParseUint10
import Derived.Shelf.Strconv.ParseUint10Empty
import Derived.Shelf.Strconv.ParseUint10Any
import Derived.Shelf.Strconv.RangeError
import Derived.Shelf.Strconv.ToErrorRange
import Derived.Shelf.Strconv.ParseUintEmpty
import Derived.Shelf.Strconv.ParseUint10b64
import Derived.Shelf.Strconv.ParseUint10b32
import Derived.Shelf.Strconv.ParseUint10b16
import Derived.Shelf.Strconv.ParseUint10b8
import Derived.Shelf.Strconv.ParseUint10At
import Derived.Ground.MpProg
import Derived.Shelf.Pu.ParseUintPublic10
import Derived.Shelf.Pu.ErrVarParseUint
import Derived.Shelf.Strings.Search1
import Derived.Shelf.Strings.Search2
import Derived.Shelf.Strings.Search3
import Derived.Shelf.Strings.Cut
import Derived.Shelf.Strings.Count
import Derived.Shelf.Strings.Shaped
import Derived.Shelf.Strings.Prefix
import Derived.Shelf.Strings.Split
import Derived.Shelf.Strings.SplitShaped
import Derived.Shelf.Unicode.Decode
import Derived.Shelf.Strings.Runes
import Derived.Shelf.Strings.RuneCount
import Derived.Shelf.Strings.AsciiSet
import Derived.Shelf.Strings.Explode
import Derived.Shelf.Bits.Mul64
import Derived.Shelf.Strings.Repeat
import Derived.Shelf.Unicode.DecodeSlow
import Derived.Shelf.Unicode.DecodeAny
import Derived.Shelf.Unicode.DecodeLast
import Derived.Shelf.Strings.FieldsFuncAny
import Derived.Shelf.Strings.FieldsFuncGrows
import Derived.Shelf.Strings.BuilderCap
import Derived.Shelf.Slices.Turned
import Derived.Shelf.Slices.Equal
import Derived.Ground.Names2Prog
import Derived.Shelf.Slices.Clone
import Derived.Shelf.Slices.Empties2
import Derived.Ground.SlgnProg
import Derived.Shelf.SlicesE.Clone
import Derived.Test.YteflnojjjdkgmaaGreatDoorProg
import Derived.Test.YteflnojjjdkgmaaGreatDoorRows
import Derived.BigQuiet
import Derived.Deep.QuietTactic
import Derived.Laws.IdiomStrings
import Derived.Laws.BitsAllLaws
import Derived.IntWalk
import Derived.Lib.Split
import Derived.Lib.Join
import Derived.Lib.ItoaNum
set_option linter.unusedVariables false
set_option linter.unusedSimpArgs false
set_option maxHeartbeats 16000000
set_option maxRecDepth 100000
open Array renaming getElem?_eq_getElem→jl
open Go.Lib renaming decDigits→b7,parseUintB→afA
open Go.Proofs.Tryz renaming prog→ag,underlying9→aZ,underlying5→bV,underlying67→cn,underlying4→Yj,zeroValue3→aa7,underlying3→ae7,zeroValue5→afd,zeroValue4→afj,zeroValue9→afk,underlying41→afo,underlying22→afp,underlying0→afv
open Go.RowKit.Below renaming refl→aG
open List renaming length_append→ai,length_map→ax,replicate→aH,mem_cons_of_mem→bL,length_cons→bW,mem_cons_self→cj,mem_of_getElem?→oK,length_drop→wu,map_cons→ae5
open Nat renaming le_refl→aw,zero_le→bD
open UInt8 renaming ofNat→afn
namespace Go.Proofs
open YteflnojjjdkgmaaGreatDoor
open Go.Shelf
def Tryz.lays169_ren:Go.Shelf.Ren:=⟨fun|169=>87|n=>n,fun|70=>70|9=>9|0=>0|72=>72|37=>67|127=>188|3=>3|5=>5|n=>n,fun|n=>n⟩
theorem Tryz.Builder_Extra_169:Builder.Extra ag Tryz.lays169_ren:={
 sizeBuilder:=by kernel_rfl
 liesBuilder:=by kernel_rfl
 t5:=bV
 a5:=Tryz.isAgg5
 z5:=Tryz.sizeOf5
 v5:=afd
 infoByte:=by kernel_rfl
 cellsByte:=by kernel_rfl
 sizeByte:=by kernel_rfl
 neB5:=by decide}
def Tryz.lays156_ren:Go.Shelf.Ren:=⟨fun|156=>214|165=>245|166=>77|169=>87|240=>136|241=>277|276=>179|277=>301|n=>n,fun|31=>41|9=>9|3=>3|4=>4|0=>0|20=>20|72=>72|76=>128|70=>70|37=>67|75=>127|127=>188|164=>251|5=>5|80=>97|n=>n,fun|n=>n⟩
theorem Tryz.lays156:Go.Proofs.Lays.n156 ag Tryz.lays156_ren:={
 mixed:=by kernel_rfl
 f156:=Tryz.func214.trans (congrArg some bg)
 f165:=Tryz.func245.trans (congrArg some bg)
 f166:=Tryz.func77.trans (congrArg some bg)
 f169:=Tryz.func87.trans (congrArg some bg)
 f240:=Tryz.func136.trans (congrArg some bg)
 f241:=Tryz.func277.trans (congrArg some bg)
 f276:=Tryz.func179.trans (congrArg some bg)
 f277:=Tryz.func301.trans (congrArg some bg)
 t0:=afv
 a0:=Tryz.isAgg0
 z0:=Tryz.sizeOf0
 v0:=Tryz.zeroValue0
 t3:=ae7
 a3:=Tryz.isAgg3
 z3:=Tryz.sizeOf3
 v3:=aa7
 t4:=Yj
 a4:=Tryz.isAgg4
 z4:=Tryz.sizeOf4
 v4:=afj
 t9:=aZ
 a9:=Tryz.isAgg9
 z9:=Tryz.sizeOf9
 v9:=afk
 t20:=Tryz.underlying20
 a20:=Tryz.isAgg20
 z20:=Tryz.sizeOf20
 v20:=Tryz.zeroValue20
 t31:=afo
 a31:=Tryz.isAgg41
 z31:=Tryz.sizeOf41
 v31:=Tryz.zeroValue41
 t37:=cn
 a37:=Tryz.isAgg67
 z37:=Tryz.sizeOf67
 v37:=Tryz.zeroValue67
 t70:=Tryz.underlying70
 a70:=Tryz.isAgg70
 z70:=Tryz.sizeOf70
 v70:=Tryz.zeroValue70
 t72:=Tryz.underlying72
 a72:=Tryz.isAgg72
 z72:=Tryz.sizeOf72
 v72:=Tryz.zeroValue72
 t75:=Tryz.underlying127
 a75:=Tryz.isAgg127
 z75:=Tryz.sizeOf127
 v75:=Tryz.zeroValue127
 t76:=Tryz.underlying128
 a76:=Tryz.isAgg128
 z76:=Tryz.sizeOf128
 v76:=Tryz.zeroValue128
 t127:=Tryz.underlying188
 a127:=Tryz.isAgg188
 z127:=Tryz.sizeOf188
 v127:=Tryz.zeroValue188
 t164:=Tryz.underlying251
 a164:=Tryz.isAgg251
 z164:=Tryz.sizeOf251
 v164:=Tryz.zeroValue251}
theorem Tryz.Builder_Extra_156:Builder.Extra ag Tryz.lays156_ren:={
 sizeBuilder:=by kernel_rfl
 liesBuilder:=by kernel_rfl
 t5:=bV
 a5:=Tryz.isAgg5
 z5:=Tryz.sizeOf5
 v5:=afd
 infoByte:=by kernel_rfl
 cellsByte:=by kernel_rfl
 sizeByte:=by kernel_rfl
 neB5:=by decide}
open Go.RowKit
theorem Tryz.strings_Join_none(a:Option Addr)(c:Nat)(sep:ByteArray)(w:World):Calls ag 214 #[.slice a 0 c,.string sep] w fun e w'=>e=.returned (.string ⟨#[]⟩)∧w'=w:=Any.strings_Join_none Tryz.lays156 Tryz.Builder_Extra_156 a c sep w
theorem Tryz.strings_Join(bk o c:Nat)(xs:List ByteArray)(sep:ByteArray)(w:World)(hcells:∀(j:Nat)x,xs[j]? =some x→w.cell? ⟨bk,o+j,none⟩=some (.string x))(hbk:bk<w.heap.size)(hN:xs.length≤140737488355328)(hcap:xs.length≤c)(hlen:(Lib.join (xs.map (·.data.toList)) sep.data.toList).length≤140737488355328):Calls ag 214 #[.slice (some ⟨bk,o,none⟩) xs.length c,.string sep] w fun e w'=>e=.returned (.string ⟨(Lib.join (xs.map (·.data.toList)) sep.data.toList).toArray⟩)∧Below w.heap.size w w':=Any.strings_Join Tryz.lays156 Tryz.Builder_Extra_156 bk o c xs sep w hcells hbk hN hcap hlen
def Tryz.lays160_ren:Go.Shelf.Ren:=⟨fun|160=>209|232=>248|231=>247|227=>249|234=>251|233=>250|236=>253|235=>252|228=>279|271=>282|151=>281|197=>280|120=>306|152=>305|260=>304|137=>322|119=>323|224=>313|225=>312|217=>311|266=>326|n=>n,fun|9=>9|4=>4|3=>3|5=>5|117=>321|116=>320|0=>0|124=>324|21=>21|105=>360|46=>164|119=>401|139=>404|138=>403|n=>n,fun|3=>4|4=>5|n=>n⟩
theorem Tryz.lays160:Go.Proofs.Lays.n160 ag Tryz.lays160_ren:={
 mixed:=by kernel_rfl
 f119:=Tryz.func323.trans (congrArg some bg)
 f120:=Tryz.func306.trans (congrArg some bg)
 f137:=Tryz.func322.trans (congrArg some bg)
 f151:=Tryz.func281.trans (congrArg some bg)
 f152:=Tryz.func305.trans (congrArg some bg)
 f160:=Tryz.func209.trans (congrArg some bg)
 f197:=Tryz.func280.trans (congrArg some bg)
 f217:=Tryz.func311.trans (congrArg some bg)
 f224:=Tryz.func313.trans (congrArg some bg)
 f225:=Tryz.func312.trans (congrArg some bg)
 f227:=Tryz.func249.trans (congrArg some bg)
 f228:=Tryz.func279.trans (congrArg some bg)
 f231:=Tryz.func247.trans (congrArg some bg)
 f232:=Tryz.func248.trans (congrArg some bg)
 f233:=Tryz.func250.trans (congrArg some bg)
 f234:=Tryz.func251.trans (congrArg some bg)
 f235:=Tryz.func252.trans (congrArg some bg)
 f236:=Tryz.func253.trans (congrArg some bg)
 f260:=Tryz.func304.trans (congrArg some bg)
 f266:=Tryz.func326.trans (congrArg some bg)
 f271:=Tryz.func282.trans (congrArg some bg)
 t0:=afv
 a0:=Tryz.isAgg0
 z0:=Tryz.sizeOf0
 v0:=Tryz.zeroValue0
 t3:=ae7
 a3:=Tryz.isAgg3
 z3:=Tryz.sizeOf3
 v3:=aa7
 t4:=Yj
 a4:=Tryz.isAgg4
 z4:=Tryz.sizeOf4
 v4:=afj
 t5:=bV
 a5:=Tryz.isAgg5
 z5:=Tryz.sizeOf5
 v5:=afd
 t9:=aZ
 a9:=Tryz.isAgg9
 z9:=Tryz.sizeOf9
 v9:=afk
 t21:=Tryz.underlying21
 a21:=Tryz.isAgg21
 z21:=Tryz.sizeOf21
 v21:=Tryz.zeroValue21
 t46:=Tryz.underlying164
 a46:=Tryz.isAgg164
 z46:=Tryz.sizeOf164
 v46:=Tryz.zeroValue164
 t105:=Tryz.underlying360
 a105:=Tryz.isAgg360
 z105:=Tryz.sizeOf360
 v105:=Tryz.zeroValue360
 t116:=Tryz.underlying320
 a116:=Tryz.isAgg320
 z116:=Tryz.sizeOf320
 t117:=Tryz.underlying321
 a117:=Tryz.isAgg321
 z117:=Tryz.sizeOf321
 v117:=Tryz.zeroValue321
 t119:=Tryz.underlying401
 a119:=Tryz.isAgg401
 z119:=Tryz.sizeOf401
 t124:=Tryz.underlying324
 a124:=Tryz.isAgg324
 z124:=Tryz.sizeOf324
 v124:=Tryz.zeroValue324
 t138:=Tryz.underlying403
 a138:=Tryz.isAgg403
 z138:=Tryz.sizeOf403
 v138:=Tryz.zeroValue403
 t139:=Tryz.underlying404
 a139:=Tryz.isAgg404
 z139:=Tryz.sizeOf404
 v139:=Tryz.zeroValue404
 g3:=by kernel_rfl
 g4:=by kernel_rfl}
def Tryz.lays283_ren:Go.Shelf.Ren:=⟨fun|283=>284|n=>n,fun|3=>3|9=>9|4=>4|n=>n,fun|n=>n⟩
theorem Tryz.lays283:Go.Proofs.Lays.n283 ag Tryz.lays283_ren:={
 mixed:=by kernel_rfl
 f283:=Tryz.func284.trans (congrArg some bg)
 t3:=ae7
 a3:=Tryz.isAgg3
 z3:=Tryz.sizeOf3
 v3:=aa7
 t4:=Yj
 a4:=Tryz.isAgg4
 z4:=Tryz.sizeOf4
 v4:=afj
 t9:=aZ
 a9:=Tryz.isAgg9
 z9:=Tryz.sizeOf9
 v9:=afk}
open Go.Lib in
theorem Tryz.internal_strconv_small(i:Nat)(h:i<100)(w:World):Calls ag 284 #[.int .i64 i] w fun e w'=>e=.returned (.string ⟨(b7 i).toArray⟩)∧w'=w:=Any.internal_strconv_small Tryz.lays283 i h w
def Tryz.laysM284_ren:Go.Shelf.Ren:=⟨fun|284=>285|129=>153|317=>307|318=>308|n=>n,fun|53=>22|3=>3|212=>392|0=>0|4=>4|46=>164|5=>5|9=>9|n=>n,fun|17=>2|n=>n⟩
theorem Tryz.laysM284:Go.Proofs.LaysM.n284 ag Tryz.laysM284_ren:={
 mixed:=by kernel_rfl
 f129:=Tryz.func153.trans (congrArg some bg)
 f284:=Tryz.func285.trans (congrArg some bg)
 f317:=Tryz.func307.trans (congrArg some bg)
 f318:=Tryz.func308.trans (congrArg some bg)
 t0:=afv
 a0:=Tryz.isAgg0
 z0:=Tryz.sizeOf0
 v0:=Tryz.zeroValue0
 t3:=ae7
 a3:=Tryz.isAgg3
 z3:=Tryz.sizeOf3
 v3:=aa7
 t4:=Yj
 a4:=Tryz.isAgg4
 z4:=Tryz.sizeOf4
 v4:=afj
 t5:=bV
 a5:=Tryz.isAgg5
 z5:=Tryz.sizeOf5
 v5:=afd
 t9:=aZ
 a9:=Tryz.isAgg9
 z9:=Tryz.sizeOf9
 v9:=afk
 t46:=Tryz.underlying164
 a46:=Tryz.isAgg164
 z46:=Tryz.sizeOf164
 v46:=Tryz.zeroValue164
 t53:=afp
 a53:=Tryz.isAgg22
 z53:=Tryz.sizeOf22
 v53:=Tryz.zeroValue22
 t212:=Tryz.underlying392
 a212:=Tryz.isAgg392
 z212:=Tryz.sizeOf392
 v212:=Tryz.zeroValue392
 g17:=by kernel_rfl
 i0:=by kernel_rfl
 i3:=by kernel_rfl
 i4:=by kernel_rfl
 i5:=by kernel_rfl
 i9:=by kernel_rfl
 i46:=by kernel_rfl
 i53:=by kernel_rfl
 i212:=by kernel_rfl
 m17:=by kernel_rfl}
open Go.Lib in
theorem Tryz.internal_strconv_numDigits(u:Nat)(h1:1≤u)(h2:u<18446744073709551616)(w:World)(htab:Lib.TabIs ag w "internal/strconv.uint64pow10" .u64 Lib.pow10Tab):Calls ag 285 #[.int .u64 u] w fun e w'=>e=.returned (.int .i64 (Lib.nDigits u))∧w'=w:=Any.internal_strconv_numDigits Tryz.laysM284 u h1 h2 w htab
def Tryz.lays285_ren:Go.Shelf.Ren:=⟨fun|285=>286|n=>n,fun|37=>67|53=>22|3=>3|4=>4|51=>187|9=>9|5=>5|0=>0|n=>n,fun|n=>n⟩
theorem Tryz.lays285:Go.Proofs.Lays.n285 ag Tryz.lays285_ren:={
 mixed:=by kernel_rfl
 f285:=Tryz.func286.trans (congrArg some bg)
 t0:=afv
 a0:=Tryz.isAgg0
 z0:=Tryz.sizeOf0
 v0:=Tryz.zeroValue0
 t3:=ae7
 a3:=Tryz.isAgg3
 z3:=Tryz.sizeOf3
 v3:=aa7
 t4:=Yj
 a4:=Tryz.isAgg4
 z4:=Tryz.sizeOf4
 v4:=afj
 t5:=bV
 a5:=Tryz.isAgg5
 z5:=Tryz.sizeOf5
 v5:=afd
 t9:=aZ
 a9:=Tryz.isAgg9
 z9:=Tryz.sizeOf9
 v9:=afk
 t37:=cn
 a37:=Tryz.isAgg67
 z37:=Tryz.sizeOf67
 v37:=Tryz.zeroValue67
 t51:=Tryz.underlying187
 a51:=Tryz.isAgg187
 z51:=Tryz.sizeOf187
 v51:=Tryz.zeroValue187
 t53:=afp
 a53:=Tryz.isAgg22
 z53:=Tryz.sizeOf22
 v53:=Tryz.zeroValue22}
open Go.RowKit Go.Sort Go.Lib in
theorem Tryz.internal_strconv_formatBase10(blk off cap:Nat)(u:Nat)(d:Array UInt8)(w:World)(hH:Holds (fun(b:UInt8)=>Value.int .u8 (b.toNat:Int)) w blk off d)(hu:u<10^d.size)(hu64:u<18446744073709551616)(hsz:d.size<4611686018427387904):Calls ag 286 #[.slice (some ⟨blk,off,none⟩) d.size cap,.int .u64 u] w fun e w'=>e=.returned (.tuple #[])∧∃(n v':Nat)(dk:Array UInt8),w'=(putRow (fun(b:UInt8)=>Value.int .u8 (b.toNat:Int)) w blk off dk).drewN n∧FmtInv d.size u 0 v' dk:=Any.internal_strconv_formatBase10 Tryz.lays285 blk off cap u d w hH hu hu64 hsz
def Tryz.laysM171_ren:Go.Shelf.Ren:=⟨fun|171=>213|243=>255|246=>283|283=>284|284=>285|285=>286|286=>287|129=>153|317=>307|318=>308|319=>309|320=>310|337=>324|338=>325|n=>n,fun|3=>3|9=>9|2=>2|4=>4|171=>364|0=>0|53=>22|37=>67|5=>5|173=>366|212=>392|51=>187|20=>20|213=>393|46=>164|232=>266|233=>265|n=>n,fun|17=>2|18=>6|19=>7|n=>n⟩
theorem Tryz.laysM171:Go.Proofs.LaysM.n171 ag Tryz.laysM171_ren:={
 mixed:=by kernel_rfl
 f129:=Tryz.func153.trans (congrArg some bg)
 f171:=Tryz.func213.trans (congrArg some bg)
 f243:=Tryz.func255.trans (congrArg some bg)
 f246:=Tryz.func283.trans (congrArg some bg)
 f283:=Tryz.func284.trans (congrArg some bg)
 f284:=Tryz.func285.trans (congrArg some bg)
 f285:=Tryz.func286.trans (congrArg some bg)
 f286:=Tryz.func287.trans (congrArg some bg)
 f317:=Tryz.func307.trans (congrArg some bg)
 f318:=Tryz.func308.trans (congrArg some bg)
 f319:=Tryz.func309.trans (congrArg some bg)
 f320:=Tryz.func310.trans (congrArg some bg)
 f337:=Tryz.func324.trans (congrArg some bg)
 f338:=Tryz.func325.trans (congrArg some bg)
 t0:=afv
 a0:=Tryz.isAgg0
 z0:=Tryz.sizeOf0
 v0:=Tryz.zeroValue0
 t2:=Tryz.underlying2
 a2:=Tryz.isAgg2
 z2:=Tryz.sizeOf2
 v2:=Tryz.zeroValue2
 t3:=ae7
 a3:=Tryz.isAgg3
 z3:=Tryz.sizeOf3
 v3:=aa7
 t4:=Yj
 a4:=Tryz.isAgg4
 z4:=Tryz.sizeOf4
 v4:=afj
 t5:=bV
 a5:=Tryz.isAgg5
 z5:=Tryz.sizeOf5
 v5:=afd
 t9:=aZ
 a9:=Tryz.isAgg9
 z9:=Tryz.sizeOf9
 v9:=afk
 t20:=Tryz.underlying20
 a20:=Tryz.isAgg20
 z20:=Tryz.sizeOf20
 v20:=Tryz.zeroValue20
 t37:=cn
 a37:=Tryz.isAgg67
 z37:=Tryz.sizeOf67
 v37:=Tryz.zeroValue67
 t46:=Tryz.underlying164
 a46:=Tryz.isAgg164
 z46:=Tryz.sizeOf164
 v46:=Tryz.zeroValue164
 t51:=Tryz.underlying187
 a51:=Tryz.isAgg187
 z51:=Tryz.sizeOf187
 v51:=Tryz.zeroValue187
 t53:=afp
 a53:=Tryz.isAgg22
 z53:=Tryz.sizeOf22
 v53:=Tryz.zeroValue22
 t171:=Tryz.underlying364
 a171:=Tryz.isAgg364
 z171:=Tryz.sizeOf364
 v171:=Tryz.zeroValue364
 t173:=Tryz.underlying366
 a173:=Tryz.isAgg366
 z173:=Tryz.sizeOf366
 v173:=Tryz.zeroValue366
 t212:=Tryz.underlying392
 a212:=Tryz.isAgg392
 z212:=Tryz.sizeOf392
 v212:=Tryz.zeroValue392
 t213:=Tryz.underlying393
 a213:=Tryz.isAgg393
 z213:=Tryz.sizeOf393
 t232:=Tryz.underlying266
 a232:=Tryz.isAgg266
 z232:=Tryz.sizeOf266
 v232:=Tryz.zeroValue266
 t233:=Tryz.underlying265
 a233:=Tryz.isAgg265
 z233:=Tryz.sizeOf265
 v233:=Tryz.zeroValue265
 g17:=by kernel_rfl
 g18:=by kernel_rfl
 g19:=by kernel_rfl
 i0:=by kernel_rfl
 i2:=by kernel_rfl
 i3:=by kernel_rfl
 i4:=by kernel_rfl
 i5:=by kernel_rfl
 i9:=by kernel_rfl
 i20:=by kernel_rfl
 i37:=by kernel_rfl
 i46:=by kernel_rfl
 i51:=by kernel_rfl
 i53:=by kernel_rfl
 i171:=by kernel_rfl
 i173:=by kernel_rfl
 i212:=by kernel_rfl
 i232:=by kernel_rfl
 i233:=by kernel_rfl
 m17:=by kernel_rfl
 m18:=by kernel_rfl
 m19:=by kernel_rfl}
open Go.RowKit Go.Sort Go.Lib in
theorem Tryz.strconv_Itoa(n:Int)(h0: -9223372036854775808≤n)(h1:n≤9223372036854775807)(w:World)(htab:Lib.TabIs ag w "internal/strconv.uint64pow10" .u64 Lib.pow10Tab):Calls ag 213 #[.int .i64 n] w fun e w'=>e=.returned (.string ⟨(Lib.itoa n).toArray⟩)∧∃k os,w'=grow (w.drewN k) os:=Any.strconv_Itoa Tryz.laysM171 n h0 h1 w htab
def Tryz.laysC245_ren:Go.Shelf.Ren:=⟨fun|245=>319|279=>331|280=>332|281=>333|282=>334|316=>337|171=>213|205=>338|243=>255|246=>283|283=>284|284=>285|285=>286|286=>287|129=>153|317=>307|318=>308|319=>309|320=>310|337=>324|338=>325|n=>n,fun|9=>9|3=>3|75=>127|167=>407|4=>4|168=>409|210=>415|37=>67|0=>0|127=>188|145=>419|143=>417|2=>2|171=>364|53=>22|5=>5|173=>366|212=>392|51=>187|20=>20|213=>393|46=>164|232=>266|233=>265|80=>97|n=>n,fun|15=>8|16=>9|17=>2|18=>6|19=>7|n=>n⟩
theorem Tryz.laysC245:Go.Proofs.LaysC.n245 ag Tryz.laysC245_ren:={
 mixed:=by kernel_rfl
 f129:=Tryz.func153.trans (congrArg some bg)
 f171:=Tryz.func213.trans (congrArg some bg)
 f205:=Tryz.func338.trans (congrArg some bg)
 f243:=Tryz.func255.trans (congrArg some bg)
 f245:=Tryz.func319.trans (congrArg some bg)
 f246:=Tryz.func283.trans (congrArg some bg)
 f279:=Tryz.func331.trans (congrArg some bg)
 f280:=Tryz.func332.trans (congrArg some bg)
 f281:=Tryz.func333.trans (congrArg some bg)
 f282:=Tryz.func334.trans (congrArg some bg)
 f283:=Tryz.func284.trans (congrArg some bg)
 f284:=Tryz.func285.trans (congrArg some bg)
 f285:=Tryz.func286.trans (congrArg some bg)
 f286:=Tryz.func287.trans (congrArg some bg)
 f316:=Tryz.func337.trans (congrArg some bg)
 f317:=Tryz.func307.trans (congrArg some bg)
 f318:=Tryz.func308.trans (congrArg some bg)
 f319:=Tryz.func309.trans (congrArg some bg)
 f320:=Tryz.func310.trans (congrArg some bg)
 f337:=Tryz.func324.trans (congrArg some bg)
 f338:=Tryz.func325.trans (congrArg some bg)
 t0:=afv
 a0:=Tryz.isAgg0
 z0:=Tryz.sizeOf0
 v0:=Tryz.zeroValue0
 t2:=Tryz.underlying2
 a2:=Tryz.isAgg2
 z2:=Tryz.sizeOf2
 v2:=Tryz.zeroValue2
 t3:=ae7
 a3:=Tryz.isAgg3
 z3:=Tryz.sizeOf3
 v3:=aa7
 t4:=Yj
 a4:=Tryz.isAgg4
 z4:=Tryz.sizeOf4
 v4:=afj
 t5:=bV
 a5:=Tryz.isAgg5
 z5:=Tryz.sizeOf5
 v5:=afd
 t9:=aZ
 a9:=Tryz.isAgg9
 z9:=Tryz.sizeOf9
 v9:=afk
 t20:=Tryz.underlying20
 a20:=Tryz.isAgg20
 z20:=Tryz.sizeOf20
 v20:=Tryz.zeroValue20
 t37:=cn
 a37:=Tryz.isAgg67
 z37:=Tryz.sizeOf67
 v37:=Tryz.zeroValue67
 t46:=Tryz.underlying164
 a46:=Tryz.isAgg164
 z46:=Tryz.sizeOf164
 v46:=Tryz.zeroValue164
 t51:=Tryz.underlying187
 a51:=Tryz.isAgg187
 z51:=Tryz.sizeOf187
 v51:=Tryz.zeroValue187
 t53:=afp
 a53:=Tryz.isAgg22
 z53:=Tryz.sizeOf22
 v53:=Tryz.zeroValue22
 t75:=Tryz.underlying127
 a75:=Tryz.isAgg127
 z75:=Tryz.sizeOf127
 v75:=Tryz.zeroValue127
 t127:=Tryz.underlying188
 a127:=Tryz.isAgg188
 z127:=Tryz.sizeOf188
 v127:=Tryz.zeroValue188
 t143:=Tryz.underlying417
 a143:=Tryz.isAgg417
 z143:=Tryz.sizeOf417
 v143:=Tryz.zeroValue417
 t145:=Tryz.underlying419
 a145:=Tryz.isAgg419
 z145:=Tryz.sizeOf419
 v145:=Tryz.zeroValue419
 t167:=Tryz.underlying407
 a167:=Tryz.isAgg407
 z167:=Tryz.sizeOf407
 v167:=Tryz.zeroValue407
 t168:=Tryz.underlying409
 a168:=Tryz.isAgg409
 z168:=Tryz.sizeOf409
 v168:=Tryz.zeroValue409
 t171:=Tryz.underlying364
 a171:=Tryz.isAgg364
 z171:=Tryz.sizeOf364
 v171:=Tryz.zeroValue364
 t173:=Tryz.underlying366
 a173:=Tryz.isAgg366
 z173:=Tryz.sizeOf366
 v173:=Tryz.zeroValue366
 t210:=Tryz.underlying415
 a210:=Tryz.isAgg415
 z210:=Tryz.sizeOf415
 v210:=Tryz.zeroValue415
 t212:=Tryz.underlying392
 a212:=Tryz.isAgg392
 z212:=Tryz.sizeOf392
 v212:=Tryz.zeroValue392
 t213:=Tryz.underlying393
 a213:=Tryz.isAgg393
 z213:=Tryz.sizeOf393
 t232:=Tryz.underlying266
 a232:=Tryz.isAgg266
 z232:=Tryz.sizeOf266
 v232:=Tryz.zeroValue266
 t233:=Tryz.underlying265
 a233:=Tryz.isAgg265
 z233:=Tryz.sizeOf265
 v233:=Tryz.zeroValue265
 g15:=by kernel_rfl
 g16:=by kernel_rfl
 g17:=by kernel_rfl
 g18:=by kernel_rfl
 g19:=by kernel_rfl
 t80:=Tryz.underlying97
 a80:=Tryz.isAgg97
 z80:=Tryz.sizeOf97
 v80:=Tryz.zeroValue97
 i0:=by kernel_rfl
 i2:=by kernel_rfl
 i3:=by kernel_rfl
 i4:=by kernel_rfl
 i5:=by kernel_rfl
 i9:=by kernel_rfl
 i20:=by kernel_rfl
 i37:=by kernel_rfl
 i46:=by kernel_rfl
 i51:=by kernel_rfl
 i53:=by kernel_rfl
 i75:=by kernel_rfl
 i80:=by kernel_rfl
 i127:=by kernel_rfl
 i143:=by kernel_rfl
 i145:=by kernel_rfl
 i167:=by kernel_rfl
 i168:=by kernel_rfl
 i171:=by kernel_rfl
 i173:=by kernel_rfl
 i210:=by kernel_rfl
 i212:=by kernel_rfl
 i232:=by kernel_rfl
 i233:=by kernel_rfl
 m15:=by kernel_rfl
 m16:=by kernel_rfl
 m17:=by kernel_rfl
 m18:=by kernel_rfl
 m19:=by kernel_rfl
 c0:=by kernel_rfl
 c2:=by kernel_rfl
 c3:=by kernel_rfl
 c4:=by kernel_rfl
 c5:=by kernel_rfl
 c9:=by kernel_rfl
 c20:=by kernel_rfl
 c37:=by kernel_rfl
 c46:=by kernel_rfl
 c51:=by kernel_rfl
 c53:=by kernel_rfl
 c75:=by kernel_rfl
 c80:=by kernel_rfl
 c127:=by kernel_rfl
 c143:=by kernel_rfl
 c145:=by kernel_rfl
 c167:=by kernel_rfl
 c168:=by kernel_rfl
 c171:=by kernel_rfl
 c173:=by kernel_rfl
 c210:=by kernel_rfl
 c212:=by kernel_rfl
 c213:=by kernel_rfl
 c232:=by kernel_rfl
 c233:=by kernel_rfl}
theorem Tryz.strconv_toError_syntax(fn s:ByteArray)(base bits:Int)(ev:Value)(w:World)(hlim:s.size≤281474976710656)(hv:w.cell? ⟨8,0,none⟩=some ev)(hev:ev=.nilIface∨∃te pe,ev=.iface te pe):Calls ag 319 #[.string fn,.string s,.int .i64 base,.int .i64 bits,.iface 407 (.int .i64 2)] w fun e w'=>∃N,e=.returned (.iface 409 (.pointer (some ⟨N,0,none⟩)))∧w.heap.size≤N∧w'.heap[N]? =some (.cells #[.string fn,.string s,ev] 415 (0,0))∧Below w.heap.size w w':=Any.strconv_toError_syntax Tryz.laysC245 fn s base bits ev w hlim hv hev
theorem Tryz.strconv_toError_range(fn s:ByteArray)(base bits:Int)(ev:Value)(w:World)(hlim:s.size≤281474976710656)(hv:w.cell? ⟨9,0,none⟩=some ev)(hev:ev=.nilIface∨∃te pe,ev=.iface te pe):Calls ag 319 #[.string fn,.string s,.int .i64 base,.int .i64 bits,.iface 407 (.int .i64 1)] w fun e w'=>∃N,e=.returned (.iface 409 (.pointer (some ⟨N,0,none⟩)))∧w.heap.size≤N∧w'.heap[N]? =some (.cells #[.string fn,.string s,ev] 415 (0,0))∧Below w.heap.size w w':=Any.strconv_toError_range Tryz.laysC245 fn s base bits ev w hlim hv hev
def Tryz.laysPu14_ren:Go.Shelf.Ren:=⟨fun|14=>293|16=>318|17=>319|19=>329|20=>330|21=>331|22=>332|23=>333|24=>334|25=>337|27=>213|26=>338|28=>255|29=>283|30=>284|31=>285|32=>286|33=>287|35=>153|34=>307|36=>308|37=>309|38=>310|39=>324|40=>325|n=>n,fun|9=>9|3=>3|22=>22|24=>127|25=>374|4=>4|34=>407|5=>5|36=>164|37=>67|0=>0|39=>409|21=>21|44=>415|47=>188|50=>419|48=>417|2=>2|52=>364|55=>366|59=>392|60=>187|20=>20|61=>393|65=>266|66=>265|67=>97|n=>n,fun|0=>8|1=>9|2=>2|3=>6|4=>7|n=>n⟩
theorem Tryz.laysPu14:Go.Proofs.LaysPu.n14 ag Tryz.laysPu14_ren:={
 mixed:=by kernel_rfl
 f14:=Tryz.func293.trans (congrArg some bg)
 f16:=Tryz.func318.trans (congrArg some bg)
 f17:=Tryz.func319.trans (congrArg some bg)
 f19:=Tryz.func329.trans (congrArg some bg)
 f20:=Tryz.func330.trans (congrArg some bg)
 f21:=Tryz.func331.trans (congrArg some bg)
 f22:=Tryz.func332.trans (congrArg some bg)
 f23:=Tryz.func333.trans (congrArg some bg)
 f24:=Tryz.func334.trans (congrArg some bg)
 f25:=Tryz.func337.trans (congrArg some bg)
 f26:=Tryz.func338.trans (congrArg some bg)
 f27:=Tryz.func213.trans (congrArg some bg)
 f28:=Tryz.func255.trans (congrArg some bg)
 f29:=Tryz.func283.trans (congrArg some bg)
 f30:=Tryz.func284.trans (congrArg some bg)
 f31:=Tryz.func285.trans (congrArg some bg)
 f32:=Tryz.func286.trans (congrArg some bg)
 f33:=Tryz.func287.trans (congrArg some bg)
 f34:=Tryz.func307.trans (congrArg some bg)
 f35:=Tryz.func153.trans (congrArg some bg)
 f36:=Tryz.func308.trans (congrArg some bg)
 f37:=Tryz.func309.trans (congrArg some bg)
 f38:=Tryz.func310.trans (congrArg some bg)
 f39:=Tryz.func324.trans (congrArg some bg)
 f40:=Tryz.func325.trans (congrArg some bg)
 t0:=afv
 a0:=Tryz.isAgg0
 z0:=Tryz.sizeOf0
 v0:=Tryz.zeroValue0
 i0:=by kernel_rfl
 t2:=Tryz.underlying2
 a2:=Tryz.isAgg2
 z2:=Tryz.sizeOf2
 v2:=Tryz.zeroValue2
 i2:=by kernel_rfl
 t3:=ae7
 a3:=Tryz.isAgg3
 z3:=Tryz.sizeOf3
 v3:=aa7
 i3:=by kernel_rfl
 t4:=Yj
 a4:=Tryz.isAgg4
 z4:=Tryz.sizeOf4
 v4:=afj
 i4:=by kernel_rfl
 t5:=bV
 a5:=Tryz.isAgg5
 z5:=Tryz.sizeOf5
 v5:=afd
 i5:=by kernel_rfl
 t9:=aZ
 a9:=Tryz.isAgg9
 z9:=Tryz.sizeOf9
 v9:=afk
 i9:=by kernel_rfl
 t20:=Tryz.underlying20
 a20:=Tryz.isAgg20
 z20:=Tryz.sizeOf20
 v20:=Tryz.zeroValue20
 i20:=by kernel_rfl
 t21:=Tryz.underlying21
 a21:=Tryz.isAgg21
 z21:=Tryz.sizeOf21
 v21:=Tryz.zeroValue21
 i21:=by kernel_rfl
 t22:=afp
 a22:=Tryz.isAgg22
 z22:=Tryz.sizeOf22
 v22:=Tryz.zeroValue22
 i22:=by kernel_rfl
 t24:=Tryz.underlying127
 a24:=Tryz.isAgg127
 z24:=Tryz.sizeOf127
 v24:=Tryz.zeroValue127
 i24:=by kernel_rfl
 t25:=Tryz.underlying374
 a25:=Tryz.isAgg374
 z25:=Tryz.sizeOf374
 v25:=Tryz.zeroValue374
 i25:=by kernel_rfl
 t34:=Tryz.underlying407
 a34:=Tryz.isAgg407
 z34:=Tryz.sizeOf407
 v34:=Tryz.zeroValue407
 i34:=by kernel_rfl
 c34:=by kernel_rfl
 t36:=Tryz.underlying164
 a36:=Tryz.isAgg164
 z36:=Tryz.sizeOf164
 v36:=Tryz.zeroValue164
 i36:=by kernel_rfl
 t37:=cn
 a37:=Tryz.isAgg67
 z37:=Tryz.sizeOf67
 v37:=Tryz.zeroValue67
 i37:=by kernel_rfl
 t39:=Tryz.underlying409
 a39:=Tryz.isAgg409
 z39:=Tryz.sizeOf409
 v39:=Tryz.zeroValue409
 i39:=by kernel_rfl
 t44:=Tryz.underlying415
 a44:=Tryz.isAgg415
 z44:=Tryz.sizeOf415
 v44:=Tryz.zeroValue415
 i44:=by kernel_rfl
 t47:=Tryz.underlying188
 a47:=Tryz.isAgg188
 z47:=Tryz.sizeOf188
 v47:=Tryz.zeroValue188
 i47:=by kernel_rfl
 t48:=Tryz.underlying417
 a48:=Tryz.isAgg417
 z48:=Tryz.sizeOf417
 v48:=Tryz.zeroValue417
 i48:=by kernel_rfl
 t50:=Tryz.underlying419
 a50:=Tryz.isAgg419
 z50:=Tryz.sizeOf419
 v50:=Tryz.zeroValue419
 i50:=by kernel_rfl
 t52:=Tryz.underlying364
 a52:=Tryz.isAgg364
 z52:=Tryz.sizeOf364
 v52:=Tryz.zeroValue364
 i52:=by kernel_rfl
 t55:=Tryz.underlying366
 a55:=Tryz.isAgg366
 z55:=Tryz.sizeOf366
 v55:=Tryz.zeroValue366
 i55:=by kernel_rfl
 t59:=Tryz.underlying392
 a59:=Tryz.isAgg392
 z59:=Tryz.sizeOf392
 v59:=Tryz.zeroValue392
 i59:=by kernel_rfl
 t60:=Tryz.underlying187
 a60:=Tryz.isAgg187
 z60:=Tryz.sizeOf187
 v60:=Tryz.zeroValue187
 i60:=by kernel_rfl
 t61:=Tryz.underlying393
 a61:=Tryz.isAgg393
 z61:=Tryz.sizeOf393
 t65:=Tryz.underlying266
 a65:=Tryz.isAgg266
 z65:=Tryz.sizeOf266
 v65:=Tryz.zeroValue266
 i65:=by kernel_rfl
 t66:=Tryz.underlying265
 a66:=Tryz.isAgg265
 z66:=Tryz.sizeOf265
 v66:=Tryz.zeroValue265
 i66:=by kernel_rfl
 t67:=Tryz.underlying97
 a67:=Tryz.isAgg97
 z67:=Tryz.sizeOf97
 v67:=Tryz.zeroValue97
 i67:=by kernel_rfl
 g0:=by kernel_rfl
 m0:=by kernel_rfl
 g1:=by kernel_rfl
 m1:=by kernel_rfl
 g2:=by kernel_rfl
 m2:=by kernel_rfl
 g3:=by kernel_rfl
 m3:=by kernel_rfl
 g4:=by kernel_rfl
 m4:=by kernel_rfl}
theorem Tryz.strconv_ParseUint_10_at64_ok(s:ByteArray)(hmax:s.size≤9223372036854775806)(u:Nat)(h:afA 64 s.data.toList=.ok u)(w:World):Calls ag 293 #[.string s,.int .i64 10,.int .i64 64] w fun e w'=>e=.returned (.tuple #[.int .u64 u,.nilIface])∧(w'=w∨w'=Lib.bytesWorld w 5 s):=Any.strconv_ParseUint_10_at64_ok Tryz.laysPu14 s hmax u h w
theorem Tryz.strconv_ParseUint_10_at64_range(s:ByteArray)(hlim:s.size≤281474976710656)(h:afA 64 s.data.toList=.range)(ev:Value)(w:World)(hv:w.cell? ⟨9,0,none⟩=some ev)(hev:ev=.nilIface∨∃te pe,ev=.iface te pe):Calls ag 293 #[.string s,.int .i64 10,.int .i64 64] w fun e w'=>∃N,e=.returned (.tuple #[.int .u64 18446744073709551615,.iface 409 (.pointer (some ⟨N,0,none⟩))])∧w.heap.size≤N∧w'.heap[N]? =some (.cells #[.string ⟨#[80,97,114,115,101,85,105,110,116]⟩,.string s,ev] 415 (0,0))∧Below w.heap.size w w':=Any.strconv_ParseUint_10_at64_range Tryz.laysPu14 s hlim h ev w hv hev
theorem Tryz.strconv_ParseUint_10_at16_ok(s:ByteArray)(hmax:s.size≤9223372036854775806)(u:Nat)(h:afA 16 s.data.toList=.ok u)(w:World):Calls ag 293 #[.string s,.int .i64 10,.int .i64 16] w fun e w'=>e=.returned (.tuple #[.int .u64 u,.nilIface])∧(w'=w∨w'=Lib.bytesWorld w 5 s):=Any.strconv_ParseUint_10_at16_ok Tryz.laysPu14 s hmax u h w
theorem Tryz.strconv_ParseUint_10_at16_range(s:ByteArray)(hlim:s.size≤281474976710656)(h:afA 16 s.data.toList=.range)(ev:Value)(w:World)(hv:w.cell? ⟨9,0,none⟩=some ev)(hev:ev=.nilIface∨∃te pe,ev=.iface te pe):Calls ag 293 #[.string s,.int .i64 10,.int .i64 16] w fun e w'=>∃N,e=.returned (.tuple #[.int .u64 65535,.iface 409 (.pointer (some ⟨N,0,none⟩))])∧w.heap.size≤N∧w'.heap[N]? =some (.cells #[.string ⟨#[80,97,114,115,101,85,105,110,116]⟩,.string s,ev] 415 (0,0))∧Below w.heap.size w w':=Any.strconv_ParseUint_10_at16_range Tryz.laysPu14 s hlim h ev w hv hev
theorem Tryz.strconv_ParseUint_10_at8_ok(s:ByteArray)(hmax:s.size≤9223372036854775806)(u:Nat)(h:afA 8 s.data.toList=.ok u)(w:World):Calls ag 293 #[.string s,.int .i64 10,.int .i64 8] w fun e w'=>e=.returned (.tuple #[.int .u64 u,.nilIface])∧(w'=w∨w'=Lib.bytesWorld w 5 s):=Any.strconv_ParseUint_10_at8_ok Tryz.laysPu14 s hmax u h w
theorem Tryz.strconv_ParseUint_10_at8_range(s:ByteArray)(hlim:s.size≤281474976710656)(h:afA 8 s.data.toList=.range)(ev:Value)(w:World)(hv:w.cell? ⟨9,0,none⟩=some ev)(hev:ev=.nilIface∨∃te pe,ev=.iface te pe):Calls ag 293 #[.string s,.int .i64 10,.int .i64 8] w fun e w'=>∃N,e=.returned (.tuple #[.int .u64 255,.iface 409 (.pointer (some ⟨N,0,none⟩))])∧w.heap.size≤N∧w'.heap[N]? =some (.cells #[.string ⟨#[80,97,114,115,101,85,105,110,116]⟩,.string s,ev] 415 (0,0))∧Below w.heap.size w w':=Any.strconv_ParseUint_10_at8_range Tryz.laysPu14 s hlim h ev w hv hev
def Tryz.lays145_ren:Go.Shelf.Ren:=⟨fun|145=>291|220=>315|219=>290|217=>311|225=>312|224=>313|267=>314|266=>326|314=>327|n=>n,fun|9=>9|4=>4|59=>370|3=>3|5=>5|46=>164|146=>357|51=>187|n=>n,fun|1=>3|n=>n⟩
theorem Tryz.lays145:Go.Proofs.Lays.n145 ag Tryz.lays145_ren:={
 mixed:=by kernel_rfl
 f145:=Tryz.func291.trans (congrArg some bg)
 f217:=Tryz.func311.trans (congrArg some bg)
 f219:=Tryz.func290.trans (congrArg some bg)
 f220:=Tryz.func315.trans (congrArg some bg)
 f224:=Tryz.func313.trans (congrArg some bg)
 f225:=Tryz.func312.trans (congrArg some bg)
 f266:=Tryz.func326.trans (congrArg some bg)
 f267:=Tryz.func314.trans (congrArg some bg)
 f314:=Tryz.func327.trans (congrArg some bg)
 t3:=ae7
 a3:=Tryz.isAgg3
 z3:=Tryz.sizeOf3
 v3:=aa7
 t4:=Yj
 a4:=Tryz.isAgg4
 z4:=Tryz.sizeOf4
 v4:=afj
 t5:=bV
 a5:=Tryz.isAgg5
 z5:=Tryz.sizeOf5
 v5:=afd
 t9:=aZ
 a9:=Tryz.isAgg9
 z9:=Tryz.sizeOf9
 v9:=afk
 t46:=Tryz.underlying164
 a46:=Tryz.isAgg164
 z46:=Tryz.sizeOf164
 v46:=Tryz.zeroValue164
 t51:=Tryz.underlying187
 a51:=Tryz.isAgg187
 z51:=Tryz.sizeOf187
 v51:=Tryz.zeroValue187
 t59:=Tryz.underlying370
 a59:=Tryz.isAgg370
 z59:=Tryz.sizeOf370
 v59:=Tryz.zeroValue370
 t146:=Tryz.underlying357
 a146:=Tryz.isAgg357
 z146:=Tryz.sizeOf357
 v146:=Tryz.zeroValue357
 g1:=by kernel_rfl}
open Go.RowKit Go.Lib in
theorem Tryz.strings_Cut(s sep:ByteArray)(m:Int)(w:World)(hs:s.size<4294967281)(hm:w.cell? ⟨3,0,none⟩=some (.int .i64 m)):Calls ag 291 #[.string s,.string sep] w fun e w'=>e=.returned (.tuple #[.string ⟨(Lib.cut s.data.toList sep.data.toList).1.toArray⟩,.string ⟨(Lib.cut s.data.toList sep.data.toList).2.1.toArray⟩,.bool (Lib.cut s.data.toList sep.data.toList).2.2])∧∃n,w'=w.drewN n:=Any.strings_Cut Tryz.lays145 s sep m w hs hm
def Tryz.lays146_ren:Go.Shelf.Ren:=⟨fun|146=>173|221=>218|268=>257|138=>258|143=>259|195=>288|197=>280|218=>289|219=>290|260=>304|217=>311|225=>312|224=>313|267=>314|266=>326|314=>327|n=>n,fun|9=>9|31=>41|3=>3|4=>4|0=>0|105=>360|21=>21|5=>5|46=>164|119=>401|139=>404|138=>403|146=>357|51=>187|n=>n,fun|1=>3|3=>4|4=>5|n=>n⟩
theorem Tryz.lays146:Go.Proofs.Lays.n146 ag Tryz.lays146_ren:={
 mixed:=by kernel_rfl
 f138:=Tryz.func258.trans (congrArg some bg)
 f143:=Tryz.func259.trans (congrArg some bg)
 f146:=Tryz.func173.trans (congrArg some bg)
 f195:=Tryz.func288.trans (congrArg some bg)
 f197:=Tryz.func280.trans (congrArg some bg)
 f217:=Tryz.func311.trans (congrArg some bg)
 f218:=Tryz.func289.trans (congrArg some bg)
 f219:=Tryz.func290.trans (congrArg some bg)
 f221:=Tryz.func218.trans (congrArg some bg)
 f224:=Tryz.func313.trans (congrArg some bg)
 f225:=Tryz.func312.trans (congrArg some bg)
 f260:=Tryz.func304.trans (congrArg some bg)
 f266:=Tryz.func326.trans (congrArg some bg)
 f267:=Tryz.func314.trans (congrArg some bg)
 f268:=Tryz.func257.trans (congrArg some bg)
 f314:=Tryz.func327.trans (congrArg some bg)
 t0:=afv
 a0:=Tryz.isAgg0
 z0:=Tryz.sizeOf0
 v0:=Tryz.zeroValue0
 t3:=ae7
 a3:=Tryz.isAgg3
 z3:=Tryz.sizeOf3
 v3:=aa7
 t4:=Yj
 a4:=Tryz.isAgg4
 z4:=Tryz.sizeOf4
 v4:=afj
 t5:=bV
 a5:=Tryz.isAgg5
 z5:=Tryz.sizeOf5
 v5:=afd
 t9:=aZ
 a9:=Tryz.isAgg9
 z9:=Tryz.sizeOf9
 v9:=afk
 t21:=Tryz.underlying21
 a21:=Tryz.isAgg21
 z21:=Tryz.sizeOf21
 v21:=Tryz.zeroValue21
 t31:=afo
 a31:=Tryz.isAgg41
 z31:=Tryz.sizeOf41
 v31:=Tryz.zeroValue41
 t46:=Tryz.underlying164
 a46:=Tryz.isAgg164
 z46:=Tryz.sizeOf164
 v46:=Tryz.zeroValue164
 t51:=Tryz.underlying187
 a51:=Tryz.isAgg187
 z51:=Tryz.sizeOf187
 v51:=Tryz.zeroValue187
 t105:=Tryz.underlying360
 a105:=Tryz.isAgg360
 z105:=Tryz.sizeOf360
 v105:=Tryz.zeroValue360
 t119:=Tryz.underlying401
 a119:=Tryz.isAgg401
 z119:=Tryz.sizeOf401
 t138:=Tryz.underlying403
 a138:=Tryz.isAgg403
 z138:=Tryz.sizeOf403
 v138:=Tryz.zeroValue403
 t139:=Tryz.underlying404
 a139:=Tryz.isAgg404
 z139:=Tryz.sizeOf404
 v139:=Tryz.zeroValue404
 t146:=Tryz.underlying357
 a146:=Tryz.isAgg357
 z146:=Tryz.sizeOf357
 v146:=Tryz.zeroValue357
 g1:=by kernel_rfl
 g3:=by kernel_rfl
 g4:=by kernel_rfl}
open Go.RowKit Go.Lib in
theorem Tryz.strings_Split(s sep:ByteArray)(m:Int)(w:World)(hs:s.size<4294967281)(hm:w.cell? ⟨3,0,none⟩=some (.int .i64 m))(h1:1≤sep.size):Calls ag 173 #[.string s,.string sep] w fun e w'=>e=.returned (.slice (some ⟨w.heap.size,0,none⟩) (Lib.countB s sep+1) (Lib.countB s sep+1))∧w'=w.alloc (.cells ((Lib.splitB sep 0 (Lib.countB s sep) s).map Value.string).toArray 9):=Any.strings_Split Tryz.lays146 bg s sep m w hs hm h1
def Tryz.lays229_ren:Go.Shelf.Ren:=⟨fun|229=>219|n=>n,fun|9=>9|40=>288|31=>41|152=>328|3=>3|0=>0|4=>4|21=>21|154=>330|n=>n,fun|n=>n⟩
theorem Tryz.lays229:Go.Proofs.Lays.n229 ag Tryz.lays229_ren:={
 mixed:=by kernel_rfl
 f229:=Tryz.func219.trans (congrArg some bg)
 t0:=afv
 a0:=Tryz.isAgg0
 z0:=Tryz.sizeOf0
 v0:=Tryz.zeroValue0
 t3:=ae7
 a3:=Tryz.isAgg3
 z3:=Tryz.sizeOf3
 v3:=aa7
 t4:=Yj
 a4:=Tryz.isAgg4
 z4:=Tryz.sizeOf4
 v4:=afj
 t9:=aZ
 a9:=Tryz.isAgg9
 z9:=Tryz.sizeOf9
 v9:=afk
 t21:=Tryz.underlying21
 a21:=Tryz.isAgg21
 z21:=Tryz.sizeOf21
 v21:=Tryz.zeroValue21
 t31:=afo
 a31:=Tryz.isAgg41
 z31:=Tryz.sizeOf41
 v31:=Tryz.zeroValue41
 t40:=Tryz.underlying288
 a40:=Tryz.isAgg288
 z40:=Tryz.sizeOf288
 v40:=Tryz.zeroValue288
 t152:=Tryz.underlying328
 a152:=Tryz.isAgg328
 z152:=Tryz.sizeOf328
 v152:=Tryz.zeroValue328
 t154:=Tryz.underlying330
 a154:=Tryz.isAgg330
 z154:=Tryz.sizeOf330
 v154:=Tryz.zeroValue330}
open Go.RowKit Go.Lib in
theorem Tryz.strings_FieldsFunc_grows(g:Nat)(lb:Array Value)(eg:∀args w,(callFunc g args).run ag w=.ok (.enter g args) w)(p:Nat→Bool)(s:ByteArray)(w:World)(hs:s.size≤4294967296)(hp:PredGrows ag g lb p w):Calls ag 219 #[.string s,.func (.func g) #[] lb] w fun e w'=>∃A,e=.returned (.slice (some ⟨A,0,none⟩) (Lib.goFieldsP p s).length (Lib.goFieldsP p s).length)∧w.heap.size≤A∧w'.ownsRow w.heap.size 9 1 (.slice (some ⟨A,0,none⟩) (Lib.goFieldsP p s).length (Lib.goFieldsP p s).length) (Lib.goFieldsP p s).length ((Lib.goFieldsP p s).map Value.string)∧Below w.heap.size w w':=Any.strings_FieldsFunc_grows Tryz.lays229 g lb eg p s w hs hp bg (by kernel_rfl)
end Go.Proofs
namespace Go.Proofs.YteflnojjjdkgmaaGreatDoor
def ns:Bool→List Nat→Nat
 |_,[]=>0
 |odd,a::l=>(if odd then a else 256*a)+ns (!odd) l
open Go.RowKit
def jc(s:ByteArray):List Nat:=s.data.toList.map UInt8.toNat
theorem fB(s:ByteArray):(jc s).length=s.size:=by unfold jc;rw[ax,Array.length_toList];rfl
theorem UQ(s:ByteArray):∀c∈jc s,c<256:=by
 intro c hc;obtain⟨b,_,rfl⟩:=List.mem_map.1 hc;exact b.toNat_lt
def fk(n x:Nat):List UInt8:=(List.range n).map fun j=>afn (x/256^(n-1-j)%256)
def be(n x:Nat):ByteArray:=⟨(fk n x).toArray⟩
theorem aR(n x:Nat):(fk n x).length=n:=by simp[fk]
theorem UT(n x:Nat):(be n x).size=n:=by simp[be,ByteArray.size,fk]
def mE(n x k:Nat):Array Value:=((List.range n).map fun j=>Value.int .u8 (if n-1-j<k then((x/256^(n-1-j)%256:Nat):Int)else 0)).toArray
theorem o5(n x:Nat):mE n x 0=Array.replicate n (.int .u8 0):=by
 unfold mE;apply Array.ext
 ·simp
 ·intro i h1 h2;simp
theorem rc(n x k:Nat)(hk:k<n):(mE n x k).setIfInBounds (n-1-k) (.int .u8 ((x/256^k%256:Nat):Int))=mE n x (k+1):=by
 unfold mE;apply Array.ext
 ·simp
 ·intro i h1 h2;simp only[Array.size_setIfInBounds,List.size_toArray,ax,List.length_range]at h1;rw[Array.getElem_setIfInBounds (by simpa using h1)];simp only[List.getElem_toArray,List.getElem_map,List.getElem_range];by_cases h:n-1-k=i
  ·rw[if_pos h,if_pos aM,show n-1-i=k by omega]
  ·rw[if_neg h];by_cases h3:n-1-i<k
   ·rw[if_pos h3,if_pos aM]
   ·rw[if_neg h3,if_neg aM]
theorem uh(n x k j:Nat)(hj:j<n):∃v,(mE n x k)[j]? =some v:=by
 unfold mE;exact⟨_,jl (by simpa using hj)⟩
theorem Y8(n x j:Nat)(hj:j<(fk n x).length):(fk n x)[j]=afn (x/256^(n-1-j)%256):=by simp[fk]
theorem pd(n x j:Nat)(hj:j<(fk n x).length):(mE n x n)[j]? =some (.int .u8 (((fk n x)[j]'hj).toNat:Int)):=by
 rw[Y8];rw[aR]at hj;unfold mE;rw[jl (by simpa using hj)];simp only[List.getElem_toArray,List.getElem_map,List.getElem_range];rw[if_pos aM];have:x/256^(n-1-j)%256<256:=Nat.mod_lt _ aM;rw[UInt8.toNat_ofNat_of_lt' (by simpa using this)]
theorem mkN(n:Nat)(hn:n=2∨n=4∨n=8)(w:World):(Instr.makeSlice 67 (.int .i64 n) (.int .i64 n)).run ag w=.ok (.slice (some ⟨w.heap.size,0,none⟩) n n) (w.alloc (.cells (Array.replicate n (.int .u8 0)) 5)):=by
 rcases hn with rfl|rfl|rfl
 ·kernel_rfl
 ·kernel_rfl
 ·kernel_rfl
theorem Y9(x k:Nat):(x:Int)/2^(8*k)%256=((x/256^k%256:Nat):Int):=by
 rw[show(2:Int)^(8*k)=((256^k:Nat):Int) by rw[Int.pow_mul];simp];simp
theorem UU(x n:Nat)(hx:x<65536)(hn:n=2∨n=4∨n=8)(w:World):Calls ag 137 #[.int .u16 x,.int .i64 n] w fun r w'=>r=.returned (.string (be n x))∧Below w.heap.size w w':=by
 have hmk:=mkN n hn;have hn0:1≤n:=by omega
 have hn8:n≤8:=by omega
 clear hn;go_enter Tryz.func137,Tryz.ntmps137;go_wp2_with fail
 go_loopw [11] (fun v11 wr=>∃k:Nat,k≤n∧v11=.int .i64 k∧aD wr w.heap.size 5 (mE n x k)∧Below w.heap.size w wr) (fun v11 _=>n-(intOf v11).toNat)
 case atStart=>exact⟨0,bD _,rfl,by rw[o5];exact aD.new _ _ _,(aG _ _).alloc (aw _) _⟩
 case round=>
  obtain⟨k,hk,rfl,hb,hB⟩:=hrel;by_cases hlt:k<n
  ·obtain⟨u,hu⟩:=uh n x k (n-1-k) aM;have hc:=(hb.cell (n-1-k)).trans hu;have hf:=hb.frozen (n-1-k);have hnx:=hb.aN (n-1-k) (.int .u8 ((x/256^k%256:Nat):Int));rw[rc n x k hlt]at hnx;have e1:((n:Int)-1-(k:Int)).toNat=n-1-k:=by omega
   have h0:(0:Int)≤(n:Int)-1-(k:Int):=by omega
   obtain⟨HB,xJ⟩:=aI hB hnx;have hlt2:=hb.lt;clear hB hnx hu hb hmk;go_wp2_with fail
   go_roundw
   case rel=>
    rw[Y9 x k];exact⟨k+1,by omega,by go_num,xJ.out,HB.out.setCell (aw _) _⟩
   case measure=>simp[intOf];omega
  ·obtain rfl:k=n:=by omega
   have hback:=run_convert_bytes_back (P:=ag) wr 67 9 5 ⟨w.heap.size,0,none⟩ k (fk k x) cn bV aZ (fun j hj=>by
    have e:(⟨w.heap.size,0,none⟩:Addr).add j=⟨w.heap.size,j,none⟩:=by unfold Addr.add;split<;>simp_all
    rw[e];exact(hb.cell j).trans (pd k x j hj))
   rw[aR]at hback;have HB:=Lib.hid hB;clear hB hb hmk;go_wp2_with fail
   go_ret;exact⟨rfl,HB.out⟩
theorem UW(x n:Nat)(hx:x<18446744073709551616)(hn:n=2∨n=4∨n=8)(w:World):Calls ag 78 #[.int .u64 x,.int .i64 n] w fun r w'=>r=.returned (.string (be n x))∧Below w.heap.size w w':=by
 have hmk:=mkN n hn;have hn0:1≤n:=by omega
 have hn8:n≤8:=by omega
 clear hn;go_enter Tryz.func78,Tryz.ntmps78;go_wp2_with fail
 go_loopw [11] (fun v11 wr=>∃k:Nat,k≤n∧v11=.int .i64 k∧aD wr w.heap.size 5 (mE n x k)∧Below w.heap.size w wr) (fun v11 _=>n-(intOf v11).toNat)
 case atStart=>exact⟨0,bD _,rfl,by rw[o5];exact aD.new _ _ _,(aG _ _).alloc (aw _) _⟩
 case round=>
  obtain⟨k,hk,rfl,hb,hB⟩:=hrel;by_cases hlt:k<n
  ·obtain⟨u,hu⟩:=uh n x k (n-1-k) aM;have hc:=(hb.cell (n-1-k)).trans hu;have hf:=hb.frozen (n-1-k);have hnx:=hb.aN (n-1-k) (.int .u8 ((x/256^k%256:Nat):Int));rw[rc n x k hlt]at hnx;have e1:((n:Int)-1-(k:Int)).toNat=n-1-k:=by omega
   have h0:(0:Int)≤(n:Int)-1-(k:Int):=by omega
   obtain⟨HB,xJ⟩:=aI hB hnx;have hlt2:=hb.lt;clear hB hnx hu hb hmk;go_wp2_with fail
   go_roundw
   case rel=>
    rw[Y9 x k];exact⟨k+1,by omega,by go_num,xJ.out,HB.out.setCell (aw _) _⟩
   case measure=>simp[intOf];omega
  ·obtain rfl:k=n:=by omega
   have hback:=run_convert_bytes_back (P:=ag) wr 67 9 5 ⟨w.heap.size,0,none⟩ k (fk k x) cn bV aZ (fun j hj=>by
    have e:(⟨w.heap.size,0,none⟩:Addr).add j=⟨w.heap.size,j,none⟩:=by unfold Addr.add;split<;>simp_all
    rw[e];exact(hb.cell j).trans (pd k x j hj))
   rw[aR]at hback;have HB:=Lib.hid hB;clear hB hb hmk;go_wp2_with fail
   go_ret;exact⟨rfl,HB.out⟩
theorem UX(x n:Nat)(hx:x<4294967296)(hn:n=2∨n=4∨n=8)(w:World):Calls ag 180 #[.int .u32 x,.int .i64 n] w fun r w'=>r=.returned (.string (be n x))∧Below w.heap.size w w':=by
 have hmk:=mkN n hn;have hn0:1≤n:=by omega
 have hn8:n≤8:=by omega
 clear hn;go_enter Tryz.func180,Tryz.ntmps180;go_wp2_with fail
 go_loopw [11] (fun v11 wr=>∃k:Nat,k≤n∧v11=.int .i64 k∧aD wr w.heap.size 5 (mE n x k)∧Below w.heap.size w wr) (fun v11 _=>n-(intOf v11).toNat)
 case atStart=>exact⟨0,bD _,rfl,by rw[o5];exact aD.new _ _ _,(aG _ _).alloc (aw _) _⟩
 case round=>
  obtain⟨k,hk,rfl,hb,hB⟩:=hrel;by_cases hlt:k<n
  ·obtain⟨u,hu⟩:=uh n x k (n-1-k) aM;have hc:=(hb.cell (n-1-k)).trans hu;have hf:=hb.frozen (n-1-k);have hnx:=hb.aN (n-1-k) (.int .u8 ((x/256^k%256:Nat):Int));rw[rc n x k hlt]at hnx;have e1:((n:Int)-1-(k:Int)).toNat=n-1-k:=by omega
   have h0:(0:Int)≤(n:Int)-1-(k:Int):=by omega
   obtain⟨HB,xJ⟩:=aI hB hnx;have hlt2:=hb.lt;clear hB hnx hu hb hmk;go_wp2_with fail
   go_roundw
   case rel=>
    rw[Y9 x k];exact⟨k+1,by omega,by go_num,xJ.out,HB.out.setCell (aw _) _⟩
   case measure=>simp[intOf];omega
  ·obtain rfl:k=n:=by omega
   have hback:=run_convert_bytes_back (P:=ag) wr 67 9 5 ⟨w.heap.size,0,none⟩ k (fk k x) cn bV aZ (fun j hj=>by
    have e:(⟨w.heap.size,0,none⟩:Addr).add j=⟨w.heap.size,j,none⟩:=by unfold Addr.add;split<;>simp_all
    rw[e];exact(hb.cell j).trans (pd k x j hj))
   rw[aR]at hback;have HB:=Lib.hid hB;clear hB hb hmk;go_wp2_with fail
   go_ret;exact⟨rfl,HB.out⟩
theorem lJ(x:Nat)(hx:x<65536)(w:World):Calls ag 79 #[.int .u16 x] w fun r w'=>r=.returned (.string (be 2 x))∧Below w.heap.size w w':=by
 go_enter Tryz.func79,Tryz.ntmps79;go_wp2_with(go_at_call 137;refine(UU x 2 hx aM _).mono ?_;rintro r w'⟨rfl,hb⟩)
 go_ret;exact⟨rfl,hb⟩
theorem yG(x:Nat)(hx:x<18446744073709551616)(w:World):Calls ag 29 #[.int .u64 x] w fun r w'=>r=.returned (.string (be 8 x))∧Below w.heap.size w w':=by
 go_enter Tryz.func29,Tryz.ntmps29;go_wp2_with(go_at_call 78;refine(UW x 8 hx aM _).mono ?_;rintro r w'⟨rfl,hb⟩)
 go_ret;exact⟨rfl,hb⟩
theorem UY(x:Nat)(hx:x<4294967296)(w:World):Calls ag 138 #[.int .u32 x] w fun r w'=>r=.returned (.string (be 4 x))∧Below w.heap.size w w':=by
 go_enter Tryz.func138,Tryz.ntmps138;go_wp2_with(go_at_call 180;refine(UX x 4 hx aM _).mono ?_;rintro r w'⟨rfl,hb⟩)
 go_ret;exact⟨rfl,hb⟩
def cN(c:UInt8):List UInt8→List (List UInt8)
 |[]=>[[]]
 |b::l=>if b=c then []::cN c l else
  match cN c l with
  |[]=>[[b]]
  |h::t=>(b::h)::t
theorem Ko(c:UInt8):∀l,cN c l≠[]:=by
 intro l;cases l with
 |nil=>simp[cN]
 |cons b l=>
  unfold cN;split
  ·simp
  ·split<;>simp
theorem Bv{c:UInt8}:∀{x:List UInt8},c∉x→cN c x=[x]:=by
 intro x
 induction x with
 |nil=>intro _;rfl
 |cons b l ih=>
  intro h;have hb:b≠c:=fun e=>h (by rw[e];exact cj ..)
  have hl:=ih fun e=>h (bL _ e)
  unfold cN;rw[if_neg hb,hl]
theorem ER{c:UInt8}(y:List UInt8):∀{x:List UInt8},c∉x→cN c (x++c::y)=x::cN c y:=by
 intro x
 induction x with
 |nil=>
   intro _;rw[List.nil_append];conv=>lhs;unfold cN
   rw[if_pos rfl]
 |cons b l ih=>
  intro h;have hb:b≠c:=fun e=>h (by rw[e];exact cj ..)
  have hl:=ih fun e=>h (bL _ e)
  rw[List.cons_append]
  conv=>lhs;unfold cN
  rw[if_neg hb,hl]
theorem jK(x y:List UInt8)(r:List (List UInt8))(sep:List UInt8):Lib.join (x::y::r) sep=x++(sep++Lib.join (y::r) sep):=by
 rw[Lib.join_cons,Lib.join_cons];simp[Lib.joinTail]
theorem oL(c:UInt8):∀l:List UInt8,(cN c l).length≤l.length+1:=by
 intro l
 induction l with
 |nil=>simp[cN]
 |cons b l ih=>
  unfold cN;split
  ·simp;exact ih
  ·split
   ·simp
   ·next h t e=>rw[e]at ih;simp at ih⊢;omega
theorem rf(s:List UInt8)(c:UInt8)(i:Nat):Lib.occAt s [c] i=decide (s[i]? =some c):=by
 unfold Lib.occAt;by_cases h:i<s.length
 ·rw[List.drop_eq_getElem_cons h,List.getElem?_eq_getElem h];simp only[List.isPrefixOf,Bool.and_true,Option.some.injEq];rw[Bool.eq_iff_iff,beq_iff_eq,decide_eq_true_iff];exact eq_comm
 ·rw[List.drop_eq_nil_of_le aM,List.getElem?_eq_none aM];rfl
theorem mU{s:List UInt8}{c:UInt8}(h:c∉s):Lib.index s [c]= -1:=by
 apply Lib.index_none;intro j _;rw[rf];exact decide_eq_false fun e=>h (oK e)
theorem oM{c:UInt8}{x:List UInt8}(y:List UInt8)(h:c∉x):Lib.index (x++c::y) [c]=(x.length:Nat):=by
 apply Lib.index_first
 ·simp
 ·rw[rf];simp
 ·intro j hj;rw[rf,List.getElem?_append_left hj];exact decide_eq_false fun e=>h (oK e)
theorem yH{c:UInt8}:∀{s:List UInt8},c∈s→∃x y,s=x++c::y∧c∉x:=by
 intro s
 induction s with
 |nil=>intro h;simp at h
 |cons b l ih=>
  intro h;by_cases hb:b=c
  ·exact⟨[],l,by rw[hb];rfl,by simp⟩
  ·obtain⟨x,y,e,hx⟩:=ih (by
    rcases List.mem_cons.1 h with h|h;·exact absurd h.symm hb
    ·exact h)
   exact⟨b::x,y,by rw[e];rfl,by simp[hx];exact fun e=>hb e.symm⟩
theorem Kp(c:UInt8):∀(n:Nat)(s:List UInt8),s.length≤n→Lib.splitK [c] 0 (Lib.count s [c]) s=cN c s:=by
 intro n
 induction n with
 |zero=>
  intro s hs;have:s=[]:=by cases s;rfl;simp at hs
  subst this;rfl
 |succ n ih=>
  intro s hs;by_cases h:c∈s
  ·obtain⟨x,y,rfl,hx⟩:=yH h;have hi:=oM y hx;rw[Lib.count_hit (by simp) hi,Nat.add_comm 1];unfold Lib.splitK;rw[hi,if_neg (by simp),ER _ hx];have e:(x++c::y).drop (x.length+[c].length)=y:=by
    rw[List.length_singleton,List.drop_append];simp
   rw[show((x.length:Int)).toNat=x.length by omega,e,ih y (by simp at hs;omega)];simp
  ·have hi:=mU h;rw[Lib.count_miss hi,Bv h];rfl
theorem uj(s sep:ByteArray)(c:UInt8)(hc:sep.data.toList=[c]):(Lib.splitB sep 0 (Lib.countB s sep) s).map (·.data.toList)=cN c s.data.toList:=by
 rw[Lib.splitB_data,hc];show Lib.splitK [c] 0 (Lib.count s.data.toList sep.data.toList) _=_;rw[hc];exact Kp c _ _ (aw _)
theorem yI{s:List UInt8}{c:UInt8}(h:c∉s):Lib.cut s [c]=(s,[],false):=by
 unfold Lib.cut;rw[mU h,if_neg aF]
theorem Bz{c:UInt8}{x:List UInt8}(y:List UInt8)(h:c∉x):Lib.cut (x++c::y) [c]=(x,y,true):=by
 unfold Lib.cut;rw[oM y h,if_pos aM];simp[List.drop_append]
def td(x:Nat):UInt8:=if x<10 then afn (48+x)else afn (87+x)
def hexL(x:Nat):List UInt8:=if h:x<16 then [td x]else hexL (x/16)++[td (x%16)]
termination_by x
decreasing_by omega
def dval(base:Nat)(c:UInt8):Option Nat:=if 48≤c.toNat∧c.toNat≤57 then(if c.toNat-48<base then some (c.toNat-48)else none)
 else if 97≤c.toNat∧c.toNat≤122 then(if c.toNat-87<base then some (c.toNat-87)else none)
 else if 65≤c.toNat∧c.toNat≤90 then(if c.toNat-55<base then some (c.toNat-55)else none)
 else none
def mV(dv:UInt8→Option Nat)(base:Nat):Nat→List UInt8→Option Nat
 |acc,[]=>some acc
 |acc,c::r=>match dv c with
  |none=>none
  |some d=>mV dv base (acc*base+d) r
def num1(base bound:Nat)(l:List UInt8):Option Nat:=if l=[]then none else(mV (dval base) base 0 l).bind fun n=>if n<bound then some n else none
theorem UZ(dv:UInt8→Option Nat)(base:Nat)(hb:1≤base):∀(l:List UInt8)(acc n:Nat),mV dv base acc l=some n→acc≤n:=by
 intro l
 induction l with
 |nil=>intro acc n h;simp[mV]at h;omega
 |cons c r ih=>
  intro acc n h;unfold mV at h;split at h
  ·simp at h
  ·next d _=>
   have:=ih _ _ h;have:acc*1≤acc*base:=Nat.mul_le_mul_left _ hb;omega
def abd(x:Nat):UInt8:=afn (48+x)
theorem dec_lt{x:Nat}(h:x<10):b7 x=[abd x]:=by unfold b7;rw[dif_pos h];rfl
theorem OC{x:Nat}(h:¬x<10):b7 x=b7 (x/10)++[abd (x%10)]:=by
 conv=>lhs;unfold b7
 rw[dif_neg h];rfl
theorem U0(x:Nat):b7 x≠[]:=by
 unfold b7;split<;>simp
theorem lK{base B n:Nat}{l:List UInt8}(h:num1 base B l=some n):n<B:=by
 unfold num1 at h;split at h
 ·cases h
 ·cases e:mV (dval base) base 0 l with
  |none=>rw[e]at h;cases h
  |some m=>
   rw[e]at h;simp at h;omega
theorem OD(x:Nat)(hx:x<65536):(hexL x).length≤4:=by
 unfold hexL;split
 ·simp
 ·rw[ai];unfold hexL;split
  ·simp
  ·rw[ai];unfold hexL;split
   ·simp
   ·rw[ai];unfold hexL;split
    ·simp
    ·omega
theorem uk(x:Nat)(hx:x<1000):(b7 x).length≤3:=by
 by_cases h:x<10
 ·rw[dec_lt h];simp
 ·rw[OC h,ai];by_cases h:x/10<10
  ·rw[dec_lt h];simp
  ·rw[OC h,ai,dec_lt aM];simp
structure Ad where
 v6:Bool
 hi:Nat
 lo:Nat
structure Pk where
 a:Ad
 b:Ad
 proto:Nat
 ttl:Nat
 data:ByteArray
def Ad.cells(a:Ad):Array Value:= #[.bool a.v6,.int .u64 (a.hi:Int),.int .u64 (a.lo:Int)]
def Pk.cells(p:Pk):Array Value:= #[.bool p.a.v6,.int .u64 (p.a.hi:Int),.int .u64 (p.a.lo:Int),.bool p.b.v6,.int .u64 (p.b.hi:Int),.int .u64 (p.b.lo:Int),.int .u8 (p.proto:Int),.int .u8 (p.ttl:Int),.string p.data]
structure Ad.Ok(a:Ad):Prop where
 hi:a.hi<18446744073709551616
 lo:a.lo<18446744073709551616
structure Pk.Ok(p:Pk):Prop where
 a:p.a.Ok
 b:p.b.Ok
 proto:p.proto<256
 ttl:p.ttl<256
 data:p.data.size≤8192
def Ad.may(a:Ad):Bool:=a.v6||(decide (a.hi=0)&&decide (a.lo<4294967296))
def Pk.head(p:Pk):Nat:=if p.a.v6 then 40 else 20
structure Pf where
 a:Ad
 bits:Nat
def Pf.cells(p:Pf):Array Value:= #[.bool p.a.v6,.int .u64 (p.a.hi:Int),.int .u64 (p.a.lo:Int),.int .u8 (p.bits:Int)]
structure Pf.Ok(p:Pf):Prop where
 a:p.a.Ok
 bits:p.bits<256
theorem kh(a:Ad)(ok:a.Ok)(w:World):Calls ag 212 #[.agg a.cells] w fun r w'=>r=.returned (.bool a.may)∧Below w.heap.size w w':=by
 obtain⟨v,h,l⟩:=a;have h1:=ok.hi;have h2:=ok.lo;simp only at h1 h2;unfold Ad.cells;cases v with
 |true=>
  go_enter Tryz.func212,Tryz.ntmps212;go_wp2_with fail
  go_ret;exact⟨by simp[Ad.may],(aG _ _).alloc (aw _) _⟩
 |false=>
  by_cases hz:h=0
  ·subst hz;by_cases hl:l<4294967296
   ·have hq:(l:Int)/4294967296=0:=by omega
    go_enter Tryz.func212,Tryz.ntmps212;go_wp2_with fail
    go_ret;exact⟨by simp[Ad.may,hl],(aG _ _).alloc (aw _) _⟩
   ·have hq:¬(l:Int)/4294967296=0:=by omega
    go_enter Tryz.func212,Tryz.ntmps212;go_wp2_with fail
    go_ret;exact⟨by simp[Ad.may,hl];exact hq,(aG _ _).alloc (aw _) _⟩
  ·have hq:¬(h:Int)=0:=by omega
   go_enter Tryz.func212,Tryz.ntmps212;go_wp2_with fail
   go_ret;exact⟨by simp[Ad.may,hz],(aG _ _).alloc (aw _) _⟩
theorem abe{W w1:World}(hb:Below W.heap.size W w1):(∀b o,b<W.heap.size→w1.cell? ⟨b,o,none⟩=W.cell? ⟨b,o,none⟩)∧(∀b o,b<W.heap.size→w1.frozen? ⟨b,o,none⟩=W.frozen? ⟨b,o,none⟩):=⟨fun b o h=>hb.cell (p:=⟨b,o,none⟩) h,fun b o h=>hb.frozen (p:=⟨b,o,none⟩) h⟩
theorem after{w w1 w2:World}(h:Below w.heap.size w w1)(h2:Below w1.heap.size w1 w2):Below w.heap.size w w2:=h.trans (h2.mono h.size)
theorem boxed(w:World)(o:Obj):Below w.heap.size w (w.alloc o):=(aG _ _).alloc (aw _) o
def Got(v:Value)(w:World)(r:Ending)(w':World):Prop:=r=.returned v∧Below w.heap.size w w'
def eT(a:Ad):List Nat:=[a.hi/2^48%65536,a.hi/2^32%65536,a.hi/2^16%65536,a.hi%65536,a.lo/2^48%65536,a.lo/2^32%65536,a.lo/2^16%65536,a.lo%65536]
def j6:List Nat→Nat
 |[]=>0
 |x::l=>if x=0 then j6 l+1 else 0
def um:Nat→List Nat→Int×Nat→Int×Nat
 |_,[],s=>s
 |i,x::l,s=>um (i+1) l (if j6 (x::l)>s.2 then((i:Int),j6 (x::l))else s)
def best(L:List Nat):Int×Nat:=um 0 L (-1,1)
def colon:List UInt8:=[58]
def dot:List UInt8:=[46]
def gV(L:List Nat):List UInt8:=Lib.join (L.map hexL) colon
def se(L:List Nat):List UInt8:=if(best L).1<0 then gV L else gV (L.take (best L).1.toNat)++(58::58::gV (L.drop ((best L).1.toNat+(best L).2)))
def uo(lo:Nat):List Nat:=[lo/2^24%256,lo/2^16%256,lo/2^8%256,lo%256]
def mW(lo:Nat):List UInt8:=Lib.join ((uo lo).map b7) dot
def fS(a:Ad):List UInt8:=if a.may=false then []else if a.v6=false then mW a.lo else se (eT a)
theorem IP(l:List Nat):j6 l≤l.length:=by
 induction l with
 |nil=>simp[j6]
 |cons x l ih=>unfold j6;split<;>simp;omega
theorem Kq:∀l:List Nat,l.take (j6 l)=aH (j6 l) 0:=by
 intro l
 induction l with
 |nil=>rfl
 |cons x l ih=>
  unfold j6;split
  ·next h=>rw[h,List.take_succ_cons,ih,List.replicate_succ]
  ·rfl
structure ES(L:List Nat)(s:Int×Nat):Prop where
 two:0≤s.1→2≤s.2
 le:0≤s.1→s.1.toNat+s.2≤L.length
 noughts:0≤s.1→(L.drop s.1.toNat).take s.2=aH s.2 0
 one:1≤s.2
theorem Kr(L:List Nat):∀(l:List Nat)(i:Nat)(s:Int×Nat),l=L.drop i→ES L s→ES L (um i l s):=by
 intro l
 induction l with
 |nil=>intro i s _ h;exact h
 |cons x l ih=>
  intro i s hl h;have hl2:l=L.drop (i+1):=by rw[←List.drop_drop,←hl];rfl
  have hlen:(x::l).length=L.length-i:=by rw[hl,wu]
  have hr:=IP (x::l);refine ih (i+1) _ hl2 ?_;split
  ·next hgt=>
   refine⟨fun _=>?_,fun _=>?_,fun _=>?_,?_⟩
   ·show 2≤j6 (x::l);have:=h.one;omega
   ·show(i:Int).toNat+j6 (x::l)≤L.length;have:1≤(x::l).length:=by simp
    omega
   ·show(L.drop (i:Int).toNat).take (j6 (x::l))=_;rw[show(i:Int).toNat=i by omega,←hl];exact Kq _
   ·show 1≤j6 (x::l);omega
  ·exact h
theorem U1(L:List Nat):ES L (best L):=Kr L L 0 (-1,1) rfl ⟨fun h=>absurd h aF,fun h=>absurd h aF,fun h=>absurd h aF,by decide⟩
theorem Ks:gV []=[]:=rfl
theorem uq(x y:Nat)(r:List Nat):gV (x::y::r)=hexL x++58::gV (y::r):=by
 unfold gV;rw[ae5,ae5,jK];rfl
theorem Kt(x:Nat):gV [x]=hexL x:=by
 unfold gV;rw[ae5,List.map_nil,Lib.join_one]
def gather(base B:Nat):List (List UInt8)→List Nat→Option (List Nat)
 |[],acc=>some acc
 |t::r,acc=>match num1 base B t with
  |none=>none
  |some n=>if 8<acc.length then none else gather base B r (acc++[n])
def cV(c:UInt8)(base B:Nat)(s:List UInt8):Option (List Nat):=if s=[]then some []else gather base B (cN c s) []
def dP(l:List Nat):Nat:=l.foldl (fun h x=>h*65536+x) 0
def fC(l:List Nat):Nat:=l.foldl (fun h x=>h*256+x) 0
def lL(front back:List Nat)(gap:Bool):Option Ad:=if(gap=false∧front.length+back.length≠8)∨(gap=true∧7<front.length+back.length)then none
 else some ⟨true,dP ((front++aH (8-(front.length+back.length)) 0++back).take 4),dP ((front++aH (8-(front.length+back.length)) 0++back).drop 4)⟩
def rh(s:List UInt8):Option Ad:=match cV 58 16 65536 (Lib.cut s [58,58]).1,cV 58 16 65536 (Lib.cut s [58,58]).2.1 with
 |some f,some b=>lL f b (Lib.cut s [58,58]).2.2
 |_,_=>none
def uu(s:List UInt8):Option Ad:=match cV 46 10 256 s with
 |some l=>if l.length=4 then some ⟨false,0,fC l⟩else rh s
 |none=>rh s
def sf(s:List UInt8):Option Ad:=(uu s).bind fun a=>if fS a=s then some a else none
theorem Ku{base B:Nat}:∀(l:List (List UInt8))(acc L:List Nat),gather base B l acc=some L→(∀x∈acc,x<B)→acc.length≤9→(∀x∈L,x<B)∧L.length≤9:=by
 intro l
 induction l with
 |nil=>intro acc L h ha hl;simp[gather]at h;subst h;exact⟨ha,hl⟩
 |cons t r ih=>
  intro acc L h ha hl;unfold gather at h;split at h
  ·cases h
  ·next n hn=>
   split at h
   ·cases h
   ·refine ih _ _ h ?_ (by simp;omega);intro x hx;rcases List.mem_append.1 hx with hx|hx
    ·exact ha x hx
    ·rw[List.mem_singleton.1 hx];exact lK hn
theorem gC{c:UInt8}{base B:Nat}{s:List UInt8}{L:List Nat}(h:cV c base B s=some L):(∀x∈L,x<B)∧L.length≤9:=by
 unfold cV at h;split at h
 ·cases h;exact⟨by simp,by simp⟩
 ·exact Ku _ _ _ h (by simp) (by simp)
theorem Za(lo:Nat):∀x∈uo lo,x<256:=by
 intro x hx;simp only[uo,List.mem_cons,List.mem_nil_iff,or_false]at hx;omega
theorem OE(lo:Nat):mW lo≠[]:=by
 unfold mW uo;rw[ae5,ae5,jK];simp[U0]
theorem nQ(a:Ad):∀x∈eT a,x<65536:=by
 intro x hx;simp only[eT,List.mem_cons,List.mem_nil_iff,or_false]at hx;omega
theorem iR(a:Ad):(eT a).length=8:=rfl
theorem BB(a:Ad):(58:UInt8)∈se (eT a):=by
 unfold se;split
 ·unfold eT;rw[uq];simp
 ·simp
theorem OG(a:Ad):se (eT a)≠[]:=fun e=>by have:=BB a;rw[e]at this;cases this
theorem lM{L:List Nat}{B k:Nat}(h:∀x∈L,x<B):∀x∈L.take k,x<B:=fun x hx=>h x (List.mem_of_mem_take hx)
theorem tD{L:List Nat}{B k:Nat}(h:∀x∈L,x<B):∀x∈L.drop k,x<B:=fun x hx=>h x (List.mem_of_mem_drop hx)
theorem IQ{a:Ad}(hm:a.may=true)(h6:a.v6=false):fS a=mW a.lo:=by
 unfold fS;rw[hm,h6];simp
theorem IU{a:Ad}(h6:a.v6=true):fS a=se (eT a):=by
 unfold fS Ad.may;rw[h6];simp
theorem may4{a:Ad}(hm:a.may=true)(h6:a.v6=false):a.hi=0∧a.lo<4294967296:=by
 unfold Ad.may at hm;rw[h6]at hm;simpa using hm
theorem Zb{a:Ad}(h6:a.v6=true):a.may=true:=by unfold Ad.may;rw[h6];rfl
theorem OH{a:Ad}(hm:a.may=true):fS a≠[]:=by
 cases h6:a.v6 with
 |true=>rw[IU h6];exact OG a
 |false=>rw[IQ hm h6];exact OE _
theorem Kv{a:Ad}(hm:a.may=false):fS a=[]:=by unfold fS;rw[if_pos hm]
theorem ri:∀(l:List Nat)(h0 B:Nat),(∀x∈l,x<65536)→h0<B→l.foldl (fun h x=>h*65536+x) h0<B*65536^l.length:=by
 intro l
 induction l with
 |nil=>intro h0 B _ h;simpa using h
 |cons x r ih=>
  intro h0 B hx h;have:=ih (h0*65536+x) (B*65536) (fun y hy=>hx y (bL _ hy)) (by have:=hx x (cj ..);omega);rw[List.foldl_cons,bW,Nat.pow_succ,Nat.mul_comm (65536^r.length),←Nat.mul_assoc];exact this
theorem BD:∀(l:List Nat)(h0 B:Nat),(∀x∈l,x<256)→h0<B→l.foldl (fun h x=>h*256+x) h0<B*256^l.length:=by
 intro l
 induction l with
 |nil=>intro h0 B _ h;simpa using h
 |cons x r ih=>
  intro h0 B hx h;have:=ih (h0*256+x) (B*256) (fun y hy=>hx y (bL _ hy)) (by have:=hx x (cj ..);omega);rw[List.foldl_cons,bW,Nat.pow_succ,Nat.mul_comm (256^r.length),←Nat.mul_assoc];exact this
theorem xK{f b:List Nat}{g:Bool}{a:Ad}(h:lL f b g=some a)(hf:∀x∈f,x<65536)(hb:∀x∈b,x<65536):a.Ok∧a.v6=true:=by
 unfold lL at h;split at h
 ·cases h
 ·next hn=>
  have hl:f.length+b.length≤8:=by cases g<;>simp at hn<;>omega
  cases h;have hall:∀x∈f++aH (8-(f.length+b.length)) 0++b,x<65536:=by
   intro x hx;rcases List.mem_append.1 hx with hx|hx
   ·rcases List.mem_append.1 hx with hx|hx
    ·exact hf x hx
    ·rw[(List.mem_replicate.1 hx).2];decide
   ·exact hb x hx
  have hlen:(f++aH (8-(f.length+b.length)) 0++b).length=8:=by simp;omega
  generalize f++aH (8-(f.length+b.length)) 0++b=A at hall hlen⊢;have h1:=ri (A.take 4) 0 1 (lM hall) aF;have h2:=ri (A.drop 4) 0 1 (tD hall) aF;rw[List.length_take,hlen]at h1;rw[wu,hlen]at h2;exact⟨⟨by simpa[dP]using h1,by simpa[dP]using h2⟩,rfl⟩
theorem nR{s:List UInt8}{a:Ad}(h:rh s=some a):a.Ok∧a.v6=true:=by
 unfold rh at h;split at h
 ·next f b hf hb=>exact xK h (gC hf).1 (gC hb).1
 ·cases h
theorem Kw{s:List UInt8}{a:Ad}(h:uu s=some a):a.Ok∧a.may=true:=by
 unfold uu at h;split at h
 ·next l hl=>
  split at h
  ·next h4=>
   cases h;have:=BD l 0 1 (gC hl).1 aF;rw[h4]at this;have h2:fC l<4294967296:=by unfold fC;omega
   exact⟨⟨by show(0:Nat)<_;omega,by show fC l<_;omega⟩,by simp[Ad.may,h2]⟩
  ·exact⟨(nR h).1,Zb (nR h).2⟩
 ·exact⟨(nR h).1,Zb (nR h).2⟩
theorem uw{s:List UInt8}{a:Ad}(h:sf s=some a):fS a=s∧a.Ok∧a.may=true:=by
 unfold sf at h;cases e:uu s with
 |none=>rw[e]at h;cases h
 |some b=>
  rw[e]at h;simp only[Option.bind_some]at h;split at h
  ·next ht=>cases h;exact⟨ht,Kw e⟩
  ·cases h
end Go.Proofs.YteflnojjjdkgmaaGreatDoor
