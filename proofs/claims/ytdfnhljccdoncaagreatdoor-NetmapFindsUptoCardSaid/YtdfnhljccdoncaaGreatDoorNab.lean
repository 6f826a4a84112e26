/- Joined out of: Shelf SuA IpA IpB IpC TxA Ad IpD TxB TxC. -/
import Derived.Test.YtdfnhljccdoncaaGreatDoorNaa
import Derived.Shelf.Strings.Builder1
import Derived.Shelf.Strings.Builder2
import Derived.Shelf.Strings.OnBuilder
import Derived.Shelf.Strings.Trim
import Derived.Shelf.Small.Utf8
import Derived.Shelf.Small.Bits
import Derived.Shelf.Small.Strs
import Derived.Shelf.Strings.BuilderF
import Derived.Shelf.Strings.BuilderK
import Derived.Shelf.Utf8.RuneCount
import Derived.Shelf.Strings.Builder2Cap
import Derived.Shelf.Strconv.Itoa0
import Derived.Shelf.Strconv.Itoa1
import Derived.Shelf.LaysM
import Derived.Shelf.Strconv.Itoa2
import Derived.Shelf.Strconv.Itoa3
import Derived.Shelf.Strconv.Clone
import Derived.Shelf.Strconv.SyntaxError
import Derived.Shelf.LaysC
import Derived.Shelf.Strconv.ToError
import Derived.Shelf.Strconv.Lower
import Derived.Shelf.Strconv.ParseUint10
import Derived.Shelf.Strconv.ParseUint10Empty
import Derived.Shelf.Strconv.ParseUint10Any
import Derived.Shelf.Strconv.RangeError
import Derived.Shelf.Strconv.ToErrorRange
import Derived.Shelf.Strconv.ParseUintEmpty
import Derived.Shelf.Strconv.ParseUint10b64
import Derived.Shelf.Strconv.ParseUint10b32
import Derived.Shelf.Strconv.ParseUint10b16
import Derived.Shelf.Strconv.ParseUint10b8
import Derived.Shelf.Strconv.ParseUint10At
import Derived.Ground.MpProg
import Derived.Shelf.Pu.ParseUintPublic10
import Derived.Shelf.Pu.ErrVarParseUint
import Derived.Shelf.Strings.Search1
import Derived.Shelf.Strings.Search2
import Derived.Shelf.Strings.Search3
import Derived.Shelf.Strings.Cut
import Derived.Shelf.Strings.Count
import Derived.Shelf.Strings.Shaped
import Derived.Shelf.Strings.Split
import Derived.Shelf.Strings.SplitShaped
import Derived.Shelf.Unicode.Decode
import Derived.Shelf.Strings.Runes
import Derived.Shelf.Strings.RuneCount
import Derived.Shelf.Strings.AsciiSet
import Derived.Shelf.Strings.Explode
import Derived.Shelf.Unicode.DecodeSlow
import Derived.Shelf.Unicode.DecodeAny
import Derived.Shelf.Unicode.DecodeLast
import Derived.Shelf.Strings.FieldsFuncAny
import Derived.Shelf.Strings.FieldsFuncGrows
import Derived.Shelf.Strings.BuilderCap
import Derived.Shelf.Slices.Turned
import Derived.Shelf.Slices.Equal
import Derived.Ground.Names2Prog
import Derived.Shelf.Slices.Clone
import Derived.Ground.SlgnProg
import Derived.Shelf.SlicesE.Clone
import Derived.Test.YtdfnhljccdoncaaGreatDoorProg
import Derived.Test.YtdfnhljccdoncaaGreatDoorRows
import Derived.BigQuiet
import Derived.Deep.QuietTactic
import Derived.Laws.IdiomStrings
import Derived.Laws.BitsAllLaws
import Derived.IntWalk
import Derived.Lib.Split
import Derived.Lib.Join
import Derived.Lib.ItoaNum
set_option linter.unusedVariables false
set_option linter.unusedSimpArgs false
set_option maxHeartbeats 16000000
set_option maxRecDepth 100000
open Array renaming getElem?_eq_getElem→rH
open Go.Lib renaming decDigits→dH
open Go.Proofs.Tryz renaming prog→ai,underlying9→bL,underlying5→cB,underlying89→ew,underlying27→agk
open Go.RowKit.Below renaming refl→aK
open List renaming length_append→aj,length_map→ay,replicate→aS,length_cons→cm,mem_cons_of_mem→cA,mem_cons_self→ei,mem_of_getElem?→rX,length_drop→Z5,map_cons→af5
open Nat renaming le_refl→aw,zero_le→bF
open UInt8 renaming ofNat→agq
namespace Go.Proofs
open YtdfnhljccdoncaaGreatDoor
open Go.Shelf
def Tryz.lays169_ren:Go.Shelf.Ren:=⟨fun|169=>140|n=>n,fun|70=>88|9=>9|0=>0|72=>91|37=>89|127=>210|3=>3|5=>5|n=>n,fun|n=>n⟩
theorem Tryz.Builder_Extra_169:Builder.Extra ai Tryz.lays169_ren:={
 sizeBuilder:=by kernel_rfl
 liesBuilder:=by kernel_rfl
 t5:=cB
 a5:=Tryz.isAgg5
 z5:=Tryz.sizeOf5
 v5:=Tryz.zeroValue5
 infoByte:=by kernel_rfl
 cellsByte:=by kernel_rfl
 sizeByte:=by kernel_rfl
 neB5:=by decide}
def Tryz.lays156_ren:Go.Shelf.Ren:=⟨fun|156=>237|165=>274|166=>131|169=>140|240=>185|241=>304|276=>224|277=>328|n=>n,fun|31=>27|9=>9|3=>3|4=>4|0=>0|20=>20|72=>91|76=>155|70=>88|37=>89|75=>154|127=>210|164=>265|5=>5|80=>112|n=>n,fun|n=>n⟩
theorem Tryz.lays156:Go.Proofs.Lays.n156 ai Tryz.lays156_ren:={
 mixed:=by kernel_rfl
 f156:=Tryz.func237.trans (congrArg some bJ)
 f165:=Tryz.func274.trans (congrArg some bJ)
 f166:=Tryz.func131.trans (congrArg some bJ)
 f169:=Tryz.func140.trans (congrArg some bJ)
 f240:=Tryz.func185.trans (congrArg some bJ)
 f241:=Tryz.func304.trans (congrArg some bJ)
 f276:=Tryz.func224.trans (congrArg some bJ)
 f277:=Tryz.func328.trans (congrArg some bJ)
 t0:=Tryz.underlying0
 a0:=Tryz.isAgg0
 z0:=Tryz.sizeOf0
 v0:=Tryz.zeroValue0
 t3:=Tryz.underlying3
 a3:=Tryz.isAgg3
 z3:=Tryz.sizeOf3
 v3:=Tryz.zeroValue3
 t4:=Tryz.underlying4
 a4:=Tryz.isAgg4
 z4:=Tryz.sizeOf4
 v4:=Tryz.zeroValue4
 t9:=bL
 a9:=Tryz.isAgg9
 z9:=Tryz.sizeOf9
 v9:=Tryz.zeroValue9
 t20:=Tryz.underlying20
 a20:=Tryz.isAgg20
 z20:=Tryz.sizeOf20
 v20:=Tryz.zeroValue20
 t31:=agk
 a31:=Tryz.isAgg27
 z31:=Tryz.sizeOf27
 v31:=Tryz.zeroValue27
 t37:=ew
 a37:=Tryz.isAgg89
 z37:=Tryz.sizeOf89
 v37:=Tryz.zeroValue89
 t70:=Tryz.underlying88
 a70:=Tryz.isAgg88
 z70:=Tryz.sizeOf88
 v70:=Tryz.zeroValue88
 t72:=Tryz.underlying91
 a72:=Tryz.isAgg91
 z72:=Tryz.sizeOf91
 v72:=Tryz.zeroValue91
 t75:=Tryz.underlying154
 a75:=Tryz.isAgg154
 z75:=Tryz.sizeOf154
 v75:=Tryz.zeroValue154
 t76:=Tryz.underlying155
 a76:=Tryz.isAgg155
 z76:=Tryz.sizeOf155
 v76:=Tryz.zeroValue155
 t127:=Tryz.underlying210
 a127:=Tryz.isAgg210
 z127:=Tryz.sizeOf210
 v127:=Tryz.zeroValue210
 t164:=Tryz.underlying265
 a164:=Tryz.isAgg265
 z164:=Tryz.sizeOf265
 v164:=Tryz.zeroValue265}
theorem Tryz.Builder_Extra_156:Builder.Extra ai Tryz.lays156_ren:={
 sizeBuilder:=by kernel_rfl
 liesBuilder:=by kernel_rfl
 t5:=cB
 a5:=Tryz.isAgg5
 z5:=Tryz.sizeOf5
 v5:=Tryz.zeroValue5
 infoByte:=by kernel_rfl
 cellsByte:=by kernel_rfl
 sizeByte:=by kernel_rfl
 neB5:=by decide}
open Go.RowKit
theorem Tryz.strings_Join_none(a:Option Addr)(c:Nat)(sep:ByteArray)(w:World):Calls ai 237 #[.slice a 0 c,.string sep] w fun e w'=>e=.returned (.string ⟨#[]⟩)∧w'=w:=Any.strings_Join_none Tryz.lays156 Tryz.Builder_Extra_156 a c sep w
theorem Tryz.strings_Join(bk o c:Nat)(xs:List ByteArray)(sep:ByteArray)(w:World)(hcells:∀(j:Nat)x,xs[j]? =some x→w.cell? ⟨bk,o+j,none⟩=some (.string x))(hbk:bk<w.heap.size)(hN:xs.length≤140737488355328)(hcap:xs.length≤c)(hlen:(Lib.join (xs.map (·.data.toList)) sep.data.toList).length≤140737488355328):Calls ai 237 #[.slice (some ⟨bk,o,none⟩) xs.length c,.string sep] w fun e w'=>e=.returned (.string ⟨(Lib.join (xs.map (·.data.toList)) sep.data.toList).toArray⟩)∧Below w.heap.size w w':=Any.strings_Join Tryz.lays156 Tryz.Builder_Extra_156 bk o c xs sep w hcells hbk hN hcap hlen
def Tryz.lays160_ren:Go.Shelf.Ren:=⟨fun|160=>232|232=>266|231=>265|227=>267|234=>269|233=>268|236=>271|235=>270|228=>299|271=>302|151=>301|197=>300|120=>327|152=>326|260=>325|137=>343|119=>344|224=>335|225=>334|217=>333|266=>347|n=>n,fun|9=>9|4=>4|3=>3|5=>5|117=>327|116=>326|0=>0|124=>330|21=>21|105=>358|46=>146|119=>393|139=>396|138=>395|n=>n,fun|3=>3|4=>4|n=>n⟩
theorem Tryz.lays160:Go.Proofs.Lays.n160 ai Tryz.lays160_ren:={
 mixed:=by kernel_rfl
 f119:=Tryz.func344.trans (congrArg some bJ)
 f120:=Tryz.func327.trans (congrArg some bJ)
 f137:=Tryz.func343.trans (congrArg some bJ)
 f151:=Tryz.func301.trans (congrArg some bJ)
 f152:=Tryz.func326.trans (congrArg some bJ)
 f160:=Tryz.func232.trans (congrArg some bJ)
 f197:=Tryz.func300.trans (congrArg some bJ)
 f217:=Tryz.func333.trans (congrArg some bJ)
 f224:=Tryz.func335.trans (congrArg some bJ)
 f225:=Tryz.func334.trans (congrArg some bJ)
 f227:=Tryz.func267.trans (congrArg some bJ)
 f228:=Tryz.func299.trans (congrArg some bJ)
 f231:=Tryz.func265.trans (congrArg some bJ)
 f232:=Tryz.func266.trans (congrArg some bJ)
 f233:=Tryz.func268.trans (congrArg some bJ)
 f234:=Tryz.func269.trans (congrArg some bJ)
 f235:=Tryz.func270.trans (congrArg some bJ)
 f236:=Tryz.func271.trans (congrArg some bJ)
 f260:=Tryz.func325.trans (congrArg some bJ)
 f266:=Tryz.func347.trans (congrArg some bJ)
 f271:=Tryz.func302.trans (congrArg some bJ)
 t0:=Tryz.underlying0
 a0:=Tryz.isAgg0
 z0:=Tryz.sizeOf0
 v0:=Tryz.zeroValue0
 t3:=Tryz.underlying3
 a3:=Tryz.isAgg3
 z3:=Tryz.sizeOf3
 v3:=Tryz.zeroValue3
 t4:=Tryz.underlying4
 a4:=Tryz.isAgg4
 z4:=Tryz.sizeOf4
 v4:=Tryz.zeroValue4
 t5:=cB
 a5:=Tryz.isAgg5
 z5:=Tryz.sizeOf5
 v5:=Tryz.zeroValue5
 t9:=bL
 a9:=Tryz.isAgg9
 z9:=Tryz.sizeOf9
 v9:=Tryz.zeroValue9
 t21:=Tryz.underlying21
 a21:=Tryz.isAgg21
 z21:=Tryz.sizeOf21
 v21:=Tryz.zeroValue21
 t46:=Tryz.underlying146
 a46:=Tryz.isAgg146
 z46:=Tryz.sizeOf146
 v46:=Tryz.zeroValue146
 t105:=Tryz.underlying358
 a105:=Tryz.isAgg358
 z105:=Tryz.sizeOf358
 v105:=Tryz.zeroValue358
 t116:=Tryz.underlying326
 a116:=Tryz.isAgg326
 z116:=Tryz.sizeOf326
 t117:=Tryz.underlying327
 a117:=Tryz.isAgg327
 z117:=Tryz.sizeOf327
 v117:=Tryz.zeroValue327
 t119:=Tryz.underlying393
 a119:=Tryz.isAgg393
 z119:=Tryz.sizeOf393
 t124:=Tryz.underlying330
 a124:=Tryz.isAgg330
 z124:=Tryz.sizeOf330
 v124:=Tryz.zeroValue330
 t138:=Tryz.underlying395
 a138:=Tryz.isAgg395
 z138:=Tryz.sizeOf395
 v138:=Tryz.zeroValue395
 t139:=Tryz.underlying396
 a139:=Tryz.isAgg396
 z139:=Tryz.sizeOf396
 v139:=Tryz.zeroValue396
 g3:=by kernel_rfl
 g4:=by kernel_rfl}
def Tryz.lays283_ren:Go.Shelf.Ren:=⟨fun|283=>305|n=>n,fun|3=>3|9=>9|4=>4|n=>n,fun|n=>n⟩
theorem Tryz.lays283:Go.Proofs.Lays.n283 ai Tryz.lays283_ren:={
 mixed:=by kernel_rfl
 f283:=Tryz.func305.trans (congrArg some bJ)
 t3:=Tryz.underlying3
 a3:=Tryz.isAgg3
 z3:=Tryz.sizeOf3
 v3:=Tryz.zeroValue3
 t4:=Tryz.underlying4
 a4:=Tryz.isAgg4
 z4:=Tryz.sizeOf4
 v4:=Tryz.zeroValue4
 t9:=bL
 a9:=Tryz.isAgg9
 z9:=Tryz.sizeOf9
 v9:=Tryz.zeroValue9}
open Go.Lib in
theorem Tryz.internal_strconv_small(i:Nat)(h:i<100)(w:World):Calls ai 305 #[.int .i64 i] w fun e w'=>e=.returned (.string ⟨(dH i).toArray⟩)∧w'=w:=Any.internal_strconv_small Tryz.lays283 i h w
def Tryz.laysM284_ren:Go.Shelf.Ren:=⟨fun|284=>306|129=>178|317=>329|318=>330|n=>n,fun|53=>22|3=>3|212=>383|0=>0|4=>4|46=>146|5=>5|9=>9|n=>n,fun|17=>1|n=>n⟩
theorem Tryz.laysM284:Go.Proofs.LaysM.n284 ai Tryz.laysM284_ren:={
 mixed:=by kernel_rfl
 f129:=Tryz.func178.trans (congrArg some bJ)
 f284:=Tryz.func306.trans (congrArg some bJ)
 f317:=Tryz.func329.trans (congrArg some bJ)
 f318:=Tryz.func330.trans (congrArg some bJ)
 t0:=Tryz.underlying0
 a0:=Tryz.isAgg0
 z0:=Tryz.sizeOf0
 v0:=Tryz.zeroValue0
 t3:=Tryz.underlying3
 a3:=Tryz.isAgg3
 z3:=Tryz.sizeOf3
 v3:=Tryz.zeroValue3
 t4:=Tryz.underlying4
 a4:=Tryz.isAgg4
 z4:=Tryz.sizeOf4
 v4:=Tryz.zeroValue4
 t5:=cB
 a5:=Tryz.isAgg5
 z5:=Tryz.sizeOf5
 v5:=Tryz.zeroValue5
 t9:=bL
 a9:=Tryz.isAgg9
 z9:=Tryz.sizeOf9
 v9:=Tryz.zeroValue9
 t46:=Tryz.underlying146
 a46:=Tryz.isAgg146
 z46:=Tryz.sizeOf146
 v46:=Tryz.zeroValue146
 t53:=Tryz.underlying22
 a53:=Tryz.isAgg22
 z53:=Tryz.sizeOf22
 v53:=Tryz.zeroValue22
 t212:=Tryz.underlying383
 a212:=Tryz.isAgg383
 z212:=Tryz.sizeOf383
 v212:=Tryz.zeroValue383
 g17:=by kernel_rfl
 i0:=by kernel_rfl
 i3:=by kernel_rfl
 i4:=by kernel_rfl
 i5:=by kernel_rfl
 i9:=by kernel_rfl
 i46:=by kernel_rfl
 i53:=by kernel_rfl
 i212:=by kernel_rfl
 m17:=by kernel_rfl}
open Go.Lib in
theorem Tryz.internal_strconv_numDigits(u:Nat)(h1:1≤u)(h2:u<18446744073709551616)(w:World)(htab:Lib.TabIs ai w "internal/strconv.uint64pow10" .u64 Lib.pow10Tab):Calls ai 306 #[.int .u64 u] w fun e w'=>e=.returned (.int .i64 (Lib.nDigits u))∧w'=w:=Any.internal_strconv_numDigits Tryz.laysM284 u h1 h2 w htab
def Tryz.lays285_ren:Go.Shelf.Ren:=⟨fun|285=>307|n=>n,fun|37=>89|53=>22|3=>3|4=>4|51=>205|9=>9|5=>5|0=>0|n=>n,fun|n=>n⟩
theorem Tryz.lays285:Go.Proofs.Lays.n285 ai Tryz.lays285_ren:={
 mixed:=by kernel_rfl
 f285:=Tryz.func307.trans (congrArg some bJ)
 t0:=Tryz.underlying0
 a0:=Tryz.isAgg0
 z0:=Tryz.sizeOf0
 v0:=Tryz.zeroValue0
 t3:=Tryz.underlying3
 a3:=Tryz.isAgg3
 z3:=Tryz.sizeOf3
 v3:=Tryz.zeroValue3
 t4:=Tryz.underlying4
 a4:=Tryz.isAgg4
 z4:=Tryz.sizeOf4
 v4:=Tryz.zeroValue4
 t5:=cB
 a5:=Tryz.isAgg5
 z5:=Tryz.sizeOf5
 v5:=Tryz.zeroValue5
 t9:=bL
 a9:=Tryz.isAgg9
 z9:=Tryz.sizeOf9
 v9:=Tryz.zeroValue9
 t37:=ew
 a37:=Tryz.isAgg89
 z37:=Tryz.sizeOf89
 v37:=Tryz.zeroValue89
 t51:=Tryz.underlying205
 a51:=Tryz.isAgg205
 z51:=Tryz.sizeOf205
 v51:=Tryz.zeroValue205
 t53:=Tryz.underlying22
 a53:=Tryz.isAgg22
 z53:=Tryz.sizeOf22
 v53:=Tryz.zeroValue22}
open Go.RowKit Go.Sort Go.Lib in
theorem Tryz.internal_strconv_formatBase10(blk off cap:Nat)(u:Nat)(d:Array UInt8)(w:World)(hH:Holds (fun(b:UInt8)=>Value.int .u8 (b.toNat:Int)) w blk off d)(hu:u<10^d.size)(hu64:u<18446744073709551616)(hsz:d.size<4611686018427387904):Calls ai 307 #[.slice (some ⟨blk,off,none⟩) d.size cap,.int .u64 u] w fun e w'=>e=.returned (.tuple #[])∧∃(n v':Nat)(dk:Array UInt8),w'=(putRow (fun(b:UInt8)=>Value.int .u8 (b.toNat:Int)) w blk off dk).drewN n∧FmtInv d.size u 0 v' dk:=Any.internal_strconv_formatBase10 Tryz.lays285 blk off cap u d w hH hu hu64 hsz
def Tryz.laysM171_ren:Go.Shelf.Ren:=⟨fun|171=>236|243=>273|246=>303|283=>305|284=>306|285=>307|286=>308|129=>178|317=>329|318=>330|319=>331|320=>332|337=>345|338=>346|n=>n,fun|3=>3|9=>9|2=>2|4=>4|171=>362|0=>0|53=>22|37=>89|5=>5|173=>364|212=>383|51=>205|20=>20|213=>384|46=>146|232=>273|233=>272|n=>n,fun|17=>1|18=>5|19=>6|n=>n⟩
theorem Tryz.laysM171:Go.Proofs.LaysM.n171 ai Tryz.laysM171_ren:={
 mixed:=by kernel_rfl
 f129:=Tryz.func178.trans (congrArg some bJ)
 f171:=Tryz.func236.trans (congrArg some bJ)
 f243:=Tryz.func273.trans (congrArg some bJ)
 f246:=Tryz.func303.trans (congrArg some bJ)
 f283:=Tryz.func305.trans (congrArg some bJ)
 f284:=Tryz.func306.trans (congrArg some bJ)
 f285:=Tryz.func307.trans (congrArg some bJ)
 f286:=Tryz.func308.trans (congrArg some bJ)
 f317:=Tryz.func329.trans (congrArg some bJ)
 f318:=Tryz.func330.trans (congrArg some bJ)
 f319:=Tryz.func331.trans (congrArg some bJ)
 f320:=Tryz.func332.trans (congrArg some bJ)
 f337:=Tryz.func345.trans (congrArg some bJ)
 f338:=Tryz.func346.trans (congrArg some bJ)
 t0:=Tryz.underlying0
 a0:=Tryz.isAgg0
 z0:=Tryz.sizeOf0
 v0:=Tryz.zeroValue0
 t2:=Tryz.underlying2
 a2:=Tryz.isAgg2
 z2:=Tryz.sizeOf2
 v2:=Tryz.zeroValue2
 t3:=Tryz.underlying3
 a3:=Tryz.isAgg3
 z3:=Tryz.sizeOf3
 v3:=Tryz.zeroValue3
 t4:=Tryz.underlying4
 a4:=Tryz.isAgg4
 z4:=Tryz.sizeOf4
 v4:=Tryz.zeroValue4
 t5:=cB
 a5:=Tryz.isAgg5
 z5:=Tryz.sizeOf5
 v5:=Tryz.zeroValue5
 t9:=bL
 a9:=Tryz.isAgg9
 z9:=Tryz.sizeOf9
 v9:=Tryz.zeroValue9
 t20:=Tryz.underlying20
 a20:=Tryz.isAgg20
 z20:=Tryz.sizeOf20
 v20:=Tryz.zeroValue20
 t37:=ew
 a37:=Tryz.isAgg89
 z37:=Tryz.sizeOf89
 v37:=Tryz.zeroValue89
 t46:=Tryz.underlying146
 a46:=Tryz.isAgg146
 z46:=Tryz.sizeOf146
 v46:=Tryz.zeroValue146
 t51:=Tryz.underlying205
 a51:=Tryz.isAgg205
 z51:=Tryz.sizeOf205
 v51:=Tryz.zeroValue205
 t53:=Tryz.underlying22
 a53:=Tryz.isAgg22
 z53:=Tryz.sizeOf22
 v53:=Tryz.zeroValue22
 t171:=Tryz.underlying362
 a171:=Tryz.isAgg362
 z171:=Tryz.sizeOf362
 v171:=Tryz.zeroValue362
 t173:=Tryz.underlying364
 a173:=Tryz.isAgg364
 z173:=Tryz.sizeOf364
 v173:=Tryz.zeroValue364
 t212:=Tryz.underlying383
 a212:=Tryz.isAgg383
 z212:=Tryz.sizeOf383
 v212:=Tryz.zeroValue383
 t213:=Tryz.underlying384
 a213:=Tryz.isAgg384
 z213:=Tryz.sizeOf384
 t232:=Tryz.underlying273
 a232:=Tryz.isAgg273
 z232:=Tryz.sizeOf273
 v232:=Tryz.zeroValue273
 t233:=Tryz.underlying272
 a233:=Tryz.isAgg272
 z233:=Tryz.sizeOf272
 v233:=Tryz.zeroValue272
 g17:=by kernel_rfl
 g18:=by kernel_rfl
 g19:=by kernel_rfl
 i0:=by kernel_rfl
 i2:=by kernel_rfl
 i3:=by kernel_rfl
 i4:=by kernel_rfl
 i5:=by kernel_rfl
 i9:=by kernel_rfl
 i20:=by kernel_rfl
 i37:=by kernel_rfl
 i46:=by kernel_rfl
 i51:=by kernel_rfl
 i53:=by kernel_rfl
 i171:=by kernel_rfl
 i173:=by kernel_rfl
 i212:=by kernel_rfl
 i232:=by kernel_rfl
 i233:=by kernel_rfl
 m17:=by kernel_rfl
 m18:=by kernel_rfl
 m19:=by kernel_rfl}
open Go.RowKit Go.Sort Go.Lib in
theorem Tryz.strconv_Itoa(n:Int)(h0: -9223372036854775808≤n)(h1:n≤9223372036854775807)(w:World)(htab:Lib.TabIs ai w "internal/strconv.uint64pow10" .u64 Lib.pow10Tab):Calls ai 236 #[.int .i64 n] w fun e w'=>e=.returned (.string ⟨(Lib.itoa n).toArray⟩)∧∃k os,w'=grow (w.drewN k) os:=Any.strconv_Itoa Tryz.laysM171 n h0 h1 w htab
def Tryz.laysC245_ren:Go.Shelf.Ren:=⟨fun|245=>341|279=>352|280=>353|281=>354|282=>355|316=>358|171=>236|205=>359|243=>273|246=>303|283=>305|284=>306|285=>307|286=>308|129=>178|317=>329|318=>330|319=>331|320=>332|337=>345|338=>346|n=>n,fun|9=>9|3=>3|75=>154|167=>400|4=>4|168=>402|210=>409|37=>89|0=>0|127=>210|145=>413|143=>411|2=>2|171=>362|53=>22|5=>5|173=>364|212=>383|51=>205|20=>20|213=>384|46=>146|232=>273|233=>272|80=>112|n=>n,fun|15=>7|16=>8|17=>1|18=>5|19=>6|n=>n⟩
theorem Tryz.laysC245:Go.Proofs.LaysC.n245 ai Tryz.laysC245_ren:={
 mixed:=by kernel_rfl
 f129:=Tryz.func178.trans (congrArg some bJ)
 f171:=Tryz.func236.trans (congrArg some bJ)
 f205:=Tryz.func359.trans (congrArg some bJ)
 f243:=Tryz.func273.trans (congrArg some bJ)
 f245:=Tryz.func341.trans (congrArg some bJ)
 f246:=Tryz.func303.trans (congrArg some bJ)
 f279:=Tryz.func352.trans (congrArg some bJ)
 f280:=Tryz.func353.trans (congrArg some bJ)
 f281:=Tryz.func354.trans (congrArg some bJ)
 f282:=Tryz.func355.trans (congrArg some bJ)
 f283:=Tryz.func305.trans (congrArg some bJ)
 f284:=Tryz.func306.trans (congrArg some bJ)
 f285:=Tryz.func307.trans (congrArg some bJ)
 f286:=Tryz.func308.trans (congrArg some bJ)
 f316:=Tryz.func358.trans (congrArg some bJ)
 f317:=Tryz.func329.trans (congrArg some bJ)
 f318:=Tryz.func330.trans (congrArg some bJ)
 f319:=Tryz.func331.trans (congrArg some bJ)
 f320:=Tryz.func332.trans (congrArg some bJ)
 f337:=Tryz.func345.trans (congrArg some bJ)
 f338:=Tryz.func346.trans (congrArg some bJ)
 t0:=Tryz.underlying0
 a0:=Tryz.isAgg0
 z0:=Tryz.sizeOf0
 v0:=Tryz.zeroValue0
 t2:=Tryz.underlying2
 a2:=Tryz.isAgg2
 z2:=Tryz.sizeOf2
 v2:=Tryz.zeroValue2
 t3:=Tryz.underlying3
 a3:=Tryz.isAgg3
 z3:=Tryz.sizeOf3
 v3:=Tryz.zeroValue3
 t4:=Tryz.underlying4
 a4:=Tryz.isAgg4
 z4:=Tryz.sizeOf4
 v4:=Tryz.zeroValue4
 t5:=cB
 a5:=Tryz.isAgg5
 z5:=Tryz.sizeOf5
 v5:=Tryz.zeroValue5
 t9:=bL
 a9:=Tryz.isAgg9
 z9:=Tryz.sizeOf9
 v9:=Tryz.zeroValue9
 t20:=Tryz.underlying20
 a20:=Tryz.isAgg20
 z20:=Tryz.sizeOf20
 v20:=Tryz.zeroValue20
 t37:=ew
 a37:=Tryz.isAgg89
 z37:=Tryz.sizeOf89
 v37:=Tryz.zeroValue89
 t46:=Tryz.underlying146
 a46:=Tryz.isAgg146
 z46:=Tryz.sizeOf146
 v46:=Tryz.zeroValue146
 t51:=Tryz.underlying205
 a51:=Tryz.isAgg205
 z51:=Tryz.sizeOf205
 v51:=Tryz.zeroValue205
 t53:=Tryz.underlying22
 a53:=Tryz.isAgg22
 z53:=Tryz.sizeOf22
 v53:=Tryz.zeroValue22
 t75:=Tryz.underlying154
 a75:=Tryz.isAgg154
 z75:=Tryz.sizeOf154
 v75:=Tryz.zeroValue154
 t127:=Tryz.underlying210
 a127:=Tryz.isAgg210
 z127:=Tryz.sizeOf210
 v127:=Tryz.zeroValue210
 t143:=Tryz.underlying411
 a143:=Tryz.isAgg411
 z143:=Tryz.sizeOf411
 v143:=Tryz.zeroValue411
 t145:=Tryz.underlying413
 a145:=Tryz.isAgg413
 z145:=Tryz.sizeOf413
 v145:=Tryz.zeroValue413
 t167:=Tryz.underlying400
 a167:=Tryz.isAgg400
 z167:=Tryz.sizeOf400
 v167:=Tryz.zeroValue400
 t168:=Tryz.underlying402
 a168:=Tryz.isAgg402
 z168:=Tryz.sizeOf402
 v168:=Tryz.zeroValue402
 t171:=Tryz.underlying362
 a171:=Tryz.isAgg362
 z171:=Tryz.sizeOf362
 v171:=Tryz.zeroValue362
 t173:=Tryz.underlying364
 a173:=Tryz.isAgg364
 z173:=Tryz.sizeOf364
 v173:=Tryz.zeroValue364
 t210:=Tryz.underlying409
 a210:=Tryz.isAgg409
 z210:=Tryz.sizeOf409
 v210:=Tryz.zeroValue409
 t212:=Tryz.underlying383
 a212:=Tryz.isAgg383
 z212:=Tryz.sizeOf383
 v212:=Tryz.zeroValue383
 t213:=Tryz.underlying384
 a213:=Tryz.isAgg384
 z213:=Tryz.sizeOf384
 t232:=Tryz.underlying273
 a232:=Tryz.isAgg273
 z232:=Tryz.sizeOf273
 v232:=Tryz.zeroValue273
 t233:=Tryz.underlying272
 a233:=Tryz.isAgg272
 z233:=Tryz.sizeOf272
 v233:=Tryz.zeroValue272
 g15:=by kernel_rfl
 g16:=by kernel_rfl
 g17:=by kernel_rfl
 g18:=by kernel_rfl
 g19:=by kernel_rfl
 t80:=Tryz.underlying112
 a80:=Tryz.isAgg112
 z80:=Tryz.sizeOf112
 v80:=Tryz.zeroValue112
 i0:=by kernel_rfl
 i2:=by kernel_rfl
 i3:=by kernel_rfl
 i4:=by kernel_rfl
 i5:=by kernel_rfl
 i9:=by kernel_rfl
 i20:=by kernel_rfl
 i37:=by kernel_rfl
 i46:=by kernel_rfl
 i51:=by kernel_rfl
 i53:=by kernel_rfl
 i75:=by kernel_rfl
 i80:=by kernel_rfl
 i127:=by kernel_rfl
 i143:=by kernel_rfl
 i145:=by kernel_rfl
 i167:=by kernel_rfl
 i168:=by kernel_rfl
 i171:=by kernel_rfl
 i173:=by kernel_rfl
 i210:=by kernel_rfl
 i212:=by kernel_rfl
 i232:=by kernel_rfl
 i233:=by kernel_rfl
 m15:=by kernel_rfl
 m16:=by kernel_rfl
 m17:=by kernel_rfl
 m18:=by kernel_rfl
 m19:=by kernel_rfl
 c0:=by kernel_rfl
 c2:=by kernel_rfl
 c3:=by kernel_rfl
 c4:=by kernel_rfl
 c5:=by kernel_rfl
 c9:=by kernel_rfl
 c20:=by kernel_rfl
 c37:=by kernel_rfl
 c46:=by kernel_rfl
 c51:=by kernel_rfl
 c53:=by kernel_rfl
 c75:=by kernel_rfl
 c80:=by kernel_rfl
 c127:=by kernel_rfl
 c143:=by kernel_rfl
 c145:=by kernel_rfl
 c167:=by kernel_rfl
 c168:=by kernel_rfl
 c171:=by kernel_rfl
 c173:=by kernel_rfl
 c210:=by kernel_rfl
 c212:=by kernel_rfl
 c213:=by kernel_rfl
 c232:=by kernel_rfl
 c233:=by kernel_rfl}
theorem Tryz.strconv_toError_syntax(fn s:ByteArray)(base bits:Int)(ev:Value)(w:World)(hlim:s.size≤281474976710656)(hv:w.cell? ⟨7,0,none⟩=some ev)(hev:ev=.nilIface∨∃te pe,ev=.iface te pe):Calls ai 341 #[.string fn,.string s,.int .i64 base,.int .i64 bits,.iface 400 (.int .i64 2)] w fun e w'=>∃N,e=.returned (.iface 402 (.pointer (some ⟨N,0,none⟩)))∧w.heap.size≤N∧w'.heap[N]? =some (.cells #[.string fn,.string s,ev] 409 (0,0))∧Below w.heap.size w w':=Any.strconv_toError_syntax Tryz.laysC245 fn s base bits ev w hlim hv hev
theorem Tryz.strconv_toError_range(fn s:ByteArray)(base bits:Int)(ev:Value)(w:World)(hlim:s.size≤281474976710656)(hv:w.cell? ⟨8,0,none⟩=some ev)(hev:ev=.nilIface∨∃te pe,ev=.iface te pe):Calls ai 341 #[.string fn,.string s,.int .i64 base,.int .i64 bits,.iface 400 (.int .i64 1)] w fun e w'=>∃N,e=.returned (.iface 402 (.pointer (some ⟨N,0,none⟩)))∧w.heap.size≤N∧w'.heap[N]? =some (.cells #[.string fn,.string s,ev] 409 (0,0))∧Below w.heap.size w w':=Any.strconv_toError_range Tryz.laysC245 fn s base bits ev w hlim hv hev
def Tryz.laysPu14_ren:Go.Shelf.Ren:=⟨fun|14=>314|16=>340|17=>341|19=>350|20=>351|21=>352|22=>353|23=>354|24=>355|25=>358|27=>236|26=>359|28=>273|29=>303|30=>305|31=>306|32=>307|33=>308|35=>178|34=>329|36=>330|37=>331|38=>332|39=>345|40=>346|n=>n,fun|9=>9|3=>3|22=>22|24=>154|25=>369|4=>4|34=>400|5=>5|36=>146|37=>89|0=>0|39=>402|21=>21|44=>409|47=>210|50=>413|48=>411|2=>2|52=>362|55=>364|59=>383|60=>205|20=>20|61=>384|65=>273|66=>272|67=>112|n=>n,fun|0=>7|1=>8|2=>1|3=>5|4=>6|n=>n⟩
theorem Tryz.laysPu14:Go.Proofs.LaysPu.n14 ai Tryz.laysPu14_ren:={
 mixed:=by kernel_rfl
 f14:=Tryz.func314.trans (congrArg some bJ)
 f16:=Tryz.func340.trans (congrArg some bJ)
 f17:=Tryz.func341.trans (congrArg some bJ)
 f19:=Tryz.func350.trans (congrArg some bJ)
 f20:=Tryz.func351.trans (congrArg some bJ)
 f21:=Tryz.func352.trans (congrArg some bJ)
 f22:=Tryz.func353.trans (congrArg some bJ)
 f23:=Tryz.func354.trans (congrArg some bJ)
 f24:=Tryz.func355.trans (congrArg some bJ)
 f25:=Tryz.func358.trans (congrArg some bJ)
 f26:=Tryz.func359.trans (congrArg some bJ)
 f27:=Tryz.func236.trans (congrArg some bJ)
 f28:=Tryz.func273.trans (congrArg some bJ)
 f29:=Tryz.func303.trans (congrArg some bJ)
 f30:=Tryz.func305.trans (congrArg some bJ)
 f31:=Tryz.func306.trans (congrArg some bJ)
 f32:=Tryz.func307.trans (congrArg some bJ)
 f33:=Tryz.func308.trans (congrArg some bJ)
 f34:=Tryz.func329.trans (congrArg some bJ)
 f35:=Tryz.func178.trans (congrArg some bJ)
 f36:=Tryz.func330.trans (congrArg some bJ)
 f37:=Tryz.func331.trans (congrArg some bJ)
 f38:=Tryz.func332.trans (congrArg some bJ)
 f39:=Tryz.func345.trans (congrArg some bJ)
 f40:=Tryz.func346.trans (congrArg some bJ)
 t0:=Tryz.underlying0
 a0:=Tryz.isAgg0
 z0:=Tryz.sizeOf0
 v0:=Tryz.zeroValue0
 i0:=by kernel_rfl
 t2:=Tryz.underlying2
 a2:=Tryz.isAgg2
 z2:=Tryz.sizeOf2
 v2:=Tryz.zeroValue2
 i2:=by kernel_rfl
 t3:=Tryz.underlying3
 a3:=Tryz.isAgg3
 z3:=Tryz.sizeOf3
 v3:=Tryz.zeroValue3
 i3:=by kernel_rfl
 t4:=Tryz.underlying4
 a4:=Tryz.isAgg4
 z4:=Tryz.sizeOf4
 v4:=Tryz.zeroValue4
 i4:=by kernel_rfl
 t5:=cB
 a5:=Tryz.isAgg5
 z5:=Tryz.sizeOf5
 v5:=Tryz.zeroValue5
 i5:=by kernel_rfl
 t9:=bL
 a9:=Tryz.isAgg9
 z9:=Tryz.sizeOf9
 v9:=Tryz.zeroValue9
 i9:=by kernel_rfl
 t20:=Tryz.underlying20
 a20:=Tryz.isAgg20
 z20:=Tryz.sizeOf20
 v20:=Tryz.zeroValue20
 i20:=by kernel_rfl
 t21:=Tryz.underlying21
 a21:=Tryz.isAgg21
 z21:=Tryz.sizeOf21
 v21:=Tryz.zeroValue21
 i21:=by kernel_rfl
 t22:=Tryz.underlying22
 a22:=Tryz.isAgg22
 z22:=Tryz.sizeOf22
 v22:=Tryz.zeroValue22
 i22:=by kernel_rfl
 t24:=Tryz.underlying154
 a24:=Tryz.isAgg154
 z24:=Tryz.sizeOf154
 v24:=Tryz.zeroValue154
 i24:=by kernel_rfl
 t25:=Tryz.underlying369
 a25:=Tryz.isAgg369
 z25:=Tryz.sizeOf369
 v25:=Tryz.zeroValue369
 i25:=by kernel_rfl
 t34:=Tryz.underlying400
 a34:=Tryz.isAgg400
 z34:=Tryz.sizeOf400
 v34:=Tryz.zeroValue400
 i34:=by kernel_rfl
 c34:=by kernel_rfl
 t36:=Tryz.underlying146
 a36:=Tryz.isAgg146
 z36:=Tryz.sizeOf146
 v36:=Tryz.zeroValue146
 i36:=by kernel_rfl
 t37:=ew
 a37:=Tryz.isAgg89
 z37:=Tryz.sizeOf89
 v37:=Tryz.zeroValue89
 i37:=by kernel_rfl
 t39:=Tryz.underlying402
 a39:=Tryz.isAgg402
 z39:=Tryz.sizeOf402
 v39:=Tryz.zeroValue402
 i39:=by kernel_rfl
 t44:=Tryz.underlying409
 a44:=Tryz.isAgg409
 z44:=Tryz.sizeOf409
 v44:=Tryz.zeroValue409
 i44:=by kernel_rfl
 t47:=Tryz.underlying210
 a47:=Tryz.isAgg210
 z47:=Tryz.sizeOf210
 v47:=Tryz.zeroValue210
 i47:=by kernel_rfl
 t48:=Tryz.underlying411
 a48:=Tryz.isAgg411
 z48:=Tryz.sizeOf411
 v48:=Tryz.zeroValue411
 i48:=by kernel_rfl
 t50:=Tryz.underlying413
 a50:=Tryz.isAgg413
 z50:=Tryz.sizeOf413
 v50:=Tryz.zeroValue413
 i50:=by kernel_rfl
 t52:=Tryz.underlying362
 a52:=Tryz.isAgg362
 z52:=Tryz.sizeOf362
 v52:=Tryz.zeroValue362
 i52:=by kernel_rfl
 t55:=Tryz.underlying364
 a55:=Tryz.isAgg364
 z55:=Tryz.sizeOf364
 v55:=Tryz.zeroValue364
 i55:=by kernel_rfl
 t59:=Tryz.underlying383
 a59:=Tryz.isAgg383
 z59:=Tryz.sizeOf383
 v59:=Tryz.zeroValue383
 i59:=by kernel_rfl
 t60:=Tryz.underlying205
 a60:=Tryz.isAgg205
 z60:=Tryz.sizeOf205
 v60:=Tryz.zeroValue205
 i60:=by kernel_rfl
 t61:=Tryz.underlying384
 a61:=Tryz.isAgg384
 z61:=Tryz.sizeOf384
 t65:=Tryz.underlying273
 a65:=Tryz.isAgg273
 z65:=Tryz.sizeOf273
 v65:=Tryz.zeroValue273
 i65:=by kernel_rfl
 t66:=Tryz.underlying272
 a66:=Tryz.isAgg272
 z66:=Tryz.sizeOf272
 v66:=Tryz.zeroValue272
 i66:=by kernel_rfl
 t67:=Tryz.underlying112
 a67:=Tryz.isAgg112
 z67:=Tryz.sizeOf112
 v67:=Tryz.zeroValue112
 i67:=by kernel_rfl
 g0:=by kernel_rfl
 m0:=by kernel_rfl
 g1:=by kernel_rfl
 m1:=by kernel_rfl
 g2:=by kernel_rfl
 m2:=by kernel_rfl
 g3:=by kernel_rfl
 m3:=by kernel_rfl
 g4:=by kernel_rfl
 m4:=by kernel_rfl}
theorem Tryz.strconv_ParseUint_10_at64_ok(s:ByteArray)(hmax:s.size≤9223372036854775806)(u:Nat)(h:Lib.parseUintB 64 s.data.toList=.ok u)(w:World):Calls ai 314 #[.string s,.int .i64 10,.int .i64 64] w fun e w'=>e=.returned (.tuple #[.int .u64 u,.nilIface])∧(w'=w∨w'=Lib.bytesWorld w 5 s):=Any.strconv_ParseUint_10_at64_ok Tryz.laysPu14 s hmax u h w
theorem Tryz.strconv_ParseUint_10_at64_range(s:ByteArray)(hlim:s.size≤281474976710656)(h:Lib.parseUintB 64 s.data.toList=.range)(ev:Value)(w:World)(hv:w.cell? ⟨8,0,none⟩=some ev)(hev:ev=.nilIface∨∃te pe,ev=.iface te pe):Calls ai 314 #[.string s,.int .i64 10,.int .i64 64] w fun e w'=>∃N,e=.returned (.tuple #[.int .u64 18446744073709551615,.iface 402 (.pointer (some ⟨N,0,none⟩))])∧w.heap.size≤N∧w'.heap[N]? =some (.cells #[.string ⟨#[80,97,114,115,101,85,105,110,116]⟩,.string s,ev] 409 (0,0))∧Below w.heap.size w w':=Any.strconv_ParseUint_10_at64_range Tryz.laysPu14 s hlim h ev w hv hev
theorem Tryz.strconv_ParseUint_10_at16_ok(s:ByteArray)(hmax:s.size≤9223372036854775806)(u:Nat)(h:Lib.parseUintB 16 s.data.toList=.ok u)(w:World):Calls ai 314 #[.string s,.int .i64 10,.int .i64 16] w fun e w'=>e=.returned (.tuple #[.int .u64 u,.nilIface])∧(w'=w∨w'=Lib.bytesWorld w 5 s):=Any.strconv_ParseUint_10_at16_ok Tryz.laysPu14 s hmax u h w
theorem Tryz.strconv_ParseUint_10_at16_range(s:ByteArray)(hlim:s.size≤281474976710656)(h:Lib.parseUintB 16 s.data.toList=.range)(ev:Value)(w:World)(hv:w.cell? ⟨8,0,none⟩=some ev)(hev:ev=.nilIface∨∃te pe,ev=.iface te pe):Calls ai 314 #[.string s,.int .i64 10,.int .i64 16] w fun e w'=>∃N,e=.returned (.tuple #[.int .u64 65535,.iface 402 (.pointer (some ⟨N,0,none⟩))])∧w.heap.size≤N∧w'.heap[N]? =some (.cells #[.string ⟨#[80,97,114,115,101,85,105,110,116]⟩,.string s,ev] 409 (0,0))∧Below w.heap.size w w':=Any.strconv_ParseUint_10_at16_range Tryz.laysPu14 s hlim h ev w hv hev
theorem Tryz.strconv_ParseUint_10_at8_ok(s:ByteArray)(hmax:s.size≤9223372036854775806)(u:Nat)(h:Lib.parseUintB 8 s.data.toList=.ok u)(w:World):Calls ai 314 #[.string s,.int .i64 10,.int .i64 8] w fun e w'=>e=.returned (.tuple #[.int .u64 u,.nilIface])∧(w'=w∨w'=Lib.bytesWorld w 5 s):=Any.strconv_ParseUint_10_at8_ok Tryz.laysPu14 s hmax u h w
theorem Tryz.strconv_ParseUint_10_at8_range(s:ByteArray)(hlim:s.size≤281474976710656)(h:Lib.parseUintB 8 s.data.toList=.range)(ev:Value)(w:World)(hv:w.cell? ⟨8,0,none⟩=some ev)(hev:ev=.nilIface∨∃te pe,ev=.iface te pe):Calls ai 314 #[.string s,.int .i64 10,.int .i64 8] w fun e w'=>∃N,e=.returned (.tuple #[.int .u64 255,.iface 402 (.pointer (some ⟨N,0,none⟩))])∧w.heap.size≤N∧w'.heap[N]? =some (.cells #[.string ⟨#[80,97,114,115,101,85,105,110,116]⟩,.string s,ev] 409 (0,0))∧Below w.heap.size w w':=Any.strconv_ParseUint_10_at8_range Tryz.laysPu14 s hlim h ev w hv hev
def Tryz.lays145_ren:Go.Shelf.Ren:=⟨fun|145=>312|220=>337|219=>311|217=>333|225=>334|224=>335|267=>336|266=>347|314=>348|n=>n,fun|9=>9|4=>4|59=>309|3=>3|5=>5|46=>146|146=>397|51=>205|n=>n,fun|1=>2|n=>n⟩
theorem Tryz.lays145:Go.Proofs.Lays.n145 ai Tryz.lays145_ren:={
 mixed:=by kernel_rfl
 f145:=Tryz.func312.trans (congrArg some bJ)
 f217:=Tryz.func333.trans (congrArg some bJ)
 f219:=Tryz.func311.trans (congrArg some bJ)
 f220:=Tryz.func337.trans (congrArg some bJ)
 f224:=Tryz.func335.trans (congrArg some bJ)
 f225:=Tryz.func334.trans (congrArg some bJ)
 f266:=Tryz.func347.trans (congrArg some bJ)
 f267:=Tryz.func336.trans (congrArg some bJ)
 f314:=Tryz.func348.trans (congrArg some bJ)
 t3:=Tryz.underlying3
 a3:=Tryz.isAgg3
 z3:=Tryz.sizeOf3
 v3:=Tryz.zeroValue3
 t4:=Tryz.underlying4
 a4:=Tryz.isAgg4
 z4:=Tryz.sizeOf4
 v4:=Tryz.zeroValue4
 t5:=cB
 a5:=Tryz.isAgg5
 z5:=Tryz.sizeOf5
 v5:=Tryz.zeroValue5
 t9:=bL
 a9:=Tryz.isAgg9
 z9:=Tryz.sizeOf9
 v9:=Tryz.zeroValue9
 t46:=Tryz.underlying146
 a46:=Tryz.isAgg146
 z46:=Tryz.sizeOf146
 v46:=Tryz.zeroValue146
 t51:=Tryz.underlying205
 a51:=Tryz.isAgg205
 z51:=Tryz.sizeOf205
 v51:=Tryz.zeroValue205
 t59:=Tryz.underlying309
 a59:=Tryz.isAgg309
 z59:=Tryz.sizeOf309
 v59:=Tryz.zeroValue309
 t146:=Tryz.underlying397
 a146:=Tryz.isAgg397
 z146:=Tryz.sizeOf397
 v146:=Tryz.zeroValue397
 g1:=by kernel_rfl}
open Go.RowKit Go.Lib in
theorem Tryz.strings_Cut(s sep:ByteArray)(m:Int)(w:World)(hs:s.size<4294967281)(hm:w.cell? ⟨2,0,none⟩=some (.int .i64 m)):Calls ai 312 #[.string s,.string sep] w fun e w'=>e=.returned (.tuple #[.string ⟨(Lib.cut s.data.toList sep.data.toList).1.toArray⟩,.string ⟨(Lib.cut s.data.toList sep.data.toList).2.1.toArray⟩,.bool (Lib.cut s.data.toList sep.data.toList).2.2])∧∃n,w'=w.drewN n:=Any.strings_Cut Tryz.lays145 s sep m w hs hm
def Tryz.lays146_ren:Go.Shelf.Ren:=⟨fun|146=>206|221=>241|268=>276|138=>277|143=>278|195=>309|197=>300|218=>310|219=>311|260=>325|217=>333|225=>334|224=>335|267=>336|266=>347|314=>348|n=>n,fun|9=>9|31=>27|3=>3|4=>4|0=>0|105=>358|21=>21|5=>5|46=>146|119=>393|139=>396|138=>395|146=>397|51=>205|n=>n,fun|1=>2|3=>3|4=>4|n=>n⟩
theorem Tryz.lays146:Go.Proofs.Lays.n146 ai Tryz.lays146_ren:={
 mixed:=by kernel_rfl
 f138:=Tryz.func277.trans (congrArg some bJ)
 f143:=Tryz.func278.trans (congrArg some bJ)
 f146:=Tryz.func206.trans (congrArg some bJ)
 f195:=Tryz.func309.trans (congrArg some bJ)
 f197:=Tryz.func300.trans (congrArg some bJ)
 f217:=Tryz.func333.trans (congrArg some bJ)
 f218:=Tryz.func310.trans (congrArg some bJ)
 f219:=Tryz.func311.trans (congrArg some bJ)
 f221:=Tryz.func241.trans (congrArg some bJ)
 f224:=Tryz.func335.trans (congrArg some bJ)
 f225:=Tryz.func334.trans (congrArg some bJ)
 f260:=Tryz.func325.trans (congrArg some bJ)
 f266:=Tryz.func347.trans (congrArg some bJ)
 f267:=Tryz.func336.trans (congrArg some bJ)
 f268:=Tryz.func276.trans (congrArg some bJ)
 f314:=Tryz.func348.trans (congrArg some bJ)
 t0:=Tryz.underlying0
 a0:=Tryz.isAgg0
 z0:=Tryz.sizeOf0
 v0:=Tryz.zeroValue0
 t3:=Tryz.underlying3
 a3:=Tryz.isAgg3
 z3:=Tryz.sizeOf3
 v3:=Tryz.zeroValue3
 t4:=Tryz.underlying4
 a4:=Tryz.isAgg4
 z4:=Tryz.sizeOf4
 v4:=Tryz.zeroValue4
 t5:=cB
 a5:=Tryz.isAgg5
 z5:=Tryz.sizeOf5
 v5:=Tryz.zeroValue5
 t9:=bL
 a9:=Tryz.isAgg9
 z9:=Tryz.sizeOf9
 v9:=Tryz.zeroValue9
 t21:=Tryz.underlying21
 a21:=Tryz.isAgg21
 z21:=Tryz.sizeOf21
 v21:=Tryz.zeroValue21
 t31:=agk
 a31:=Tryz.isAgg27
 z31:=Tryz.sizeOf27
 v31:=Tryz.zeroValue27
 t46:=Tryz.underlying146
 a46:=Tryz.isAgg146
 z46:=Tryz.sizeOf146
 v46:=Tryz.zeroValue146
 t51:=Tryz.underlying205
 a51:=Tryz.isAgg205
 z51:=Tryz.sizeOf205
 v51:=Tryz.zeroValue205
 t105:=Tryz.underlying358
 a105:=Tryz.isAgg358
 z105:=Tryz.sizeOf358
 v105:=Tryz.zeroValue358
 t119:=Tryz.underlying393
 a119:=Tryz.isAgg393
 z119:=Tryz.sizeOf393
 t138:=Tryz.underlying395
 a138:=Tryz.isAgg395
 z138:=Tryz.sizeOf395
 v138:=Tryz.zeroValue395
 t139:=Tryz.underlying396
 a139:=Tryz.isAgg396
 z139:=Tryz.sizeOf396
 v139:=Tryz.zeroValue396
 t146:=Tryz.underlying397
 a146:=Tryz.isAgg397
 z146:=Tryz.sizeOf397
 v146:=Tryz.zeroValue397
 g1:=by kernel_rfl
 g3:=by kernel_rfl
 g4:=by kernel_rfl}
open Go.RowKit Go.Lib in
theorem Tryz.strings_Split(s sep:ByteArray)(m:Int)(w:World)(hs:s.size<4294967281)(hm:w.cell? ⟨2,0,none⟩=some (.int .i64 m))(h1:1≤sep.size):Calls ai 206 #[.string s,.string sep] w fun e w'=>e=.returned (.slice (some ⟨w.heap.size,0,none⟩) (Lib.countB s sep+1) (Lib.countB s sep+1))∧w'=w.alloc (.cells ((Lib.splitB sep 0 (Lib.countB s sep) s).map Value.string).toArray 9):=Any.strings_Split Tryz.lays146 bJ s sep m w hs hm h1
def Tryz.lays229_ren:Go.Shelf.Ren:=⟨fun|229=>242|n=>n,fun|9=>9|40=>286|31=>27|152=>335|3=>3|0=>0|4=>4|21=>21|154=>337|n=>n,fun|n=>n⟩
theorem Tryz.lays229:Go.Proofs.Lays.n229 ai Tryz.lays229_ren:={
 mixed:=by kernel_rfl
 f229:=Tryz.func242.trans (congrArg some bJ)
 t0:=Tryz.underlying0
 a0:=Tryz.isAgg0
 z0:=Tryz.sizeOf0
 v0:=Tryz.zeroValue0
 t3:=Tryz.underlying3
 a3:=Tryz.isAgg3
 z3:=Tryz.sizeOf3
 v3:=Tryz.zeroValue3
 t4:=Tryz.underlying4
 a4:=Tryz.isAgg4
 z4:=Tryz.sizeOf4
 v4:=Tryz.zeroValue4
 t9:=bL
 a9:=Tryz.isAgg9
 z9:=Tryz.sizeOf9
 v9:=Tryz.zeroValue9
 t21:=Tryz.underlying21
 a21:=Tryz.isAgg21
 z21:=Tryz.sizeOf21
 v21:=Tryz.zeroValue21
 t31:=agk
 a31:=Tryz.isAgg27
 z31:=Tryz.sizeOf27
 v31:=Tryz.zeroValue27
 t40:=Tryz.underlying286
 a40:=Tryz.isAgg286
 z40:=Tryz.sizeOf286
 v40:=Tryz.zeroValue286
 t152:=Tryz.underlying335
 a152:=Tryz.isAgg335
 z152:=Tryz.sizeOf335
 v152:=Tryz.zeroValue335
 t154:=Tryz.underlying337
 a154:=Tryz.isAgg337
 z154:=Tryz.sizeOf337
 v154:=Tryz.zeroValue337}
open Go.RowKit Go.Lib in
theorem Tryz.strings_FieldsFunc_grows(g:Nat)(lb:Array Value)(eg:∀args w,(callFunc g args).run ai w=.ok (.enter g args) w)(p:Nat→Bool)(s:ByteArray)(w:World)(hs:s.size≤4294967296)(hp:PredGrows ai g lb p w):Calls ai 242 #[.string s,.func (.func g) #[] lb] w fun e w'=>∃A,e=.returned (.slice (some ⟨A,0,none⟩) (Lib.goFieldsP p s).length (Lib.goFieldsP p s).length)∧w.heap.size≤A∧w'.ownsRow w.heap.size 9 1 (.slice (some ⟨A,0,none⟩) (Lib.goFieldsP p s).length (Lib.goFieldsP p s).length) (Lib.goFieldsP p s).length ((Lib.goFieldsP p s).map Value.string)∧Below w.heap.size w w':=Any.strings_FieldsFunc_grows Tryz.lays229 g lb eg p s w hs hp bJ (by kernel_rfl)
end Go.Proofs
namespace Go.Proofs.YtdfnhljccdoncaaGreatDoor
def ns:Bool→List Nat→Nat
 |_,[]=>0
 |odd,a::l=>(if odd then a else 256*a)+ns (!odd) l
open Go.RowKit
def js(s:ByteArray):List Nat:=s.data.toList.map UInt8.toNat
theorem fO(s:ByteArray):(js s).length=s.size:=by unfold js;rw[ay,Array.length_toList];rfl
theorem Vy(s:ByteArray):∀c∈js s,c<256:=by
 intro c hc;obtain⟨b,_,rfl⟩:=List.mem_map.1 hc;exact b.toNat_lt
def fw(n x:Nat):List UInt8:=(List.range n).map fun j=>agq (x/256^(n-1-j)%256)
def be(n x:Nat):ByteArray:=⟨(fw n x).toArray⟩
theorem aR(n x:Nat):(fw n x).length=n:=by simp[fw]
theorem Vz(n x:Nat):(be n x).size=n:=by simp[be,ByteArray.size,fw]
def mN(n x k:Nat):Array Value:=((List.range n).map fun j=>Value.int .u8 (if n-1-j<k then((x/256^(n-1-j)%256:Nat):Int)else 0)).toArray
theorem pq(n x:Nat):mN n x 0=Array.replicate n (.int .u8 0):=by
 unfold mN;apply Array.ext
 ·simp
 ·intro i h1 h2;simp
theorem rp(n x k:Nat)(hk:k<n):(mN n x k).setIfInBounds (n-1-k) (.int .u8 ((x/256^k%256:Nat):Int))=mN n x (k+1):=by
 unfold mN;apply Array.ext
 ·simp
 ·intro i h1 h2;simp only[Array.size_setIfInBounds,List.size_toArray,ay,List.length_range]at h1;rw[Array.getElem_setIfInBounds (by simpa using h1)];simp only[List.getElem_toArray,List.getElem_map,List.getElem_range];by_cases h:n-1-k=i
  ·rw[if_pos h,if_pos aY,show n-1-i=k by omega]
  ·rw[if_neg h];by_cases h3:n-1-i<k
   ·rw[if_pos h3,if_pos aY]
   ·rw[if_neg h3,if_neg aY]
theorem uI(n x k j:Nat)(hj:j<n):∃v,(mN n x k)[j]? =some v:=by
 unfold mN;exact⟨_,rH (by simpa using hj)⟩
theorem Z6(n x j:Nat)(hj:j<(fw n x).length):(fw n x)[j]=agq (x/256^(n-1-j)%256):=by simp[fw]
theorem pu(n x j:Nat)(hj:j<(fw n x).length):(mN n x n)[j]? =some (.int .u8 (((fw n x)[j]'hj).toNat:Int)):=by
 rw[Z6];rw[aR]at hj;unfold mN;rw[rH (by simpa using hj)];simp only[List.getElem_toArray,List.getElem_map,List.getElem_range];rw[if_pos aY];have:x/256^(n-1-j)%256<256:=Nat.mod_lt _ aY;rw[UInt8.toNat_ofNat_of_lt' (by simpa using this)]
theorem mkN(n:Nat)(hn:n=2∨n=4∨n=8)(w:World):(Instr.makeSlice 89 (.int .i64 n) (.int .i64 n)).run ai w=.ok (.slice (some ⟨w.heap.size,0,none⟩) n n) (w.alloc (.cells (Array.replicate n (.int .u8 0)) 5)):=by
 rcases hn with rfl|rfl|rfl
 ·kernel_rfl
 ·kernel_rfl
 ·kernel_rfl
theorem Z7(x k:Nat):(x:Int)/2^(8*k)%256=((x/256^k%256:Nat):Int):=by
 rw[show(2:Int)^(8*k)=((256^k:Nat):Int) by rw[Int.pow_mul];simp];simp
theorem VA(x n:Nat)(hx:x<65536)(hn:n=2∨n=4∨n=8)(w:World):Calls ai 186 #[.int .u16 x,.int .i64 n] w fun r w'=>r=.returned (.string (be n x))∧Below w.heap.size w w':=by
 have hmk:=mkN n hn;have hn0:1≤n:=by omega
 have hn8:n≤8:=by omega
 clear hn;go_enter Tryz.func186,Tryz.ntmps186;go_wp2_with fail
 go_loopw [11] (fun v11 wr=>∃k:Nat,k≤n∧v11=.int .i64 k∧aG wr w.heap.size 5 (mN n x k)∧Below w.heap.size w wr) (fun v11 _=>n-(intOf v11).toNat)
 case atStart=>exact⟨0,bF _,rfl,by rw[pq];exact aG.new _ _ _,(aK _ _).alloc (aw _) _⟩
 case round=>
  obtain⟨k,hk,rfl,hb,hB⟩:=hrel;by_cases hlt:k<n
  ·obtain⟨u,hu⟩:=uI n x k (n-1-k) aY;have hc:=(hb.cell (n-1-k)).trans hu;have hf:=hb.frozen (n-1-k);have hnx:=hb.aM (n-1-k) (.int .u8 ((x/256^k%256:Nat):Int));rw[rp n x k hlt]at hnx;have e1:((n:Int)-1-(k:Int)).toNat=n-1-k:=by omega
   have h0:(0:Int)≤(n:Int)-1-(k:Int):=by omega
   obtain⟨HB,yi⟩:=aQ hB hnx;have hlt2:=hb.lt;clear hB hnx hu hb hmk;go_wp2_with fail
   go_roundw
   case rel=>
    rw[Z7 x k];exact⟨k+1,by omega,by go_num,yi.out,HB.out.setCell (aw _) _⟩
   case measure=>simp[intOf];omega
  ·obtain rfl:k=n:=by omega
   have hback:=run_convert_bytes_back (P:=ai) wr 89 9 5 ⟨w.heap.size,0,none⟩ k (fw k x) ew cB bL (fun j hj=>by
    have e:(⟨w.heap.size,0,none⟩:Addr).add j=⟨w.heap.size,j,none⟩:=by unfold Addr.add;split<;>simp_all
    rw[e];exact(hb.cell j).trans (pu k x j hj))
   rw[aR]at hback;have HB:=Lib.hid hB;clear hB hb hmk;go_wp2_with fail
   go_ret;exact⟨rfl,HB.out⟩
theorem VB(x n:Nat)(hx:x<18446744073709551616)(hn:n=2∨n=4∨n=8)(w:World):Calls ai 132 #[.int .u64 x,.int .i64 n] w fun r w'=>r=.returned (.string (be n x))∧Below w.heap.size w w':=by
 have hmk:=mkN n hn;have hn0:1≤n:=by omega
 have hn8:n≤8:=by omega
 clear hn;go_enter Tryz.func132,Tryz.ntmps132;go_wp2_with fail
 go_loopw [11] (fun v11 wr=>∃k:Nat,k≤n∧v11=.int .i64 k∧aG wr w.heap.size 5 (mN n x k)∧Below w.heap.size w wr) (fun v11 _=>n-(intOf v11).toNat)
 case atStart=>exact⟨0,bF _,rfl,by rw[pq];exact aG.new _ _ _,(aK _ _).alloc (aw _) _⟩
 case round=>
  obtain⟨k,hk,rfl,hb,hB⟩:=hrel;by_cases hlt:k<n
  ·obtain⟨u,hu⟩:=uI n x k (n-1-k) aY;have hc:=(hb.cell (n-1-k)).trans hu;have hf:=hb.frozen (n-1-k);have hnx:=hb.aM (n-1-k) (.int .u8 ((x/256^k%256:Nat):Int));rw[rp n x k hlt]at hnx;have e1:((n:Int)-1-(k:Int)).toNat=n-1-k:=by omega
   have h0:(0:Int)≤(n:Int)-1-(k:Int):=by omega
   obtain⟨HB,yi⟩:=aQ hB hnx;have hlt2:=hb.lt;clear hB hnx hu hb hmk;go_wp2_with fail
   go_roundw
   case rel=>
    rw[Z7 x k];exact⟨k+1,by omega,by go_num,yi.out,HB.out.setCell (aw _) _⟩
   case measure=>simp[intOf];omega
  ·obtain rfl:k=n:=by omega
   have hback:=run_convert_bytes_back (P:=ai) wr 89 9 5 ⟨w.heap.size,0,none⟩ k (fw k x) ew cB bL (fun j hj=>by
    have e:(⟨w.heap.size,0,none⟩:Addr).add j=⟨w.heap.size,j,none⟩:=by unfold Addr.add;split<;>simp_all
    rw[e];exact(hb.cell j).trans (pu k x j hj))
   rw[aR]at hback;have HB:=Lib.hid hB;clear hB hb hmk;go_wp2_with fail
   go_ret;exact⟨rfl,HB.out⟩
theorem VC(x n:Nat)(hx:x<4294967296)(hn:n=2∨n=4∨n=8)(w:World):Calls ai 225 #[.int .u32 x,.int .i64 n] w fun r w'=>r=.returned (.string (be n x))∧Below w.heap.size w w':=by
 have hmk:=mkN n hn;have hn0:1≤n:=by omega
 have hn8:n≤8:=by omega
 clear hn;go_enter Tryz.func225,Tryz.ntmps225;go_wp2_with fail
 go_loopw [11] (fun v11 wr=>∃k:Nat,k≤n∧v11=.int .i64 k∧aG wr w.heap.size 5 (mN n x k)∧Below w.heap.size w wr) (fun v11 _=>n-(intOf v11).toNat)
 case atStart=>exact⟨0,bF _,rfl,by rw[pq];exact aG.new _ _ _,(aK _ _).alloc (aw _) _⟩
 case round=>
  obtain⟨k,hk,rfl,hb,hB⟩:=hrel;by_cases hlt:k<n
  ·obtain⟨u,hu⟩:=uI n x k (n-1-k) aY;have hc:=(hb.cell (n-1-k)).trans hu;have hf:=hb.frozen (n-1-k);have hnx:=hb.aM (n-1-k) (.int .u8 ((x/256^k%256:Nat):Int));rw[rp n x k hlt]at hnx;have e1:((n:Int)-1-(k:Int)).toNat=n-1-k:=by omega
   have h0:(0:Int)≤(n:Int)-1-(k:Int):=by omega
   obtain⟨HB,yi⟩:=aQ hB hnx;have hlt2:=hb.lt;clear hB hnx hu hb hmk;go_wp2_with fail
   go_roundw
   case rel=>
    rw[Z7 x k];exact⟨k+1,by omega,by go_num,yi.out,HB.out.setCell (aw _) _⟩
   case measure=>simp[intOf];omega
  ·obtain rfl:k=n:=by omega
   have hback:=run_convert_bytes_back (P:=ai) wr 89 9 5 ⟨w.heap.size,0,none⟩ k (fw k x) ew cB bL (fun j hj=>by
    have e:(⟨w.heap.size,0,none⟩:Addr).add j=⟨w.heap.size,j,none⟩:=by unfold Addr.add;split<;>simp_all
    rw[e];exact(hb.cell j).trans (pu k x j hj))
   rw[aR]at hback;have HB:=Lib.hid hB;clear hB hb hmk;go_wp2_with fail
   go_ret;exact⟨rfl,HB.out⟩
theorem lW(x:Nat)(hx:x<65536)(w:World):Calls ai 133 #[.int .u16 x] w fun r w'=>r=.returned (.string (be 2 x))∧Below w.heap.size w w':=by
 go_enter Tryz.func133,Tryz.ntmps133;go_wp2_with(go_at_call 186;refine(VA x 2 hx aY _).mono ?_;rintro r w'⟨rfl,hb⟩)
 go_ret;exact⟨rfl,hb⟩
theorem zd(x:Nat)(hx:x<18446744073709551616)(w:World):Calls ai 63 #[.int .u64 x] w fun r w'=>r=.returned (.string (be 8 x))∧Below w.heap.size w w':=by
 go_enter Tryz.func63,Tryz.ntmps63;go_wp2_with(go_at_call 132;refine(VB x 8 hx aY _).mono ?_;rintro r w'⟨rfl,hb⟩)
 go_ret;exact⟨rfl,hb⟩
theorem VD(x:Nat)(hx:x<4294967296)(w:World):Calls ai 187 #[.int .u32 x] w fun r w'=>r=.returned (.string (be 4 x))∧Below w.heap.size w w':=by
 go_enter Tryz.func187,Tryz.ntmps187;go_wp2_with(go_at_call 225;refine(VC x 4 hx aY _).mono ?_;rintro r w'⟨rfl,hb⟩)
 go_ret;exact⟨rfl,hb⟩
def cQ(c:UInt8):List UInt8→List (List UInt8)
 |[]=>[[]]
 |b::l=>if b=c then []::cQ c l else
  match cQ c l with
  |[]=>[[b]]
  |h::t=>(b::h)::t
theorem KX(c:UInt8):∀l,cQ c l≠[]:=by
 intro l;cases l with
 |nil=>simp[cQ]
 |cons b l=>
  unfold cQ;split
  ·simp
  ·split<;>simp
theorem Ce{c:UInt8}:∀{x:List UInt8},c∉x→cQ c x=[x]:=by
 intro x
 induction x with
 |nil=>intro _;rfl
 |cons b l ih=>
  intro h;have hb:b≠c:=fun e=>h (by rw[e];exact ei ..)
  have hl:=ih fun e=>h (cA _ e)
  unfold cQ;rw[if_neg hb,hl]
theorem FG{c:UInt8}(y:List UInt8):∀{x:List UInt8},c∉x→cQ c (x++c::y)=x::cQ c y:=by
 intro x
 induction x with
 |nil=>
   intro _;rw[List.nil_append];conv=>lhs;unfold cQ
   rw[if_pos rfl]
 |cons b l ih=>
  intro h;have hb:b≠c:=fun e=>h (by rw[e];exact ei ..)
  have hl:=ih fun e=>h (cA _ e)
  rw[List.cons_append]
  conv=>lhs;unfold cQ
  rw[if_neg hb,hl]
theorem jW(x y:List UInt8)(r:List (List UInt8))(sep:List UInt8):Lib.join (x::y::r) sep=x++(sep++Lib.join (y::r) sep):=by
 rw[Lib.join_cons,Lib.join_cons];simp[Lib.joinTail]
theorem oR(c:UInt8):∀l:List UInt8,(cQ c l).length≤l.length+1:=by
 intro l
 induction l with
 |nil=>simp[cQ]
 |cons b l ih=>
  unfold cQ;split
  ·simp;exact ih
  ·split
   ·simp
   ·next h t e=>rw[e]at ih;simp at ih⊢;omega
theorem rq(s:List UInt8)(c:UInt8)(i:Nat):Lib.occAt s [c] i=decide (s[i]? =some c):=by
 unfold Lib.occAt;by_cases h:i<s.length
 ·rw[List.drop_eq_getElem_cons h,List.getElem?_eq_getElem h];simp only[List.isPrefixOf,Bool.and_true,Option.some.injEq];rw[Bool.eq_iff_iff,beq_iff_eq,decide_eq_true_iff];exact eq_comm
 ·rw[List.drop_eq_nil_of_le aY,List.getElem?_eq_none aY];rfl
theorem mX{s:List UInt8}{c:UInt8}(h:c∉s):Lib.index s [c]= -1:=by
 apply Lib.index_none;intro j _;rw[rq];exact decide_eq_false fun e=>h (rX e)
theorem oS{c:UInt8}{x:List UInt8}(y:List UInt8)(h:c∉x):Lib.index (x++c::y) [c]=(x.length:Nat):=by
 apply Lib.index_first
 ·simp
 ·rw[rq];simp
 ·intro j hj;rw[rq,List.getElem?_append_left hj];exact decide_eq_false fun e=>h (rX e)
theorem ze{c:UInt8}:∀{s:List UInt8},c∈s→∃x y,s=x++c::y∧c∉x:=by
 intro s
 induction s with
 |nil=>intro h;simp at h
 |cons b l ih=>
  intro h;by_cases hb:b=c
  ·exact⟨[],l,by rw[hb];rfl,by simp⟩
  ·obtain⟨x,y,e,hx⟩:=ih (by
    rcases List.mem_cons.1 h with h|h;·exact absurd h.symm hb
    ·exact h)
   exact⟨b::x,y,by rw[e];rfl,by simp[hx];exact fun e=>hb e.symm⟩
theorem KY(c:UInt8):∀(n:Nat)(s:List UInt8),s.length≤n→Lib.splitK [c] 0 (Lib.count s [c]) s=cQ c s:=by
 intro n
 induction n with
 |zero=>
  intro s hs;have:s=[]:=by cases s;rfl;simp at hs
  subst this;rfl
 |succ n ih=>
  intro s hs;by_cases h:c∈s
  ·obtain⟨x,y,rfl,hx⟩:=ze h;have hi:=oS y hx;rw[Lib.count_hit (by simp) hi,Nat.add_comm 1];unfold Lib.splitK;rw[hi,if_neg (by simp),FG _ hx];have e:(x++c::y).drop (x.length+[c].length)=y:=by
    rw[List.length_singleton,List.drop_append];simp
   rw[show((x.length:Int)).toNat=x.length by omega,e,ih y (by simp at hs;omega)];simp
  ·have hi:=mX h;rw[Lib.count_miss hi,Ce h];rfl
theorem uJ(s sep:ByteArray)(c:UInt8)(hc:sep.data.toList=[c]):(Lib.splitB sep 0 (Lib.countB s sep) s).map (·.data.toList)=cQ c s.data.toList:=by
 rw[Lib.splitB_data,hc];show Lib.splitK [c] 0 (Lib.count s.data.toList sep.data.toList) _=_;rw[hc];exact KY c _ _ (aw _)
theorem zf{s:List UInt8}{c:UInt8}(h:c∉s):Lib.cut s [c]=(s,[],false):=by
 unfold Lib.cut;rw[mX h,if_neg aI]
theorem Cf{c:UInt8}{x:List UInt8}(y:List UInt8)(h:c∉x):Lib.cut (x++c::y) [c]=(x,y,true):=by
 unfold Lib.cut;rw[oS y h,if_pos aY];simp[List.drop_append]
def tI(x:Nat):UInt8:=if x<10 then agq (48+x)else agq (87+x)
def hexL(x:Nat):List UInt8:=if h:x<16 then [tI x]else hexL (x/16)++[tI (x%16)]
termination_by x
decreasing_by omega
def dval(base:Nat)(c:UInt8):Option Nat:=if 48≤c.toNat∧c.toNat≤57 then(if c.toNat-48<base then some (c.toNat-48)else none)
 else if 97≤c.toNat∧c.toNat≤122 then(if c.toNat-87<base then some (c.toNat-87)else none)
 else if 65≤c.toNat∧c.toNat≤90 then(if c.toNat-55<base then some (c.toNat-55)else none)
 else none
def mY(dv:UInt8→Option Nat)(base:Nat):Nat→List UInt8→Option Nat
 |acc,[]=>some acc
 |acc,c::r=>match dv c with
  |none=>none
  |some d=>mY dv base (acc*base+d) r
def num1(base bound:Nat)(l:List UInt8):Option Nat:=if l=[]then none else(mY (dval base) base 0 l).bind fun n=>if n<bound then some n else none
theorem VE(dv:UInt8→Option Nat)(base:Nat)(hb:1≤base):∀(l:List UInt8)(acc n:Nat),mY dv base acc l=some n→acc≤n:=by
 intro l
 induction l with
 |nil=>intro acc n h;simp[mY]at h;omega
 |cons c r ih=>
  intro acc n h;unfold mY at h;split at h
  ·simp at h
  ·next d _=>
   have:=ih _ _ h;have:acc*1≤acc*base:=Nat.mul_le_mul_left _ hb;omega
def ab7(x:Nat):UInt8:=agq (48+x)
theorem dec_lt{x:Nat}(h:x<10):dH x=[ab7 x]:=by unfold dH;rw[dif_pos h];rfl
theorem PD{x:Nat}(h:¬x<10):dH x=dH (x/10)++[ab7 (x%10)]:=by
 conv=>lhs;unfold dH
 rw[dif_neg h];rfl
theorem VF(x:Nat):dH x≠[]:=by
 unfold dH;split<;>simp
theorem lX{base B n:Nat}{l:List UInt8}(h:num1 base B l=some n):n<B:=by
 unfold num1 at h;split at h
 ·cases h
 ·cases e:mY (dval base) base 0 l with
  |none=>rw[e]at h;cases h
  |some m=>
   rw[e]at h;simp at h;omega
theorem PG(x:Nat)(hx:x<65536):(hexL x).length≤4:=by
 unfold hexL;split
 ·simp
 ·rw[aj];unfold hexL;split
  ·simp
  ·rw[aj];unfold hexL;split
   ·simp
   ·rw[aj];unfold hexL;split
    ·simp
    ·omega
theorem uK(x:Nat)(hx:x<1000):(dH x).length≤3:=by
 by_cases h:x<10
 ·rw[dec_lt h];simp
 ·rw[PD h,aj];by_cases h:x/10<10
  ·rw[dec_lt h];simp
  ·rw[PD h,aj,dec_lt aY];simp
structure Ad where
 v6:Bool
 hi:Nat
 lo:Nat
structure Pk where
 a:Ad
 b:Ad
 proto:Nat
 ttl:Nat
 data:ByteArray
def Ad.cells(a:Ad):Array Value:= #[.bool a.v6,.int .u64 (a.hi:Int),.int .u64 (a.lo:Int)]
def Pk.cells(p:Pk):Array Value:= #[.bool p.a.v6,.int .u64 (p.a.hi:Int),.int .u64 (p.a.lo:Int),.bool p.b.v6,.int .u64 (p.b.hi:Int),.int .u64 (p.b.lo:Int),.int .u8 (p.proto:Int),.int .u8 (p.ttl:Int),.string p.data]
structure Ad.Ok(a:Ad):Prop where
 hi:a.hi<18446744073709551616
 lo:a.lo<18446744073709551616
structure Pk.Ok(p:Pk):Prop where
 a:p.a.Ok
 b:p.b.Ok
 proto:p.proto<256
 ttl:p.ttl<256
 data:p.data.size≤8192
def Ad.may(a:Ad):Bool:=a.v6||(decide (a.hi=0)&&decide (a.lo<4294967296))
def Pk.head(p:Pk):Nat:=if p.a.v6 then 40 else 20
structure Pf where
 a:Ad
 bits:Nat
def Pf.cells(p:Pf):Array Value:= #[.bool p.a.v6,.int .u64 (p.a.hi:Int),.int .u64 (p.a.lo:Int),.int .u8 (p.bits:Int)]
structure Pf.Ok(p:Pf):Prop where
 a:p.a.Ok
 bits:p.bits<256
theorem kz(a:Ad)(ok:a.Ok)(w:World):Calls ai 235 #[.agg a.cells] w fun r w'=>r=.returned (.bool a.may)∧Below w.heap.size w w':=by
 obtain⟨v,h,l⟩:=a;have h1:=ok.hi;have h2:=ok.lo;simp only at h1 h2;unfold Ad.cells;cases v with
 |true=>
  go_enter Tryz.func235,Tryz.ntmps235;go_wp2_with fail
  go_ret;exact⟨by simp[Ad.may],(aK _ _).alloc (aw _) _⟩
 |false=>
  by_cases hz:h=0
  ·subst hz;by_cases hl:l<4294967296
   ·have hq:(l:Int)/4294967296=0:=by omega
    go_enter Tryz.func235,Tryz.ntmps235;go_wp2_with fail
    go_ret;exact⟨by simp[Ad.may,hl],(aK _ _).alloc (aw _) _⟩
   ·have hq:¬(l:Int)/4294967296=0:=by omega
    go_enter Tryz.func235,Tryz.ntmps235;go_wp2_with fail
    go_ret;exact⟨by simp[Ad.may,hl];exact hq,(aK _ _).alloc (aw _) _⟩
  ·have hq:¬(h:Int)=0:=by omega
   go_enter Tryz.func235,Tryz.ntmps235;go_wp2_with fail
   go_ret;exact⟨by simp[Ad.may,hz],(aK _ _).alloc (aw _) _⟩
theorem ab8{W w1:World}(hb:Below W.heap.size W w1):(∀b o,b<W.heap.size→w1.cell? ⟨b,o,none⟩=W.cell? ⟨b,o,none⟩)∧(∀b o,b<W.heap.size→w1.frozen? ⟨b,o,none⟩=W.frozen? ⟨b,o,none⟩):=⟨fun b o h=>hb.cell (p:=⟨b,o,none⟩) h,fun b o h=>hb.frozen (p:=⟨b,o,none⟩) h⟩
theorem after{w w1 w2:World}(h:Below w.heap.size w w1)(h2:Below w1.heap.size w1 w2):Below w.heap.size w w2:=h.trans (h2.mono h.size)
theorem boxed(w:World)(o:Obj):Below w.heap.size w (w.alloc o):=(aK _ _).alloc (aw _) o
def Got(v:Value)(w:World)(r:Ending)(w':World):Prop:=r=.returned v∧Below w.heap.size w w'
def eZ(a:Ad):List Nat:=[a.hi/2^48%65536,a.hi/2^32%65536,a.hi/2^16%65536,a.hi%65536,a.lo/2^48%65536,a.lo/2^32%65536,a.lo/2^16%65536,a.lo%65536]
def kr:List Nat→Nat
 |[]=>0
 |x::l=>if x=0 then kr l+1 else 0
def uL:Nat→List Nat→Int×Nat→Int×Nat
 |_,[],s=>s
 |i,x::l,s=>uL (i+1) l (if kr (x::l)>s.2 then((i:Int),kr (x::l))else s)
def best(L:List Nat):Int×Nat:=uL 0 L (-1,1)
def colon:List UInt8:=[58]
def dot:List UInt8:=[46]
def iE(L:List Nat):List UInt8:=Lib.join (L.map hexL) colon
def sD(L:List Nat):List UInt8:=if(best L).1<0 then iE L else iE (L.take (best L).1.toNat)++(58::58::iE (L.drop ((best L).1.toNat+(best L).2)))
def uM(lo:Nat):List Nat:=[lo/2^24%256,lo/2^16%256,lo/2^8%256,lo%256]
def mZ(lo:Nat):List UInt8:=Lib.join ((uM lo).map dH) dot
def gm(a:Ad):List UInt8:=if a.may=false then []else if a.v6=false then mZ a.lo else sD (eZ a)
theorem Jn(l:List Nat):kr l≤l.length:=by
 induction l with
 |nil=>simp[kr]
 |cons x l ih=>unfold kr;split<;>simp;omega
theorem KZ:∀l:List Nat,l.take (kr l)=aS (kr l) 0:=by
 intro l
 induction l with
 |nil=>rfl
 |cons x l ih=>
  unfold kr;split
  ·next h=>rw[h,List.take_succ_cons,ih,List.replicate_succ]
  ·rfl
structure FH(L:List Nat)(s:Int×Nat):Prop where
 two:0≤s.1→2≤s.2
 le:0≤s.1→s.1.toNat+s.2≤L.length
 noughts:0≤s.1→(L.drop s.1.toNat).take s.2=aS s.2 0
 one:1≤s.2
theorem K0(L:List Nat):∀(l:List Nat)(i:Nat)(s:Int×Nat),l=L.drop i→FH L s→FH L (uL i l s):=by
 intro l
 induction l with
 |nil=>intro i s _ h;exact h
 |cons x l ih=>
  intro i s hl h;have hl2:l=L.drop (i+1):=by rw[←List.drop_drop,←hl];rfl
  have hlen:(x::l).length=L.length-i:=by rw[hl,Z5]
  have hr:=Jn (x::l);refine ih (i+1) _ hl2 ?_;split
  ·next hgt=>
   refine⟨fun _=>?_,fun _=>?_,fun _=>?_,?_⟩
   ·show 2≤kr (x::l);have:=h.one;omega
   ·show(i:Int).toNat+kr (x::l)≤L.length;have:1≤(x::l).length:=by simp
    omega
   ·show(L.drop (i:Int).toNat).take (kr (x::l))=_;rw[show(i:Int).toNat=i by omega,←hl];exact KZ _
   ·show 1≤kr (x::l);omega
  ·exact h
theorem VG(L:List Nat):FH L (best L):=K0 L L 0 (-1,1) rfl ⟨fun h=>absurd h aI,fun h=>absurd h aI,fun h=>absurd h aI,by decide⟩
theorem K5:iE []=[]:=rfl
theorem uN(x y:Nat)(r:List Nat):iE (x::y::r)=hexL x++58::iE (y::r):=by
 unfold iE;rw[af5,af5,jW];rfl
theorem La(x:Nat):iE [x]=hexL x:=by
 unfold iE;rw[af5,List.map_nil,Lib.join_one]
def gather(base B:Nat):List (List UInt8)→List Nat→Option (List Nat)
 |[],acc=>some acc
 |t::r,acc=>match num1 base B t with
  |none=>none
  |some n=>if 8<acc.length then none else gather base B r (acc++[n])
def cV(c:UInt8)(base B:Nat)(s:List UInt8):Option (List Nat):=if s=[]then some []else gather base B (cQ c s) []
def dU(l:List Nat):Nat:=l.foldl (fun h x=>h*65536+x) 0
def fP(l:List Nat):Nat:=l.foldl (fun h x=>h*256+x) 0
def lY(front back:List Nat)(gap:Bool):Option Ad:=if(gap=false∧front.length+back.length≠8)∨(gap=true∧7<front.length+back.length)then none
 else some ⟨true,dU ((front++aS (8-(front.length+back.length)) 0++back).take 4),dU ((front++aS (8-(front.length+back.length)) 0++back).drop 4)⟩
def rr(s:List UInt8):Option Ad:=match cV 58 16 65536 (Lib.cut s [58,58]).1,cV 58 16 65536 (Lib.cut s [58,58]).2.1 with
 |some f,some b=>lY f b (Lib.cut s [58,58]).2.2
 |_,_=>none
def uO(s:List UInt8):Option Ad:=match cV 46 10 256 s with
 |some l=>if l.length=4 then some ⟨false,0,fP l⟩else rr s
 |none=>rr s
def sF(s:List UInt8):Option Ad:=(uO s).bind fun a=>if gm a=s then some a else none
theorem Lc{base B:Nat}:∀(l:List (List UInt8))(acc L:List Nat),gather base B l acc=some L→(∀x∈acc,x<B)→acc.length≤9→(∀x∈L,x<B)∧L.length≤9:=by
 intro l
 induction l with
 |nil=>intro acc L h ha hl;simp[gather]at h;subst h;exact⟨ha,hl⟩
 |cons t r ih=>
  intro acc L h ha hl;unfold gather at h;split at h
  ·cases h
  ·next n hn=>
   split at h
   ·cases h
   ·refine ih _ _ h ?_ (by simp;omega);intro x hx;rcases List.mem_append.1 hx with hx|hx
    ·exact ha x hx
    ·rw[List.mem_singleton.1 hx];exact lX hn
theorem ik{c:UInt8}{base B:Nat}{s:List UInt8}{L:List Nat}(h:cV c base B s=some L):(∀x∈L,x<B)∧L.length≤9:=by
 unfold cV at h;split at h
 ·cases h;exact⟨by simp,by simp⟩
 ·exact Lc _ _ _ h (by simp) (by simp)
theorem Z8(lo:Nat):∀x∈uM lo,x<256:=by
 intro x hx;simp only[uM,List.mem_cons,List.mem_nil_iff,or_false]at hx;omega
theorem PH(lo:Nat):mZ lo≠[]:=by
 unfold mZ uM;rw[af5,af5,jW];simp[VF]
theorem nV(a:Ad):∀x∈eZ a,x<65536:=by
 intro x hx;simp only[eZ,List.mem_cons,List.mem_nil_iff,or_false]at hx;omega
theorem jh(a:Ad):(eZ a).length=8:=rfl
theorem Ci(a:Ad):(58:UInt8)∈sD (eZ a):=by
 unfold sD;split
 ·unfold eZ;rw[uN];simp
 ·simp
theorem PI(a:Ad):sD (eZ a)≠[]:=fun e=>by have:=Ci a;rw[e]at this;cases this
theorem lZ{L:List Nat}{B k:Nat}(h:∀x∈L,x<B):∀x∈L.take k,x<B:=fun x hx=>h x (List.mem_of_mem_take hx)
theorem uc{L:List Nat}{B k:Nat}(h:∀x∈L,x<B):∀x∈L.drop k,x<B:=fun x hx=>h x (List.mem_of_mem_drop hx)
theorem Jo{a:Ad}(hm:a.may=true)(h6:a.v6=false):gm a=mZ a.lo:=by
 unfold gm;rw[hm,h6];simp
theorem Jp{a:Ad}(h6:a.v6=true):gm a=sD (eZ a):=by
 unfold gm Ad.may;rw[h6];simp
theorem may4{a:Ad}(hm:a.may=true)(h6:a.v6=false):a.hi=0∧a.lo<4294967296:=by
 unfold Ad.may at hm;rw[h6]at hm;simpa using hm
theorem Z9{a:Ad}(h6:a.v6=true):a.may=true:=by unfold Ad.may;rw[h6];rfl
theorem PK{a:Ad}(hm:a.may=true):gm a≠[]:=by
 cases h6:a.v6 with
 |true=>rw[Jp h6];exact PI a
 |false=>rw[Jo hm h6];exact PH _
theorem Ld{a:Ad}(hm:a.may=false):gm a=[]:=by unfold gm;rw[if_pos hm]
theorem ru:∀(l:List Nat)(h0 B:Nat),(∀x∈l,x<65536)→h0<B→l.foldl (fun h x=>h*65536+x) h0<B*65536^l.length:=by
 intro l
 induction l with
 |nil=>intro h0 B _ h;simpa using h
 |cons x r ih=>
  intro h0 B hx h;have:=ih (h0*65536+x) (B*65536) (fun y hy=>hx y (cA _ hy)) (by have:=hx x (ei ..);omega);rw[List.foldl_cons,cm,Nat.pow_succ,Nat.mul_comm (65536^r.length),←Nat.mul_assoc];exact this
theorem Cj:∀(l:List Nat)(h0 B:Nat),(∀x∈l,x<256)→h0<B→l.foldl (fun h x=>h*256+x) h0<B*256^l.length:=by
 intro l
 induction l with
 |nil=>intro h0 B _ h;simpa using h
 |cons x r ih=>
  intro h0 B hx h;have:=ih (h0*256+x) (B*256) (fun y hy=>hx y (cA _ hy)) (by have:=hx x (ei ..);omega);rw[List.foldl_cons,cm,Nat.pow_succ,Nat.mul_comm (256^r.length),←Nat.mul_assoc];exact this
theorem yj{f b:List Nat}{g:Bool}{a:Ad}(h:lY f b g=some a)(hf:∀x∈f,x<65536)(hb:∀x∈b,x<65536):a.Ok∧a.v6=true:=by
 unfold lY at h;split at h
 ·cases h
 ·next hn=>
  have hl:f.length+b.length≤8:=by cases g<;>simp at hn<;>omega
  cases h;have hall:∀x∈f++aS (8-(f.length+b.length)) 0++b,x<65536:=by
   intro x hx;rcases List.mem_append.1 hx with hx|hx
   ·rcases List.mem_append.1 hx with hx|hx
    ·exact hf x hx
    ·rw[(List.mem_replicate.1 hx).2];decide
   ·exact hb x hx
  have hlen:(f++aS (8-(f.length+b.length)) 0++b).length=8:=by simp;omega
  generalize f++aS (8-(f.length+b.length)) 0++b=A at hall hlen⊢;have h1:=ru (A.take 4) 0 1 (lZ hall) aI;have h2:=ru (A.drop 4) 0 1 (uc hall) aI;rw[List.length_take,hlen]at h1;rw[Z5,hlen]at h2;exact⟨⟨by simpa[dU]using h1,by simpa[dU]using h2⟩,rfl⟩
theorem nW{s:List UInt8}{a:Ad}(h:rr s=some a):a.Ok∧a.v6=true:=by
 unfold rr at h;split at h
 ·next f b hf hb=>exact yj h (ik hf).1 (ik hb).1
 ·cases h
theorem Le{s:List UInt8}{a:Ad}(h:uO s=some a):a.Ok∧a.may=true:=by
 unfold uO at h;split at h
 ·next l hl=>
  split at h
  ·next h4=>
   cases h;have:=Cj l 0 1 (ik hl).1 aI;rw[h4]at this;have h2:fP l<4294967296:=by unfold fP;omega
   exact⟨⟨by show(0:Nat)<_;omega,by show fP l<_;omega⟩,by simp[Ad.may,h2]⟩
  ·exact⟨(nW h).1,Z9 (nW h).2⟩
 ·exact⟨(nW h).1,Z9 (nW h).2⟩
theorem uP{s:List UInt8}{a:Ad}(h:sF s=some a):gm a=s∧a.Ok∧a.may=true:=by
 unfold sF at h;cases e:uO s with
 |none=>rw[e]at h;cases h
 |some b=>
  rw[e]at h;simp only[Option.bind_some]at h;split at h
  ·next ht=>cases h;exact⟨ht,Le e⟩
  ·cases h
end Go.Proofs.YtdfnhljccdoncaaGreatDoor
