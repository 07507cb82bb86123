/- Lemmas and walks for the law VLawPJoins (part 2). -/
import Derived.Test.YtgboffbbpmileaaGreatDoorPy1
import Derived.Shelf.Strings.Trim
import Derived.Shelf.Small.Utf8
import Derived.Shelf.Small.Strs
import Derived.Shelf.Utf8.RuneCount
import Derived.Shelf.Strconv.Atoi
import Derived.Shelf.Strconv.Itoa0
import Derived.Shelf.Strconv.Itoa1
import Derived.Shelf.LaysM
import Derived.Shelf.Strconv.Itoa2
import Derived.Shelf.Strconv.Itoa3
import Derived.Shelf.Strconv.AtoiErrFast
import Derived.Shelf.Strconv.ParseIntEmpty
import Derived.Shelf.Strconv.AtoiFail
import Derived.Shelf.Strconv.Clone
import Derived.Shelf.Strconv.SyntaxError
import Derived.Shelf.LaysC
import Derived.Shelf.Strconv.ToError
import Derived.Shelf.Strconv.AtoiErr
import Derived.Shelf.Strconv.ErrVar
import Derived.Shelf.Strconv.Lower
import Derived.Shelf.Strconv.ParseUint10
import Derived.Shelf.Strconv.ParseUint10Empty
import Derived.Shelf.Strconv.ParseUint10Any
import Derived.Shelf.Strconv.ParseInt10
import Derived.Shelf.Strconv.AtoiLong
import Derived.Shelf.Strconv.AtoiInnerAll
import Derived.Shelf.Strconv.RangeError
import Derived.Shelf.Strconv.ToErrorRange
import Derived.Shelf.Strconv.AtoiAll
import Derived.Shelf.Strconv.ErrVarAll
import Derived.Shelf.Strconv.ParseUintEmpty
import Derived.Shelf.Strconv.ParseUint10b64
import Derived.Shelf.Strconv.ParseUint10b32
import Derived.Shelf.Strconv.ParseUint10b16
import Derived.Shelf.Strconv.ParseUint10b8
import Derived.Shelf.Strconv.ParseUint10At
import Derived.Shelf.Strconv.ParseInt10At64
import Derived.Shelf.Strconv.ParseInt10At32
import Derived.Shelf.Strconv.ParseInt10At16
import Derived.Shelf.Strconv.ParseInt10At8
import Derived.Shelf.Strconv.ParseInt10All
import Derived.Shelf.Strings.Search1
import Derived.Shelf.Strings.Search2
import Derived.Shelf.Strings.Search3
import Derived.Shelf.Strings.Cut
import Derived.Shelf.Strings.Count
import Derived.Shelf.Strings.Shaped
import Derived.Shelf.Strings.Prefix
import Derived.Shelf.Strings.Split
import Derived.Shelf.Unicode.Decode
import Derived.Shelf.Strings.Runes
import Derived.Shelf.Strings.RuneCount
import Derived.Shelf.Strings.AsciiSet
import Derived.Shelf.Unicode.DecodeSlow
import Derived.Shelf.Unicode.DecodeAny
import Derived.Shelf.Unicode.DecodeLast
import Derived.Shelf.Slices.Turned
import Derived.Test.YtgboffbbpmileaaGreatDoorProg
import Derived.WalkKit
import Derived.Lib.LaidTab
import Derived.Sort.Grow
import Derived.Lib.OthersKept
import Derived.Laws.AppendOwn
import Derived.Handy
import Derived.Deep.Light
import Derived.WalkSmall
import Derived.StillTailTactics
import Derived.Lib.Hide
import Derived.Lib.Bytealg
import Derived.Lib.ItoaNum
import Derived.Lib.AtoiAll
import Derived.Lib.ItoaLen
import Derived.IntWalk
import Derived.WalkLawsBesides
set_option maxRecDepth 20000
set_option maxHeartbeats 4000000
set_option linter.unusedVariables false
set_option linter.unusedSimpArgs false
namespace Go.Proofs.YtgboffbbpmileaaGreatDoor
open Go Go.Shelf
def Tryz.lays160_ren:Go.Shelf.Ren:=⟨fun|160=>116|232=>128|231=>127|227=>129|234=>131|233=>130|236=>133|235=>132|228=>153|271=>156|151=>155|197=>154|120=>171|152=>170|260=>169|137=>81|119=>177|224=>149|225=>148|217=>99|266=>110|n=>n,fun|9=>9|4=>4|3=>3|5=>5|117=>155|116=>154|0=>0|124=>158|21=>21|105=>167|46=>121|119=>190|139=>193|138=>192|n=>n,fun|3=>4|4=>5|n=>n⟩
theorem Tryz.lays160:Go.Proofs.Lays.n160 Tryz.prog Tryz.lays160_ren:={
  mixed:=by kernel_rfl
  f119:=Tryz.func177.trans (congrArg some (by kernel_rfl))
  f120:=Tryz.func171.trans (congrArg some (by kernel_rfl))
  f137:=Tryz.func81.trans (congrArg some (by kernel_rfl))
  f151:=Tryz.func155.trans (congrArg some (by kernel_rfl))
  f152:=Tryz.func170.trans (congrArg some (by kernel_rfl))
  f160:=Tryz.func116.trans (congrArg some (by kernel_rfl))
  f197:=Tryz.func154.trans (congrArg some (by kernel_rfl))
  f217:=Tryz.func99.trans (congrArg some (by kernel_rfl))
  f224:=Tryz.func149.trans (congrArg some (by kernel_rfl))
  f225:=Tryz.func148.trans (congrArg some (by kernel_rfl))
  f227:=Tryz.func129.trans (congrArg some (by kernel_rfl))
  f228:=Tryz.func153.trans (congrArg some (by kernel_rfl))
  f231:=Tryz.func127.trans (congrArg some (by kernel_rfl))
  f232:=Tryz.func128.trans (congrArg some (by kernel_rfl))
  f233:=Tryz.func130.trans (congrArg some (by kernel_rfl))
  f234:=Tryz.func131.trans (congrArg some (by kernel_rfl))
  f235:=Tryz.func132.trans (congrArg some (by kernel_rfl))
  f236:=Tryz.func133.trans (congrArg some (by kernel_rfl))
  f260:=Tryz.func169.trans (congrArg some (by kernel_rfl))
  f266:=Tryz.func110.trans (congrArg some (by kernel_rfl))
  f271:=Tryz.func156.trans (congrArg some (by kernel_rfl))
  t0:=Tryz.underlying0
  a0:=Tryz.isAgg0
  z0:=Tryz.sizeOf0
  v0:=Tryz.zeroValue0
  t3:=Tryz.underlying3
  a3:=Tryz.isAgg3
  z3:=Tryz.sizeOf3
  v3:=Tryz.zeroValue3
  t4:=Tryz.underlying4
  a4:=Tryz.isAgg4
  z4:=Tryz.sizeOf4
  v4:=Tryz.zeroValue4
  t5:=Tryz.underlying5
  a5:=Tryz.isAgg5
  z5:=Tryz.sizeOf5
  v5:=Tryz.zeroValue5
  t9:=Tryz.underlying9
  a9:=Tryz.isAgg9
  z9:=Tryz.sizeOf9
  v9:=Tryz.zeroValue9
  t21:=Tryz.underlying21
  a21:=Tryz.isAgg21
  z21:=Tryz.sizeOf21
  v21:=Tryz.zeroValue21
  t46:=Tryz.underlying121
  a46:=Tryz.isAgg121
  z46:=Tryz.sizeOf121
  v46:=Tryz.zeroValue121
  t105:=Tryz.underlying167
  a105:=Tryz.isAgg167
  z105:=Tryz.sizeOf167
  v105:=Tryz.zeroValue167
  t116:=Tryz.underlying154
  a116:=Tryz.isAgg154
  z116:=Tryz.sizeOf154
  t117:=Tryz.underlying155
  a117:=Tryz.isAgg155
  z117:=Tryz.sizeOf155
  v117:=Tryz.zeroValue155
  t119:=Tryz.underlying190
  a119:=Tryz.isAgg190
  z119:=Tryz.sizeOf190
  t124:=Tryz.underlying158
  a124:=Tryz.isAgg158
  z124:=Tryz.sizeOf158
  v124:=Tryz.zeroValue158
  t138:=Tryz.underlying192
  a138:=Tryz.isAgg192
  z138:=Tryz.sizeOf192
  v138:=Tryz.zeroValue192
  t139:=Tryz.underlying193
  a139:=Tryz.isAgg193
  z139:=Tryz.sizeOf193
  v139:=Tryz.zeroValue193
  g3:=by kernel_rfl
  g4:=by kernel_rfl}
def Tryz.lays137_ren:Go.Shelf.Ren:=⟨fun|137=>81|217=>99|266=>110|n=>n,fun|9=>9|5=>5|3=>3|n=>n,fun|n=>n⟩
theorem Tryz.lays137:Go.Proofs.Lays.n137 Tryz.prog Tryz.lays137_ren:={
  mixed:=by kernel_rfl
  f137:=Tryz.func81.trans (congrArg some (by kernel_rfl))
  f217:=Tryz.func99.trans (congrArg some (by kernel_rfl))
  f266:=Tryz.func110.trans (congrArg some (by kernel_rfl))
  t3:=Tryz.underlying3
  a3:=Tryz.isAgg3
  z3:=Tryz.sizeOf3
  v3:=Tryz.zeroValue3
  t5:=Tryz.underlying5
  a5:=Tryz.isAgg5
  z5:=Tryz.sizeOf5
  v5:=Tryz.zeroValue5
  t9:=Tryz.underlying9
  a9:=Tryz.isAgg9
  z9:=Tryz.sizeOf9
  v9:=Tryz.zeroValue9}
open Go.RowKit in
theorem Tryz.strings_IndexByte(s:ByteArray)(c:Int)(w:World):
    Calls Tryz.prog 81 #[.string s,.int .u8 c] w fun e w'=>e=.returned (.int .i64 (Lib.indexByte s.data.toList c.toNat.toUInt8))/\w'=w:=Any.strings_IndexByte Tryz.lays137 s c w
def Tryz.lays172_ren:Go.Shelf.Ren:=⟨fun|172=>117|244=>134|245=>135|247=>157|279=>158|280=>159|281=>160|282=>161|287=>172|316=>173|171=>175|205=>174|321=>178|322=>179|243=>180|246=>181|283=>182|284=>183|285=>184|286=>185|129=>187|317=>186|318=>188|319=>189|320=>190|337=>191|338=>192|n=>n,fun|9=>9|3=>3|75=>145|76=>146|4=>4|5=>5|167=>170|37=>119|0=>0|85=>171|2=>2|168=>173|53=>183|175=>184|46=>121|210=>188|127=>196|145=>199|143=>197|21=>21|171=>201|173=>204|212=>207|51=>179|20=>20|213=>208|232=>212|233=>213|80=>214|n=>n,fun|15=>2|16=>3|17=>6|18=>7|19=>8|n=>n⟩
def Tryz.laysC172_ren:Go.Shelf.Ren:=⟨fun|172=>117|244=>134|245=>135|247=>157|279=>158|280=>159|281=>160|282=>161|287=>172|316=>173|171=>175|205=>174|321=>178|322=>179|243=>180|246=>181|283=>182|284=>183|285=>184|286=>185|129=>187|317=>186|318=>188|319=>189|320=>190|337=>191|338=>192|n=>n,fun|9=>9|3=>3|75=>145|76=>146|4=>4|5=>5|167=>170|37=>119|0=>0|85=>171|2=>2|168=>173|53=>183|175=>184|46=>121|210=>188|127=>196|145=>199|143=>197|21=>21|171=>201|173=>204|212=>207|51=>179|20=>20|213=>208|232=>212|233=>213|80=>214|n=>n,fun|15=>2|16=>3|17=>6|18=>7|19=>8|n=>n⟩
theorem Tryz.laysC172:Go.Proofs.LaysC.n172 Tryz.prog Tryz.laysC172_ren:={
  mixed:=by kernel_rfl
  f129:=Tryz.func187.trans (congrArg some (by kernel_rfl))
  f171:=Tryz.func175.trans (congrArg some (by kernel_rfl))
  f172:=Tryz.func117.trans (congrArg some (by kernel_rfl))
  f205:=Tryz.func174.trans (congrArg some (by kernel_rfl))
  f243:=Tryz.func180.trans (congrArg some (by kernel_rfl))
  f244:=Tryz.func134.trans (congrArg some (by kernel_rfl))
  f245:=Tryz.func135.trans (congrArg some (by kernel_rfl))
  f246:=Tryz.func181.trans (congrArg some (by kernel_rfl))
  f247:=Tryz.func157.trans (congrArg some (by kernel_rfl))
  f279:=Tryz.func158.trans (congrArg some (by kernel_rfl))
  f280:=Tryz.func159.trans (congrArg some (by kernel_rfl))
  f281:=Tryz.func160.trans (congrArg some (by kernel_rfl))
  f282:=Tryz.func161.trans (congrArg some (by kernel_rfl))
  f283:=Tryz.func182.trans (congrArg some (by kernel_rfl))
  f284:=Tryz.func183.trans (congrArg some (by kernel_rfl))
  f285:=Tryz.func184.trans (congrArg some (by kernel_rfl))
  f286:=Tryz.func185.trans (congrArg some (by kernel_rfl))
  f287:=Tryz.func172.trans (congrArg some (by kernel_rfl))
  f316:=Tryz.func173.trans (congrArg some (by kernel_rfl))
  f317:=Tryz.func186.trans (congrArg some (by kernel_rfl))
  f318:=Tryz.func188.trans (congrArg some (by kernel_rfl))
  f319:=Tryz.func189.trans (congrArg some (by kernel_rfl))
  f320:=Tryz.func190.trans (congrArg some (by kernel_rfl))
  f321:=Tryz.func178.trans (congrArg some (by kernel_rfl))
  f322:=Tryz.func179.trans (congrArg some (by kernel_rfl))
  f337:=Tryz.func191.trans (congrArg some (by kernel_rfl))
  f338:=Tryz.func192.trans (congrArg some (by kernel_rfl))
  t0:=Tryz.underlying0
  a0:=Tryz.isAgg0
  z0:=Tryz.sizeOf0
  v0:=Tryz.zeroValue0
  t2:=Tryz.underlying2
  a2:=Tryz.isAgg2
  z2:=Tryz.sizeOf2
  v2:=Tryz.zeroValue2
  t3:=Tryz.underlying3
  a3:=Tryz.isAgg3
  z3:=Tryz.sizeOf3
  v3:=Tryz.zeroValue3
  t4:=Tryz.underlying4
  a4:=Tryz.isAgg4
  z4:=Tryz.sizeOf4
  v4:=Tryz.zeroValue4
  t5:=Tryz.underlying5
  a5:=Tryz.isAgg5
  z5:=Tryz.sizeOf5
  v5:=Tryz.zeroValue5
  t9:=Tryz.underlying9
  a9:=Tryz.isAgg9
  z9:=Tryz.sizeOf9
  v9:=Tryz.zeroValue9
  t20:=Tryz.underlying20
  a20:=Tryz.isAgg20
  z20:=Tryz.sizeOf20
  v20:=Tryz.zeroValue20
  t21:=Tryz.underlying21
  a21:=Tryz.isAgg21
  z21:=Tryz.sizeOf21
  v21:=Tryz.zeroValue21
  t37:=Tryz.underlying119
  a37:=Tryz.isAgg119
  z37:=Tryz.sizeOf119
  v37:=Tryz.zeroValue119
  t46:=Tryz.underlying121
  a46:=Tryz.isAgg121
  z46:=Tryz.sizeOf121
  v46:=Tryz.zeroValue121
  t51:=Tryz.underlying179
  a51:=Tryz.isAgg179
  z51:=Tryz.sizeOf179
  v51:=Tryz.zeroValue179
  t53:=Tryz.underlying183
  a53:=Tryz.isAgg183
  z53:=Tryz.sizeOf183
  v53:=Tryz.zeroValue183
  t75:=Tryz.underlying145
  a75:=Tryz.isAgg145
  z75:=Tryz.sizeOf145
  v75:=Tryz.zeroValue145
  t76:=Tryz.underlying146
  a76:=Tryz.isAgg146
  z76:=Tryz.sizeOf146
  v76:=Tryz.zeroValue146
  t85:=Tryz.underlying171
  a85:=Tryz.isAgg171
  z85:=Tryz.sizeOf171
  v85:=Tryz.zeroValue171
  t127:=Tryz.underlying196
  a127:=Tryz.isAgg196
  z127:=Tryz.sizeOf196
  v127:=Tryz.zeroValue196
  t143:=Tryz.underlying197
  a143:=Tryz.isAgg197
  z143:=Tryz.sizeOf197
  v143:=Tryz.zeroValue197
  t145:=Tryz.underlying199
  a145:=Tryz.isAgg199
  z145:=Tryz.sizeOf199
  v145:=Tryz.zeroValue199
  t167:=Tryz.underlying170
  a167:=Tryz.isAgg170
  z167:=Tryz.sizeOf170
  v167:=Tryz.zeroValue170
  t168:=Tryz.underlying173
  a168:=Tryz.isAgg173
  z168:=Tryz.sizeOf173
  v168:=Tryz.zeroValue173
  t171:=Tryz.underlying201
  a171:=Tryz.isAgg201
  z171:=Tryz.sizeOf201
  v171:=Tryz.zeroValue201
  t173:=Tryz.underlying204
  a173:=Tryz.isAgg204
  z173:=Tryz.sizeOf204
  v173:=Tryz.zeroValue204
  t175:=Tryz.underlying184
  a175:=Tryz.isAgg184
  z175:=Tryz.sizeOf184
  v175:=Tryz.zeroValue184
  t210:=Tryz.underlying188
  a210:=Tryz.isAgg188
  z210:=Tryz.sizeOf188
  v210:=Tryz.zeroValue188
  t212:=Tryz.underlying207
  a212:=Tryz.isAgg207
  z212:=Tryz.sizeOf207
  v212:=Tryz.zeroValue207
  t213:=Tryz.underlying208
  a213:=Tryz.isAgg208
  z213:=Tryz.sizeOf208
  t232:=Tryz.underlying212
  a232:=Tryz.isAgg212
  z232:=Tryz.sizeOf212
  v232:=Tryz.zeroValue212
  t233:=Tryz.underlying213
  a233:=Tryz.isAgg213
  z233:=Tryz.sizeOf213
  v233:=Tryz.zeroValue213
  g15:=by kernel_rfl
  g16:=by kernel_rfl
  g17:=by kernel_rfl
  g18:=by kernel_rfl
  g19:=by kernel_rfl
  t80:=Tryz.underlying214
  a80:=Tryz.isAgg214
  z80:=Tryz.sizeOf214
  v80:=Tryz.zeroValue214
  i0:=by kernel_rfl
  i2:=by kernel_rfl
  i3:=by kernel_rfl
  i4:=by kernel_rfl
  i5:=by kernel_rfl
  i9:=by kernel_rfl
  i20:=by kernel_rfl
  i21:=by kernel_rfl
  i37:=by kernel_rfl
  i46:=by kernel_rfl
  i51:=by kernel_rfl
  i53:=by kernel_rfl
  i75:=by kernel_rfl
  i76:=by kernel_rfl
  i80:=by kernel_rfl
  i85:=by kernel_rfl
  i127:=by kernel_rfl
  i143:=by kernel_rfl
  i145:=by kernel_rfl
  i167:=by kernel_rfl
  i168:=by kernel_rfl
  i171:=by kernel_rfl
  i173:=by kernel_rfl
  i175:=by kernel_rfl
  i210:=by kernel_rfl
  i212:=by kernel_rfl
  i232:=by kernel_rfl
  i233:=by kernel_rfl
  m15:=by kernel_rfl
  m16:=by kernel_rfl
  m17:=by kernel_rfl
  m18:=by kernel_rfl
  m19:=by kernel_rfl
  c0:=by kernel_rfl
  c2:=by kernel_rfl
  c3:=by kernel_rfl
  c4:=by kernel_rfl
  c5:=by kernel_rfl
  c9:=by kernel_rfl
  c20:=by kernel_rfl
  c21:=by kernel_rfl
  c37:=by kernel_rfl
  c46:=by kernel_rfl
  c51:=by kernel_rfl
  c53:=by kernel_rfl
  c75:=by kernel_rfl
  c76:=by kernel_rfl
  c80:=by kernel_rfl
  c85:=by kernel_rfl
  c127:=by kernel_rfl
  c143:=by kernel_rfl
  c145:=by kernel_rfl
  c167:=by kernel_rfl
  c168:=by kernel_rfl
  c171:=by kernel_rfl
  c173:=by kernel_rfl
  c175:=by kernel_rfl
  c210:=by kernel_rfl
  c212:=by kernel_rfl
  c213:=by kernel_rfl
  c232:=by kernel_rfl
  c233:=by kernel_rfl}
open Go.RowKit in
theorem Tryz.strconv_Atoi_ok(s:ByteArray)(hmax:s.size<=9223372036854775806)(v:Int)(h:Lib.atoiAll s.data.toList=.ok v)(w:World):
    Calls Tryz.prog 117 #[.string s] w fun e w'=>e=.returned (.tuple #[.int .i64 v,.nilIface])/\(w'=w\/∃t,w'=Lib.bytesWorld w 5 t):=Any.strconv_Atoi_ok Tryz.laysC172 s hmax v h w
def Tryz.lays219_ren:Go.Shelf.Ren:=⟨fun|219=>124|217=>99|225=>148|224=>149|267=>150|266=>110|314=>168|n=>n,fun|9=>9|3=>3|4=>4|5=>5|46=>121|146=>180|51=>179|n=>n,fun|1=>1|n=>n⟩
def Tryz.lays145_ren:Go.Shelf.Ren:=⟨fun|145=>167|220=>176|219=>124|217=>99|225=>148|224=>149|267=>150|266=>110|314=>168|n=>n,fun|9=>9|4=>4|59=>177|3=>3|5=>5|46=>121|146=>180|51=>179|n=>n,fun|1=>1|n=>n⟩
theorem Tryz.lays145:Go.Proofs.Lays.n145 Tryz.prog Tryz.lays145_ren:={
  mixed:=by kernel_rfl
  f145:=Tryz.func167.trans (congrArg some (by kernel_rfl))
  f217:=Tryz.func99.trans (congrArg some (by kernel_rfl))
  f219:=Tryz.func124.trans (congrArg some (by kernel_rfl))
  f220:=Tryz.func176.trans (congrArg some (by kernel_rfl))
  f224:=Tryz.func149.trans (congrArg some (by kernel_rfl))
  f225:=Tryz.func148.trans (congrArg some (by kernel_rfl))
  f266:=Tryz.func110.trans (congrArg some (by kernel_rfl))
  f267:=Tryz.func150.trans (congrArg some (by kernel_rfl))
  f314:=Tryz.func168.trans (congrArg some (by kernel_rfl))
  t3:=Tryz.underlying3
  a3:=Tryz.isAgg3
  z3:=Tryz.sizeOf3
  v3:=Tryz.zeroValue3
  t4:=Tryz.underlying4
  a4:=Tryz.isAgg4
  z4:=Tryz.sizeOf4
  v4:=Tryz.zeroValue4
  t5:=Tryz.underlying5
  a5:=Tryz.isAgg5
  z5:=Tryz.sizeOf5
  v5:=Tryz.zeroValue5
  t9:=Tryz.underlying9
  a9:=Tryz.isAgg9
  z9:=Tryz.sizeOf9
  v9:=Tryz.zeroValue9
  t46:=Tryz.underlying121
  a46:=Tryz.isAgg121
  z46:=Tryz.sizeOf121
  v46:=Tryz.zeroValue121
  t51:=Tryz.underlying179
  a51:=Tryz.isAgg179
  z51:=Tryz.sizeOf179
  v51:=Tryz.zeroValue179
  t59:=Tryz.underlying177
  a59:=Tryz.isAgg177
  z59:=Tryz.sizeOf177
  v59:=Tryz.zeroValue177
  t146:=Tryz.underlying180
  a146:=Tryz.isAgg180
  z146:=Tryz.sizeOf180
  v146:=Tryz.zeroValue180
  g1:=by kernel_rfl}
open Go.RowKit Go.Lib in
theorem Tryz.strings_Cut(s sep:ByteArray)(m:Int)(w:World)(hs:s.size<4294967281)(hm:w.cell? ⟨1,0,none⟩=some (.int .i64 m)):
    Calls Tryz.prog 167 #[.string s,.string sep] w fun e w'=>e=.returned (.tuple #[.string ⟨(Lib.cut s.data.toList sep.data.toList).1.toArray⟩,.string ⟨(Lib.cut s.data.toList sep.data.toList).2.1.toArray⟩,.bool (Lib.cut s.data.toList sep.data.toList).2.2])/\∃n,w'=w.drewN n:=Any.strings_Cut Tryz.lays145 s sep m w hs hm
def Tryz.lays138_ren:Go.Shelf.Ren:=⟨fun|138=>98|195=>107|218=>108|143=>109|219=>124|217=>99|225=>148|224=>149|267=>150|266=>110|314=>168|n=>n,fun|9=>9|3=>3|4=>4|5=>5|0=>0|46=>121|146=>180|51=>179|n=>n,fun|1=>1|n=>n⟩
theorem Tryz.lays138:Go.Proofs.Lays.n138 Tryz.prog Tryz.lays138_ren:={
  mixed:=by kernel_rfl
  f138:=Tryz.func98.trans (congrArg some (by kernel_rfl))
  f143:=Tryz.func109.trans (congrArg some (by kernel_rfl))
  f195:=Tryz.func107.trans (congrArg some (by kernel_rfl))
  f217:=Tryz.func99.trans (congrArg some (by kernel_rfl))
  f218:=Tryz.func108.trans (congrArg some (by kernel_rfl))
  f219:=Tryz.func124.trans (congrArg some (by kernel_rfl))
  f224:=Tryz.func149.trans (congrArg some (by kernel_rfl))
  f225:=Tryz.func148.trans (congrArg some (by kernel_rfl))
  f266:=Tryz.func110.trans (congrArg some (by kernel_rfl))
  f267:=Tryz.func150.trans (congrArg some (by kernel_rfl))
  f314:=Tryz.func168.trans (congrArg some (by kernel_rfl))
  t0:=Tryz.underlying0
  a0:=Tryz.isAgg0
  z0:=Tryz.sizeOf0
  v0:=Tryz.zeroValue0
  t3:=Tryz.underlying3
  a3:=Tryz.isAgg3
  z3:=Tryz.sizeOf3
  v3:=Tryz.zeroValue3
  t4:=Tryz.underlying4
  a4:=Tryz.isAgg4
  z4:=Tryz.sizeOf4
  v4:=Tryz.zeroValue4
  t5:=Tryz.underlying5
  a5:=Tryz.isAgg5
  z5:=Tryz.sizeOf5
  v5:=Tryz.zeroValue5
  t9:=Tryz.underlying9
  a9:=Tryz.isAgg9
  z9:=Tryz.sizeOf9
  v9:=Tryz.zeroValue9
  t46:=Tryz.underlying121
  a46:=Tryz.isAgg121
  z46:=Tryz.sizeOf121
  v46:=Tryz.zeroValue121
  t51:=Tryz.underlying179
  a51:=Tryz.isAgg179
  z51:=Tryz.sizeOf179
  v51:=Tryz.zeroValue179
  t146:=Tryz.underlying180
  a146:=Tryz.isAgg180
  z146:=Tryz.sizeOf180
  v146:=Tryz.zeroValue180
  g1:=by kernel_rfl}
open Go.RowKit Go.Lib in
theorem Tryz.strings_Count_one(s:ByteArray)(c:UInt8)(w:World):
    Calls Tryz.prog 98 #[.string s,.string ⟨#[c]⟩] w fun e w'=>e=.returned (.int .i64 (Lib.countByte s.data.toList c))/\w'=w:=Any.strings_Count_one Tryz.lays138 s c w
def Tryz.lays206_ren:Go.Shelf.Ren:=⟨fun|206=>111|n=>n,fun|9=>9|4=>4|3=>3|n=>n,fun|n=>n⟩
def Tryz.lays99_ren:Go.Shelf.Ren:=⟨fun|99=>101|206=>111|n=>n,fun|9=>9|4=>4|3=>3|n=>n,fun|n=>n⟩
theorem Tryz.lays99:Go.Proofs.Lays.n99 Tryz.prog Tryz.lays99_ren:={
  mixed:=by kernel_rfl
  f99:=Tryz.func101.trans (congrArg some (by kernel_rfl))
  f206:=Tryz.func111.trans (congrArg some (by kernel_rfl))
  t3:=Tryz.underlying3
  a3:=Tryz.isAgg3
  z3:=Tryz.sizeOf3
  v3:=Tryz.zeroValue3
  t4:=Tryz.underlying4
  a4:=Tryz.isAgg4
  z4:=Tryz.sizeOf4
  v4:=Tryz.zeroValue4
  t9:=Tryz.underlying9
  a9:=Tryz.isAgg9
  z9:=Tryz.sizeOf9
  v9:=Tryz.zeroValue9}
open Go.RowKit Go.Lib in
theorem Tryz.strings_HasPrefix(s p:ByteArray)(w:World):
    Calls Tryz.prog 101 #[.string s,.string p] w fun e w'=>e=.returned (.bool (Lib.hasPrefix s.data.toList p.data.toList))/\w'=w:=Any.strings_HasPrefix Tryz.lays99 s p w
def Tryz.lays109_ren:Go.Shelf.Ren:=⟨fun|109=>118|n=>n,fun|31=>50|9=>9|3=>3|0=>0|4=>4|n=>n,fun|n=>n⟩
theorem Tryz.lays109:Go.Proofs.Lays.n109 Tryz.prog Tryz.lays109_ren:={
  mixed:=by kernel_rfl
  f109:=Tryz.func118.trans (congrArg some (by kernel_rfl))
  t0:=Tryz.underlying0
  a0:=Tryz.isAgg0
  z0:=Tryz.sizeOf0
  v0:=Tryz.zeroValue0
  t3:=Tryz.underlying3
  a3:=Tryz.isAgg3
  z3:=Tryz.sizeOf3
  v3:=Tryz.zeroValue3
  t4:=Tryz.underlying4
  a4:=Tryz.isAgg4
  z4:=Tryz.sizeOf4
  v4:=Tryz.zeroValue4
  t9:=Tryz.underlying9
  a9:=Tryz.isAgg9
  z9:=Tryz.sizeOf9
  v9:=Tryz.zeroValue9
  t31:=Tryz.underlying50
  a31:=Tryz.isAgg50
  z31:=Tryz.sizeOf50
  v31:=Tryz.zeroValue50}
open Go.Lib in
theorem Tryz.slices_Index_string(b off n c:Nat)(zs:List ByteArray)(x:ByteArray)(w:World)(hz:n<=zs.length)(hbig:n<=9223372036854775807)(hc:∀j,j<zs.length->w.cell? ⟨b,off+j,none⟩=some (.string (zs.getD j ByteArray.empty))):
    Calls Tryz.prog 118 #[.slice (some ⟨b,off,none⟩) n c,.string x] w fun e w'=>e=.returned (.int .i64 (Lib.idxOfS (zs.take n) x))/\w'=w:=Any.slices_Index_string Tryz.lays109 b off n c zs x w hz hbig hc
def Tryz.lays110_ren:Go.Shelf.Ren:=⟨fun|110=>104|109=>118|n=>n,fun|31=>50|9=>9|4=>4|3=>3|0=>0|n=>n,fun|n=>n⟩
theorem Tryz.lays110:Go.Proofs.Lays.n110 Tryz.prog Tryz.lays110_ren:={
  mixed:=by kernel_rfl
  f109:=Tryz.func118.trans (congrArg some (by kernel_rfl))
  f110:=Tryz.func104.trans (congrArg some (by kernel_rfl))
  t0:=Tryz.underlying0
  a0:=Tryz.isAgg0
  z0:=Tryz.sizeOf0
  v0:=Tryz.zeroValue0
  t3:=Tryz.underlying3
  a3:=Tryz.isAgg3
  z3:=Tryz.sizeOf3
  v3:=Tryz.zeroValue3
  t4:=Tryz.underlying4
  a4:=Tryz.isAgg4
  z4:=Tryz.sizeOf4
  v4:=Tryz.zeroValue4
  t9:=Tryz.underlying9
  a9:=Tryz.isAgg9
  z9:=Tryz.sizeOf9
  v9:=Tryz.zeroValue9
  t31:=Tryz.underlying50
  a31:=Tryz.isAgg50
  z31:=Tryz.sizeOf50
  v31:=Tryz.zeroValue50}
open Go.Lib in
theorem Tryz.slices_Contains_string(b off n c:Nat)(zs:List ByteArray)(x:ByteArray)(w:World)(hz:n<=zs.length)(hbig:n<=9223372036854775807)(hc:∀j,j<zs.length->w.cell? ⟨b,off+j,none⟩=some (.string (zs.getD j ByteArray.empty))):
    Calls Tryz.prog 104 #[.slice (some ⟨b,off,none⟩) n c,.string x] w fun e w'=>e=.returned (.bool (Lib.containsS (zs.take n) x))/\w'=w:=Any.slices_Contains_string Tryz.lays110 b off n c zs x w hz hbig hc
end Go.Proofs.YtgboffbbpmileaaGreatDoor
namespace Go.Proofs.YtgboffbbpmileaaGreatDoor
open Go Go.RowKit
section
def nH(v:Value)(L:List (Nat×Obj)):Prop:=∀g,v.ownBlock=some g->g∉L.map (·.1)
section
variable {P:Program} {w w':World} {base n:Nat} {e:TypeId} {size:Nat} {v:Value} {xs:List Value} {X:List Nat} {w0:World} {L:List (Nat×Obj)}
theorem xq(h:w.ownsRow base e size v n xs){g:Nat}(hg:v.ownBlock=some g):g<w.heap.size/\base<=g:=by
 obtain⟨hl,⟨rfl,_⟩|⟨g',cap,cur,rfl,e2,e3,e4⟩⟩:=h
 ·cases hg
 ·obtain rfl:g'=g:=Option.some.inj hg
  grind
theorem ka{row:Option Nat}(h:Kn X w0 w L)(hg:w.grownBy w' row)(hrow:∀g,row=some g->(w0.heap.size<=g\/g∈X)/\g∉L.map (·.1)):Kn X w0 w' L:=
 ⟨hg.os.trans h.os,hg.tape.trans h.tape,hg.output.trans h.output,Nat.le_trans h.size hg.size,
  fun b hb hx=>(hg.block b (Nat.lt_of_lt_of_le hb h.size) (fun e=>by grind)).trans (h.block b hb hx),h.own,
  fun p hp=>(hg.block p.1 (h.lt hp) (fun e=>(hrow p.1 e.symm).2 (List.mem_map_of_mem hp))).trans (h.has p hp),h.nd⟩
theorem bA(base:Nat)(t ty e:TypeId)(i:TypeInfo)(z:Value)(ht:P.underlying t=some (.slice e))(hi:P.info? e=some i)(hz:i.zero=some z)
  (hzs:z.cells.size=i.size) (hsz:0<i.size)
  (v:Value) (n:Nat) (xs:List Value) (hown:w.ownsRow base e i.size v n xs)
  (a:Addr) (m c:Nat) (news:List Value) (hl:news.length=m*i.size) (hnews:∀j u,news[j]? =some u->w.cell? (a.add j)=some u) (h1:∀u∈news,u.oneCell'=true)
  (h63:n+m<=maxLen) (hbytes:(n+m)*i.bytes<=140737488355328) (hbase:base<=w.heap.size):
  ∃v' w',(Builtin.append_ #[t,t] ty #[v,.slice (some a) m c]).run P w=.ok v' w'/\w'.ownsRow base e i.size v' (n+m) (xs++news)/\w.grownBy w' v.ownBlock/\(v'.ownBlock=v.ownBlock\/v'.ownBlock=some w.heap.size):=by
 have hsmall:n+m<=9223372036854775807:=by simp only[maxLen]at h63;omega
 obtain⟨v',w',hr,h2,h3,h4⟩:=run_append_own (P:=P) w base t ty e i z i.size i.bytes ht hi hz rfl rfl hzs hsz v n xs hown a m c news hl hnews h1 h63 hbytes hbase
 refine⟨v',w',hr,h2,h3,?_⟩
 rcases hown.2 with⟨rfl,rfl⟩|⟨g,cap,cur,rfl,hbg,hg,hnc,hcm,hcs,htake⟩
 ·by_cases hm:m=0
  ·grind
  ·have hr':=run_append_nil (P:=P) w t ty e i z ht hi hz a m c news hl hnews (by omega) (by omega) (by grind)
   rw[hr]at hr';injection hr' with e1 e2
   right;rw[e1];rfl
 ·by_cases hroom:n+m<=cap
  ·have hfit:n*i.size+news.length<=cur.size:=by rw[hl,hcs,<- Nat.add_mul];exact Nat.mul_le_mul_right _ hroom
   have hr':=run_append_room (P:=P) w t ty e i ht hi g n cap cur hg a m c news hl hnews h1 hroom hfit;rw[hr]at hr';injection hr' with e1 e2
   left;rw[e1];rfl
  ·have holds:∀j u,xs[j]? =some u->w.cell? ((⟨g,0,none⟩:Addr).add j)=some u:=hown.cells (g:=g) rfl
   have hr':=run_append_grow (P:=P) w t ty e i z ht hi hz ⟨g,0,none⟩ n cap xs hown.1 holds a m c news hl hnews (by omega) (by omega) (growslice_fits (by omega) hbytes);rw[hr]at hr';injection hr' with e1 e2
   right;rw[e1];rfl
theorem mm{o:Oper}{a:Act}{K:Act->World->Prop}{Q:Exit->Act->World->Prop}(s x:Operand)(t:TypeId)
  (ho:o.op=.call {callee:=.builtin .append,args:=#[s,x],argTypes:=#[t,t]})
  (e:TypeId) (i:TypeInfo) (z:Value) (ht:P.underlying t=some (.slice e)) (hi:P.info? e=some i) (hz:i.zero=some z) (hzs:z.cells.size=i.size) (hsz:0<i.size)
  (v:Value) (n:Nat) (xs:List Value) (hs:a.eval s=v) (hk:Kn X w0 w L) (hown:w.ownsRow w0.heap.size e i.size v n xs) (hf:nH v L)
  (ad:Addr) (m c:Nat) (news:List Value) (hx:a.eval x=.slice (some ad) m c) (hl:news.length=m*i.size) (hnews:∀j u,news[j]? =some u->w.cell? (ad.add j)=some u) (h1:∀u∈news,u.oneCell'=true)
  (h63:n+m<=maxLen) (hbytes:(n+m)*i.bytes<=140737488355328)
  (h:∀v' w',Kn X w0 w' L->w'.ownsRow w0.heap.size e i.size v' (n+m) (xs++news)->nH v' L->K (a.put o.dst v') w'):o.wp P a w K Q:=by
 obtain⟨v',w',hr,h2,h3,h4⟩:=bA (P:=P) w0.heap.size t o.type e i z ht hi hz hzs hsz v n xs hown ad m c news hl hnews h1 h63 hbytes hk.size
 unfold Oper.wp execOp
 simp only[ho,resolve,invoke,builtin,Sem.run_bind,Sem.run_pure,Result.andThen_ok,List.map_toArray,List.map_cons,List.map_nil,hs,hx,hr]
 refine h v' w' (ka hk h3 fun g hg=>⟨.inl (xq hown hg).2,hf g hg⟩) h2 fun g hg hm=>?_
 rcases h4 with e4|e4
 ·exact hf g (e4▸hg) hm
 ·have:g=w.heap.size:=Option.some.inj (hg.symm.trans e4)
  obtain⟨q,hq,rfl⟩:=List.mem_map.1 hm;have:=hk.lt hq;omega
theorem iU{ops:Array Oper}{rest:List Oper}{o:Oper}{a:Act}{Q:Exit->Act->World->Prop}(hgd:o.guard=none)(s x:Operand)(t:TypeId)
  (ho:o.op=.call {callee:=.builtin .append,args:=#[s,x],argTypes:=#[t,t]})
  (e:TypeId) (i:TypeInfo) (z:Value) (ht:P.underlying t=some (.slice e)) (hi:P.info? e=some i) (hz:i.zero=some z) (hzs:z.cells.size=i.size) (hsz:0<i.size)
  (v:Value) (n:Nat) (xs:List Value) (hs:a.eval s=v) (hk:Kn X w0 w L) (hown:w.ownsRow w0.heap.size e i.size v n xs) (hf:nH v L)
  (ad:Addr) (m c:Nat) (news:List Value) (hx:a.eval x=.slice (some ad) m c) (hl:news.length=m*i.size) (hnews:∀j u,news[j]? =some u->w.cell? (ad.add j)=some u) (h1:∀u∈news,u.oneCell'=true)
  (h63:n+m<=maxLen) (hbytes:(n+m)*i.bytes<=140737488355328)
  (h:∀v' w',Kn X w0 w' L->w'.ownsRow w0.heap.size e i.size v' (n+m) (xs++news)->nH v' L->wpList P ops Q rest (a.put o.dst v') w'):wpList P ops Q (o::rest) a w:=
 wpList_plain hgd fun _ hK=>mm s x t ho e i z ht hi hz hzs hsz v n xs hs hk hown hf ad m c news hx hl hnews h1 h63 hbytes fun v' w' h1 h2 h3=>hK _ _ (h v' w' h1 h2 h3)
end
structure RowB (z:Nat) (cur:Array Value) (cap n:Nat) (xs:List Value):Prop where
 size:cur.size=cap*z
 le:n<=cap
 capm:cap<=maxLen
 take:cur.toList.take (n*z)=xs
 len:xs.length=n*z
theorem RowB.get{z:Nat}{cur:Array Value}{cap n:Nat}{xs:List Value}(h:RowB z cur cap n xs){k:Nat}{x:Value}(hk:xs[k]? =some x):cur[k]? =some x:=by
 rw[<- h.take,List.getElem?_take]at hk
 grind
theorem RowB.set{z:Nat}{cur:Array Value}{cap n:Nat}{xs:List Value}(h:RowB z cur cap n xs)(k:Nat)(x:Value):RowB z (cur.setIfInBounds k x) cap n (xs.set k x):=
 ⟨by simp[h.size],h.le,h.capm,by rw[<- h.take,Array.toList_setIfInBounds,List.take_set],by simp[h.len]⟩
section
variable {P:Program} {w w':World} {e:TypeId} {z n:Nat} {v:Value} {xs:List Value} {X:List Nat} {w0:World} {L:List (Nat×Obj)}
theorem xr(h:Kn X w0 w L)(ho:w.ownsRow w0.heap.size e z v n xs)(hf:nH v L):(v=.slice none 0 0/\n=0/\xs=[])\/
  ∃g cap cur,v=.slice (some ⟨g,0,none⟩) n cap/\w0.heap.size<=g/\Kn X w0 w ((g,.cells cur e (0,0))::L)/\RowB z cur cap n xs:=by
 obtain⟨hl,⟨rfl,rfl⟩|⟨g,cap,cur,rfl,hg,hc,h1,h2,h3,h4⟩⟩:=ho
 ·grind
 ·right
  refine⟨g,cap,cur,rfl,hg,⟨h.os,h.tape,h.output,h.size,h.block,fun p hp=>?_,fun p hp=>?_,?_⟩,⟨h3,h1,h2,h4,hl⟩⟩
  ·rcases List.mem_cons.1 hp with rfl|hp
   ·omega
   ·exact h.own p hp
  ·rcases List.mem_cons.1 hp with rfl|hp
   ·exact hc
   ·exact h.has p hp
  ·rw[List.map_cons,List.nodup_cons]
   exact⟨hf g rfl,h.nd⟩
theorem lH{L:List (Nat×Obj)}(nd:(L.map (·.1)).Nodup){i:Nat}{g:Nat}{o:Obj}(hi:L[i]? =some (g,o)):g∉(L.eraseIdx i).map (·.1):=by
 intro hm
 obtain⟨hil,hie⟩:=List.getElem?_eq_some_iff.1 hi
 obtain⟨p,hp,e⟩:=List.mem_map.1 hm
 obtain⟨j,hj,hje⟩:=List.mem_iff_getElem.1 hp
 have hL:∃m,m≠i/\∃hm:m<L.length,L[m]=p:=by
  grind
 obtain⟨m,hmi,hm,hme⟩:=hL
 have h1:(L.map (·.1))[m]'(by grind)=(L.map (·.1))[i]'(by grind):=by grind
 exact hmi ((List.getElem_inj nd).1 h1)
theorem Kn.erase(h:Kn X w0 w L)(i:Nat):Kn X w0 w (L.eraseIdx i):=h.sub (List.eraseIdx_sublist L i)
theorem kb{o:Oper}{a:Act}{K:Act->World->Prop}{Q:Exit->Act->World->Prop}(s x:Operand)(t:TypeId)
  (ho:o.op=.call {callee:=.builtin .append,args:=#[s,x],argTypes:=#[t,t]})
  (e:TypeId) (i:TypeInfo) (zv:Value) (ht:P.underlying t=some (.slice e)) (hi:P.info? e=some i) (hz:i.zero=some zv) (hzs:zv.cells.size=i.size) (hsz:0<i.size)
  (hk:Kn X w0 w L) (j g cap n:Nat) (cur:Array Value) (xs:List Value) (hj:L[j]? =some (g,.cells cur e (0,0))) (hr:RowB i.size cur cap n xs) (hs:a.eval s=.slice (some ⟨g,0,none⟩) n cap)
  (ad:Addr) (m c:Nat) (news:List Value) (hx:a.eval x=.slice (some ad) m c) (hl:news.length=m*i.size) (hnews:∀j u,news[j]? =some u->w.cell? (ad.add j)=some u) (h1:∀u∈news,u.oneCell'=true)
  (h63:n+m<=maxLen) (hbytes:(n+m)*i.bytes<=140737488355328) (hpos:0<n+m)
  (h:∀g' cap' cur' w',Kn X w0 w' ((g',.cells cur' e (0,0))::L.eraseIdx j)->RowB i.size cur' cap' (n+m) (xs++news)->K (a.put o.dst (.slice (some ⟨g',0,none⟩) (n+m) cap')) w'):o.wp P a w K Q:=by
 have hm:=List.mem_of_getElem? hj
 have hgo:=hk.own _ hm
 have hown:w.ownsRow 0 e i.size (.slice (some ⟨g,0,none⟩) n cap) n xs:=⟨hr.len,.inr ⟨g,cap,cur,rfl,Nat.zero_le _,hk.has _ hm,hr.le,hr.capm,hr.size,hr.take⟩⟩
 obtain⟨v',w',hrun,h2,h3,h4⟩:=bA (P:=P) 0 t o.type e i zv ht hi hz hzs hsz _ n xs hown ad m c news hl hnews h1 h63 hbytes (Nat.zero_le _)
 have hK:Kn X w0 w' (L.eraseIdx j):=ka (hk.erase j) h3 fun g' hg'=>by
  obtain rfl:g=g':=Option.some.inj hg';exact⟨hgo,lH hk.nd hj⟩
 unfold Oper.wp execOp
 simp only[ho,resolve,invoke,builtin,Sem.run_bind,Sem.run_pure,Result.andThen_ok,List.map_toArray,List.map_cons,List.map_nil,hs,hx,hrun]
 obtain⟨hl2,⟨_,h0⟩|⟨g',cap',cur',rfl,_,hc,k1,k2,k3,k4⟩⟩:=h2
 ·omega
 ·refine h g' cap' cur' w' ⟨hK.os,hK.tape,hK.output,hK.size,hK.block,fun p hp=>?_,fun p hp=>?_,?_⟩ ⟨k3,k1,k2,k4,hl2⟩
  ·rcases List.mem_cons.1 hp with rfl|hp
   ·rcases h4 with h4|h4
    ·obtain rfl:g'=g:=Option.some.inj h4
     exact hgo
    ·obtain rfl:g'=w.heap.size:=Option.some.inj h4
     exact .inl hk.size
   ·exact hK.own p hp
  ·rcases List.mem_cons.1 hp with rfl|hp
   ·exact hc
   ·exact hK.has p hp
  ·rw[List.map_cons,List.nodup_cons]
   refine⟨fun hm2=>?_,hK.nd⟩;rcases h4 with h4|h4
   ·obtain rfl:g'=g:=Option.some.inj h4
    exact lH hk.nd hj hm2
   ·obtain rfl:g'=w.heap.size:=Option.some.inj h4
    obtain⟨q,hq,e2⟩:=List.mem_map.1 hm2;have:=(hk.erase j).lt hq;omega
theorem bg{ops:Array Oper}{rest:List Oper}{o:Oper}{a:Act}{Q:Exit->Act->World->Prop}(hgd:o.guard=none)(s x:Operand)(t:TypeId)
  (ho:o.op=.call {callee:=.builtin .append,args:=#[s,x],argTypes:=#[t,t]})
  (e:TypeId) (i:TypeInfo) (zv:Value) (ht:P.underlying t=some (.slice e)) (hi:P.info? e=some i) (hz:i.zero=some zv) (hzs:zv.cells.size=i.size) (hsz:0<i.size)
  (hk:Kn X w0 w L) (j g cap n:Nat) (cur:Array Value) (xs:List Value) (hj:L[j]? =some (g,.cells cur e (0,0))) (hr:RowB i.size cur cap n xs) (hs:a.eval s=.slice (some ⟨g,0,none⟩) n cap)
  (ad:Addr) (m c:Nat) (news:List Value) (hx:a.eval x=.slice (some ad) m c) (hl:news.length=m*i.size) (hnews:∀j u,news[j]? =some u->w.cell? (ad.add j)=some u) (h1:∀u∈news,u.oneCell'=true)
  (h63:n+m<=maxLen) (hbytes:(n+m)*i.bytes<=140737488355328) (hpos:0<n+m)
  (h:∀g' cap' cur' w',Kn X w0 w' ((g',.cells cur' e (0,0))::L.eraseIdx j)->RowB i.size cur' cap' (n+m) (xs++news)->wpList P ops Q rest (a.put o.dst (.slice (some ⟨g',0,none⟩) (n+m) cap')) w'):wpList P ops Q (o::rest) a w:=
 wpList_plain hgd fun _ hK=>kb s x t ho e i zv ht hi hz hzs hsz hk j g cap n cur xs hj hr hs ad m c news hx hl hnews h1 h63 hbytes hpos fun g' cap' cur' w' h1 h2=>hK _ _ (h g' cap' cur' w' h1 h2)
def RowL(z:Nat)(e:TypeId)(LP:List (Nat×Obj))(v:Value)(n:Nat)(xs:List Value):Prop:=
 (LP=[]/\v=.slice none 0 0/\n=0/\xs=[])\/∃g cap cur,LP=[(g,.cells cur e (0,0))]/\v=.slice (some ⟨g,0,none⟩) n cap/\RowB z cur cap n xs
theorem bJ{ops:Array Oper}{rest:List Oper}{o:Oper}{a:Act}{Q:Exit->Act->World->Prop}(hgd:o.guard=none)(s x:Operand)(t:TypeId)
  (ho:o.op=.call {callee:=.builtin .append,args:=#[s,x],argTypes:=#[t,t]})
  (e:TypeId) (i:TypeInfo) (zv:Value) (ht:P.underlying t=some (.slice e)) (hi:P.info? e=some i) (hz:i.zero=some zv) (hzs:zv.cells.size=i.size) (hsz:0<i.size)
  (hk:Kn X w0 w L) (hs:a.eval s=.slice none 0 0)
  (ad:Addr) (m c:Nat) (news:List Value) (hx:a.eval x=.slice (some ad) m c) (hl:news.length=m*i.size) (hnews:∀j u,news[j]? =some u->w.cell? (ad.add j)=some u) (h1:∀u∈news,u.oneCell'=true)
  (h63:m<=maxLen) (hbytes:m*i.bytes<=140737488355328) (hpos:0<m)
  (h:∀g' cap' cur' w',Kn X w0 w' ((g',.cells cur' e (0,0))::L)->w0.heap.size<=g'->RowB i.size cur' cap' m news->wpList P ops Q rest (a.put o.dst (.slice (some ⟨g',0,none⟩) m cap')) w'):wpList P ops Q (o::rest) a w:=by
 refine iU hgd s x t ho e i zv ht hi hz hzs hsz _ 0 [] hs hk ⟨by simp,.inl ⟨rfl,rfl⟩⟩ (fun g hg=>by cases hg) ad m c news hx hl hnews h1 (by omega) (by grind) fun v' w' h7 h8 h9=>?_
 grind[xr]
theorem RowL.nil:RowL z e [] (.slice none 0 0) 0 []:=.inl ⟨rfl,rfl,rfl,rfl⟩
end
abbrev keys(P:List (Nat×Obj)):List Nat:=P.map (·.1)
theorem Kn.self{X:List Nat}{w0 W:World}{P:List (Nat×Obj)}(A R:List (Nat×Obj))(h:Kn X w0 W (A++(P++R))):Kn (keys P) W W P:=
 ⟨rfl,rfl,rfl,Nat.le_refl _,fun _ _ _=>rfl,fun p hp=>.inr (List.mem_map.2 ⟨p,hp,rfl⟩),fun p hp=>h.has p (List.mem_append_right _ (List.mem_append_left _ hp)),
  h.nd.sublist (((List.sublist_append_left P R).trans (List.sublist_append_right A _)).map _)⟩
theorem Kn.joinA{X:List Nat}{w0 W W':World}{P P':List (Nat×Obj)}(A R:List (Nat×Obj))(h:Kn X w0 W (A++(P++R)))(k:Kn (keys P) W W' P'):Kn X w0 W' (A++(P'++R)):=by
 have nd:=h.nd
 simp only[List.map_append,List.nodup_append]at nd
 obtain⟨ndA,⟨ndP,ndR,dPR⟩,dA⟩:=nd
 have hPin:∀q∈P,q∈A++(P++R):=fun q hq=>List.mem_append_right _ (List.mem_append_left _ hq)
 have keep:∀p∈A++(P++R),p.1∉keys P->W'.heap[p.1]? =some p.2:=fun p hp hn=>(k.block p.1 (h.lt hp) hn).trans (h.has p hp)
 have nA:∀p∈A,p.1∉keys P:=fun p hp hm=>dA p.1 (List.mem_map.2 ⟨p,hp,rfl⟩) p.1 (List.mem_append_left _ hm) rfl
 have nR:∀p∈R,p.1∉keys P:=fun p hp hm=>dPR p.1 hm p.1 (List.mem_map.2 ⟨p,hp,rfl⟩) rfl
 have own':∀p∈P',w0.heap.size<=p.1\/p.1∈X:=fun p hp=>by
  rcases k.own p hp with e|e
  ·exact .inl (Nat.le_trans h.size e)
  ·obtain⟨q,hq,e2⟩:=List.mem_map.1 e
   rw[<- e2];exact h.own q (hPin q hq)
 have far:∀q∈A++(P++R),q.1∉keys P->∀p∈P',p.1≠q.1:=fun q hq hn p hp e=>by
  rcases k.own p hp with e1|e1
  ·have:=h.lt hq;omega
  ·exact hn (e▸e1)
 refine⟨k.os.trans h.os,k.tape.trans h.tape,k.output.trans h.output,Nat.le_trans h.size k.size,fun b hb hx=>?_,fun p hp=>?_,fun p hp=>?_,?_⟩
 ·rw[k.block b (Nat.lt_of_lt_of_le hb h.size) fun hm=>?_,h.block b hb hx]
  obtain⟨q,hq,e⟩:=List.mem_map.1 hm;rcases h.own q (hPin q hq)with e1|e1
  ·omega
  ·exact hx (e▸e1)
 ·rcases List.mem_append.1 hp with hp|hp
  ·exact h.own p (List.mem_append_left _ hp)
  rcases List.mem_append.1 hp with hp|hp
  ·exact own' p hp
  ·exact h.own p (List.mem_append_right _ (List.mem_append_right _ hp))
 ·rcases List.mem_append.1 hp with hp|hp
  ·exact keep p (List.mem_append_left _ hp) (nA p hp)
  rcases List.mem_append.1 hp with hp|hp
  ·exact k.has p hp
  ·exact keep p (List.mem_append_right _ (List.mem_append_right _ hp)) (nR p hp)
 ·simp only[List.map_append,List.nodup_append]
  refine⟨ndA,⟨k.nd,ndR,fun a ha b hb e=>?_⟩,fun a ha b hb e=>?_⟩
  ·obtain⟨p,hp,rfl⟩:=List.mem_map.1 ha
   obtain⟨q,hq,rfl⟩:=List.mem_map.1 hb;exact far q (List.mem_append_right _ (List.mem_append_right _ hq)) (nR q hq) p hp e
  ·obtain⟨q,hq,rfl⟩:=List.mem_map.1 ha
   rcases List.mem_append.1 hb with hb|hb
   ·obtain⟨p,hp,rfl⟩:=List.mem_map.1 hb
    exact far q (List.mem_append_left _ hq) (nA q hq) p hp e.symm
   ·exact dA q.1 (List.mem_map.2 ⟨q,hq,rfl⟩) b (List.mem_append_right _ hb) e
theorem Kn.pick{X:List Nat}{w0 w:World}{L L':List (Nat×Obj)}(h:Kn X w0 w L)(hm:∀p∈L',p∈L)(nd:(keys L').Nodup):Kn X w0 w L':=
 ⟨h.os,h.tape,h.output,h.size,h.block,fun p hp=>h.own p (hm p hp),fun p hp=>h.has p (hm p hp),nd⟩
abbrev ab:=List UInt8
structure Prt where
 k:Nat
 t:ab
 q:Bool
 deriving DecidableEq
structure Tok where
 kind:Nat
 text:ab
 plain:ab
 parts:List Prt
 fd:Int
 line:Nat
 deriving DecidableEq
inductive R (α:Type) where
 |ok (a:α)
 |bad (line:Nat)
def lf(l:ab):Nat:=l.count 10
def dz(c:UInt8):Bool:=c==95||(97<=c.toNat&&c.toNat<=122)||(65<=c.toNat&&c.toNat<=90)
def bK(c:UInt8):Bool:=48<=c.toNat&&c.toNat<=57
def bR:ab->Nat
 | []=>0
 |c::t=>if dz c||bK c then bR t+1 else 0
def named:ab->Nat
 | []=>0
 |c::t=>if dz c then bR t+1 else 0
def eJ(c:UInt8):Bool:=bK c||c==35||c==63||c==36||c==33||c==64||c==42
def bw(s:ab):Nat:=match named s with
 |n+1=>n+1
 |0=>match s with
  | []=>0
  |c::_=>if eJ c then 1 else 0
def brk(c:UInt8):ab->Option (ab×ab)
 | []=>none
 |d::t=>if d=c then some ([],t)else(brk c t).map fun x=>(d::x.1,x.2)
def aP:Nat->Option Nat->ab->Option (ab×ab)
 |0,_,_=>none
 |_+1,_,[]=>none
 |f+1,some d,c::t=>
  if c=92 then(match t with
   | []=>none
   |e::t=>(aP f (some d) t).map fun x=>(92::e::x.1,x.2))
  else if c=39 then(brk 39 t).bind fun y=>(aP f (some d) y.2).map fun x=>(39::(y.1++39::x.1),x.2)
  else if c=34 then(aP f none t).bind fun y=>(aP f (some d) y.2).map fun x=>(34::(y.1++34::x.1),x.2)
  else if c=40 then(aP f (some (d+1)) t).map fun x=>(40::x.1,x.2)
  else if c=41 then(if d=1 then some ([],t)else(aP f (some (d-1)) t).map fun x=>(41::x.1,x.2))
  else(aP f (some d) t).map fun x=>(c::x.1,x.2)
 |f+1,none,c::t=>
  if c=34 then some ([],t)
  else if c=92 then(match t with
   | []=>none
   |e::t=>(aP f none t).map fun x=>(92::e::x.1,x.2))
  else if c=36/\t.head? =some 40 then(aP f (some 1) (t.drop 1)).bind fun y=>(aP f none y.2).map fun x=>(36::40::(y.1++41::x.1),x.2)
  else(aP f none t).map fun x=>(c::x.1,x.2)
def dF(s:ab):Option (ab×ab):=aP (s.length+1) (some 1) s
def addT:List Prt->ab->Bool->List Prt
 | [],s,q=>[⟨0,s,q⟩]
 | [p],s,q=>if p.k=0/\p.q=q then [⟨0,p.t++s,q⟩]else [p,⟨0,s,q⟩]
 |p::ps,s,q=>p::addT ps s q
abbrev St:=List Prt×ab×Nat
def aH(ps:List Prt)(s:ab)(n:Nat)(q:Bool):R St:=
 if s.head? =some 40 then(match dF (s.drop 1)with
  |none=>.bad n
  |some (a,r)=>.ok (ps++[⟨2,a,q⟩],r,n+lf a))
 else if s.head? =some 123 then(match brk 125 (s.drop 1)with
  |none=>.bad n
  |some (a,r)=>if a=[]\/bw a≠a.length then .bad n else .ok (ps++[⟨1,a,q⟩],r,n))
 else if 0<bw s then .ok (ps++[⟨1,s.take (bw s),q⟩],s.drop (bw s),n)
 else .ok (addT ps [36] true,s,n)
def esc(c:UInt8):Bool:=c==34||c==36||c==92
def bn:Nat->Nat->St->R St
 |0,n0,_=>.bad n0
 |f+1,n0,(ps,l,n)=>match l with
  | []=>.bad n0
  |c::t=>
   if c=34 then .ok (ps,t,n)
   else if c=36 then(match aH ps t n true with
    |.bad m=>.bad m
    |.ok x=>bn f n0 x)
   else if c=92 then(match t with
    |d::r=>if esc d then bn f n0 (addT ps [d] true,r,n)else bn f n0 (addT ps [92] true,t,n)
    | []=>bn f n0 (addT ps [92] true,t,n))
   else bn f n0 (addT ps [c] true,t,n+lf [c])
def bh(ps:List Prt)(c:UInt8)(t:ab)(n:Nat):R St:=
 if c=39 then(match brk 39 t with
  |none=>.bad n
  |some (a,r)=>.ok (addT ps a true,r,n+lf a))
 else if c=34 then bn (t.length+1) n (addT ps [] true,t,n)
 else if c=92 then(match t with
  | []=>.ok (addT ps [92] true,[],n)
  |d::r=>if d=10 then .ok (ps,r,n+1)else .ok (addT ps [d] true,r,n))
 else if c=36 then aH ps t n false
 else .ok (addT ps [c] false,t,n)
def ends(c:UInt8):Bool:=c==32||c==9||c==10||c==124||c==38||c==59||c==40||c==41||c==60||c==62
def word:Nat->St->R St
 |0,x=>.ok x
 |f+1,(ps,l,n)=>match l with
  | []=>.ok (ps,[],n)
  |c::t=>if ends c then .ok (ps,l,n)else match bh ps c t n with
   |.bad m=>.bad m
   |.ok x=>word f x
def bx:List Prt->ab
 | [p]=>if p.k=0/\p.q=false then p.t else []
 |_=>[]
def da(s:ab):Option Int:=match s with
 | [a]=>if bK a then some ((a.toNat:Int)-48)else none
 | [a,b]=>if bK a&&bK b then some (((a.toNat:Int)-48)*10+((b.toNat:Int)-48))else none
 |_=>none
inductive Step where
 |skip (rest:ab) (line:Nat)
 |tok (t:Tok) (rest:ab) (line:Nat)
 |bad (line:Nat)
def opT(text:ab)(n:Nat):Tok:=⟨1,text,[],[],-1,n⟩
def ioT(text:ab)(fd:Int)(n:Nat):Tok:=⟨2,text,[],[],fd,n⟩
def ioS(l:ab)(fd:Int)(n0 n:Nat):Step:=
 if l.take 2=[62,62]\/l.take 2=[62,38]then .tok (ioT (l.take 2) fd n0) (l.drop 2) n else .tok (ioT (l.take 1) fd n0) (l.drop 1) n
def aT(c:UInt8)(t:ab)(n:Nat):Step:=
 if c=32\/c=9 then .skip t n
 else if c=35 then .skip (t.dropWhile (· != 10)) n
 else if c=10 then .tok ⟨3,[],[],[],-1,n⟩ t (n+1)
 else if c=124\/c=38\/c=59 then(if t.head? =some c then .tok (opT [c,c] n) (t.drop 1) n else .tok (opT [c] n) t n)
 else if c=40\/c=41 then .tok (opT [c] n) t n
 else if c=60\/c=62 then ioS (c::t) (-1) n n
 else if c=92/\t.head? =some 10 then .skip (t.drop 1) (n+1)
 else match word (t.length+2) ([],c::t,n)with
  |.bad m=>.bad m
  |.ok (ps,r,m)=>match da (bx ps)with
   |some fd=>if r.head? =some 60\/r.head? =some 62 then ioS r fd n m else .tok ⟨0,[],bx ps,ps,-1,n⟩ r m
   |none=>.tok ⟨0,[],bx ps,ps,-1,n⟩ r m
inductive Res where
 |ok (l:List Tok)
 |err (full:Bool) (line:Nat)
def ew(n:Nat):Tok:=⟨4,[],[],[],-1,n⟩
def run:Nat->List Tok->ab->Nat->Res
 |0,out,_,n=>.ok (out++[ew n])
 |f+1,out,l,n=>match l with
  | []=>.ok (out++[ew n])
  |c::t=>match aT c t n with
   |.bad m=>.err false m
   |.skip r m=>run f out r m
   |.tok x r m=>if 2000<=out.length then .err true x.line else run f (out++[x]) r m
def lex(s:ab):Res:=if 8000<s.length then .err true 0 else run (s.length+1) [] s 1
def val(l:List UInt8):Nat:=l.foldl (fun s d=>s*10+(d.toNat-48)) 0
theorem szl(x:ByteArray):x.data.toList.length=x.size:=by simp
theorem bj(s:ByteArray)(i j:Nat):(s.extract i j).data.toList=(s.data.toList.take j).drop i:=by
 rw[ByteArray.data_extract,Array.toList_extract]
 simp[List.extract,List.drop_take]
theorem bP{s:ByteArray}{i:Nat}{c:UInt8}(h:s.data.toList[i]? =some c)(hi:i<s.size):s[i]'hi=c:=by
 have h1:s.data.toList[i]? =some (s[i]'hi):=by
  rw[List.getElem?_eq_getElem (by simpa using hi)];rfl
 rw[h]at h1;exact(Option.some.inj h1).symm
theorem ef{b:Nat}{o:Obj}{w W:World}(h:Kn [b] w W [(b,o)])(hb:w.heap[b]? =some o):Below w.heap.size w W:=
 ⟨h.os,h.tape,h.output,h.size,fun g hg=>by
  by_cases e:g=b
  ·subst e;rw[hb];exact h.has _ m0
  ·exact h.block g hg (by simpa using e)⟩
theorem cQ(src p:ByteArray)(at_:Nat)(line:Int)(v:Value)(b:Nat)(w:World)(hb:w.heap[b]? =some (.cells #[.string src,.int .i64 (at_),.int .i64 (line),v] 111 (0,0)))(hat:at_<=src.size)(hs:src.size<=100000)(r:Bool)(hr:Lib.hasPrefix (src.data.toList.drop at_) p.data.toList=r):
  Calls Tryz.prog 83 #[.pointer (some ⟨b,0,none⟩),.string p] w fun e w'=>e=.returned (.bool r)/\Below w.heap.size w w':=by
 obtain⟨u,hu⟩:∃u,src.extract at_ src.size=u:=⟨_,rfl⟩
 have hul:u.data.toList=src.data.toList.drop at_:=by
  have:=szl src;rw[<- hu,bj,List.take_of_length_le (by omega)]
 have HP:Hid (∀W,Calls Tryz.prog 101 #[.string u,.string p] W fun e w'=>e=.returned (.bool r)/\w'=W):=yh fun W=>by
  have:=Tryz.strings_HasPrefix u p W;rw[hul,hr]at this;exact this
 have HB:=yh hb
 have hL:Kn [b] w w [(b,.cells #[.string src,.int .i64 (at_),.int .i64 (line),v] 111 (0,0))]:=Kn.one hb
 clear hr hul hb
 have hF:=hL.fx
 go_enter Tryz.func83,Tryz.ntmps83
 go_wp2_with (first|(with_reducible refine zS ?_;intro W hL hF)|((with_reducible refine af 1 ?_);refine zX [0,1,2,3,4,5,6,7,8,9,10,11] [10] ?_;clear hF hL;intro ι F hne hC hG;(repeat(first|(refine cS ?_)|((first|refine cF hC ?_|refine cP ?_);intro K hK;go_big_quiet_op;go_big_quiet_on)|(refine cD ?_;intro W hL hF;go_at_call 101;(with_reducible refine(HP.out _).mono ?_);rintro e W' ⟨rfl,rfl⟩;refine zB ?_;clear hL hF hC hG;intro ι F hne hC hG;simp only[Act.put,zT])|(refine cM ?_;intro W hL hF;go_wp2;refine zB2 ?_;clear hL hC hG;intro ι F hne hC hG)));refine zN ?_;clear hC hG;intro W hL hF))
 refine bodyPost_ret (by simp[results,Tryz.results83,go_sem, *];try rfl) rfl ?_
 exact⟨rfl,ef hL HB.out⟩
theorem xt(src:ByteArray)(at_ n:Nat)(line:Int)(v:Value)(b:Nat)(w:World)(hb:w.heap[b]? =some (.cells #[.string src,.int .i64 (at_),.int .i64 (line),v] 111 (0,0)))(hat:at_+n<=src.size)(hs:src.size<=100000)(hl0:0<=line)(hl1:line<=1000000)(c:Int)(hc0:0<=c)(hc1:c<=1000000)(hc:Lib.countByte ((src.data.toList.take (at_+n)).drop at_) 10=c):
  Calls Tryz.prog 80 #[.pointer (some ⟨b,0,none⟩),.int .i64 n] w fun e w'=>e=.returned (.tuple #[])/\Kn [b] w w' [(b,.cells #[.string src,.int .i64 ((at_:Int)+n),.int .i64 (line+c),v] 111 (0,0))]:=by
 obtain⟨u,hu⟩:∃u,src.extract at_ (at_+n)=u:=⟨_,rfl⟩
 have HC:Hid (∀W,Calls Tryz.prog 98 #[.string u,.string ⟨#[10]⟩] W fun e w'=>e=.returned (.int .i64 c)/\w'=W):=yh fun W=>by
  have:=Tryz.strings_Count_one u 10 W;rw[<- hu,bj,hc,hu]at this;exact this
 have hL:Kn [b] w w [(b,.cells #[.string src,.int .i64 (at_),.int .i64 (line),v] 111 (0,0))]:=Kn.one hb
 have s1:IntKind.i64.wrap ((at_:Int)+n)=(at_:Int)+n:=by rw[IntWalk.i64_in _ (by omega)]
 have s2:((at_:Int)+n).toNat=at_+n:=by omega
 have s3:(at_:Int)<=(at_:Int)+n:=by omega
 have s4:(at_:Int)+n<=src.size:=by omega
 have s5:0<=(at_:Int)+n:=by omega
 have s6:IntKind.i64.wrap (line+c)=line+c:=by rw[IntWalk.i64_in _ (by omega)]
 have HC2:=yh hc
 clear hb hc
 have hF:=hL.fx
 go_enter Tryz.func80,Tryz.ntmps80
 go_wp2_with (first|(with_reducible refine zS ?_;intro W hL hF)|((with_reducible refine af 0 ?_);refine zX [0,1,2,3,4,5,6,7,8,9,10,11,12,13,14,15,16,17,18,19,20,21,22,23] [23] ?_;clear hF hL;intro ι F hne hC hG;(repeat(first|(refine cS ?_)|((first|refine cF hC ?_|refine cP ?_);intro K hK;go_big_quiet_op;go_big_quiet_on)|(refine cD ?_;intro W hL hF;go_at_call 98;(with_reducible refine(HC.out _).mono ?_);rintro e W' ⟨rfl,rfl⟩;refine zO ?_;clear hL hF;simp only[Act.put,zT])|(refine cM ?_;intro W hL hF;go_wp2;refine zB2 ?_;clear hL hF hC hG;intro ι F hne hC hG)));refine zN ?_;clear hC hG;intro W hL hF))
 go_end0
 exact⟨rfl,aV⟩
def bs(l:ab):Value:=.string ⟨l.toArray⟩
def tkc(x:Tok×Value):List Value:=[.int .i64 x.1.kind,bs x.1.text,bs x.1.plain,x.2,.int .i64 x.1.fd,.int .i64 x.1.line]
def tkv(x:Tok×Value):Value:=.agg (tkc x).toArray
def gS(LO:List (Nat×Obj))(v:Value)(tvs:List (Tok×Value)):Prop:=
 (LO=[]/\v=.slice none 0 0/\tvs=[])\/∃g cap cur,LO=[(g,.cells cur 76 (0,0))]/\v=.slice (some ⟨g,0,none⟩) tvs.length cap/\RowB 6 cur cap tvs.length (tvs.flatMap tkc)
theorem uq(src:ByteArray)(at_ line:Int)(v:Value)(b:Nat)(w:World)(LO:List (Nat×Obj))(tvs:List (Tok×Value))(hL:Kn (b::keys LO) w w ((b,.cells #[.string src,.int .i64 (at_),.int .i64 (line),v] 111 (0,0))::LO))(hO:gS LO v tvs)(tv:Tok×Value)(hfull:2000<=tvs.length):
  Calls Tryz.prog 100 #[.pointer (some ⟨b,0,none⟩),tkv tv] w fun e w'=>e=.panicked [{v:=.iface 107 (.agg #[.int .i64 6,.int .i64 tv.1.line]),recovered:=false}]/\Kn (b::keys LO) w w' []:=by
 rcases hO with⟨_,_,rfl⟩|⟨g,cap,cur,rfl,rfl,hr⟩
 ·simp at hfull
 have HR:=yh hr
 have e1:decide ((tvs.length:Int)≥2000)=true:=by simp;omega
 obtain⟨n,hn⟩:∃n,tvs.length=n:=⟨_,rfl⟩
 rw[hn]at e1
 clear hr
 have hF:=hL.fx
 go_enter Tryz.func100,Tryz.ntmps100
 unfold tkv tkc
 go_wp2
 exact⟨rfl,rfl,aV.sub sN⟩
theorem zV:(Tryz.prog.info? 76).map (fun i=>(i.zero,i.size,i.bytes))=some (some (.agg #[.int .i64 0,.string ⟨#[]⟩,.string ⟨#[]⟩,.slice none 0 0,.int .i64 0,.int .i64 0]),6,80):=by kernel_rfl
theorem bu{t:TypeId}{z:Option Value}{s b:Nat}(h:(Tryz.prog.info? t).map (fun i=>(i.zero,i.size,i.bytes))=some (z,s,b)):∃i,Tryz.prog.info? t=some i/\i.zero=z/\i.size=s/\i.bytes=b:=by
 cases hi:Tryz.prog.info? t with
 |none=>rw[hi]at h;simp at h
 |some i=>rw[hi]at h;simp at h;exact⟨i,rfl,h.1,h.2.1,h.2.2⟩
theorem jI(x:Tok×Value)(h:x.2.oneCell'=true):∀u∈tkc x,u.oneCell'=true:=by
 intro u hu
 simp only[tkc,bs,List.mem_cons,List.not_mem_nil,or_false]at hu
 rcases hu with rfl|rfl|rfl|rfl|rfl|rfl<;>first|rfl|exact h
theorem Aj(src:ByteArray)(at_ line:Int)(v:Value)(b:Nat)(w:World)(LO:List (Nat×Obj))(tvs:List (Tok×Value))(hL:Kn (b::keys LO) w w ((b,.cells #[.string src,.int .i64 (at_),.int .i64 (line),v] 111 (0,0))::LO))(hO:gS LO v tvs)(tv:Tok×Value)(htv:tv.2.oneCell'=true)(hfull:tvs.length<2000):
  Calls Tryz.prog 100 #[.pointer (some ⟨b,0,none⟩),tkv tv] w fun e w'=>e=.returned (.tuple #[])/\∃v' LO',gS LO' v' (tvs++[tv])/\Kn (b::keys LO) w w' ((b,.cells #[.string src,.int .i64 (at_),.int .i64 (line),v'] 111 (0,0))::LO'):=by
 obtain⟨i0,hi,hz0,hz1,hz2⟩:=bu zV
 rcases hO with⟨rfl,rfl,rfl⟩|⟨g,cap,cur,rfl,rfl,hr⟩
 ·clear hfull
  have hF:=hL.fx;go_enter Tryz.func100,Tryz.ntmps100;unfold tkv;simp only[tkc];go_wp2_with ((with_reducible refine af 3 ?_);refine zX [0,1,2,3,4,5,6,7,8,9,10] [7,10] ?_;clear hF hL;intro ι F hne hC hG;(repeat(first|((first|refine cF hC ?_|refine cP ?_);intro K hK;go_big_quiet_op;go_big_quiet_on)|(refine cM ?_;intro W hL hF;at_builtin;refine bJ rfl _ _ 66 rfl 76 i0 _ Tryz.underlying66 hi hz0 (by rw[hz1];rfl) (by rw[hz1];decide) hL rfl _ _ _ (tkc tv) rfl (by rw[hz1];rfl) (fun j u hu=>by rw[Go.WideShapes.add_plain,Nat.zero_add,World.cell?,hL.has _ m0];simpa[tkc]using hu) (jI tv htv) (by unfold maxLen;omega) (by rw[hz2];omega) (by omega) ?_;intro g2 cap2 cur2 W2 hL2 hg2 hr2;clear hL;have hL:=hL2;clear hL2;have hF:=hL.fx;go_wp2;refine zB2 ?_;clear hL hF hC hG;intro ι F hne hC hG)|(refine cM ?_;intro W hL hF;go_wp2;(first|(refine zB2 ?_;clear hL hF hC hG;intro ι F hne hC hG)|(refine zO2 ?_;clear hL hF)))));refine zN ?_;clear hC hG;intro W hL hF)
  go_end0
  rw[hz1]at hr2;refine⟨rfl,.slice (some ⟨g2,0,none⟩) ([]++[tv]).length cap2,_,.inr ⟨g2,cap2,cur2,rfl,rfl,by simpa using hr2⟩,hL.pick (by simp) ?_⟩;have:=hL.nd;(simp at this |-);((grind))
 ·have e1:decide ((tvs.length:Int)≥2000)=false:=by simp;omega
  have hF:=hL.fx;go_enter Tryz.func100,Tryz.ntmps100;unfold tkv;simp only[tkc];go_wp2_with ((with_reducible refine af 3 ?_);refine zX [0,1,2,3,4,5,6,7,8,9,10] [7,10] ?_ (sC (sC (sD sR)));clear hF hL;intro ι F hne hC hG;(repeat(first|((first|refine cF hC ?_|refine cP ?_);intro K hK;go_big_quiet_op;go_big_quiet_on)|(refine cM ?_;intro W hL hF;at_builtin;refine bg rfl _ _ 66 rfl 76 i0 _ Tryz.underlying66 hi hz0 (by rw[hz1];rfl) (by rw[hz1];decide) hL 3 _ _ _ _ _ rfl (by rw[hz1];exact hr) rfl _ _ _ (tkc tv) rfl (by rw[hz1];rfl) (fun j u hu=>by rw[Go.WideShapes.add_plain,Nat.zero_add,World.cell?,hL.has _ m0];simpa[tkc]using hu) (jI tv htv) (by unfold maxLen;omega) (by rw[hz2];omega) (by omega) ?_;intro g2 cap2 cur2 W2 hL2 hr2;clear hL;have hL:=hL2;clear hL2;simp only[List.eraseIdx_cons_zero,List.eraseIdx_cons_succ]at hL;have hF:=hL.fx;go_wp2;refine zB2 ?_;clear hL hF hC hG;intro ι F hne hC hG)|(refine cM ?_;intro W hL hF;go_wp2;refine ai ?_;(first|(refine bO _ (by rfl) ?_;clear hL hF hC hG;intro ι F hne hC hFF;have hG:=fun n=>(hFF n).fx;clear hFF)|(refine a_ _ (by repeat' (first|(with_reducible exact List.Sublist.refl _)|(with_reducible apply List.Sublist.cons_cons)|(with_reducible apply List.Sublist.cons))) ?_;clear hL hF)))));refine zN ?_;clear hC hG;intro W hL hF)
  go_end0
  rw[hz1]at hr2;refine⟨rfl,.slice (some ⟨g2,0,none⟩) (tvs++[tv]).length cap2,_,.inr ⟨g2,cap2,cur2,rfl,rfl,by simpa using hr2⟩,hL.pick (by simp) ?_⟩;have:=hL.nd;(simp at this |-);((grind))
end
end Go.Proofs.YtgboffbbpmileaaGreatDoor
