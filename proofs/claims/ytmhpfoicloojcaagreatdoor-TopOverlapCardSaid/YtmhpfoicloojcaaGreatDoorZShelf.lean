/- Library contracts, laid by the kit's tool. -/
import Derived.Shelf.Strings.Builder1
import Derived.Shelf.Strings.Builder2
import Derived.Shelf.Strings.OnBuilder
import Derived.Shelf.Small.Bits
import Derived.Shelf.Small.Wraps
import Derived.Shelf.Strings.BuilderF
import Derived.Shelf.Strings.BuilderK
import Derived.Shelf.Strings.Builder2Cap
import Derived.Shelf.Strconv.Itoa1
import Derived.Shelf.Strconv.Itoa2
import Derived.Shelf.Strconv.Itoa3
import Derived.Shelf.Sort.Plain
import Derived.Shelf.Strings.BuilderCap
import Derived.Ground.Names2Prog
import Derived.Shelf.Slices.ReverseS
import Derived.Shelf.Slices.Clone
import Derived.Shelf.Slices.SearchI
import Derived.Shelf.Slices.Cells
import Derived.Shelf.Slices.In.SortNone
import Derived.Ground.SlgfProg
import Derived.Shelf.SlicesE.IndexFunc
import Derived.Test.YtmhpfoicloojcaaGreatDoorProg
set_option linter.all false
namespace Go.Proofs.YtmhpfoicloojcaaGreatDoor
open Go.Proofs.Tryz
open Go.Shelf
def Tryz.lays169_ren:Go.Shelf.Ren:=⟨fun|169=>119|n=>n,fun|70=>223|9=>9|0=>0|72=>226|37=>224|127=>308|3=>3|5=>5|n=>n,fun|n=>n⟩
theorem Tryz.lays169:Go.Proofs.Lays.n169 prog Tryz.lays169_ren:={
 mixed:=by kernel_rfl
 f169:=func119.trans (congrArg some (by kernel_rfl))
 t0:=underlying0
 a0:=isAgg0
 z0:=sizeOf0
 v0:=zeroValue0
 t3:=underlying3
 a3:=isAgg3
 z3:=sizeOf3
 v3:=zeroValue3
 t9:=underlying9
 a9:=isAgg9
 z9:=sizeOf9
 v9:=zeroValue9
 t37:=underlying224
 a37:=isAgg224
 z37:=sizeOf224
 v37:=zeroValue224
 t70:=underlying223
 a70:=isAgg223
 z70:=sizeOf223
 v70:=zeroValue223
 t72:=underlying226
 a72:=isAgg226
 z72:=sizeOf226
 v72:=zeroValue226
 t127:=underlying308
 a127:=isAgg308
 z127:=sizeOf308
 v127:=zeroValue308}
theorem Tryz.Builder_Extra_169:Builder.Extra prog Tryz.lays169_ren:={
 sizeBuilder:=by kernel_rfl
 liesBuilder:=by kernel_rfl
 t5:=underlying5
 a5:=isAgg5
 z5:=sizeOf5
 v5:=zeroValue5
 infoByte:=by kernel_rfl
 cellsByte:=by kernel_rfl
 sizeByte:=by kernel_rfl
 neB5:=by decide}
def Tryz.lays156_ren:Go.Shelf.Ren:=⟨fun|156=>286|165=>306|166=>115|169=>119|240=>176|241=>315|276=>225|277=>318|n=>n,fun|31=>58|9=>9|3=>3|4=>4|0=>0|20=>20|72=>226|76=>227|70=>223|37=>224|75=>184|127=>308|164=>350|5=>5|80=>236|n=>n,fun|n=>n⟩
theorem Tryz.lays156:Go.Proofs.Lays.n156 prog Tryz.lays156_ren:={
 mixed:=by kernel_rfl
 f156:=func286.trans (congrArg some (by kernel_rfl))
 f165:=func306.trans (congrArg some (by kernel_rfl))
 f166:=func115.trans (congrArg some (by kernel_rfl))
 f169:=func119.trans (congrArg some (by kernel_rfl))
 f240:=func176.trans (congrArg some (by kernel_rfl))
 f241:=func315.trans (congrArg some (by kernel_rfl))
 f276:=func225.trans (congrArg some (by kernel_rfl))
 f277:=func318.trans (congrArg some (by kernel_rfl))
 t0:=underlying0
 a0:=isAgg0
 z0:=sizeOf0
 v0:=zeroValue0
 t3:=underlying3
 a3:=isAgg3
 z3:=sizeOf3
 v3:=zeroValue3
 t4:=underlying4
 a4:=isAgg4
 z4:=sizeOf4
 v4:=zeroValue4
 t9:=underlying9
 a9:=isAgg9
 z9:=sizeOf9
 v9:=zeroValue9
 t20:=underlying20
 a20:=isAgg20
 z20:=sizeOf20
 v20:=zeroValue20
 t31:=underlying58
 a31:=isAgg58
 z31:=sizeOf58
 v31:=zeroValue58
 t37:=underlying224
 a37:=isAgg224
 z37:=sizeOf224
 v37:=zeroValue224
 t70:=underlying223
 a70:=isAgg223
 z70:=sizeOf223
 v70:=zeroValue223
 t72:=underlying226
 a72:=isAgg226
 z72:=sizeOf226
 v72:=zeroValue226
 t75:=underlying184
 a75:=isAgg184
 z75:=sizeOf184
 v75:=zeroValue184
 t76:=underlying227
 a76:=isAgg227
 z76:=sizeOf227
 v76:=zeroValue227
 t127:=underlying308
 a127:=isAgg308
 z127:=sizeOf308
 v127:=zeroValue308
 t164:=underlying350
 a164:=isAgg350
 z164:=sizeOf350
 v164:=zeroValue350}
theorem Tryz.Builder_Extra_156:Builder.Extra prog Tryz.lays156_ren:={
 sizeBuilder:=by kernel_rfl
 liesBuilder:=by kernel_rfl
 t5:=underlying5
 a5:=isAgg5
 z5:=sizeOf5
 v5:=zeroValue5
 infoByte:=by kernel_rfl
 cellsByte:=by kernel_rfl
 sizeByte:=by kernel_rfl
 neB5:=by decide}
open Go.RowKit in
theorem Tryz.strings_Join (bk o c:Nat) (xs:List ByteArray) (sep:ByteArray) (w:World) (hcells:∀(j:Nat) x,xs[j]? =some x->w.cell? ⟨bk,o+j,none⟩=some (.string x)) (hbk:bk<w.heap.size) (hN:xs.length<=140737488355328) (hcap:xs.length<=c) (hlen:(Lib.join (xs.map (·.data.toList)) sep.data.toList).length<=140737488355328) :
 Calls prog 286 #[.slice (some ⟨bk,o,none⟩) xs.length c,.string sep] w fun e w'=>e= .returned (.string ⟨(Lib.join (xs.map (·.data.toList)) sep.data.toList).toArray⟩)/\Below w.heap.size w w':=Any.strings_Join Tryz.lays156 Tryz.Builder_Extra_156 bk o c xs sep w hcells hbk hN hcap hlen
def Tryz.lays125_ren:Go.Shelf.Ren:=⟨fun|125=>83|128=>153|129=>154|n=>n,fun|46=>181|3=>3|51=>288|53=>290|4=>4|5=>5|9=>9|n=>n,fun|n=>n⟩
theorem Tryz.lays125:Go.Proofs.Lays.n125 prog Tryz.lays125_ren:={
 mixed:=by kernel_rfl
 f125:=func83.trans (congrArg some (by kernel_rfl))
 f128:=func153.trans (congrArg some (by kernel_rfl))
 f129:=func154.trans (congrArg some (by kernel_rfl))
 t3:=underlying3
 a3:=isAgg3
 z3:=sizeOf3
 v3:=zeroValue3
 t4:=underlying4
 a4:=isAgg4
 z4:=sizeOf4
 v4:=zeroValue4
 t5:=underlying5
 a5:=isAgg5
 z5:=sizeOf5
 v5:=zeroValue5
 t9:=underlying9
 a9:=isAgg9
 z9:=sizeOf9
 v9:=zeroValue9
 t46:=underlying181
 a46:=isAgg181
 z46:=sizeOf181
 v46:=zeroValue181
 t51:=underlying288
 a51:=isAgg288
 z51:=sizeOf288
 v51:=zeroValue288
 t53:=underlying290
 a53:=isAgg290
 z53:=sizeOf290
 v53:=zeroValue290}
theorem Tryz.bits_Len (x:Int) (w:World) (h0:0<=x) (h1:x<=18446744073709551615) :
 Calls prog 83 #[.int .u64 x] w fun e w'=>e= .returned (.int .i64 (Lib.bitLen x.toNat))/\w'=w:=Any.bits_Len Tryz.lays125 x w h0 h1
def Tryz.lays215_ren:Go.Shelf.Ren:=⟨fun|215=>224|n=>n,fun|3=>3|4=>4|n=>n,fun|n=>n⟩
def Tryz.lays122_ren:Go.Shelf.Ren:=⟨fun|122=>171|215=>224|n=>n,fun|3=>3|4=>4|n=>n,fun|n=>n⟩
theorem Tryz.lays122:Go.Proofs.Lays.n122 prog Tryz.lays122_ren:={
 mixed:=by kernel_rfl
 f122:=func171.trans (congrArg some (by kernel_rfl))
 f215:=func224.trans (congrArg some (by kernel_rfl))
 t3:=underlying3
 a3:=isAgg3
 z3:=sizeOf3
 v3:=zeroValue3
 t4:=underlying4
 a4:=isAgg4
 z4:=sizeOf4
 v4:=zeroValue4}
open Go.RowKit in
theorem Tryz.cmp_Compare_int (x y:Int) (w:World) :
 Calls prog 171 #[.int .i64 x,.int .i64 y] w fun e w'=>e= .returned (.int .i64 (Lib.compareInt x y))/\w'=w:=Any.cmp_Compare_int Tryz.lays122 x y w
open Go.RowKit in
theorem Tryz.Builder_String_any_k (B b:Nat) (l:List UInt8) (w:World) (h:Lib.IsBuilderF 226 5 B b (Lib.byteCells l) w) (hBw:B<=w.heap.size) :
 Calls prog 119 #[.pointer (some ⟨b,0,none⟩)] w fun e w'=>e= .returned (.string ⟨l.toArray⟩)/\(Lib.IsBuilderF 226 5 B b (Lib.byteCells l) w'/\Below B w w'/\Lib.OthersKept 5 (some b) w w'):=Any.Builder_String_any_k Tryz.lays169 Tryz.Builder_Extra_169 B b l w h hBw
def Tryz.laysM246_ren:Go.Shelf.Ren:=⟨fun|246=>226|283=>260|284=>261|285=>262|286=>263|129=>154|317=>293|318=>294|319=>295|320=>296|337=>309|338=>310|n=>n,fun|2=>2|3=>3|9=>9|4=>4|171=>387|0=>0|53=>290|37=>224|5=>5|173=>389|212=>414|51=>288|20=>20|213=>415|46=>181|232=>410|233=>428|n=>n,fun|17=>2|18=>3|19=>4|n=>n⟩
def Tryz.laysM243_ren:Go.Shelf.Ren:=⟨fun|243=>177|246=>226|283=>260|284=>261|285=>262|286=>263|129=>154|317=>293|318=>294|319=>295|320=>296|337=>309|338=>310|n=>n,fun|3=>3|9=>9|2=>2|4=>4|171=>387|0=>0|53=>290|37=>224|5=>5|173=>389|212=>414|51=>288|20=>20|213=>415|46=>181|232=>410|233=>428|n=>n,fun|17=>2|18=>3|19=>4|n=>n⟩
def Tryz.laysM171_ren:Go.Shelf.Ren:=⟨fun|171=>118|243=>177|246=>226|283=>260|284=>261|285=>262|286=>263|129=>154|317=>293|318=>294|319=>295|320=>296|337=>309|338=>310|n=>n,fun|3=>3|9=>9|2=>2|4=>4|171=>387|0=>0|53=>290|37=>224|5=>5|173=>389|212=>414|51=>288|20=>20|213=>415|46=>181|232=>410|233=>428|n=>n,fun|17=>2|18=>3|19=>4|n=>n⟩
def Tryz.lays171_ren:Go.Shelf.Ren:=⟨fun|171=>118|243=>177|246=>226|283=>260|284=>261|285=>262|286=>263|129=>154|317=>293|318=>294|319=>295|320=>296|337=>309|338=>310|n=>n,fun|3=>3|9=>9|2=>2|4=>4|171=>387|0=>0|53=>290|37=>224|5=>5|173=>389|212=>414|51=>288|20=>20|213=>415|46=>181|232=>410|233=>428|n=>n,fun|17=>2|18=>3|19=>4|n=>n⟩
theorem Tryz.lays171:Go.Proofs.Lays.n171 prog Tryz.lays171_ren:={
 mixed:=by kernel_rfl
 f129:=func154.trans (congrArg some (by kernel_rfl))
 f171:=func118.trans (congrArg some (by kernel_rfl))
 f243:=func177.trans (congrArg some (by kernel_rfl))
 f246:=func226.trans (congrArg some (by kernel_rfl))
 f283:=func260.trans (congrArg some (by kernel_rfl))
 f284:=func261.trans (congrArg some (by kernel_rfl))
 f285:=func262.trans (congrArg some (by kernel_rfl))
 f286:=func263.trans (congrArg some (by kernel_rfl))
 f317:=func293.trans (congrArg some (by kernel_rfl))
 f318:=func294.trans (congrArg some (by kernel_rfl))
 f319:=func295.trans (congrArg some (by kernel_rfl))
 f320:=func296.trans (congrArg some (by kernel_rfl))
 f337:=func309.trans (congrArg some (by kernel_rfl))
 f338:=func310.trans (congrArg some (by kernel_rfl))
 t0:=underlying0
 a0:=isAgg0
 z0:=sizeOf0
 v0:=zeroValue0
 t2:=underlying2
 a2:=isAgg2
 z2:=sizeOf2
 v2:=zeroValue2
 t3:=underlying3
 a3:=isAgg3
 z3:=sizeOf3
 v3:=zeroValue3
 t4:=underlying4
 a4:=isAgg4
 z4:=sizeOf4
 v4:=zeroValue4
 t5:=underlying5
 a5:=isAgg5
 z5:=sizeOf5
 v5:=zeroValue5
 t9:=underlying9
 a9:=isAgg9
 z9:=sizeOf9
 v9:=zeroValue9
 t20:=underlying20
 a20:=isAgg20
 z20:=sizeOf20
 v20:=zeroValue20
 t37:=underlying224
 a37:=isAgg224
 z37:=sizeOf224
 v37:=zeroValue224
 t46:=underlying181
 a46:=isAgg181
 z46:=sizeOf181
 v46:=zeroValue181
 t51:=underlying288
 a51:=isAgg288
 z51:=sizeOf288
 v51:=zeroValue288
 t53:=underlying290
 a53:=isAgg290
 z53:=sizeOf290
 v53:=zeroValue290
 t171:=underlying387
 a171:=isAgg387
 z171:=sizeOf387
 v171:=zeroValue387
 t173:=underlying389
 a173:=isAgg389
 z173:=sizeOf389
 v173:=zeroValue389
 t212:=underlying414
 a212:=isAgg414
 z212:=sizeOf414
 v212:=zeroValue414
 t213:=underlying415
 a213:=isAgg415
 z213:=sizeOf415
 t232:=underlying410
 a232:=isAgg410
 z232:=sizeOf410
 v232:=zeroValue410
 t233:=underlying428
 a233:=isAgg428
 z233:=sizeOf428
 v233:=zeroValue428
 g17:=by kernel_rfl
 g18:=by kernel_rfl
 g19:=by kernel_rfl}
open Go.RowKit Go.Sort Go.Lib in
theorem Tryz.strconv_Itoa_small (i:Nat) (hi:i<100) (w:World) :
 Calls prog 118 #[.int .i64 i] w fun e w'=>e= .returned (.string ⟨(Lib.decDigits i).toArray⟩)/\w'=w:=Any.strconv_Itoa_small Tryz.lays171 i hi w
def Tryz.lays189_ren:Go.Shelf.Ren:=⟨fun|189=>140|125=>83|257=>204|128=>153|129=>154|294=>235|295=>236|296=>237|297=>238|298=>239|299=>240|216=>241|300=>242|301=>243|328=>282|329=>208|330=>209|331=>283|332=>284|215=>224|343=>305|n=>n,fun|28=>56|3=>3|46=>181|0=>0|51=>288|53=>290|4=>4|183=>280|182=>279|131=>285|5=>5|9=>9|218=>323|222=>233|228=>369|229=>370|n=>n,fun|n=>n⟩
theorem Tryz.lays189:Go.Proofs.Lays.n189 prog Tryz.lays189_ren:={
 mixed:=by kernel_rfl
 f125:=func83.trans (congrArg some (by kernel_rfl))
 f128:=func153.trans (congrArg some (by kernel_rfl))
 f129:=func154.trans (congrArg some (by kernel_rfl))
 f189:=func140.trans (congrArg some (by kernel_rfl))
 f215:=func224.trans (congrArg some (by kernel_rfl))
 f216:=func241.trans (congrArg some (by kernel_rfl))
 f257:=func204.trans (congrArg some (by kernel_rfl))
 f294:=func235.trans (congrArg some (by kernel_rfl))
 f295:=func236.trans (congrArg some (by kernel_rfl))
 f296:=func237.trans (congrArg some (by kernel_rfl))
 f297:=func238.trans (congrArg some (by kernel_rfl))
 f298:=func239.trans (congrArg some (by kernel_rfl))
 f299:=func240.trans (congrArg some (by kernel_rfl))
 f300:=func242.trans (congrArg some (by kernel_rfl))
 f301:=func243.trans (congrArg some (by kernel_rfl))
 f328:=func282.trans (congrArg some (by kernel_rfl))
 f329:=func208.trans (congrArg some (by kernel_rfl))
 f330:=func209.trans (congrArg some (by kernel_rfl))
 f331:=func283.trans (congrArg some (by kernel_rfl))
 f332:=func284.trans (congrArg some (by kernel_rfl))
 f343:=func305.trans (congrArg some (by kernel_rfl))
 t0:=underlying0
 a0:=isAgg0
 z0:=sizeOf0
 v0:=zeroValue0
 t3:=underlying3
 a3:=isAgg3
 z3:=sizeOf3
 v3:=zeroValue3
 t4:=underlying4
 a4:=isAgg4
 z4:=sizeOf4
 v4:=zeroValue4
 t5:=underlying5
 a5:=isAgg5
 z5:=sizeOf5
 v5:=zeroValue5
 t9:=underlying9
 a9:=isAgg9
 z9:=sizeOf9
 v9:=zeroValue9
 t28:=underlying56
 a28:=isAgg56
 z28:=sizeOf56
 v28:=zeroValue56
 t46:=underlying181
 a46:=isAgg181
 z46:=sizeOf181
 v46:=zeroValue181
 t51:=underlying288
 a51:=isAgg288
 z51:=sizeOf288
 v51:=zeroValue288
 t53:=underlying290
 a53:=isAgg290
 z53:=sizeOf290
 v53:=zeroValue290
 t131:=underlying285
 a131:=isAgg285
 z131:=sizeOf285
 v131:=zeroValue285
 t182:=underlying279
 a182:=isAgg279
 z182:=sizeOf279
 v182:=zeroValue279
 t183:=underlying280
 a183:=isAgg280
 z183:=sizeOf280
 v183:=zeroValue280
 t218:=underlying323
 a218:=isAgg323
 z218:=sizeOf323
 v218:=zeroValue323
 t222:=underlying233
 a222:=isAgg233
 z222:=sizeOf233
 v222:=zeroValue233
 t228:=underlying369
 a228:=isAgg369
 z228:=sizeOf369
 v228:=zeroValue369
 t229:=underlying370
 a229:=isAgg370
 z229:=sizeOf370
 v229:=zeroValue370}
open Go.Sort Go.RowKit in
theorem Tryz.slices_Sort_int (blk off cap:Nat) (zs:List Int) (w:World) (hH:Holds (Value.int .i64) w blk off zs.toArray) (hblk:blk<w.heap.size) (hsz:zs.length<4611686018427387904) :
 Calls prog 140 #[.slice (some ⟨blk,off,none⟩) zs.length cap] w fun e w'=>
  e= .returned (.tuple #[])/\∃n os,w'=grow (putRow (Value.int .i64) (Sort.ahead w n) blk off (zs.mergeSort fun x y=>decide (x<=y)).toArray) os:=Any.slices_Sort_int Tryz.lays189 blk off cap zs w hH hblk hsz
def Tryz.lays190_ren:Go.Shelf.Ren:=⟨fun|190=>38|125=>83|258=>82|128=>153|129=>154|302=>144|303=>145|304=>146|305=>147|306=>148|307=>149|308=>150|309=>151|310=>152|333=>207|329=>208|330=>209|334=>210|335=>211|336=>212|344=>245|n=>n,fun|31=>58|9=>9|3=>3|46=>181|0=>0|51=>288|53=>290|4=>4|183=>280|182=>279|131=>285|5=>5|218=>323|222=>233|228=>369|229=>370|n=>n,fun|n=>n⟩
theorem Tryz.lays190:Go.Proofs.Lays.n190 prog Tryz.lays190_ren:={
 mixed:=by kernel_rfl
 f125:=func83.trans (congrArg some (by kernel_rfl))
 f128:=func153.trans (congrArg some (by kernel_rfl))
 f129:=func154.trans (congrArg some (by kernel_rfl))
 f190:=func38.trans (congrArg some (by kernel_rfl))
 f258:=func82.trans (congrArg some (by kernel_rfl))
 f302:=func144.trans (congrArg some (by kernel_rfl))
 f303:=func145.trans (congrArg some (by kernel_rfl))
 f304:=func146.trans (congrArg some (by kernel_rfl))
 f305:=func147.trans (congrArg some (by kernel_rfl))
 f306:=func148.trans (congrArg some (by kernel_rfl))
 f307:=func149.trans (congrArg some (by kernel_rfl))
 f308:=func150.trans (congrArg some (by kernel_rfl))
 f309:=func151.trans (congrArg some (by kernel_rfl))
 f310:=func152.trans (congrArg some (by kernel_rfl))
 f329:=func208.trans (congrArg some (by kernel_rfl))
 f330:=func209.trans (congrArg some (by kernel_rfl))
 f333:=func207.trans (congrArg some (by kernel_rfl))
 f334:=func210.trans (congrArg some (by kernel_rfl))
 f335:=func211.trans (congrArg some (by kernel_rfl))
 f336:=func212.trans (congrArg some (by kernel_rfl))
 f344:=func245.trans (congrArg some (by kernel_rfl))
 t0:=underlying0
 a0:=isAgg0
 z0:=sizeOf0
 v0:=zeroValue0
 t3:=underlying3
 a3:=isAgg3
 z3:=sizeOf3
 v3:=zeroValue3
 t4:=underlying4
 a4:=isAgg4
 z4:=sizeOf4
 v4:=zeroValue4
 t5:=underlying5
 a5:=isAgg5
 z5:=sizeOf5
 v5:=zeroValue5
 t9:=underlying9
 a9:=isAgg9
 z9:=sizeOf9
 v9:=zeroValue9
 t31:=underlying58
 a31:=isAgg58
 z31:=sizeOf58
 v31:=zeroValue58
 t46:=underlying181
 a46:=isAgg181
 z46:=sizeOf181
 v46:=zeroValue181
 t51:=underlying288
 a51:=isAgg288
 z51:=sizeOf288
 v51:=zeroValue288
 t53:=underlying290
 a53:=isAgg290
 z53:=sizeOf290
 v53:=zeroValue290
 t131:=underlying285
 a131:=isAgg285
 z131:=sizeOf285
 v131:=zeroValue285
 t182:=underlying279
 a182:=isAgg279
 z182:=sizeOf279
 v182:=zeroValue279
 t183:=underlying280
 a183:=isAgg280
 z183:=sizeOf280
 v183:=zeroValue280
 t218:=underlying323
 a218:=isAgg323
 z218:=sizeOf323
 v218:=zeroValue323
 t222:=underlying233
 a222:=isAgg233
 z222:=sizeOf233
 v222:=zeroValue233
 t228:=underlying369
 a228:=isAgg369
 z228:=sizeOf369
 v228:=zeroValue369
 t229:=underlying370
 a229:=isAgg370
 z229:=sizeOf370
 v229:=zeroValue370}
open Go.Sort Go.RowKit in
theorem Tryz.slices_Sort_string (blk off cap:Nat) (ss:List (List UInt8)) (w:World) (hH:Holds encStr w blk off ss.toArray) (hblk:blk<w.heap.size) (hsz:ss.length<4611686018427387904) :
 Calls prog 38 #[.slice (some ⟨blk,off,none⟩) ss.length cap] w fun e w'=>
  e= .returned (.tuple #[])/\∃n os,w'=grow (putRow encStr (Sort.ahead w n) blk off (ss.mergeSort fun x y=>decide (x<=y)).toArray) os:=Any.slices_Sort_string Tryz.lays190 blk off cap ss w hH hblk hsz
def Tryz.laysNm217_ren:Go.Shelf.Ren:=⟨fun|17=>167|n=>n,fun|24=>58|9=>9|3=>3|4=>4|0=>0|n=>n,fun|n=>n⟩
theorem Tryz.laysNm217:Go.Proofs.Lays2.n17 prog Tryz.laysNm217_ren:={
 mixed:=by kernel_rfl
 f17:=func167.trans (congrArg some (by kernel_rfl))
 t0:=underlying0
 a0:=isAgg0
 z0:=sizeOf0
 v0:=zeroValue0
 t3:=underlying3
 a3:=isAgg3
 z3:=sizeOf3
 v3:=zeroValue3
 t4:=underlying4
 a4:=isAgg4
 z4:=sizeOf4
 v4:=zeroValue4
 t9:=underlying9
 a9:=isAgg9
 z9:=sizeOf9
 v9:=zeroValue9
 t24:=underlying58
 a24:=isAgg58
 z24:=sizeOf58
 v24:=zeroValue58}
open Go.RowKit Go.Lib Go.Sort in
theorem Tryz.slices_Reverse_string_empty (a:Option Addr) (cap:Nat) (w:World) :
 Calls prog 167 #[.slice a 0 cap] w fun e w'=>e= .returned (.tuple #[])/\w'=w:=Any.slices_Reverse_string_empty Tryz.laysNm217 a cap w
open Go.RowKit Go.Lib Go.Sort in
theorem Tryz.slices_Reverse_string_cells (b off n c:Nat) (Sx:Nat->ByteArray) (w:World) (hbig:n<=9223372036854775807) (hc:∀i,i<n->w.cell? ⟨b,off+i,none⟩=some (.string (Sx i))) (hf:∀j,j<n->w.frozen? ⟨b,off+j,none⟩=false) :
 Calls prog 167 #[.slice (some ⟨b,off,none⟩) n c] w fun e w'=>e= .returned (.tuple #[])/\∃q,w'=(w.drewN q).setCells b off ((Lib.strsOf Sx n).reverse.map encStr):=Any.slices_Reverse_string_cells Tryz.laysNm217 b off n c Sx w hbig hc hf
def Tryz.laysSlH6_f179_ren:Go.Shelf.Ren:=⟨fun|6=>179|n=>n,fun|22=>56|23=>3|25=>78|3=>3|0=>0|4=>4|n=>n,fun|n=>n⟩
theorem Tryz.laysSlH6_f179:Go.Proofs.SlLaysH.n6 prog Tryz.laysSlH6_f179_ren:={
 mixed:=by kernel_rfl
 f6:=⟨Tryz.f179.name,by decide,func179.trans (congrArg some (by kernel_rfl))⟩
 t0:=underlying0
 a0:=isAgg0
 z0:=sizeOf0
 v0:=zeroValue0
 t3:=underlying3
 a3:=isAgg3
 z3:=sizeOf3
 v3:=zeroValue3
 t4:=underlying4
 a4:=isAgg4
 z4:=sizeOf4
 v4:=zeroValue4
 t22:=underlying56
 a22:=isAgg56
 z22:=sizeOf56
 v22:=zeroValue56
 a23:=isAgg3
 z23:=sizeOf3
 t25:=underlying78
 a25:=isAgg78
 z25:=sizeOf78
 v25:=zeroValue78}
open Go.RowKit Go.Lib in
theorem Tryz.slices_IndexFunc {α:Type} [Inhabited α] (enc:α->Value) (p:α->Bool) (g:Nat) (lb:Array Value) (eg:∀args w,(callFunc g args).run prog w= .ok (.enter g args) w) (b off n c:Nat) (zs:List α) (w:World) (hp:PredAt prog g lb enc p w) (hz:n<=zs.length) (hbig:n<=9223372036854775807) (hc:∀j,j<zs.length->w.cell? ⟨b,off+j,none⟩=some (enc zs[j]!)) :
 Calls prog 179 #[.slice (some ⟨b,off,none⟩) n c,.func (.func g) #[] lb] w fun e w'=>e= .returned (.int .i64 (Lib.idxBy (fun _ y=>p y) (zs.take n) default))/\∃q,w'=w.drewN q:=AnyE.slices_IndexFunc Tryz.laysSlH6_f179 enc p g lb eg b off n c zs w hp hz hbig hc
def Tryz.laysSlH8_f129_ren:Go.Shelf.Ren:=⟨fun|8=>129|6=>179|n=>n,fun|22=>56|23=>3|25=>78|4=>4|3=>3|0=>0|n=>n,fun|n=>n⟩
theorem Tryz.laysSlH8_f129:Go.Proofs.SlLaysH.n8 prog Tryz.laysSlH8_f129_ren:={
 mixed:=by kernel_rfl
 f6:=⟨Tryz.f179.name,by decide,func179.trans (congrArg some (by kernel_rfl))⟩
 f8:=⟨Tryz.f129.name,by decide,func129.trans (congrArg some (by kernel_rfl))⟩
 t0:=underlying0
 a0:=isAgg0
 z0:=sizeOf0
 v0:=zeroValue0
 t3:=underlying3
 a3:=isAgg3
 z3:=sizeOf3
 v3:=zeroValue3
 t4:=underlying4
 a4:=isAgg4
 z4:=sizeOf4
 v4:=zeroValue4
 t22:=underlying56
 a22:=isAgg56
 z22:=sizeOf56
 v22:=zeroValue56
 a23:=isAgg3
 z23:=sizeOf3
 t25:=underlying78
 a25:=isAgg78
 z25:=sizeOf78
 v25:=zeroValue78}
open Go.RowKit Go.Lib in
theorem Tryz.slices_ContainsFunc {α:Type} [Inhabited α] (enc:α->Value) (p:α->Bool) (g:Nat) (lb:Array Value) (eg:∀args w,(callFunc g args).run prog w= .ok (.enter g args) w) (b off n c:Nat) (zs:List α) (w:World) (hp:PredAt prog g lb enc p w) (hz:n<=zs.length) (hbig:n<=9223372036854775807) (hc:∀j,j<zs.length->w.cell? ⟨b,off+j,none⟩=some (enc zs[j]!)) :
 Calls prog 129 #[.slice (some ⟨b,off,none⟩) n c,.func (.func g) #[] lb] w fun e w'=>e= .returned (.bool ((zs.take n).any p))/\∃q,w'=w.drewN q:=AnyE.slices_ContainsFunc Tryz.laysSlH8_f129 enc p g lb eg b off n c zs w hp hz hbig hc
end Go.Proofs.YtmhpfoicloojcaaGreatDoor