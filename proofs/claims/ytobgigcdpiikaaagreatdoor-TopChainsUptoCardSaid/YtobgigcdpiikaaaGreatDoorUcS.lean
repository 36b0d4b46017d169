/-
  DERIVED: THE SHELF's CONTRACTS AT THIS DUMP, IN PLAIN WORDS (tools/lay-plain.mjs out of 'TryzShelf.lean', which tools/lay-shelf.mjs wrote): THE SAME DECLARATIONS UNDER THE SAME NAMES: 'import', 'namespace', 'open', 'def', 'theorem' AND NOTHING ELSE: no command of the shelf's: FOR A HAND-IN. Each laying: the table of numbers ('.._ren') and one theorem, a field a fact of the dump's own or the kernel's comparison; each contract: ONE APPLICATION.
-/
import Derived.Shelf.Strings.Builder1
import Derived.Shelf.Strings.Builder2
import Derived.Shelf.Strings.OnBuilder
import Derived.Shelf.Strings.Trim
import Derived.Shelf.Small.Utf8
import Derived.Shelf.Small.Strs
import Derived.Shelf.Small.Wraps
import Derived.Shelf.Strings.BuilderF
import Derived.Shelf.Strings.BuilderK
import Derived.Shelf.Strings.Builder2Cap
import Derived.Shelf.Strconv.Itoa0
import Derived.Shelf.Strings.Search1
import Derived.Shelf.Strings.Prefix
import Derived.Shelf.Strings.Runes
import Derived.Shelf.Strings.AsciiSet
import Derived.Shelf.Bits.Mul64
import Derived.Shelf.Strings.Repeat
import Derived.Shelf.Unicode.DecodeSlow
import Derived.Shelf.Strings.BuilderCap
import Derived.Shelf.Slices.Turned
import Derived.Ground.Names2Prog
import Derived.Shelf.Slices.Clone
import Derived.Test.YtobgigcdpiikaaaGreatDoorProg
namespace Go.Proofs
open Go.Shelf
def Tryz.lays169_ren:Go.Shelf.Ren:=⟨fun|169=>94|n=>n,fun|70=>161|9=>9|0=>0|72=>163|37=>55|127=>218|3=>3|5=>5|n=>n,fun|n=>n⟩
theorem Tryz.lays169:Go.Proofs.Lays.n169 Tryz.prog Tryz.lays169_ren:={
  mixed:=by kernel_rfl
  f169:=Tryz.func94.trans (congrArg some (by kernel_rfl))
  t0:=Tryz.underlying0
  a0:=Tryz.isAgg0
  z0:=Tryz.sizeOf0
  v0:=Tryz.zeroValue0
  t3:=Tryz.underlying3
  a3:=Tryz.isAgg3
  z3:=Tryz.sizeOf3
  v3:=Tryz.zeroValue3
  t9:=Tryz.underlying9
  a9:=Tryz.isAgg9
  z9:=Tryz.sizeOf9
  v9:=Tryz.zeroValue9
  t37:=Tryz.underlying55
  a37:=Tryz.isAgg55
  z37:=Tryz.sizeOf55
  v37:=Tryz.zeroValue55
  t70:=Tryz.underlying161
  a70:=Tryz.isAgg161
  z70:=Tryz.sizeOf161
  v70:=Tryz.zeroValue161
  t72:=Tryz.underlying163
  a72:=Tryz.isAgg163
  z72:=Tryz.sizeOf163
  v72:=Tryz.zeroValue163
  t127:=Tryz.underlying218
  a127:=Tryz.isAgg218
  z127:=Tryz.sizeOf218
  v127:=Tryz.zeroValue218 }
theorem Tryz.Builder_Extra_169:Builder.Extra Tryz.prog Tryz.lays169_ren:={
  sizeBuilder:=by kernel_rfl
  liesBuilder:=by kernel_rfl
  t5:=Tryz.underlying5
  a5:=Tryz.isAgg5
  z5:=Tryz.sizeOf5
  v5:=Tryz.zeroValue5
  infoByte:=by kernel_rfl
  cellsByte:=by kernel_rfl
  sizeByte:=by kernel_rfl
  neB5:=by decide }
open Go.RowKit in
theorem Tryz.Builder_String_any(B b:Nat) (l:List UInt8) (w:World) (h:Lib.IsBuilder 163 5 B b (Lib.byteCells l) w) (hBw:B≤w.heap.size) :
    Calls Tryz.prog 94 #[.pointer (some ⟨b,0,none⟩)] w fun e w'=>e=.returned (.string ⟨l.toArray⟩)∧Below B w w':=Any.Builder_String_any Tryz.lays169 Tryz.Builder_Extra_169 B b l w h hBw
def Tryz.lays156_ren:Go.Shelf.Ren:=⟨fun|156=>100|165=>91|166=>92|169=>94|240=>132|241=>133|276=>163|277=>164|n=>n,fun|31=>31|9=>9|3=>3|4=>4|0=>0|20=>20|72=>163|76=>167|70=>161|37=>55|75=>166|127=>218|164=>246|5=>5|80=>68|n=>n,fun|n=>n⟩
theorem Tryz.lays156:Go.Proofs.Lays.n156 Tryz.prog Tryz.lays156_ren:={
  mixed:=by kernel_rfl
  f156:=Tryz.func100.trans (congrArg some (by kernel_rfl))
  f165:=Tryz.func91.trans (congrArg some (by kernel_rfl))
  f166:=Tryz.func92.trans (congrArg some (by kernel_rfl))
  f169:=Tryz.func94.trans (congrArg some (by kernel_rfl))
  f240:=Tryz.func132.trans (congrArg some (by kernel_rfl))
  f241:=Tryz.func133.trans (congrArg some (by kernel_rfl))
  f276:=Tryz.func163.trans (congrArg some (by kernel_rfl))
  f277:=Tryz.func164.trans (congrArg some (by kernel_rfl))
  t0:=Tryz.underlying0
  a0:=Tryz.isAgg0
  z0:=Tryz.sizeOf0
  v0:=Tryz.zeroValue0
  t3:=Tryz.underlying3
  a3:=Tryz.isAgg3
  z3:=Tryz.sizeOf3
  v3:=Tryz.zeroValue3
  t4:=Tryz.underlying4
  a4:=Tryz.isAgg4
  z4:=Tryz.sizeOf4
  v4:=Tryz.zeroValue4
  t9:=Tryz.underlying9
  a9:=Tryz.isAgg9
  z9:=Tryz.sizeOf9
  v9:=Tryz.zeroValue9
  t20:=Tryz.underlying20
  a20:=Tryz.isAgg20
  z20:=Tryz.sizeOf20
  v20:=Tryz.zeroValue20
  t31:=Tryz.underlying31
  a31:=Tryz.isAgg31
  z31:=Tryz.sizeOf31
  v31:=Tryz.zeroValue31
  t37:=Tryz.underlying55
  a37:=Tryz.isAgg55
  z37:=Tryz.sizeOf55
  v37:=Tryz.zeroValue55
  t70:=Tryz.underlying161
  a70:=Tryz.isAgg161
  z70:=Tryz.sizeOf161
  v70:=Tryz.zeroValue161
  t72:=Tryz.underlying163
  a72:=Tryz.isAgg163
  z72:=Tryz.sizeOf163
  v72:=Tryz.zeroValue163
  t75:=Tryz.underlying166
  a75:=Tryz.isAgg166
  z75:=Tryz.sizeOf166
  v75:=Tryz.zeroValue166
  t76:=Tryz.underlying167
  a76:=Tryz.isAgg167
  z76:=Tryz.sizeOf167
  v76:=Tryz.zeroValue167
  t127:=Tryz.underlying218
  a127:=Tryz.isAgg218
  z127:=Tryz.sizeOf218
  v127:=Tryz.zeroValue218
  t164:=Tryz.underlying246
  a164:=Tryz.isAgg246
  z164:=Tryz.sizeOf246
  v164:=Tryz.zeroValue246 }
theorem Tryz.Builder_Extra_156:Builder.Extra Tryz.prog Tryz.lays156_ren:={
  sizeBuilder:=by kernel_rfl
  liesBuilder:=by kernel_rfl
  t5:=Tryz.underlying5
  a5:=Tryz.isAgg5
  z5:=Tryz.sizeOf5
  v5:=Tryz.zeroValue5
  infoByte:=by kernel_rfl
  cellsByte:=by kernel_rfl
  sizeByte:=by kernel_rfl
  neB5:=by decide }
open Go.RowKit in
theorem Tryz.strings_Join_none(a:Option Addr) (c:Nat) (sep:ByteArray) (w:World) :
    Calls Tryz.prog 100 #[.slice a 0 c,.string sep] w fun e w'=>e=.returned (.string ⟨#[]⟩)∧w'=w:=Any.strings_Join_none Tryz.lays156 Tryz.Builder_Extra_156 a c sep w
open Go.RowKit in
theorem Tryz.strings_Join(bk o c:Nat) (xs:List ByteArray) (sep:ByteArray) (w:World) (hcells:∀ (j:Nat) x,xs[j]?=some x→w.cell? ⟨bk,o+j,none⟩=some (.string x)) (hbk:bk<w.heap.size) (hN:xs.length≤140737488355328) (hcap:xs.length≤c) (hlen:(Lib.join (xs.map (·.data.toList)) sep.data.toList).length≤140737488355328) :
    Calls Tryz.prog 100 #[.slice (some ⟨bk,o,none⟩) xs.length c,.string sep] w fun e w'=>e=.returned (.string ⟨(Lib.join (xs.map (·.data.toList)) sep.data.toList).toArray⟩)∧Below w.heap.size w w':=Any.strings_Join Tryz.lays156 Tryz.Builder_Extra_156 bk o c xs sep w hcells hbk hN hcap hlen
def Tryz.lays161_ren:Go.Shelf.Ren:=⟨fun|161=>108|231=>144|227=>145|233=>146|235=>147|228=>170|197=>171|151=>172|260=>180|152=>181|137=>187|119=>188|224=>189|225=>190|217=>197|266=>202|n=>n,fun|9=>9|4=>4|3=>3|5=>5|117=>232|116=>231|0=>0|124=>235|105=>252|21=>21|119=>273|46=>157|139=>276|138=>275|n=>n,fun|3=>2|4=>3|n=>n⟩
theorem Tryz.lays161:Go.Proofs.Lays.n161 Tryz.prog Tryz.lays161_ren:={
  mixed:=by kernel_rfl
  f119:=Tryz.func188.trans (congrArg some (by kernel_rfl))
  f137:=Tryz.func187.trans (congrArg some (by kernel_rfl))
  f151:=Tryz.func172.trans (congrArg some (by kernel_rfl))
  f152:=Tryz.func181.trans (congrArg some (by kernel_rfl))
  f161:=Tryz.func108.trans (congrArg some (by kernel_rfl))
  f197:=Tryz.func171.trans (congrArg some (by kernel_rfl))
  f217:=Tryz.func197.trans (congrArg some (by kernel_rfl))
  f224:=Tryz.func189.trans (congrArg some (by kernel_rfl))
  f225:=Tryz.func190.trans (congrArg some (by kernel_rfl))
  f227:=Tryz.func145.trans (congrArg some (by kernel_rfl))
  f228:=Tryz.func170.trans (congrArg some (by kernel_rfl))
  f231:=Tryz.func144.trans (congrArg some (by kernel_rfl))
  f233:=Tryz.func146.trans (congrArg some (by kernel_rfl))
  f235:=Tryz.func147.trans (congrArg some (by kernel_rfl))
  f260:=Tryz.func180.trans (congrArg some (by kernel_rfl))
  f266:=Tryz.func202.trans (congrArg some (by kernel_rfl))
  t0:=Tryz.underlying0
  a0:=Tryz.isAgg0
  z0:=Tryz.sizeOf0
  v0:=Tryz.zeroValue0
  t3:=Tryz.underlying3
  a3:=Tryz.isAgg3
  z3:=Tryz.sizeOf3
  v3:=Tryz.zeroValue3
  t4:=Tryz.underlying4
  a4:=Tryz.isAgg4
  z4:=Tryz.sizeOf4
  v4:=Tryz.zeroValue4
  t5:=Tryz.underlying5
  a5:=Tryz.isAgg5
  z5:=Tryz.sizeOf5
  v5:=Tryz.zeroValue5
  t9:=Tryz.underlying9
  a9:=Tryz.isAgg9
  z9:=Tryz.sizeOf9
  v9:=Tryz.zeroValue9
  t21:=Tryz.underlying21
  a21:=Tryz.isAgg21
  z21:=Tryz.sizeOf21
  v21:=Tryz.zeroValue21
  t46:=Tryz.underlying157
  a46:=Tryz.isAgg157
  z46:=Tryz.sizeOf157
  v46:=Tryz.zeroValue157
  t105:=Tryz.underlying252
  a105:=Tryz.isAgg252
  z105:=Tryz.sizeOf252
  v105:=Tryz.zeroValue252
  t116:=Tryz.underlying231
  a116:=Tryz.isAgg231
  z116:=Tryz.sizeOf231
  t117:=Tryz.underlying232
  a117:=Tryz.isAgg232
  z117:=Tryz.sizeOf232
  v117:=Tryz.zeroValue232
  t119:=Tryz.underlying273
  a119:=Tryz.isAgg273
  z119:=Tryz.sizeOf273
  t124:=Tryz.underlying235
  a124:=Tryz.isAgg235
  z124:=Tryz.sizeOf235
  v124:=Tryz.zeroValue235
  t138:=Tryz.underlying275
  a138:=Tryz.isAgg275
  z138:=Tryz.sizeOf275
  v138:=Tryz.zeroValue275
  t139:=Tryz.underlying276
  a139:=Tryz.isAgg276
  z139:=Tryz.sizeOf276
  v139:=Tryz.zeroValue276
  g3:=by kernel_rfl
  g4:=by kernel_rfl }
open Go.RowKit in
theorem Tryz.strings_TrimLeft_one(s:ByteArray) (c:UInt8) (hc:c.toNat<128) (w:World) :
    Calls Tryz.prog 108 #[.string s,.string ⟨#[c]⟩] w fun e w'=>e=.returned (.string ⟨(Lib.trimLeftB s.data.toList c).toArray⟩)∧w'=w:=Any.strings_TrimLeft_one Tryz.lays161 s c hc w
def Tryz.lays99_ren:Go.Shelf.Ren:=⟨fun|99=>90|206=>131|n=>n,fun|9=>9|4=>4|3=>3|n=>n,fun|n=>n⟩
theorem Tryz.lays99:Go.Proofs.Lays.n99 Tryz.prog Tryz.lays99_ren:={
  mixed:=by kernel_rfl
  f99:=Tryz.func90.trans (congrArg some (by kernel_rfl))
  f206:=Tryz.func131.trans (congrArg some (by kernel_rfl))
  t3:=Tryz.underlying3
  a3:=Tryz.isAgg3
  z3:=Tryz.sizeOf3
  v3:=Tryz.zeroValue3
  t4:=Tryz.underlying4
  a4:=Tryz.isAgg4
  z4:=Tryz.sizeOf4
  v4:=Tryz.zeroValue4
  t9:=Tryz.underlying9
  a9:=Tryz.isAgg9
  z9:=Tryz.sizeOf9
  v9:=Tryz.zeroValue9 }
open Go.RowKit Go.Lib in
theorem Tryz.strings_HasPrefix(s p:ByteArray) (w:World) :
    Calls Tryz.prog 90 #[.string s,.string p] w fun e w'=>e=.returned (.bool (Lib.hasPrefix s.data.toList p.data.toList))∧w'=w:=Any.strings_HasPrefix Tryz.lays99 s p w
def Tryz.lays105_ren:Go.Shelf.Ren:=⟨fun|105=>52|212=>89|99=>90|165=>91|166=>92|170=>93|169=>94|263=>129|264=>130|206=>131|240=>132|241=>133|276=>163|277=>164|n=>n,fun|9=>9|3=>3|4=>4|20=>20|0=>0|46=>157|109=>158|5=>5|72=>163|76=>167|51=>175|146=>214|53=>22|148=>216|70=>161|37=>55|75=>166|127=>218|164=>246|80=>68|n=>n,fun|n=>n⟩
theorem Tryz.lays105:Go.Proofs.Lays.n105 Tryz.prog Tryz.lays105_ren:={
  mixed:=by kernel_rfl
  f99:=Tryz.func90.trans (congrArg some (by kernel_rfl))
  f105:=Tryz.func52.trans (congrArg some (by kernel_rfl))
  f165:=Tryz.func91.trans (congrArg some (by kernel_rfl))
  f166:=Tryz.func92.trans (congrArg some (by kernel_rfl))
  f169:=Tryz.func94.trans (congrArg some (by kernel_rfl))
  f170:=Tryz.func93.trans (congrArg some (by kernel_rfl))
  f206:=Tryz.func131.trans (congrArg some (by kernel_rfl))
  f212:=Tryz.func89.trans (congrArg some (by kernel_rfl))
  f240:=Tryz.func132.trans (congrArg some (by kernel_rfl))
  f241:=Tryz.func133.trans (congrArg some (by kernel_rfl))
  f263:=Tryz.func129.trans (congrArg some (by kernel_rfl))
  f264:=Tryz.func130.trans (congrArg some (by kernel_rfl))
  f276:=Tryz.func163.trans (congrArg some (by kernel_rfl))
  f277:=Tryz.func164.trans (congrArg some (by kernel_rfl))
  t0:=Tryz.underlying0
  a0:=Tryz.isAgg0
  z0:=Tryz.sizeOf0
  v0:=Tryz.zeroValue0
  t3:=Tryz.underlying3
  a3:=Tryz.isAgg3
  z3:=Tryz.sizeOf3
  v3:=Tryz.zeroValue3
  t4:=Tryz.underlying4
  a4:=Tryz.isAgg4
  z4:=Tryz.sizeOf4
  v4:=Tryz.zeroValue4
  t5:=Tryz.underlying5
  a5:=Tryz.isAgg5
  z5:=Tryz.sizeOf5
  v5:=Tryz.zeroValue5
  t9:=Tryz.underlying9
  a9:=Tryz.isAgg9
  z9:=Tryz.sizeOf9
  v9:=Tryz.zeroValue9
  t20:=Tryz.underlying20
  a20:=Tryz.isAgg20
  z20:=Tryz.sizeOf20
  v20:=Tryz.zeroValue20
  t37:=Tryz.underlying55
  a37:=Tryz.isAgg55
  z37:=Tryz.sizeOf55
  v37:=Tryz.zeroValue55
  t46:=Tryz.underlying157
  a46:=Tryz.isAgg157
  z46:=Tryz.sizeOf157
  v46:=Tryz.zeroValue157
  t51:=Tryz.underlying175
  a51:=Tryz.isAgg175
  z51:=Tryz.sizeOf175
  v51:=Tryz.zeroValue175
  t53:=Tryz.underlying22
  a53:=Tryz.isAgg22
  z53:=Tryz.sizeOf22
  v53:=Tryz.zeroValue22
  t70:=Tryz.underlying161
  a70:=Tryz.isAgg161
  z70:=Tryz.sizeOf161
  v70:=Tryz.zeroValue161
  t72:=Tryz.underlying163
  a72:=Tryz.isAgg163
  z72:=Tryz.sizeOf163
  v72:=Tryz.zeroValue163
  t75:=Tryz.underlying166
  a75:=Tryz.isAgg166
  z75:=Tryz.sizeOf166
  v75:=Tryz.zeroValue166
  t76:=Tryz.underlying167
  a76:=Tryz.isAgg167
  z76:=Tryz.sizeOf167
  v76:=Tryz.zeroValue167
  t109:=Tryz.underlying158
  a109:=Tryz.isAgg158
  z109:=Tryz.sizeOf158
  v109:=Tryz.zeroValue158
  t127:=Tryz.underlying218
  a127:=Tryz.isAgg218
  z127:=Tryz.sizeOf218
  v127:=Tryz.zeroValue218
  t146:=Tryz.underlying214
  a146:=Tryz.isAgg214
  z146:=Tryz.sizeOf214
  v146:=Tryz.zeroValue214
  t148:=Tryz.underlying216
  a148:=Tryz.isAgg216
  z148:=Tryz.sizeOf216
  v148:=Tryz.zeroValue216
  t164:=Tryz.underlying246
  a164:=Tryz.isAgg246
  z164:=Tryz.sizeOf246
  v164:=Tryz.zeroValue246 }
theorem Tryz.Builder_Extra_105:Builder.Extra Tryz.prog Tryz.lays105_ren:={
  sizeBuilder:=by kernel_rfl
  liesBuilder:=by kernel_rfl
  t5:=Tryz.underlying5
  a5:=Tryz.isAgg5
  z5:=Tryz.sizeOf5
  v5:=Tryz.zeroValue5
  infoByte:=by kernel_rfl
  cellsByte:=by kernel_rfl
  sizeByte:=by kernel_rfl
  neB5:=by decide }
open Go.RowKit Go.Lib in
theorem Tryz.strings_Repeat(s:ByteArray) (c:Nat) (w:World) (hc:c≤9223372036854775807) (hlen:s.size*c≤140737488355328) :
    Calls Tryz.prog 52 #[.string s,.int .i64 c] w fun e w'=>e=.returned (.string ⟨(Lib.repeatL s.data.toList c).toArray⟩)∧Below w.heap.size w w':=Any.strings_Repeat Tryz.lays105 Tryz.Builder_Extra_105 s c w hc hlen
def Tryz.lays110_ren:Go.Shelf.Ren:=⟨fun|110=>149|109=>173|n=>n,fun|31=>31|9=>9|4=>4|3=>3|0=>0|n=>n,fun|n=>n⟩
theorem Tryz.lays110:Go.Proofs.Lays.n110 Tryz.prog Tryz.lays110_ren:={
  mixed:=by kernel_rfl
  f109:=Tryz.func173.trans (congrArg some (by kernel_rfl))
  f110:=Tryz.func149.trans (congrArg some (by kernel_rfl))
  t0:=Tryz.underlying0
  a0:=Tryz.isAgg0
  z0:=Tryz.sizeOf0
  v0:=Tryz.zeroValue0
  t3:=Tryz.underlying3
  a3:=Tryz.isAgg3
  z3:=Tryz.sizeOf3
  v3:=Tryz.zeroValue3
  t4:=Tryz.underlying4
  a4:=Tryz.isAgg4
  z4:=Tryz.sizeOf4
  v4:=Tryz.zeroValue4
  t9:=Tryz.underlying9
  a9:=Tryz.isAgg9
  z9:=Tryz.sizeOf9
  v9:=Tryz.zeroValue9
  t31:=Tryz.underlying31
  a31:=Tryz.isAgg31
  z31:=Tryz.sizeOf31
  v31:=Tryz.zeroValue31 }
open Go.Lib in
theorem Tryz.slices_Contains_string(b off n c:Nat) (zs:List ByteArray) (x:ByteArray) (w:World) (hz:n≤zs.length) (hbig:n≤9223372036854775807) (hc:∀ j,j<zs.length→w.cell? ⟨b,off+j,none⟩=some (.string (zs.getD j ByteArray.empty))) :
    Calls Tryz.prog 149 #[.slice (some ⟨b,off,none⟩) n c,.string x] w fun e w'=>e=.returned (.bool (Lib.containsS (zs.take n) x))∧w'=w:=Any.slices_Contains_string Tryz.lays110 b off n c zs x w hz hbig hc
open Go.Lib in
theorem Tryz.slices_Contains_string_empty(a:Option Addr) (c:Nat) (x:ByteArray) (w:World) :
    Calls Tryz.prog 149 #[.slice a 0 c,.string x] w fun e w'=>e=.returned (.bool false)∧w'=w:=Any.slices_Contains_string_empty Tryz.lays110 a c x w
def Tryz.laysNm216_ren:Go.Shelf.Ren:=⟨fun|16=>138|n=>n,fun|24=>31|9=>9|4=>4|n=>n,fun|n=>n⟩
theorem Tryz.laysNm216:Go.Proofs.Lays2.n16 Tryz.prog Tryz.laysNm216_ren:={
  mixed:=by kernel_rfl
  f16:=Tryz.func138.trans (congrArg some (by kernel_rfl))
  t4:=Tryz.underlying4
  a4:=Tryz.isAgg4
  z4:=Tryz.sizeOf4
  v4:=Tryz.zeroValue4
  t9:=Tryz.underlying9
  a9:=Tryz.isAgg9
  z9:=Tryz.sizeOf9
  v9:=Tryz.zeroValue9
  t24:=Tryz.underlying31
  a24:=Tryz.isAgg31
  z24:=Tryz.sizeOf31
  v24:=Tryz.zeroValue31
  i9:=by kernel_rfl }
open Go.RowKit Go.Lib in
theorem Tryz.slices_Clone_string(b off n c:Nat) (zs:List ByteArray) (w:World) (hz:n≤zs.length) (hbig:n*16≤140737488355328) (hc:∀ j,j<zs.length→w.cell? ⟨b,off+j,none⟩=some (.string (zs.getD j ByteArray.empty))) :
    Calls Tryz.prog 138 #[.slice (some ⟨b,off,none⟩) n c] w fun e w'=>∃ v',e=.returned v'∧w'.ownsRow w.heap.size 9 1 v' n ((zs.take n).map (Value.string))∧v' ≠ .slice none 0 0∧Below w.heap.size w w':=Any.slices_Clone_string Tryz.laysNm216 b off n c zs w hz hbig hc
open Go.RowKit Go.Lib in
theorem Tryz.slices_Clone_string_nil(n c:Nat) (w:World) :
    Calls Tryz.prog 138 #[.slice none n c] w fun e w'=>e=.returned (.slice none 0 0)∧w'=w:=Any.slices_Clone_string_nil Tryz.laysNm216 n c w
open Go.RowKit Go.Lib in
theorem Tryz.slices_Clone_string_zero(a:Addr) (c:Nat) (w:World) :
    Calls Tryz.prog 138 #[.slice (some a) 0 c] w fun e w'=>∃ v',e=.returned v'∧w'.ownsRow w.heap.size 9 1 v' 0 []∧v' ≠ .slice none 0 0∧Below w.heap.size w w':=Any.slices_Clone_string_zero Tryz.laysNm216 a c w
end Go.Proofs
