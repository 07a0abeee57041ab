/- Texts that the laws rest on, packed. -/
import Derived.Shelf.Strings.Trim
import Derived.Shelf.Small.Utf8
import Derived.Shelf.Small.Strs
import Derived.Shelf.Utf8.RuneCount
import Derived.Shelf.Strconv.Atoi
import Derived.Shelf.Strconv.Itoa0
import Derived.Shelf.Strconv.Itoa1
import Derived.Shelf.LaysM
import Derived.Shelf.Strconv.Itoa2
import Derived.Shelf.Strconv.Itoa3
import Derived.Shelf.Strconv.AtoiErrFast
import Derived.Shelf.Strconv.ParseIntEmpty
import Derived.Shelf.Strconv.AtoiFail
import Derived.Shelf.Strconv.Clone
import Derived.Shelf.Strconv.SyntaxError
import Derived.Shelf.LaysC
import Derived.Shelf.Strconv.ToError
import Derived.Shelf.Strconv.AtoiErr
import Derived.Shelf.Strconv.ErrVar
import Derived.Shelf.Strconv.Lower
import Derived.Shelf.Strconv.ParseUint10
import Derived.Shelf.Strconv.ParseUint10Empty
import Derived.Shelf.Strconv.ParseUint10Any
import Derived.Shelf.Strconv.ParseInt10
import Derived.Shelf.Strconv.AtoiLong
import Derived.Shelf.Strconv.AtoiInnerAll
import Derived.Shelf.Strconv.RangeError
import Derived.Shelf.Strconv.ToErrorRange
import Derived.Shelf.Strconv.AtoiAll
import Derived.Shelf.Strconv.ErrVarAll
import Derived.Shelf.Strconv.ParseUintEmpty
import Derived.Shelf.Strconv.ParseUint10b64
import Derived.Shelf.Strconv.ParseUint10b32
import Derived.Shelf.Strconv.ParseUint10b16
import Derived.Shelf.Strconv.ParseUint10b8
import Derived.Shelf.Strconv.ParseUint10At
import Derived.Shelf.Strconv.ParseInt10At64
import Derived.Shelf.Strconv.ParseInt10At32
import Derived.Shelf.Strconv.ParseInt10At16
import Derived.Shelf.Strconv.ParseInt10At8
import Derived.Shelf.Strconv.ParseInt10All
import Derived.Shelf.Strings.Search1
import Derived.Shelf.Strings.Search2
import Derived.Shelf.Strings.Search3
import Derived.Shelf.Strings.Cut
import Derived.Shelf.Strings.Count
import Derived.Shelf.Strings.Shaped
import Derived.Shelf.Strings.Prefix
import Derived.Shelf.Strings.Split
import Derived.Shelf.Strings.SplitShaped
import Derived.Shelf.Unicode.Decode
import Derived.Shelf.Strings.Runes
import Derived.Shelf.Strings.RuneCount
import Derived.Shelf.Strings.AsciiSet
import Derived.Shelf.Strings.Explode
import Derived.Shelf.Unicode.DecodeSlow
import Derived.Shelf.Unicode.DecodeAny
import Derived.Shelf.Unicode.DecodeLast
import Derived.Shelf.Slices.Turned
import Derived.Ground.Names2Prog
import Derived.Shelf.Slices.Clone
import Derived.Test.YtidldcfpmehpiaaGreatDoorProg
namespace Go.Proofs
open Go.Shelf
def Tryz.lays137_ren:Go.Shelf.Ren:=⟨λ|137=>173|217=>236|266=>271|n=>n,λ|9=>9|5=>5|3=>3|n=>n,λ|n=>n⟩
theorem Tryz.lays137:Go.Proofs.Lays.n137 Tryz.prog Tryz.lays137_ren:= {
  mixed:=by kernel_rfl
  f137:=Tryz.func173.trans (congrArg some (by kernel_rfl))
  f217:=Tryz.func236.trans (congrArg some (by kernel_rfl))
  f266:=Tryz.func271.trans (congrArg some (by kernel_rfl))
  t3:=Tryz.underlying3
  a3:=Tryz.isAgg3
  z3:=Tryz.sizeOf3
  v3:=Tryz.zeroValue3
  t5:=Tryz.underlying5
  a5:=Tryz.isAgg5
  z5:=Tryz.sizeOf5
  v5:=Tryz.zeroValue5
  t9:=Tryz.underlying9
  a9:=Tryz.isAgg9
  z9:=Tryz.sizeOf9
  v9:=Tryz.zeroValue9 }
open Go.RowKit in
/-- strings.IndexByte: "IndexByte returns the index of the first instance of c in s, or -1 if c is not present in s.": IT RETURNS 'Lib.indexByte s c'; the world is as it was. (LAID: no walk: one application.) -/
theorem Tryz.strings_IndexByte (s:ByteArray) (c:Int) (w:World):
    Calls Tryz.prog 173 #[.string s,.int .u8 c] w λe w'=>e= .returned (.int .i64 (Lib.indexByte s.data.toList c.toNat.toUInt8))/\w'=w:=Any.strings_IndexByte Tryz.lays137 s c w
def Tryz.lays144_ren:Go.Shelf.Ren:=⟨λ|144=>174|143=>167|219=>233|217=>236|225=>266|224=>267|267=>268|266=>271|314=>284|n=>n,λ|9=>9|4=>4|3=>3|5=>5|46=>316|146=>326|51=>325|n=>n,λ|1=>3|n=>n⟩
theorem Tryz.lays144:Go.Proofs.Lays.n144 Tryz.prog Tryz.lays144_ren:= {
  mixed:=by kernel_rfl
  f143:=Tryz.func167.trans (congrArg some (by kernel_rfl))
  f144:=Tryz.func174.trans (congrArg some (by kernel_rfl))
  f217:=Tryz.func236.trans (congrArg some (by kernel_rfl))
  f219:=Tryz.func233.trans (congrArg some (by kernel_rfl))
  f224:=Tryz.func267.trans (congrArg some (by kernel_rfl))
  f225:=Tryz.func266.trans (congrArg some (by kernel_rfl))
  f266:=Tryz.func271.trans (congrArg some (by kernel_rfl))
  f267:=Tryz.func268.trans (congrArg some (by kernel_rfl))
  f314:=Tryz.func284.trans (congrArg some (by kernel_rfl))
  t3:=Tryz.underlying3
  a3:=Tryz.isAgg3
  z3:=Tryz.sizeOf3
  v3:=Tryz.zeroValue3
  t4:=Tryz.underlying4
  a4:=Tryz.isAgg4
  z4:=Tryz.sizeOf4
  v4:=Tryz.zeroValue4
  t5:=Tryz.underlying5
  a5:=Tryz.isAgg5
  z5:=Tryz.sizeOf5
  v5:=Tryz.zeroValue5
  t9:=Tryz.underlying9
  a9:=Tryz.isAgg9
  z9:=Tryz.sizeOf9
  v9:=Tryz.zeroValue9
  t46:=Tryz.underlying316
  a46:=Tryz.isAgg316
  z46:=Tryz.sizeOf316
  v46:=Tryz.zeroValue316
  t51:=Tryz.underlying325
  a51:=Tryz.isAgg325
  z51:=Tryz.sizeOf325
  v51:=Tryz.zeroValue325
  t146:=Tryz.underlying326
  a146:=Tryz.isAgg326
  z146:=Tryz.sizeOf326
  v146:=Tryz.zeroValue326
  g1:=by kernel_rfl }
open Go.RowKit Go.Lib in
/-- strings.Contains: "Contains reports whether substr is within s.": IT RETURNS 'Lib.contains s substr'; the world is as it was. (LAID: no walk: one application.) -/
theorem Tryz.strings_Contains (s sub:ByteArray) (m:Int) (w:World) (hs:s.size<4294967281) (hm:w.cell? ⟨3,0,none⟩=some (.int .i64 m)):
    Calls Tryz.prog 174 #[.string s,.string sub] w λe w'=>e= .returned (.bool (Lib.contains s.data.toList sub.data.toList))/\w'=w:=Any.strings_Contains Tryz.lays144 s sub m w hs hm
def Tryz.lays145_ren:Go.Shelf.Ren:=⟨λ|145=>122|220=>206|219=>233|217=>236|225=>266|224=>267|267=>268|266=>271|314=>284|n=>n,λ|9=>9|4=>4|59=>199|3=>3|5=>5|46=>316|146=>326|51=>325|n=>n,λ|1=>3|n=>n⟩
theorem Tryz.lays145:Go.Proofs.Lays.n145 Tryz.prog Tryz.lays145_ren:= {
  mixed:=by kernel_rfl
  f145:=Tryz.func122.trans (congrArg some (by kernel_rfl))
  f217:=Tryz.func236.trans (congrArg some (by kernel_rfl))
  f219:=Tryz.func233.trans (congrArg some (by kernel_rfl))
  f220:=Tryz.func206.trans (congrArg some (by kernel_rfl))
  f224:=Tryz.func267.trans (congrArg some (by kernel_rfl))
  f225:=Tryz.func266.trans (congrArg some (by kernel_rfl))
  f266:=Tryz.func271.trans (congrArg some (by kernel_rfl))
  f267:=Tryz.func268.trans (congrArg some (by kernel_rfl))
  f314:=Tryz.func284.trans (congrArg some (by kernel_rfl))
  t3:=Tryz.underlying3
  a3:=Tryz.isAgg3
  z3:=Tryz.sizeOf3
  v3:=Tryz.zeroValue3
  t4:=Tryz.underlying4
  a4:=Tryz.isAgg4
  z4:=Tryz.sizeOf4
  v4:=Tryz.zeroValue4
  t5:=Tryz.underlying5
  a5:=Tryz.isAgg5
  z5:=Tryz.sizeOf5
  v5:=Tryz.zeroValue5
  t9:=Tryz.underlying9
  a9:=Tryz.isAgg9
  z9:=Tryz.sizeOf9
  v9:=Tryz.zeroValue9
  t46:=Tryz.underlying316
  a46:=Tryz.isAgg316
  z46:=Tryz.sizeOf316
  v46:=Tryz.zeroValue316
  t51:=Tryz.underlying325
  a51:=Tryz.isAgg325
  z51:=Tryz.sizeOf325
  v51:=Tryz.zeroValue325
  t59:=Tryz.underlying199
  a59:=Tryz.isAgg199
  z59:=Tryz.sizeOf199
  v59:=Tryz.zeroValue199
  t146:=Tryz.underlying326
  a146:=Tryz.isAgg326
  z146:=Tryz.sizeOf326
  v146:=Tryz.zeroValue326
  g1:=by kernel_rfl }
open Go.RowKit Go.Lib in
/-- strings.Cut: "Cut slices s around the first instance of sep, returning the text before and after sep. The found result reports whether sep appears in s. If sep does not appear in s, cut returns s, "", false.": IT RETURNS 'Lib.cut s sep'; the world is as it was but for the count of draws. (LAID: no walk: one application.) -/
theorem Tryz.strings_Cut (s sep:ByteArray) (m:Int) (w:World) (hs:s.size<4294967281) (hm:w.cell? ⟨3,0,none⟩=some (.int .i64 m)):
    Calls Tryz.prog 122 #[.string s,.string sep] w λe w'=>e= .returned (.tuple #[.string ⟨(Lib.cut s.data.toList sep.data.toList).1.toArray⟩,.string ⟨(Lib.cut s.data.toList sep.data.toList).2.1.toArray⟩,.bool (Lib.cut s.data.toList sep.data.toList).2.2])/\∃n,w'=w.drewN n:=Any.strings_Cut Tryz.lays145 s sep m w hs hm
def Tryz.lays146_ren:Go.Shelf.Ren:=⟨λ|146=>204|221=>254|268=>277|138=>278|143=>167|195=>290|197=>256|218=>291|219=>233|260=>279|217=>236|225=>266|224=>267|267=>268|266=>271|314=>284|n=>n,λ|9=>9|31=>31|3=>3|4=>4|0=>0|105=>303|21=>21|5=>5|46=>316|119=>334|139=>337|138=>336|146=>326|51=>325|n=>n,λ|1=>3|3=>7|4=>8|n=>n⟩
theorem Tryz.lays146:Go.Proofs.Lays.n146 Tryz.prog Tryz.lays146_ren:= {
  mixed:=by kernel_rfl
  f138:=Tryz.func278.trans (congrArg some (by kernel_rfl))
  f143:=Tryz.func167.trans (congrArg some (by kernel_rfl))
  f146:=Tryz.func204.trans (congrArg some (by kernel_rfl))
  f195:=Tryz.func290.trans (congrArg some (by kernel_rfl))
  f197:=Tryz.func256.trans (congrArg some (by kernel_rfl))
  f217:=Tryz.func236.trans (congrArg some (by kernel_rfl))
  f218:=Tryz.func291.trans (congrArg some (by kernel_rfl))
  f219:=Tryz.func233.trans (congrArg some (by kernel_rfl))
  f221:=Tryz.func254.trans (congrArg some (by kernel_rfl))
  f224:=Tryz.func267.trans (congrArg some (by kernel_rfl))
  f225:=Tryz.func266.trans (congrArg some (by kernel_rfl))
  f260:=Tryz.func279.trans (congrArg some (by kernel_rfl))
  f266:=Tryz.func271.trans (congrArg some (by kernel_rfl))
  f267:=Tryz.func268.trans (congrArg some (by kernel_rfl))
  f268:=Tryz.func277.trans (congrArg some (by kernel_rfl))
  f314:=Tryz.func284.trans (congrArg some (by kernel_rfl))
  t0:=Tryz.underlying0
  a0:=Tryz.isAgg0
  z0:=Tryz.sizeOf0
  v0:=Tryz.zeroValue0
  t3:=Tryz.underlying3
  a3:=Tryz.isAgg3
  z3:=Tryz.sizeOf3
  v3:=Tryz.zeroValue3
  t4:=Tryz.underlying4
  a4:=Tryz.isAgg4
  z4:=Tryz.sizeOf4
  v4:=Tryz.zeroValue4
  t5:=Tryz.underlying5
  a5:=Tryz.isAgg5
  z5:=Tryz.sizeOf5
  v5:=Tryz.zeroValue5
  t9:=Tryz.underlying9
  a9:=Tryz.isAgg9
  z9:=Tryz.sizeOf9
  v9:=Tryz.zeroValue9
  t21:=Tryz.underlying21
  a21:=Tryz.isAgg21
  z21:=Tryz.sizeOf21
  v21:=Tryz.zeroValue21
  t31:=Tryz.underlying31
  a31:=Tryz.isAgg31
  z31:=Tryz.sizeOf31
  v31:=Tryz.zeroValue31
  t46:=Tryz.underlying316
  a46:=Tryz.isAgg316
  z46:=Tryz.sizeOf316
  v46:=Tryz.zeroValue316
  t51:=Tryz.underlying325
  a51:=Tryz.isAgg325
  z51:=Tryz.sizeOf325
  v51:=Tryz.zeroValue325
  t105:=Tryz.underlying303
  a105:=Tryz.isAgg303
  z105:=Tryz.sizeOf303
  v105:=Tryz.zeroValue303
  t119:=Tryz.underlying334
  a119:=Tryz.isAgg334
  z119:=Tryz.sizeOf334
  t138:=Tryz.underlying336
  a138:=Tryz.isAgg336
  z138:=Tryz.sizeOf336
  v138:=Tryz.zeroValue336
  t139:=Tryz.underlying337
  a139:=Tryz.isAgg337
  z139:=Tryz.sizeOf337
  v139:=Tryz.zeroValue337
  t146:=Tryz.underlying326
  a146:=Tryz.isAgg326
  z146:=Tryz.sizeOf326
  v146:=Tryz.zeroValue326
  g1:=by kernel_rfl
  g3:=by kernel_rfl
  g4:=by kernel_rfl }
open Go.RowKit Go.Lib in
/-- strings.Split. (LAID: no walk: one application.) -/
theorem Tryz.strings_Split (s sep:ByteArray) (m:Int) (w:World) (hs:s.size<4294967281) (hm:w.cell? ⟨3,0,none⟩=some (.int .i64 m)) (h1:1<=sep.size):
    Calls Tryz.prog 204 #[.string s,.string sep] w λe w'=>
      e= .returned (.slice (some ⟨w.heap.size,0,none⟩) (Lib.countB s sep+1) (Lib.countB s sep+1))/\w'=w.alloc (.cells ((Lib.splitB sep 0 (Lib.countB s sep) s).map Value.string).toArray 9):=Any.strings_Split Tryz.lays146 (by kernel_rfl) s sep m w hs hm h1
end Go.Proofs
