/-
  DERIVED: THE SHELF's CONTRACTS AT THIS DUMP, IN PLAIN WORDS (tools/lay-plain.mjs out of 'TrydShelf.lean', which tools/lay-shelf.mjs wrote): THE SAME DECLARATIONS UNDER THE SAME NAMES: 'import', 'namespace', 'open', 'def', 'theorem' AND NOTHING ELSE: no command of the shelf's: FOR A HAND-IN. Each laying: the table of numbers ('.._ren') and one theorem, a field a fact of the dump's own or the kernel's comparison; each contract: ONE APPLICATION.
-/
import Derived.Shelf.Strings.Builder1
import Derived.Shelf.Strings.Builder2
import Derived.Shelf.Strings.Trim
import Derived.Shelf.Strings.TrimSpace
import Derived.Shelf.Small.Utf8
import Derived.Shelf.Small.Strs
import Derived.Shelf.Strings.BuilderF
import Derived.Shelf.Strings.Prefix
import Derived.Shelf.Unicode.Latin
import Derived.Shelf.Bits.Mul64
import Derived.Shelf.Strings.Repeat
import Derived.Shelf.Unicode.Is16White
import Derived.Shelf.Unicode.IsSpaceAny
import Derived.Shelf.Unicode.Is16Any
import Derived.Shelf.Unicode.Is32Any
import Derived.Shelf.Unicode.ExclAny
import Derived.Test.YthnnopjakpjoeaaDoorProg
namespace Go.Proofs
open Go.Shelf
def Tryd.lays162_ren : Go.Shelf.Ren := ⟨fun | 162 => 76 | 232 => 132 | 227 => 133 | 234 => 134 | 236 => 135 | 228 => 167 | 271 => 168 | 151 => 169 | 120 => 190 | 197 => 188 | 152 => 191 | 260 => 202 | 137 => 204 | 119 => 205 | 224 => 206 | 225 => 207 | 217 => 210 | 266 => 211 | n => n, fun | 9 => 9 | 4 => 4 | 3 => 3 | 5 => 5 | 117 => 236 | 116 => 235 | 0 => 0 | 124 => 239 | 21 => 21 | 105 => 266 | 46 => 201 | 119 => 263 | 139 => 322 | 138 => 321 | n => n, fun | 3 => 2 | 4 => 3 | n => n⟩
theorem Tryd.lays162 : Go.Proofs.Lays.n162 Tryd.prog Tryd.lays162_ren := {
  mixed := by kernel_rfl
  f119 := Tryd.func205.trans (congrArg some (by kernel_rfl))
  f120 := Tryd.func190.trans (congrArg some (by kernel_rfl))
  f137 := Tryd.func204.trans (congrArg some (by kernel_rfl))
  f151 := Tryd.func169.trans (congrArg some (by kernel_rfl))
  f152 := Tryd.func191.trans (congrArg some (by kernel_rfl))
  f162 := Tryd.func76.trans (congrArg some (by kernel_rfl))
  f197 := Tryd.func188.trans (congrArg some (by kernel_rfl))
  f217 := Tryd.func210.trans (congrArg some (by kernel_rfl))
  f224 := Tryd.func206.trans (congrArg some (by kernel_rfl))
  f225 := Tryd.func207.trans (congrArg some (by kernel_rfl))
  f227 := Tryd.func133.trans (congrArg some (by kernel_rfl))
  f228 := Tryd.func167.trans (congrArg some (by kernel_rfl))
  f232 := Tryd.func132.trans (congrArg some (by kernel_rfl))
  f234 := Tryd.func134.trans (congrArg some (by kernel_rfl))
  f236 := Tryd.func135.trans (congrArg some (by kernel_rfl))
  f260 := Tryd.func202.trans (congrArg some (by kernel_rfl))
  f266 := Tryd.func211.trans (congrArg some (by kernel_rfl))
  f271 := Tryd.func168.trans (congrArg some (by kernel_rfl))
  t0 := Tryd.underlying0
  a0 := Tryd.isAgg0
  z0 := Tryd.sizeOf0
  v0 := Tryd.zeroValue0
  t3 := Tryd.underlying3
  a3 := Tryd.isAgg3
  z3 := Tryd.sizeOf3
  v3 := Tryd.zeroValue3
  t4 := Tryd.underlying4
  a4 := Tryd.isAgg4
  z4 := Tryd.sizeOf4
  v4 := Tryd.zeroValue4
  t5 := Tryd.underlying5
  a5 := Tryd.isAgg5
  z5 := Tryd.sizeOf5
  v5 := Tryd.zeroValue5
  t9 := Tryd.underlying9
  a9 := Tryd.isAgg9
  z9 := Tryd.sizeOf9
  v9 := Tryd.zeroValue9
  t21 := Tryd.underlying21
  a21 := Tryd.isAgg21
  z21 := Tryd.sizeOf21
  v21 := Tryd.zeroValue21
  t46 := Tryd.underlying201
  a46 := Tryd.isAgg201
  z46 := Tryd.sizeOf201
  v46 := Tryd.zeroValue201
  t105 := Tryd.underlying266
  a105 := Tryd.isAgg266
  z105 := Tryd.sizeOf266
  v105 := Tryd.zeroValue266
  t116 := Tryd.underlying235
  a116 := Tryd.isAgg235
  z116 := Tryd.sizeOf235
  t117 := Tryd.underlying236
  a117 := Tryd.isAgg236
  z117 := Tryd.sizeOf236
  v117 := Tryd.zeroValue236
  t119 := Tryd.underlying263
  a119 := Tryd.isAgg263
  z119 := Tryd.sizeOf263
  t124 := Tryd.underlying239
  a124 := Tryd.isAgg239
  z124 := Tryd.sizeOf239
  v124 := Tryd.zeroValue239
  t138 := Tryd.underlying321
  a138 := Tryd.isAgg321
  z138 := Tryd.sizeOf321
  v138 := Tryd.zeroValue321
  t139 := Tryd.underlying322
  a139 := Tryd.isAgg322
  z139 := Tryd.sizeOf322
  v139 := Tryd.zeroValue322
  g3 := by kernel_rfl
  g4 := by kernel_rfl }
open Go.RowKit in
/-- strings.TrimRight: "TrimRight returns a slice of the string s, with all trailing Unicode code points contained in cutset removed.": AT A cutset OF ONE ASCII BYTE. The world is as it was. (LAID: no walk: one application.) -/
theorem Tryd.strings_TrimRight_one (s : ByteArray) (c : UInt8) (hc : c.toNat < 128) (w : World) (hs : s.size ≤ 9223372036854775807) :
    Calls Tryd.prog 76 #[.string s, .string ⟨#[c]⟩] w fun e w' => e = .returned (.string ⟨(Lib.trimRightB s.data.toList c).toArray⟩) ∧ w' = w := Any.strings_TrimRight_one Tryd.lays162 s c hc w hs
def Tryd.lays163_ren : Go.Shelf.Ren := ⟨fun | 163 => 124 | 237 => 154 | 199 => 155 | 238 => 156 | 272 => 185 | 261 => 186 | 273 => 187 | 197 => 188 | 315 => 199 | 311 => 200 | 312 => 201 | 271 => 168 | 260 => 202 | 120 => 190 | n => n, fun | 9 => 9 | 37 => 22 | 3 => 3 | 0 => 0 | 5 => 5 | 4 => 4 | 40 => 262 | 119 => 263 | 21 => 21 | 51 => 24 | 141 => 290 | 105 => 266 | 196 => 304 | 193 => 301 | 198 => 306 | 49 => 36 | 194 => 302 | 201 => 309 | 226 => 318 | 46 => 201 | 227 => 319 | 139 => 322 | 138 => 321 | n => n, fun | 0 => 0 | 6 => 1 | 3 => 2 | 4 => 3 | n => n⟩
theorem Tryd.lays163 : Go.Proofs.Lays.n163 Tryd.prog Tryd.lays163_ren := {
  mixed := by kernel_rfl
  f120 := Tryd.func190.trans (congrArg some (by kernel_rfl))
  f163 := Tryd.func124.trans (congrArg some (by kernel_rfl))
  f197 := Tryd.func188.trans (congrArg some (by kernel_rfl))
  f199 := Tryd.func155.trans (congrArg some (by kernel_rfl))
  f237 := Tryd.func154.trans (congrArg some (by kernel_rfl))
  f238 := Tryd.func156.trans (congrArg some (by kernel_rfl))
  f260 := Tryd.func202.trans (congrArg some (by kernel_rfl))
  f261 := Tryd.func186.trans (congrArg some (by kernel_rfl))
  f271 := Tryd.func168.trans (congrArg some (by kernel_rfl))
  f272 := Tryd.func185.trans (congrArg some (by kernel_rfl))
  f273 := Tryd.func187.trans (congrArg some (by kernel_rfl))
  f311 := Tryd.func200.trans (congrArg some (by kernel_rfl))
  f312 := Tryd.func201.trans (congrArg some (by kernel_rfl))
  f315 := Tryd.func199.trans (congrArg some (by kernel_rfl))
  t0 := Tryd.underlying0
  a0 := Tryd.isAgg0
  z0 := Tryd.sizeOf0
  v0 := Tryd.zeroValue0
  t3 := Tryd.underlying3
  a3 := Tryd.isAgg3
  z3 := Tryd.sizeOf3
  v3 := Tryd.zeroValue3
  t4 := Tryd.underlying4
  a4 := Tryd.isAgg4
  z4 := Tryd.sizeOf4
  v4 := Tryd.zeroValue4
  t5 := Tryd.underlying5
  a5 := Tryd.isAgg5
  z5 := Tryd.sizeOf5
  v5 := Tryd.zeroValue5
  t9 := Tryd.underlying9
  a9 := Tryd.isAgg9
  z9 := Tryd.sizeOf9
  v9 := Tryd.zeroValue9
  t21 := Tryd.underlying21
  a21 := Tryd.isAgg21
  z21 := Tryd.sizeOf21
  v21 := Tryd.zeroValue21
  t37 := Tryd.underlying22
  a37 := Tryd.isAgg22
  z37 := Tryd.sizeOf22
  v37 := Tryd.zeroValue22
  t40 := Tryd.underlying262
  a40 := Tryd.isAgg262
  z40 := Tryd.sizeOf262
  v40 := Tryd.zeroValue262
  t46 := Tryd.underlying201
  a46 := Tryd.isAgg201
  z46 := Tryd.sizeOf201
  v46 := Tryd.zeroValue201
  t49 := Tryd.underlying36
  a49 := Tryd.isAgg36
  z49 := Tryd.sizeOf36
  v49 := Tryd.zeroValue36
  t51 := Tryd.underlying24
  a51 := Tryd.isAgg24
  z51 := Tryd.sizeOf24
  v51 := Tryd.zeroValue24
  t105 := Tryd.underlying266
  a105 := Tryd.isAgg266
  z105 := Tryd.sizeOf266
  v105 := Tryd.zeroValue266
  t119 := Tryd.underlying263
  a119 := Tryd.isAgg263
  z119 := Tryd.sizeOf263
  t138 := Tryd.underlying321
  a138 := Tryd.isAgg321
  z138 := Tryd.sizeOf321
  v138 := Tryd.zeroValue321
  t139 := Tryd.underlying322
  a139 := Tryd.isAgg322
  z139 := Tryd.sizeOf322
  v139 := Tryd.zeroValue322
  t141 := Tryd.underlying290
  a141 := Tryd.isAgg290
  z141 := Tryd.sizeOf290
  v141 := Tryd.zeroValue290
  t193 := Tryd.underlying301
  a193 := Tryd.isAgg301
  z193 := Tryd.sizeOf301
  v193 := Tryd.zeroValue301
  t194 := Tryd.underlying302
  a194 := Tryd.isAgg302
  z194 := Tryd.sizeOf302
  v194 := Tryd.zeroValue302
  t196 := Tryd.underlying304
  a196 := Tryd.isAgg304
  z196 := Tryd.sizeOf304
  v196 := Tryd.zeroValue304
  t198 := Tryd.underlying306
  a198 := Tryd.isAgg306
  z198 := Tryd.sizeOf306
  v198 := Tryd.zeroValue306
  t201 := Tryd.underlying309
  a201 := Tryd.isAgg309
  z201 := Tryd.sizeOf309
  v201 := Tryd.zeroValue309
  t226 := Tryd.underlying318
  a226 := Tryd.isAgg318
  z226 := Tryd.sizeOf318
  v226 := Tryd.zeroValue318
  t227 := Tryd.underlying319
  a227 := Tryd.isAgg319
  z227 := Tryd.sizeOf319
  v227 := Tryd.zeroValue319
  g0 := by kernel_rfl
  g3 := by kernel_rfl
  g4 := by kernel_rfl
  g6 := by kernel_rfl }
theorem Tryd.Space_Extra_163 : Space.Extra Tryd.prog Tryd.lays163_ren := {
  gNamed := by kernel_rfl }
open Go.RowKit in
theorem Tryd.strings_TrimSpace (s : ByteArray) (w : World) (hs : s.size ≤ 9223372036854775807) (hascii : ∀ (j : Nat) b, s.data.toList[j]? = some b → b.toNat < 128) (htab : Lib.TabIs Tryd.prog w "strings.asciiSpace" .u8 Lib.asciiSpaceTab) :
    Calls Tryd.prog 124 #[.string s] w fun e w' => e = .returned (.string ⟨(Lib.trimSpace s.data.toList).toArray⟩) ∧ w' = Lib.bytesWorld w 5 s := Any.strings_TrimSpace Tryd.lays163 Tryd.Space_Extra_163 s w hs hascii htab
def Tryd.lays100_ren : Go.Shelf.Ren := ⟨fun | 100 => 86 | 207 => 141 | n => n, fun | 9 => 9 | 4 => 4 | 3 => 3 | n => n, fun | n => n⟩
theorem Tryd.lays100 : Go.Proofs.Lays.n100 Tryd.prog Tryd.lays100_ren := {
  mixed := by kernel_rfl
  f100 := Tryd.func86.trans (congrArg some (by kernel_rfl))
  f207 := Tryd.func141.trans (congrArg some (by kernel_rfl))
  t3 := Tryd.underlying3
  a3 := Tryd.isAgg3
  z3 := Tryd.sizeOf3
  v3 := Tryd.zeroValue3
  t4 := Tryd.underlying4
  a4 := Tryd.isAgg4
  z4 := Tryd.sizeOf4
  v4 := Tryd.zeroValue4
  t9 := Tryd.underlying9
  a9 := Tryd.isAgg9
  z9 := Tryd.sizeOf9
  v9 := Tryd.zeroValue9 }
open Go.RowKit Go.Lib in
/-- strings.HasSuffix: "HasSuffix reports whether the string s ends with suffix.": IT RETURNS 'Lib.hasSuffix s suffix'; the world is as it was. ('hs': no Go string is longer: a caller has it of every string that it was handed.) (LAID: no walk: one application.) -/
theorem Tryd.strings_HasSuffix (s p : ByteArray) (w : World) (hs : s.size ≤ 9223372036854775807) :
    Calls Tryd.prog 86 #[.string s, .string p] w fun e w' => e = .returned (.bool (Lib.hasSuffix s.data.toList p.data.toList)) ∧ w' = w := Any.strings_HasSuffix Tryd.lays100 s p w hs
def Tryd.lays105_ren : Go.Shelf.Ren := ⟨fun | 105 => 140 | 212 => 170 | 99 => 171 | 165 => 172 | 166 => 173 | 170 => 174 | 169 => 175 | 263 => 192 | 264 => 193 | 206 => 194 | 240 => 195 | 241 => 196 | 276 => 208 | 277 => 209 | n => n, fun | 9 => 9 | 3 => 3 | 4 => 4 | 20 => 20 | 0 => 0 | 46 => 201 | 109 => 269 | 5 => 5 | 72 => 273 | 76 => 277 | 51 => 24 | 146 => 294 | 53 => 23 | 148 => 296 | 70 => 271 | 37 => 22 | 75 => 276 | 127 => 232 | 164 => 315 | 80 => 279 | n => n, fun | n => n⟩
theorem Tryd.lays105 : Go.Proofs.Lays.n105 Tryd.prog Tryd.lays105_ren := {
  mixed := by kernel_rfl
  f99 := Tryd.func171.trans (congrArg some (by kernel_rfl))
  f105 := Tryd.func140.trans (congrArg some (by kernel_rfl))
  f165 := Tryd.func172.trans (congrArg some (by kernel_rfl))
  f166 := Tryd.func173.trans (congrArg some (by kernel_rfl))
  f169 := Tryd.func175.trans (congrArg some (by kernel_rfl))
  f170 := Tryd.func174.trans (congrArg some (by kernel_rfl))
  f206 := Tryd.func194.trans (congrArg some (by kernel_rfl))
  f212 := Tryd.func170.trans (congrArg some (by kernel_rfl))
  f240 := Tryd.func195.trans (congrArg some (by kernel_rfl))
  f241 := Tryd.func196.trans (congrArg some (by kernel_rfl))
  f263 := Tryd.func192.trans (congrArg some (by kernel_rfl))
  f264 := Tryd.func193.trans (congrArg some (by kernel_rfl))
  f276 := Tryd.func208.trans (congrArg some (by kernel_rfl))
  f277 := Tryd.func209.trans (congrArg some (by kernel_rfl))
  t0 := Tryd.underlying0
  a0 := Tryd.isAgg0
  z0 := Tryd.sizeOf0
  v0 := Tryd.zeroValue0
  t3 := Tryd.underlying3
  a3 := Tryd.isAgg3
  z3 := Tryd.sizeOf3
  v3 := Tryd.zeroValue3
  t4 := Tryd.underlying4
  a4 := Tryd.isAgg4
  z4 := Tryd.sizeOf4
  v4 := Tryd.zeroValue4
  t5 := Tryd.underlying5
  a5 := Tryd.isAgg5
  z5 := Tryd.sizeOf5
  v5 := Tryd.zeroValue5
  t9 := Tryd.underlying9
  a9 := Tryd.isAgg9
  z9 := Tryd.sizeOf9
  v9 := Tryd.zeroValue9
  t20 := Tryd.underlying20
  a20 := Tryd.isAgg20
  z20 := Tryd.sizeOf20
  v20 := Tryd.zeroValue20
  t37 := Tryd.underlying22
  a37 := Tryd.isAgg22
  z37 := Tryd.sizeOf22
  v37 := Tryd.zeroValue22
  t46 := Tryd.underlying201
  a46 := Tryd.isAgg201
  z46 := Tryd.sizeOf201
  v46 := Tryd.zeroValue201
  t51 := Tryd.underlying24
  a51 := Tryd.isAgg24
  z51 := Tryd.sizeOf24
  v51 := Tryd.zeroValue24
  t53 := Tryd.underlying23
  a53 := Tryd.isAgg23
  z53 := Tryd.sizeOf23
  v53 := Tryd.zeroValue23
  t70 := Tryd.underlying271
  a70 := Tryd.isAgg271
  z70 := Tryd.sizeOf271
  v70 := Tryd.zeroValue271
  t72 := Tryd.underlying273
  a72 := Tryd.isAgg273
  z72 := Tryd.sizeOf273
  v72 := Tryd.zeroValue273
  t75 := Tryd.underlying276
  a75 := Tryd.isAgg276
  z75 := Tryd.sizeOf276
  v75 := Tryd.zeroValue276
  t76 := Tryd.underlying277
  a76 := Tryd.isAgg277
  z76 := Tryd.sizeOf277
  v76 := Tryd.zeroValue277
  t109 := Tryd.underlying269
  a109 := Tryd.isAgg269
  z109 := Tryd.sizeOf269
  v109 := Tryd.zeroValue269
  t127 := Tryd.underlying232
  a127 := Tryd.isAgg232
  z127 := Tryd.sizeOf232
  v127 := Tryd.zeroValue232
  t146 := Tryd.underlying294
  a146 := Tryd.isAgg294
  z146 := Tryd.sizeOf294
  v146 := Tryd.zeroValue294
  t148 := Tryd.underlying296
  a148 := Tryd.isAgg296
  z148 := Tryd.sizeOf296
  v148 := Tryd.zeroValue296
  t164 := Tryd.underlying315
  a164 := Tryd.isAgg315
  z164 := Tryd.sizeOf315
  v164 := Tryd.zeroValue315 }
theorem Tryd.Builder_Extra_105 : Builder.Extra Tryd.prog Tryd.lays105_ren := {
  sizeBuilder := by kernel_rfl
  liesBuilder := by kernel_rfl
  t5 := Tryd.underlying5
  a5 := Tryd.isAgg5
  z5 := Tryd.sizeOf5
  v5 := Tryd.zeroValue5
  infoByte := by kernel_rfl
  cellsByte := by kernel_rfl
  sizeByte := by kernel_rfl
  neB5 := by decide }
open Go.RowKit Go.Lib in
theorem Tryd.strings_Repeat_zero (s : ByteArray) (w : World) :
    Calls Tryd.prog 140 #[.string s, .int .i64 0] w fun e w' => e = .returned (.string ⟨#[]⟩) ∧ w' = w := Any.strings_Repeat_zero Tryd.lays105 s w
open Go.RowKit Go.Lib in
/-- **strings.Repeat: count ≥ 0, the result within one allocation: count copies of s.** (LAID: no walk: one application.) -/
theorem Tryd.strings_Repeat (s : ByteArray) (c : Nat) (w : World) (hc : c ≤ 9223372036854775807) (hlen : s.size * c ≤ 140737488355328) :
    Calls Tryd.prog 140 #[.string s, .int .i64 c] w fun e w' => e = .returned (.string ⟨(Lib.repeatL s.data.toList c).toArray⟩) ∧ Below w.heap.size w w' := Any.strings_Repeat Tryd.lays105 Tryd.Builder_Extra_105 s c w hc hlen
end Go.Proofs
