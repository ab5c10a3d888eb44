/- Texts of the claim ElementReads, joined: HShelf, HStr, Prx25, UBase, HCut, ECut, EPure, HBuild, Prx23. -/
import Derived.Shelf.Strings.Builder1
import Derived.Shelf.Strings.Builder2
import Derived.Shelf.Strings.OnBuilder
import Derived.Shelf.Strings.Trim
import Derived.Shelf.Small.Utf8
import Derived.Shelf.Small.Strs
import Derived.Shelf.Strings.BuilderF
import Derived.Shelf.Strings.BuilderK
import Derived.Shelf.Utf8.RuneCount
import Derived.Shelf.Strings.Builder2Cap
import Derived.Shelf.Strconv.Atoi
import Derived.Shelf.Strconv.Itoa0
import Derived.Shelf.Strconv.Itoa1
import Derived.Shelf.LaysM
import Derived.Shelf.Strconv.Itoa2
import Derived.Shelf.Strconv.Itoa3
import Derived.Shelf.Strconv.AtoiErrFast
import Derived.Shelf.Strconv.ParseIntEmpty
import Derived.Shelf.Strconv.AtoiFail
import Derived.Shelf.Strconv.Clone
import Derived.Shelf.Strconv.SyntaxError
import Derived.Shelf.LaysC
import Derived.Shelf.Strconv.ToError
import Derived.Shelf.Strconv.Lower
import Derived.Shelf.Strconv.ParseUint10
import Derived.Shelf.Strconv.ParseUint10Empty
import Derived.Shelf.Strconv.ParseUint10Any
import Derived.Shelf.Strconv.ParseInt10
import Derived.Shelf.Strconv.AtoiLong
import Derived.Shelf.Strconv.AtoiInnerAll
import Derived.Shelf.Strconv.RangeError
import Derived.Shelf.Strconv.ToErrorRange
import Derived.Shelf.Strconv.AtoiAll
import Derived.Shelf.Strconv.ErrVarAll
import Derived.Shelf.Strings.Search1
import Derived.Shelf.Strings.Search2
import Derived.Shelf.Strings.Search3
import Derived.Shelf.Strings.Cut
import Derived.Shelf.Strings.Count
import Derived.Shelf.Strings.Shaped
import Derived.Shelf.GgClosure.StringsIndexFunc
import Derived.Ground.GgwProg
import Derived.Shelf.GgClosure.StringsIndexFuncTop
import Derived.Shelf.GgClosure.StringsRunes
import Derived.Shelf.Strings.Split
import Derived.Shelf.Strings.SplitShaped
import Derived.Shelf.Unicode.Decode
import Derived.Shelf.Strings.Runes
import Derived.Shelf.Strings.RuneCount
import Derived.Shelf.Strings.AsciiSet
import Derived.Shelf.Strings.Explode
import Derived.Shelf.Unicode.DecodeSlow
import Derived.Shelf.Unicode.DecodeAny
import Derived.Shelf.Unicode.DecodeLast
import Derived.Shelf.Strings.FuncGrows
import Derived.Shelf.Strings.BuilderCap
import Derived.Test.YtdaijpjjilmkkaaGreatDoorProg
import Derived.Test.YtdaijpjjilmkkaaGreatDoorZElementReads23
import Derived.Test.YtdaijpjjilmkkaaGreatDoorZElementReads28
import Derived.Test.YtdaijpjjilmkkaaGreatDoorZElementReads22
import Derived.Test.YtdaijpjjilmkkaaGreatDoorZElementReads24
import Derived.Lib.Strings
import Derived.Lib.SplitLaws
import Derived.Lib.FrozenHead2
import Derived.Lib.OthersKept
import Derived.WalkKit
import Derived.RangeFuncBox
import Derived.Test.YtdaijpjjilmkkaaGreatDoorZElementReads27
/-
  DERIVED: THE SHELF's CONTRACTS AT THIS DUMP, IN PLAIN WORDS (tools/lay-plain.mjs out of 'TryzShelf.lean', which tools/lay-shelf.mjs wrote): THE SAME DECLARATIONS UNDER THE SAME NAMES: 'import', 'namespace', 'open', 'def', 'theorem' AND NOTHING ELSE: no command of the shelf's: FOR A HAND-IN. Each laying: the table of numbers ('.._ren') and one theorem, a field a fact of the dump's own or the kernel's comparison; each contract: ONE APPLICATION.
-/
namespace Go.Proofs
open Go.Shelf
def Tryz.lays169_ren : Go.Shelf.Ren := ⟨fun | 169 => 31 | n => n, fun | 70 => 56 | 9 => 9 | 0 => 0 | 72 => 59 | 37 => 57 | 127 => 93 | 3 => 3 | 5 => 5 | n => n, fun | n => n⟩
theorem Tryz.lays169 : Go.Proofs.Lays.n169 Tryz.prog Tryz.lays169_ren := {
  mixed := by kernel_rfl
  f169 := Tryz.func31.trans (congrArg some (by kernel_rfl))
  t0 := Tryz.underlying0
  a0 := Tryz.isAgg0
  z0 := Tryz.sizeOf0
  v0 := Tryz.zeroValue0
  t3 := Tryz.underlying3
  a3 := Tryz.isAgg3
  z3 := Tryz.sizeOf3
  v3 := Tryz.zeroValue3
  t9 := Tryz.underlying9
  a9 := Tryz.isAgg9
  z9 := Tryz.sizeOf9
  v9 := Tryz.zeroValue9
  t37 := Tryz.underlying57
  a37 := Tryz.isAgg57
  z37 := Tryz.sizeOf57
  v37 := Tryz.zeroValue57
  t70 := Tryz.underlying56
  a70 := Tryz.isAgg56
  z70 := Tryz.sizeOf56
  v70 := Tryz.zeroValue56
  t72 := Tryz.underlying59
  a72 := Tryz.isAgg59
  z72 := Tryz.sizeOf59
  v72 := Tryz.zeroValue59
  t127 := Tryz.underlying93
  a127 := Tryz.isAgg93
  z127 := Tryz.sizeOf93
  v127 := Tryz.zeroValue93 }
theorem Tryz.Builder_Extra_169 : Builder.Extra Tryz.prog Tryz.lays169_ren := {
  sizeBuilder := by kernel_rfl
  liesBuilder := by kernel_rfl
  t5 := Tryz.underlying5
  a5 := Tryz.isAgg5
  z5 := Tryz.sizeOf5
  v5 := Tryz.zeroValue5
  infoByte := by kernel_rfl
  cellsByte := by kernel_rfl
  sizeByte := by kernel_rfl
  neB5 := by decide }
def Tryz.lays156_ren : Go.Shelf.Ren := ⟨fun | 156 => 54 | 165 => 75 | 166 => 27 | 169 => 31 | 240 => 53 | 241 => 88 | 276 => 74 | 277 => 106 | n => n, fun | 31 => 68 | 9 => 9 | 3 => 3 | 4 => 4 | 0 => 0 | 20 => 20 | 72 => 59 | 76 => 62 | 70 => 56 | 37 => 57 | 75 => 61 | 127 => 93 | 164 => 115 | 5 => 5 | 80 => 67 | n => n, fun | n => n⟩
theorem Tryz.lays156 : Go.Proofs.Lays.n156 Tryz.prog Tryz.lays156_ren := {
  mixed := by kernel_rfl
  f156 := Tryz.func54.trans (congrArg some (by kernel_rfl))
  f165 := Tryz.func75.trans (congrArg some (by kernel_rfl))
  f166 := Tryz.func27.trans (congrArg some (by kernel_rfl))
  f169 := Tryz.func31.trans (congrArg some (by kernel_rfl))
  f240 := Tryz.func53.trans (congrArg some (by kernel_rfl))
  f241 := Tryz.func88.trans (congrArg some (by kernel_rfl))
  f276 := Tryz.func74.trans (congrArg some (by kernel_rfl))
  f277 := Tryz.func106.trans (congrArg some (by kernel_rfl))
  t0 := Tryz.underlying0
  a0 := Tryz.isAgg0
  z0 := Tryz.sizeOf0
  v0 := Tryz.zeroValue0
  t3 := Tryz.underlying3
  a3 := Tryz.isAgg3
  z3 := Tryz.sizeOf3
  v3 := Tryz.zeroValue3
  t4 := Tryz.underlying4
  a4 := Tryz.isAgg4
  z4 := Tryz.sizeOf4
  v4 := Tryz.zeroValue4
  t9 := Tryz.underlying9
  a9 := Tryz.isAgg9
  z9 := Tryz.sizeOf9
  v9 := Tryz.zeroValue9
  t20 := Tryz.underlying20
  a20 := Tryz.isAgg20
  z20 := Tryz.sizeOf20
  v20 := Tryz.zeroValue20
  t31 := Tryz.underlying68
  a31 := Tryz.isAgg68
  z31 := Tryz.sizeOf68
  v31 := Tryz.zeroValue68
  t37 := Tryz.underlying57
  a37 := Tryz.isAgg57
  z37 := Tryz.sizeOf57
  v37 := Tryz.zeroValue57
  t70 := Tryz.underlying56
  a70 := Tryz.isAgg56
  z70 := Tryz.sizeOf56
  v70 := Tryz.zeroValue56
  t72 := Tryz.underlying59
  a72 := Tryz.isAgg59
  z72 := Tryz.sizeOf59
  v72 := Tryz.zeroValue59
  t75 := Tryz.underlying61
  a75 := Tryz.isAgg61
  z75 := Tryz.sizeOf61
  v75 := Tryz.zeroValue61
  t76 := Tryz.underlying62
  a76 := Tryz.isAgg62
  z76 := Tryz.sizeOf62
  v76 := Tryz.zeroValue62
  t127 := Tryz.underlying93
  a127 := Tryz.isAgg93
  z127 := Tryz.sizeOf93
  v127 := Tryz.zeroValue93
  t164 := Tryz.underlying115
  a164 := Tryz.isAgg115
  z164 := Tryz.sizeOf115
  v164 := Tryz.zeroValue115 }
theorem Tryz.Builder_Extra_156 : Builder.Extra Tryz.prog Tryz.lays156_ren := {
  sizeBuilder := by kernel_rfl
  liesBuilder := by kernel_rfl
  t5 := Tryz.underlying5
  a5 := Tryz.isAgg5
  z5 := Tryz.sizeOf5
  v5 := Tryz.zeroValue5
  infoByte := by kernel_rfl
  cellsByte := by kernel_rfl
  sizeByte := by kernel_rfl
  neB5 := by decide }
open Go.RowKit in
theorem Tryz.strings_Join_none (a : Option Addr) (c : Nat) (sep : ByteArray) (w : World) :
    Calls Tryz.prog 54 #[.slice a 0 c, .string sep] w fun e w' => e = .returned (.string ⟨#[]⟩) ∧ w' = w := Any.strings_Join_none Tryz.lays156 Tryz.Builder_Extra_156 a c sep w
open Go.RowKit in
theorem Tryz.strings_Join (bk o c : Nat) (xs : List ByteArray) (sep : ByteArray) (w : World) (hcells : ∀ (j : Nat) x, xs[j]? = some x → w.cell? ⟨bk, o + j, none⟩ = some (.string x)) (hbk : bk < w.heap.size) (hN : xs.length ≤ 140737488355328) (hcap : xs.length ≤ c) (hlen : (Lib.join (xs.map (·.data.toList)) sep.data.toList).length ≤ 140737488355328) :
    Calls Tryz.prog 54 #[.slice (some ⟨bk, o, none⟩) xs.length c, .string sep] w fun e w' => e = .returned (.string ⟨(Lib.join (xs.map (·.data.toList)) sep.data.toList).toArray⟩) ∧ Below w.heap.size w w' := Any.strings_Join Tryz.lays156 Tryz.Builder_Extra_156 bk o c xs sep w hcells hbk hN hcap hlen
def Tryz.lays162_ren : Go.Shelf.Ren := ⟨fun | 162 => 38 | 232 => 62 | 227 => 63 | 234 => 64 | 236 => 65 | 228 => 82 | 271 => 83 | 151 => 84 | 120 => 100 | 197 => 94 | 152 => 101 | 260 => 112 | 137 => 115 | 119 => 116 | 224 => 98 | 225 => 97 | 217 => 96 | 266 => 113 | n => n, fun | 9 => 9 | 4 => 4 | 3 => 3 | 5 => 5 | 117 => 99 | 116 => 98 | 0 => 0 | 124 => 102 | 21 => 21 | 105 => 125 | 46 => 121 | 119 => 156 | 139 => 159 | 138 => 158 | n => n, fun | 3 => 2 | 4 => 3 | n => n⟩
theorem Tryz.lays162 : Go.Proofs.Lays.n162 Tryz.prog Tryz.lays162_ren := {
  mixed := by kernel_rfl
  f119 := Tryz.func116.trans (congrArg some (by kernel_rfl))
  f120 := Tryz.func100.trans (congrArg some (by kernel_rfl))
  f137 := Tryz.func115.trans (congrArg some (by kernel_rfl))
  f151 := Tryz.func84.trans (congrArg some (by kernel_rfl))
  f152 := Tryz.func101.trans (congrArg some (by kernel_rfl))
  f162 := Tryz.func38.trans (congrArg some (by kernel_rfl))
  f197 := Tryz.func94.trans (congrArg some (by kernel_rfl))
  f217 := Tryz.func96.trans (congrArg some (by kernel_rfl))
  f224 := Tryz.func98.trans (congrArg some (by kernel_rfl))
  f225 := Tryz.func97.trans (congrArg some (by kernel_rfl))
  f227 := Tryz.func63.trans (congrArg some (by kernel_rfl))
  f228 := Tryz.func82.trans (congrArg some (by kernel_rfl))
  f232 := Tryz.func62.trans (congrArg some (by kernel_rfl))
  f234 := Tryz.func64.trans (congrArg some (by kernel_rfl))
  f236 := Tryz.func65.trans (congrArg some (by kernel_rfl))
  f260 := Tryz.func112.trans (congrArg some (by kernel_rfl))
  f266 := Tryz.func113.trans (congrArg some (by kernel_rfl))
  f271 := Tryz.func83.trans (congrArg some (by kernel_rfl))
  t0 := Tryz.underlying0
  a0 := Tryz.isAgg0
  z0 := Tryz.sizeOf0
  v0 := Tryz.zeroValue0
  t3 := Tryz.underlying3
  a3 := Tryz.isAgg3
  z3 := Tryz.sizeOf3
  v3 := Tryz.zeroValue3
  t4 := Tryz.underlying4
  a4 := Tryz.isAgg4
  z4 := Tryz.sizeOf4
  v4 := Tryz.zeroValue4
  t5 := Tryz.underlying5
  a5 := Tryz.isAgg5
  z5 := Tryz.sizeOf5
  v5 := Tryz.zeroValue5
  t9 := Tryz.underlying9
  a9 := Tryz.isAgg9
  z9 := Tryz.sizeOf9
  v9 := Tryz.zeroValue9
  t21 := Tryz.underlying21
  a21 := Tryz.isAgg21
  z21 := Tryz.sizeOf21
  v21 := Tryz.zeroValue21
  t46 := Tryz.underlying121
  a46 := Tryz.isAgg121
  z46 := Tryz.sizeOf121
  v46 := Tryz.zeroValue121
  t105 := Tryz.underlying125
  a105 := Tryz.isAgg125
  z105 := Tryz.sizeOf125
  v105 := Tryz.zeroValue125
  t116 := Tryz.underlying98
  a116 := Tryz.isAgg98
  z116 := Tryz.sizeOf98
  t117 := Tryz.underlying99
  a117 := Tryz.isAgg99
  z117 := Tryz.sizeOf99
  v117 := Tryz.zeroValue99
  t119 := Tryz.underlying156
  a119 := Tryz.isAgg156
  z119 := Tryz.sizeOf156
  t124 := Tryz.underlying102
  a124 := Tryz.isAgg102
  z124 := Tryz.sizeOf102
  v124 := Tryz.zeroValue102
  t138 := Tryz.underlying158
  a138 := Tryz.isAgg158
  z138 := Tryz.sizeOf158
  v138 := Tryz.zeroValue158
  t139 := Tryz.underlying159
  a139 := Tryz.isAgg159
  z139 := Tryz.sizeOf159
  v139 := Tryz.zeroValue159
  g3 := by kernel_rfl
  g4 := by kernel_rfl }
open Go.RowKit in
theorem Tryz.strings_TrimRight_one (s : ByteArray) (c : UInt8) (hc : c.toNat < 128) (w : World) (hs : s.size ≤ 9223372036854775807) :
    Calls Tryz.prog 38 #[.string s, .string ⟨#[c]⟩] w fun e w' => e = .returned (.string ⟨(Lib.trimRightB s.data.toList c).toArray⟩) ∧ w' = w := Any.strings_TrimRight_one Tryz.lays162 s c hc w hs
open Go.RowKit in
theorem Tryz.Builder_String_any_k (B b : Nat) (l : List UInt8) (w : World) (h : Lib.IsBuilderF 59 5 B b (Lib.byteCells l) w) (hBw : B ≤ w.heap.size) :
    Calls Tryz.prog 31 #[.pointer (some ⟨b, 0, none⟩)] w fun e w' => e = .returned (.string ⟨l.toArray⟩) ∧ (Lib.IsBuilderF 59 5 B b (Lib.byteCells l) w' ∧ Below B w w' ∧ Lib.OthersKept 5 (some b) w w') := Any.Builder_String_any_k Tryz.lays169 Tryz.Builder_Extra_169 B b l w h hBw
def Tryz.laysM171_ren : Go.Shelf.Ren := ⟨fun | 171 => 29 | 243 => 55 | 246 => 76 | 283 => 89 | 284 => 90 | 285 => 91 | 286 => 92 | 129 => 108 | 317 => 107 | 318 => 109 | 319 => 110 | 320 => 111 | 337 => 122 | 338 => 123 | n => n, fun | 3 => 3 | 9 => 9 | 2 => 2 | 4 => 4 | 171 => 129 | 0 => 0 | 53 => 130 | 37 => 57 | 5 => 5 | 173 => 133 | 212 => 143 | 51 => 144 | 20 => 20 | 213 => 145 | 46 => 121 | 232 => 165 | 233 => 166 | n => n, fun | 17 => 1 | 18 => 6 | 19 => 7 | n => n⟩
theorem Tryz.laysM171 : Go.Proofs.LaysM.n171 Tryz.prog Tryz.laysM171_ren := {
  mixed := by kernel_rfl
  f129 := Tryz.func108.trans (congrArg some (by kernel_rfl))
  f171 := Tryz.func29.trans (congrArg some (by kernel_rfl))
  f243 := Tryz.func55.trans (congrArg some (by kernel_rfl))
  f246 := Tryz.func76.trans (congrArg some (by kernel_rfl))
  f283 := Tryz.func89.trans (congrArg some (by kernel_rfl))
  f284 := Tryz.func90.trans (congrArg some (by kernel_rfl))
  f285 := Tryz.func91.trans (congrArg some (by kernel_rfl))
  f286 := Tryz.func92.trans (congrArg some (by kernel_rfl))
  f317 := Tryz.func107.trans (congrArg some (by kernel_rfl))
  f318 := Tryz.func109.trans (congrArg some (by kernel_rfl))
  f319 := Tryz.func110.trans (congrArg some (by kernel_rfl))
  f320 := Tryz.func111.trans (congrArg some (by kernel_rfl))
  f337 := Tryz.func122.trans (congrArg some (by kernel_rfl))
  f338 := Tryz.func123.trans (congrArg some (by kernel_rfl))
  t0 := Tryz.underlying0
  a0 := Tryz.isAgg0
  z0 := Tryz.sizeOf0
  v0 := Tryz.zeroValue0
  t2 := Tryz.underlying2
  a2 := Tryz.isAgg2
  z2 := Tryz.sizeOf2
  v2 := Tryz.zeroValue2
  t3 := Tryz.underlying3
  a3 := Tryz.isAgg3
  z3 := Tryz.sizeOf3
  v3 := Tryz.zeroValue3
  t4 := Tryz.underlying4
  a4 := Tryz.isAgg4
  z4 := Tryz.sizeOf4
  v4 := Tryz.zeroValue4
  t5 := Tryz.underlying5
  a5 := Tryz.isAgg5
  z5 := Tryz.sizeOf5
  v5 := Tryz.zeroValue5
  t9 := Tryz.underlying9
  a9 := Tryz.isAgg9
  z9 := Tryz.sizeOf9
  v9 := Tryz.zeroValue9
  t20 := Tryz.underlying20
  a20 := Tryz.isAgg20
  z20 := Tryz.sizeOf20
  v20 := Tryz.zeroValue20
  t37 := Tryz.underlying57
  a37 := Tryz.isAgg57
  z37 := Tryz.sizeOf57
  v37 := Tryz.zeroValue57
  t46 := Tryz.underlying121
  a46 := Tryz.isAgg121
  z46 := Tryz.sizeOf121
  v46 := Tryz.zeroValue121
  t51 := Tryz.underlying144
  a51 := Tryz.isAgg144
  z51 := Tryz.sizeOf144
  v51 := Tryz.zeroValue144
  t53 := Tryz.underlying130
  a53 := Tryz.isAgg130
  z53 := Tryz.sizeOf130
  v53 := Tryz.zeroValue130
  t171 := Tryz.underlying129
  a171 := Tryz.isAgg129
  z171 := Tryz.sizeOf129
  v171 := Tryz.zeroValue129
  t173 := Tryz.underlying133
  a173 := Tryz.isAgg133
  z173 := Tryz.sizeOf133
  v173 := Tryz.zeroValue133
  t212 := Tryz.underlying143
  a212 := Tryz.isAgg143
  z212 := Tryz.sizeOf143
  v212 := Tryz.zeroValue143
  t213 := Tryz.underlying145
  a213 := Tryz.isAgg145
  z213 := Tryz.sizeOf145
  t232 := Tryz.underlying165
  a232 := Tryz.isAgg165
  z232 := Tryz.sizeOf165
  v232 := Tryz.zeroValue165
  t233 := Tryz.underlying166
  a233 := Tryz.isAgg166
  z233 := Tryz.sizeOf166
  v233 := Tryz.zeroValue166
  g17 := by kernel_rfl
  g18 := by kernel_rfl
  g19 := by kernel_rfl
  i0 := by kernel_rfl
  i2 := by kernel_rfl
  i3 := by kernel_rfl
  i4 := by kernel_rfl
  i5 := by kernel_rfl
  i9 := by kernel_rfl
  i20 := by kernel_rfl
  i37 := by kernel_rfl
  i46 := by kernel_rfl
  i51 := by kernel_rfl
  i53 := by kernel_rfl
  i171 := by kernel_rfl
  i173 := by kernel_rfl
  i212 := by kernel_rfl
  i232 := by kernel_rfl
  i233 := by kernel_rfl
  m17 := by kernel_rfl
  m18 := by kernel_rfl
  m19 := by kernel_rfl }
open Go.RowKit Go.Sort Go.Lib in
theorem Tryz.strconv_Itoa (n : Int) (h0 : -9223372036854775808 ≤ n) (h1 : n ≤ 9223372036854775807) (w : World) (htab : Lib.TabIs Tryz.prog w "internal/strconv.uint64pow10" .u64 Lib.pow10Tab) :
    Calls Tryz.prog 29 #[.int .i64 n] w fun e w' => e = .returned (.string ⟨(Lib.itoa n).toArray⟩) ∧ ∃ k os, w' = grow (w.drewN k) os := Any.strconv_Itoa Tryz.laysM171 n h0 h1 w htab
def Tryz.laysC172_ren : Go.Shelf.Ren := ⟨fun | 172 => 85 | 244 => 102 | 245 => 103 | 247 => 117 | 279 => 118 | 280 => 119 | 281 => 120 | 282 => 121 | 287 => 124 | 316 => 125 | 171 => 29 | 205 => 126 | 321 => 127 | 322 => 128 | 243 => 55 | 246 => 76 | 283 => 89 | 284 => 90 | 285 => 91 | 286 => 92 | 129 => 108 | 317 => 107 | 318 => 109 | 319 => 110 | 320 => 111 | 337 => 122 | 338 => 123 | n => n, fun | 9 => 9 | 3 => 3 | 75 => 61 | 76 => 62 | 4 => 4 | 5 => 5 | 167 => 149 | 37 => 57 | 0 => 0 | 85 => 150 | 2 => 2 | 168 => 152 | 53 => 130 | 175 => 160 | 46 => 121 | 210 => 163 | 127 => 93 | 145 => 170 | 143 => 168 | 21 => 21 | 171 => 129 | 173 => 133 | 212 => 143 | 51 => 144 | 20 => 20 | 213 => 145 | 232 => 165 | 233 => 166 | 80 => 67 | n => n, fun | 15 => 4 | 16 => 5 | 17 => 1 | 18 => 6 | 19 => 7 | n => n⟩
theorem Tryz.laysC172 : Go.Proofs.LaysC.n172 Tryz.prog Tryz.laysC172_ren := {
  mixed := by kernel_rfl
  f129 := Tryz.func108.trans (congrArg some (by kernel_rfl))
  f171 := Tryz.func29.trans (congrArg some (by kernel_rfl))
  f172 := Tryz.func85.trans (congrArg some (by kernel_rfl))
  f205 := Tryz.func126.trans (congrArg some (by kernel_rfl))
  f243 := Tryz.func55.trans (congrArg some (by kernel_rfl))
  f244 := Tryz.func102.trans (congrArg some (by kernel_rfl))
  f245 := Tryz.func103.trans (congrArg some (by kernel_rfl))
  f246 := Tryz.func76.trans (congrArg some (by kernel_rfl))
  f247 := Tryz.func117.trans (congrArg some (by kernel_rfl))
  f279 := Tryz.func118.trans (congrArg some (by kernel_rfl))
  f280 := Tryz.func119.trans (congrArg some (by kernel_rfl))
  f281 := Tryz.func120.trans (congrArg some (by kernel_rfl))
  f282 := Tryz.func121.trans (congrArg some (by kernel_rfl))
  f283 := Tryz.func89.trans (congrArg some (by kernel_rfl))
  f284 := Tryz.func90.trans (congrArg some (by kernel_rfl))
  f285 := Tryz.func91.trans (congrArg some (by kernel_rfl))
  f286 := Tryz.func92.trans (congrArg some (by kernel_rfl))
  f287 := Tryz.func124.trans (congrArg some (by kernel_rfl))
  f316 := Tryz.func125.trans (congrArg some (by kernel_rfl))
  f317 := Tryz.func107.trans (congrArg some (by kernel_rfl))
  f318 := Tryz.func109.trans (congrArg some (by kernel_rfl))
  f319 := Tryz.func110.trans (congrArg some (by kernel_rfl))
  f320 := Tryz.func111.trans (congrArg some (by kernel_rfl))
  f321 := Tryz.func127.trans (congrArg some (by kernel_rfl))
  f322 := Tryz.func128.trans (congrArg some (by kernel_rfl))
  f337 := Tryz.func122.trans (congrArg some (by kernel_rfl))
  f338 := Tryz.func123.trans (congrArg some (by kernel_rfl))
  t0 := Tryz.underlying0
  a0 := Tryz.isAgg0
  z0 := Tryz.sizeOf0
  v0 := Tryz.zeroValue0
  t2 := Tryz.underlying2
  a2 := Tryz.isAgg2
  z2 := Tryz.sizeOf2
  v2 := Tryz.zeroValue2
  t3 := Tryz.underlying3
  a3 := Tryz.isAgg3
  z3 := Tryz.sizeOf3
  v3 := Tryz.zeroValue3
  t4 := Tryz.underlying4
  a4 := Tryz.isAgg4
  z4 := Tryz.sizeOf4
  v4 := Tryz.zeroValue4
  t5 := Tryz.underlying5
  a5 := Tryz.isAgg5
  z5 := Tryz.sizeOf5
  v5 := Tryz.zeroValue5
  t9 := Tryz.underlying9
  a9 := Tryz.isAgg9
  z9 := Tryz.sizeOf9
  v9 := Tryz.zeroValue9
  t20 := Tryz.underlying20
  a20 := Tryz.isAgg20
  z20 := Tryz.sizeOf20
  v20 := Tryz.zeroValue20
  t21 := Tryz.underlying21
  a21 := Tryz.isAgg21
  z21 := Tryz.sizeOf21
  v21 := Tryz.zeroValue21
  t37 := Tryz.underlying57
  a37 := Tryz.isAgg57
  z37 := Tryz.sizeOf57
  v37 := Tryz.zeroValue57
  t46 := Tryz.underlying121
  a46 := Tryz.isAgg121
  z46 := Tryz.sizeOf121
  v46 := Tryz.zeroValue121
  t51 := Tryz.underlying144
  a51 := Tryz.isAgg144
  z51 := Tryz.sizeOf144
  v51 := Tryz.zeroValue144
  t53 := Tryz.underlying130
  a53 := Tryz.isAgg130
  z53 := Tryz.sizeOf130
  v53 := Tryz.zeroValue130
  t75 := Tryz.underlying61
  a75 := Tryz.isAgg61
  z75 := Tryz.sizeOf61
  v75 := Tryz.zeroValue61
  t76 := Tryz.underlying62
  a76 := Tryz.isAgg62
  z76 := Tryz.sizeOf62
  v76 := Tryz.zeroValue62
  t85 := Tryz.underlying150
  a85 := Tryz.isAgg150
  z85 := Tryz.sizeOf150
  v85 := Tryz.zeroValue150
  t127 := Tryz.underlying93
  a127 := Tryz.isAgg93
  z127 := Tryz.sizeOf93
  v127 := Tryz.zeroValue93
  t143 := Tryz.underlying168
  a143 := Tryz.isAgg168
  z143 := Tryz.sizeOf168
  v143 := Tryz.zeroValue168
  t145 := Tryz.underlying170
  a145 := Tryz.isAgg170
  z145 := Tryz.sizeOf170
  v145 := Tryz.zeroValue170
  t167 := Tryz.underlying149
  a167 := Tryz.isAgg149
  z167 := Tryz.sizeOf149
  v167 := Tryz.zeroValue149
  t168 := Tryz.underlying152
  a168 := Tryz.isAgg152
  z168 := Tryz.sizeOf152
  v168 := Tryz.zeroValue152
  t171 := Tryz.underlying129
  a171 := Tryz.isAgg129
  z171 := Tryz.sizeOf129
  v171 := Tryz.zeroValue129
  t173 := Tryz.underlying133
  a173 := Tryz.isAgg133
  z173 := Tryz.sizeOf133
  v173 := Tryz.zeroValue133
  t175 := Tryz.underlying160
  a175 := Tryz.isAgg160
  z175 := Tryz.sizeOf160
  v175 := Tryz.zeroValue160
  t210 := Tryz.underlying163
  a210 := Tryz.isAgg163
  z210 := Tryz.sizeOf163
  v210 := Tryz.zeroValue163
  t212 := Tryz.underlying143
  a212 := Tryz.isAgg143
  z212 := Tryz.sizeOf143
  v212 := Tryz.zeroValue143
  t213 := Tryz.underlying145
  a213 := Tryz.isAgg145
  z213 := Tryz.sizeOf145
  t232 := Tryz.underlying165
  a232 := Tryz.isAgg165
  z232 := Tryz.sizeOf165
  v232 := Tryz.zeroValue165
  t233 := Tryz.underlying166
  a233 := Tryz.isAgg166
  z233 := Tryz.sizeOf166
  v233 := Tryz.zeroValue166
  g15 := by kernel_rfl
  g16 := by kernel_rfl
  g17 := by kernel_rfl
  g18 := by kernel_rfl
  g19 := by kernel_rfl
  t80 := Tryz.underlying67
  a80 := Tryz.isAgg67
  z80 := Tryz.sizeOf67
  v80 := Tryz.zeroValue67
  i0 := by kernel_rfl
  i2 := by kernel_rfl
  i3 := by kernel_rfl
  i4 := by kernel_rfl
  i5 := by kernel_rfl
  i9 := by kernel_rfl
  i20 := by kernel_rfl
  i21 := by kernel_rfl
  i37 := by kernel_rfl
  i46 := by kernel_rfl
  i51 := by kernel_rfl
  i53 := by kernel_rfl
  i75 := by kernel_rfl
  i76 := by kernel_rfl
  i80 := by kernel_rfl
  i85 := by kernel_rfl
  i127 := by kernel_rfl
  i143 := by kernel_rfl
  i145 := by kernel_rfl
  i167 := by kernel_rfl
  i168 := by kernel_rfl
  i171 := by kernel_rfl
  i173 := by kernel_rfl
  i175 := by kernel_rfl
  i210 := by kernel_rfl
  i212 := by kernel_rfl
  i232 := by kernel_rfl
  i233 := by kernel_rfl
  m15 := by kernel_rfl
  m16 := by kernel_rfl
  m17 := by kernel_rfl
  m18 := by kernel_rfl
  m19 := by kernel_rfl
  c0 := by kernel_rfl
  c2 := by kernel_rfl
  c3 := by kernel_rfl
  c4 := by kernel_rfl
  c5 := by kernel_rfl
  c9 := by kernel_rfl
  c20 := by kernel_rfl
  c21 := by kernel_rfl
  c37 := by kernel_rfl
  c46 := by kernel_rfl
  c51 := by kernel_rfl
  c53 := by kernel_rfl
  c75 := by kernel_rfl
  c76 := by kernel_rfl
  c80 := by kernel_rfl
  c85 := by kernel_rfl
  c127 := by kernel_rfl
  c143 := by kernel_rfl
  c145 := by kernel_rfl
  c167 := by kernel_rfl
  c168 := by kernel_rfl
  c171 := by kernel_rfl
  c173 := by kernel_rfl
  c175 := by kernel_rfl
  c210 := by kernel_rfl
  c212 := by kernel_rfl
  c213 := by kernel_rfl
  c232 := by kernel_rfl
  c233 := by kernel_rfl }
open Go.RowKit in
theorem Tryz.strconv_Atoi_ok (s : ByteArray) (hmax : s.size ≤ 9223372036854775806) (v : Int) (h : Lib.atoiAll s.data.toList = .ok v) (w : World) :
    Calls Tryz.prog 85 #[.string s] w fun e w' => e = .returned (.tuple #[.int .i64 v, .nilIface]) ∧ (w' = w ∨ ∃ t, w' = Lib.bytesWorld w 5 t) := Any.strconv_Atoi_ok Tryz.laysC172 s hmax v h w
open Go.RowKit in
theorem Tryz.strconv_Atoi_syntax (s : ByteArray) (hlim : s.size ≤ 281474976710656) (h : Lib.atoiAll s.data.toList = Lib.NumEnd.syntax) (ev : Value) (w : World) (hv : w.cell? ⟨4, 0, none⟩ = some ev) (hev : ev = .nilIface ∨ ∃ te pe, ev = .iface te pe) :
    Calls Tryz.prog 85 #[.string s] w fun e w' => ∃ N, e = .returned (.tuple #[.int .i64 (0), .iface 152 (.pointer (some ⟨N, 0, none⟩))]) ∧ w.heap.size ≤ N ∧ w'.heap[N]? = some (.cells #[.string ⟨#[65, 116, 111, 105]⟩, .string s, ev] 163 (0, 0)) ∧ Below w.heap.size w w' := Any.strconv_Atoi_syntax Tryz.laysC172 s hlim h ev w hv hev
open Go.RowKit in
theorem Tryz.strconv_Atoi_range (s : ByteArray) (hlim : s.size ≤ 281474976710656) (h : Lib.atoiAll s.data.toList = .range) (ev : Value) (w : World) (hv : w.cell? ⟨5, 0, none⟩ = some ev) (hev : ev = .nilIface ∨ ∃ te pe, ev = .iface te pe) :
    Calls Tryz.prog 85 #[.string s] w fun e w' => ∃ N, e = .returned (.tuple #[.int .i64 (Lib.atoiSat s.data.toList), .iface 152 (.pointer (some ⟨N, 0, none⟩))]) ∧ w.heap.size ≤ N ∧ w'.heap[N]? = some (.cells #[.string ⟨#[65, 116, 111, 105]⟩, .string s, ev] 163 (0, 0)) ∧ Below w.heap.size w w' := Any.strconv_Atoi_range Tryz.laysC172 s hlim h ev w hv hev
def Tryz.lays145_ren : Go.Shelf.Ren := ⟨fun | 145 => 37 | 220 => 61 | 219 => 81 | 217 => 96 | 225 => 97 | 224 => 98 | 267 => 99 | 266 => 113 | 314 => 114 | n => n, fun | 9 => 9 | 4 => 4 | 59 => 73 | 3 => 3 | 5 => 5 | 46 => 121 | 146 => 147 | 51 => 144 | n => n, fun | 1 => 0 | n => n⟩
theorem Tryz.lays145 : Go.Proofs.Lays.n145 Tryz.prog Tryz.lays145_ren := {
  mixed := by kernel_rfl
  f145 := Tryz.func37.trans (congrArg some (by kernel_rfl))
  f217 := Tryz.func96.trans (congrArg some (by kernel_rfl))
  f219 := Tryz.func81.trans (congrArg some (by kernel_rfl))
  f220 := Tryz.func61.trans (congrArg some (by kernel_rfl))
  f224 := Tryz.func98.trans (congrArg some (by kernel_rfl))
  f225 := Tryz.func97.trans (congrArg some (by kernel_rfl))
  f266 := Tryz.func113.trans (congrArg some (by kernel_rfl))
  f267 := Tryz.func99.trans (congrArg some (by kernel_rfl))
  f314 := Tryz.func114.trans (congrArg some (by kernel_rfl))
  t3 := Tryz.underlying3
  a3 := Tryz.isAgg3
  z3 := Tryz.sizeOf3
  v3 := Tryz.zeroValue3
  t4 := Tryz.underlying4
  a4 := Tryz.isAgg4
  z4 := Tryz.sizeOf4
  v4 := Tryz.zeroValue4
  t5 := Tryz.underlying5
  a5 := Tryz.isAgg5
  z5 := Tryz.sizeOf5
  v5 := Tryz.zeroValue5
  t9 := Tryz.underlying9
  a9 := Tryz.isAgg9
  z9 := Tryz.sizeOf9
  v9 := Tryz.zeroValue9
  t46 := Tryz.underlying121
  a46 := Tryz.isAgg121
  z46 := Tryz.sizeOf121
  v46 := Tryz.zeroValue121
  t51 := Tryz.underlying144
  a51 := Tryz.isAgg144
  z51 := Tryz.sizeOf144
  v51 := Tryz.zeroValue144
  t59 := Tryz.underlying73
  a59 := Tryz.isAgg73
  z59 := Tryz.sizeOf73
  v59 := Tryz.zeroValue73
  t146 := Tryz.underlying147
  a146 := Tryz.isAgg147
  z146 := Tryz.sizeOf147
  v146 := Tryz.zeroValue147
  g1 := by kernel_rfl }
open Go.RowKit Go.Lib in
theorem Tryz.strings_Cut (s sep : ByteArray) (m : Int) (w : World) (hs : s.size < 4294967281) (hm : w.cell? ⟨0, 0, none⟩ = some (.int .i64 m)) :
    Calls Tryz.prog 37 #[.string s, .string sep] w fun e w' => e = .returned (.tuple #[.string ⟨(Lib.cut s.data.toList sep.data.toList).1.toArray⟩, .string ⟨(Lib.cut s.data.toList sep.data.toList).2.1.toArray⟩, .bool (Lib.cut s.data.toList sep.data.toList).2.2]) ∧ ∃ n, w' = w.drewN n := Any.strings_Cut Tryz.lays145 s sep m w hs hm
def Tryz.laysGw17_ren : Go.Shelf.Ren := ⟨fun | 17 => 72 | 15 => 87 | 20 => 105 | n => n, fun | 9 => 9 | 23 => 114 | 4 => 4 | 3 => 3 | 0 => 0 | 21 => 21 | n => n, fun | n => n⟩
theorem Tryz.laysGw17 : Go.Proofs.LaysGw.n17 Tryz.prog Tryz.laysGw17_ren := {
  mixed := by kernel_rfl
  f15 := Tryz.func87.trans (congrArg some (by kernel_rfl))
  f17 := Tryz.func72.trans (congrArg some (by kernel_rfl))
  f20 := Tryz.func105.trans (congrArg some (by kernel_rfl))
  t0 := Tryz.underlying0
  a0 := Tryz.isAgg0
  z0 := Tryz.sizeOf0
  v0 := Tryz.zeroValue0
  i0 := by kernel_rfl
  t3 := Tryz.underlying3
  a3 := Tryz.isAgg3
  z3 := Tryz.sizeOf3
  v3 := Tryz.zeroValue3
  i3 := by kernel_rfl
  t4 := Tryz.underlying4
  a4 := Tryz.isAgg4
  z4 := Tryz.sizeOf4
  v4 := Tryz.zeroValue4
  i4 := by kernel_rfl
  t9 := Tryz.underlying9
  a9 := Tryz.isAgg9
  z9 := Tryz.sizeOf9
  v9 := Tryz.zeroValue9
  i9 := by kernel_rfl
  t21 := Tryz.underlying21
  a21 := Tryz.isAgg21
  z21 := Tryz.sizeOf21
  v21 := Tryz.zeroValue21
  i21 := by kernel_rfl
  t23 := Tryz.underlying114
  a23 := Tryz.isAgg114
  z23 := Tryz.sizeOf114
  v23 := Tryz.zeroValue114
  i23 := by kernel_rfl }
open Go.RowKit Go.Lib in
theorem Tryz.strings_ContainsFunc_runes (g : Nat) (lb : Array Value) (eg : ∀ args w, (callFunc g args).run Tryz.prog w = .ok (.enter g args) w) (p : Nat → Bool) (s : ByteArray) (w : World) (hp : PredAtRunes Tryz.prog g lb p w) :
    Calls Tryz.prog 72 #[.string s, .func (.func g) #[] lb] w fun e w' => e = .returned (.bool (decide (0 ≤ Lib.idxFunc p true s))) ∧ Below w.heap.size w w' := Any.strings_ContainsFunc_runes Tryz.laysGw17 g lb eg p s w hp
def Tryz.lays146_ren : Go.Shelf.Ren := ⟨fun | 146 => 36 | 221 => 60 | 268 => 78 | 138 => 79 | 143 => 80 | 195 => 93 | 197 => 94 | 218 => 95 | 219 => 81 | 260 => 112 | 217 => 96 | 225 => 97 | 224 => 98 | 267 => 99 | 266 => 113 | 314 => 114 | n => n, fun | 9 => 9 | 31 => 68 | 3 => 3 | 4 => 4 | 0 => 0 | 105 => 125 | 21 => 21 | 5 => 5 | 46 => 121 | 119 => 156 | 139 => 159 | 138 => 158 | 146 => 147 | 51 => 144 | n => n, fun | 1 => 0 | 3 => 2 | 4 => 3 | n => n⟩
theorem Tryz.lays146 : Go.Proofs.Lays.n146 Tryz.prog Tryz.lays146_ren := {
  mixed := by kernel_rfl
  f138 := Tryz.func79.trans (congrArg some (by kernel_rfl))
  f143 := Tryz.func80.trans (congrArg some (by kernel_rfl))
  f146 := Tryz.func36.trans (congrArg some (by kernel_rfl))
  f195 := Tryz.func93.trans (congrArg some (by kernel_rfl))
  f197 := Tryz.func94.trans (congrArg some (by kernel_rfl))
  f217 := Tryz.func96.trans (congrArg some (by kernel_rfl))
  f218 := Tryz.func95.trans (congrArg some (by kernel_rfl))
  f219 := Tryz.func81.trans (congrArg some (by kernel_rfl))
  f221 := Tryz.func60.trans (congrArg some (by kernel_rfl))
  f224 := Tryz.func98.trans (congrArg some (by kernel_rfl))
  f225 := Tryz.func97.trans (congrArg some (by kernel_rfl))
  f260 := Tryz.func112.trans (congrArg some (by kernel_rfl))
  f266 := Tryz.func113.trans (congrArg some (by kernel_rfl))
  f267 := Tryz.func99.trans (congrArg some (by kernel_rfl))
  f268 := Tryz.func78.trans (congrArg some (by kernel_rfl))
  f314 := Tryz.func114.trans (congrArg some (by kernel_rfl))
  t0 := Tryz.underlying0
  a0 := Tryz.isAgg0
  z0 := Tryz.sizeOf0
  v0 := Tryz.zeroValue0
  t3 := Tryz.underlying3
  a3 := Tryz.isAgg3
  z3 := Tryz.sizeOf3
  v3 := Tryz.zeroValue3
  t4 := Tryz.underlying4
  a4 := Tryz.isAgg4
  z4 := Tryz.sizeOf4
  v4 := Tryz.zeroValue4
  t5 := Tryz.underlying5
  a5 := Tryz.isAgg5
  z5 := Tryz.sizeOf5
  v5 := Tryz.zeroValue5
  t9 := Tryz.underlying9
  a9 := Tryz.isAgg9
  z9 := Tryz.sizeOf9
  v9 := Tryz.zeroValue9
  t21 := Tryz.underlying21
  a21 := Tryz.isAgg21
  z21 := Tryz.sizeOf21
  v21 := Tryz.zeroValue21
  t31 := Tryz.underlying68
  a31 := Tryz.isAgg68
  z31 := Tryz.sizeOf68
  v31 := Tryz.zeroValue68
  t46 := Tryz.underlying121
  a46 := Tryz.isAgg121
  z46 := Tryz.sizeOf121
  v46 := Tryz.zeroValue121
  t51 := Tryz.underlying144
  a51 := Tryz.isAgg144
  z51 := Tryz.sizeOf144
  v51 := Tryz.zeroValue144
  t105 := Tryz.underlying125
  a105 := Tryz.isAgg125
  z105 := Tryz.sizeOf125
  v105 := Tryz.zeroValue125
  t119 := Tryz.underlying156
  a119 := Tryz.isAgg156
  z119 := Tryz.sizeOf156
  t138 := Tryz.underlying158
  a138 := Tryz.isAgg158
  z138 := Tryz.sizeOf158
  v138 := Tryz.zeroValue158
  t139 := Tryz.underlying159
  a139 := Tryz.isAgg159
  z139 := Tryz.sizeOf159
  v139 := Tryz.zeroValue159
  t146 := Tryz.underlying147
  a146 := Tryz.isAgg147
  z146 := Tryz.sizeOf147
  v146 := Tryz.zeroValue147
  g1 := by kernel_rfl
  g3 := by kernel_rfl
  g4 := by kernel_rfl }
open Go.RowKit Go.Lib in
theorem Tryz.strings_Split (s sep : ByteArray) (m : Int) (w : World) (hs : s.size < 4294967281) (hm : w.cell? ⟨0, 0, none⟩ = some (.int .i64 m)) (h1 : 1 ≤ sep.size) :
    Calls Tryz.prog 36 #[.string s, .string sep] w fun e w' =>
      e = .returned (.slice (some ⟨w.heap.size, 0, none⟩) (Lib.countB s sep + 1) (Lib.countB s sep + 1)) ∧ w' = w.alloc (.cells ((Lib.splitB sep 0 (Lib.countB s sep) s).map Value.string).toArray 9) := Any.strings_Split Tryz.lays146 (by kernel_rfl) s sep m w hs hm h1
end Go.Proofs

/- The contracts of strings.Split (with a separator of one byte at least) and strings.Join, in the form of the printed contracts. -/
namespace Go.Proofs.YtdaijpjjilmkkaaGreatDoor.Pr
open Go.RowKit Go.Shelf Go.Proofs.YtdaijpjjilmkkaaGreatDoorW.PrintWords Go.Proofs.YtdaijpjjilmkkaaGreatDoorW.PrintLast Go.Proofs.YtdaijpjjilmkkaaGreatDoorW.PrintMore
set_option linter.unusedVariables false
def strings_Split.f (a0 a1 : ByteArray) : Option (List ByteArray) := if a0.size < 4294967281 ∧ 1 ≤ a1.size then some (Lib.splitB a1 0 (Lib.countB a0 a1) a0) else none
theorem strings_Split.calls (a0 a1 : ByteArray) (r : List ByteArray) (w : World) (h : strings_Split.f a0 a1 = some r) (hG : GW w) :
    Calls Tryz.prog 36 #[.string a0, .string a1] w fun e w' => ∃ v0_ : Value, e = .returned (v0_) ∧ Kd.R Kd.string 9 w' w.heap.size (fun _ => True) v0_ r ∧ Below w.heap.size w w' := by
  (unfold strings_Split.f at h); (by_cases hc : a0.size < 4294967281 ∧ 1 ≤ a1.size)
  · (rw [if_pos hc] at h); (obtain rfl := Option.some.inj h); (obtain ⟨m, hm⟩ := hG.len); (refine (Tryz.strings_Split a0 a1 m w hc.1 hm hc.2).mono ?_); (rintro e w' ⟨rfl, rfl⟩); (refine ⟨_, rfl, ?_, (Below.refl _ _).alloc (Nat.le_refl _) _⟩); (have hl : (Lib.splitB a1 0 (Lib.countB a0 a1) a0).length = Lib.countB a0 a1 + 1 := Lib.splitB_all a1 hc.2 0 _ a0 rfl); (have hn : Lib.countB a0 a1 ≤ a0.size := Lib.countB_le a1 hc.2 _ a0 (Nat.le_refl _)); (have ho := World.ownsRow_lit (base := w.heap.size) (e := 9) (size := 1) w ((Lib.splitB a1 0 (Lib.countB a0 a1) a0).map Value.string).toArray (Lib.countB a0 a1 + 1) (Nat.le_refl _) (by unfold maxLen; omega) (by simp [hl])); (refine Kd.R_of_own (enc := Value.string) (h1 := fun _ => rfl) ?_ (fun _ _ => trivial)); (rw [hl]); (exact ho)
  · rw [if_neg hc] at h; cases h
def strings_Join.f (l0 : List ByteArray) (a1 : ByteArray) : Option ByteArray :=
  if l0.length ≤ 140737488355328 ∧ (Lib.join (l0.map (·.data.toList)) a1.data.toList).length ≤ 140737488355328 then some ⟨(Lib.join (l0.map (·.data.toList)) a1.data.toList).toArray⟩ else none
theorem strings_Join.calls (A0 : Option Addr) (c0 : Nat) (l0 : List ByteArray) (a1 : ByteArray) (r : ByteArray) (w : World) (hr0 : Kd.C Kd.string w A0 l0.length l0) (hc0 : l0.length ≤ c0) (h : strings_Join.f l0 a1 = some r) :
    Calls Tryz.prog 54 #[.slice A0 l0.length c0, .string a1] w fun e w' => e = .returned (.string r) ∧ Below w.heap.size w w' := by
  (unfold strings_Join.f at h); (by_cases hc : l0.length ≤ 140737488355328 ∧ (Lib.join (l0.map (·.data.toList)) a1.data.toList).length ≤ 140737488355328)
  · (rw [if_pos hc] at h); (obtain rfl := Option.some.inj h)
    cases hl : l0 with
    | nil =>
      (refine (Tryz.strings_Join_none A0 c0 a1 w).mono ?_); (rintro e w' ⟨rfl, rfl⟩)
      exact ⟨rfl, Below.refl _ _⟩
    | cons x xs =>
      have hat : ∀ (j : Nat) y, l0[j]? = some y → ∃ ad, A0 = some ad ∧ w.cell? (ad.add j) = some (.string y) := by
        (intro j y hj); (have hlt : j < l0.length := (List.getElem?_eq_some_iff.1 hj).1); (obtain ⟨ad, e, hcell⟩ := Kd.at_string hr0 (j : Int) (by omega) (by omega)); (rw [Int.toNat_natCast] at hcell); (have hr : rdOf ByteArray.empty l0 (j : Int) = y := by simp [rdOf, hj]); (exact ⟨ad, e, by rw [hcell, hr]⟩)
      obtain ⟨ad, rfl, h0⟩ := hat 0 x (by rw [hl]; rfl)
      have hspot : ad.spot = none := by
        (unfold World.cell? at h0); (have e0 : ad.add 0 = ad := by unfold Addr.add; rw [if_pos rfl]); (rw [e0] at h0); (split at h0)
        · cases hs : ad.spot with
          | none => rfl
          | some n => simp [hs] at h0
        · cases h0
      (obtain ⟨bk, o, sp⟩ := ad); (obtain rfl : sp = none := hspot); (have hlt := World.block_lt_of_cell? w _ h0); (have hadd : ∀ j, (⟨bk, o, none⟩ : Addr).add j = ⟨bk, o + j, none⟩ := by intro j; unfold Addr.add; split <;> simp_all); (rw [hadd] at h0 hlt); (rw [← hl]); (refine (Tryz.strings_Join bk o c0 l0 a1 w (fun j y hj => ?_) hlt hc.1 hc0 hc.2).mono ?_)
      · (obtain ⟨ad2, e2, h2⟩ := hat j y hj); (obtain rfl := Option.some.inj e2); (rw [hadd] at h2); (exact h2)
      · (rintro e w' ⟨rfl, hb⟩); (exact ⟨rfl, hb⟩)
  · rw [if_neg hc] at h; cases h
end Go.Proofs.YtdaijpjjilmkkaaGreatDoor.Pr

namespace Go.Proofs.YtdaijpjjilmkkaaGreatDoor.Pr
open Go.RowKit Go.Proofs.YtdaijpjjilmkkaaGreatDoorW.PrintWords Go.Proofs.YtdaijpjjilmkkaaGreatDoorW.PrintLast Go.Proofs.YtdaijpjjilmkkaaGreatDoorW.PrintMore
attribute [local go_sem] max2_int min2_int max_two min_two max_three min_three max_four min_four   -- for this text's walks alone
set_option linter.unusedVariables false
set_option linter.unusedSimpArgs false
def element_words.f (l0 : List ByteArray) : Option (ByteArray) := (strings_Join.f l0 (⟨#[32]⟩ : ByteArray)).bind fun t327 => (if t327.size + 1 ≤ 9223372036854775807 then (some (t327 ++ (⟨#[10]⟩ : ByteArray))) else (none))
set_option maxHeartbeats 8000000 in
set_option maxRecDepth 100000 in
theorem element_words.calls (A0 : Option Addr) (c0 : Nat) (l0 : List ByteArray) (r : ByteArray) (w : World) (hr0 : Kd.C Kd.string w A0 l0.length l0) (hc0 : l0.length ≤ c0) (h : element_words.f l0 = some r) :
    Calls Tryz.prog 28 #[.slice A0 l0.length c0] w fun e w' => e = .returned (.string r) ∧ Below w.heap.size w w' := by
  (have HR0 := Aside0.mk hr0); (have HC0 := Aside0.mk hc0); (clear hr0 hc0); (have HB := Aside0.mk (Below.refl w.heap.size w)); (have H : ((strings_Join.f l0 (⟨#[32]⟩ : ByteArray)).bind fun t327 => (if t327.size + 1 ≤ 9223372036854775807 then (some (t327 ++ (⟨#[10]⟩ : ByteArray))) else (none))) = some r := h); (clear h); (replace H := Option.bind_eq_some_iff.mp H); (obtain ⟨t327, A20, H⟩ := H); (replace H : (if t327.size + 1 ≤ 9223372036854775807 then (some (t327 ++ (⟨#[10]⟩ : ByteArray))) else (none)) = some r := H); (have A2 := Aside0.mk A20); (clear A20); (by_cases c3 : t327.size + 1 ≤ 9223372036854775807)
  · (rw [if_pos c3] at H); (have c3b0 := eq_true c3); (have c3b1 : decide (t327.size + 1 ≤ 9223372036854775807) = true := decide_eq_true c3); (try have c3b2 : (9223372036854775807 < t327.size + 1) = False := eq_false (Nat.not_lt.2 c3)); (obtain rfl := Option.some.inj H); (go_enter Tryz.func28, Tryz.ntmps28); (go_wp2_with (first | ((with_reducible refine gate_callee (f := 54) rfl ?_); refine Gl (some 4) Tryz.func54 #[.slice A0 l0.length c0, .string (⟨#[32]⟩ : ByteArray)] ?_; (with_reducible refine (strings_Join.calls _ _ l0 (⟨#[32]⟩ : ByteArray) t327 _ ?side1 ?side2 A2.out).mono ?_); (case side1 => repeat (first | exact HR0.out | (with_reducible refine Kd.C_alloc ?_ _) | (with_reducible refine Kd.C_drewN ?_ _) | (with_reducible refine Kd.C_drew ?_))); (case side2 => exact HC0.out); rintro e w4 ⟨rfl, hb⟩; refine ⟨_, rfl, ?_⟩; replace HB := Bs hb))); (go_ret); (exact ⟨Er, Hb⟩)
  · (rw [if_neg c3] at H); (exact absurd H (by simp))
mutual
def codepoint_Parse.l0 : Nat → ByteArray → Int → Int → Int → Option (Int × Int)
  | 0, _, _, _, _ => none
  | k + 1, x0, x4, x11, x12 => if x12 < x11 then (if 0 ≤ x12 then (if x12 < (x0.size : Int) then (if (bt x0 x12) ≥ 48 then (codepoint_Parse.j1 k x0 x4 (bt x0 x12) x11 x12 (decide ((bt x0 x12) ≤ 57))) else (codepoint_Parse.j1 k x0 x4 (bt x0 x12) x11 x12 false)) else (none)) else (none)) else (if x0.toList = ([] : List UInt8) then (some (0, 3)) else ((codepoint_Hex.f x4).bind fun t328 => (if t328.toList = x0.toList then (some (x4, 0)) else (some (0, 3)))))
def codepoint_Parse.j1 : Nat → ByteArray → Int → Int → Int → Int → Bool → Option (Int × Int)
  | 0, _, _, _, _, _, _ => none
  | k + 1, x0, x4, x6, x11, x12, x18 => if x18 = true then (codepoint_Parse.l0 k x0 (wrap64 ((wrap64 (x4 * 16)) + ((x6 - 48) % 256))) x11 (wrap64 (x12 + 1))) else (if x6 ≥ 65 then (if x6 ≤ 70 then (codepoint_Parse.l0 k x0 (wrap64 ((wrap64 ((wrap64 (x4 * 16)) + ((x6 - 65) % 256))) + 10)) x11 (wrap64 (x12 + 1))) else (some (0, 3))) else (some (0, 3)))
end
def codepoint_Parse.f (k : Nat) (a0 : ByteArray) : Option (Int × Int) := if (a0.size : Int) > 6 then (some (0, 3)) else (codepoint_Parse.l0 k a0 0 (a0.size : Int) 0)
theorem codepoint_Parse.mono_l : ∀ k, (∀ y0 y1 y2 y3, LeO (codepoint_Parse.l0 k y0 y1 y2 y3) (codepoint_Parse.l0 (k + 1) y0 y1 y2 y3)) ∧ (∀ y0 y1 y2 y3 y4 y5, LeO (codepoint_Parse.j1 k y0 y1 y2 y3 y4 y5) (codepoint_Parse.j1 (k + 1) y0 y1 y2 y3 y4 y5))
  | 0 => ⟨fun _ _ _ _ r h => by simp [codepoint_Parse.l0] at h, fun _ _ _ _ _ _ r h => by simp [codepoint_Parse.j1] at h⟩
  | k + 1 => by
    (obtain ⟨ih0, ih1⟩ := codepoint_Parse.mono_l k); (refine ⟨?_, ?_⟩)
    · (intro y0 y1 y2 y3); (unfold codepoint_Parse.l0)
      repeat' first
      | (with_reducible exact ih0 _ _ _ _)
      | (with_reducible exact ih1 _ _ _ _ _ _)
      | (with_reducible exact LeO.refl _)
      | (with_reducible exact LeO.none _)
      | (with_reducible refine LeO.ite ?_ ?_)
      | (with_reducible refine LeO.bind ?_ (fun _ => ?_))
    · (intro y0 y1 y2 y3 y4 y5); (unfold codepoint_Parse.j1)
      repeat' first
      | (with_reducible exact ih0 _ _ _ _)
      | (with_reducible exact ih1 _ _ _ _ _ _)
      | (with_reducible exact LeO.refl _)
      | (with_reducible exact LeO.none _)
      | (with_reducible refine LeO.ite ?_ ?_)
      | (with_reducible refine LeO.bind ?_ (fun _ => ?_))
theorem codepoint_Parse.mono : ∀ a0 k, LeO (codepoint_Parse.f k a0) (codepoint_Parse.f (k + 1) a0) := by
  (intro a0 k); (obtain ⟨ih0, ih1⟩ := codepoint_Parse.mono_l k); (unfold codepoint_Parse.f)
  repeat' first
      | (with_reducible exact ih0 _ _ _ _)
      | (with_reducible exact ih1 _ _ _ _ _ _)
      | (with_reducible exact LeO.refl _)
      | (with_reducible exact LeO.none _)
      | (with_reducible refine LeO.ite ?_ ?_)
      | (with_reducible refine LeO.bind ?_ (fun _ => ?_))
set_option maxHeartbeats 8000000 in
set_option maxRecDepth 100000 in
theorem codepoint_Parse.calls (k : Nat) (a0 : ByteArray) (r1 : Int) (r2 : Int) (w : World) (h : codepoint_Parse.f k a0 = some (r1, r2)) :
    Calls Tryz.prog 70 #[.string a0] w fun e w' => e = .returned (.tuple #[.int .i64 r1, .int .i64 r2]) ∧ Below w.heap.size w w' := by
  (have HB := Aside0.mk (Below.refl w.heap.size w)); (have H : (if (a0.size : Int) > 6 then (some (0, 3)) else (codepoint_Parse.l0 k a0 0 (a0.size : Int) 0)) = some (r1, r2) := h); (clear h); (by_cases c2 : (a0.size : Int) > 6)
  · (rw [if_pos c2] at H); (have c2b0 : decide (6 < (a0.size : Int)) = true := decide_eq_true c2); (have c2b1 : decide (6 < a0.size) = true := decide_eq_true (by omega)); (clear c2); (simp only [Option.some.injEq, Prod.mk.injEq] at H); (obtain ⟨rfl, rfl⟩ := H); (go_enter Tryz.func70, Tryz.ntmps70); (go_wp2); (go_ret2); (exact ⟨Er, Hb⟩)
  · (rw [if_neg c2] at H); (have c2b0 : decide (6 < (a0.size : Int)) = false := decide_eq_false c2); (have c2b1 : decide (6 < a0.size) = false := decide_eq_false (by omega)); (clear c2); (have H' := Aside0.mk H); (clear H); (go_enter Tryz.func70, Tryz.ntmps70); (go_wp2); (go_loopg [4, 12] k (fun kq v4 v12 w' => ∃ (x4_1 : Int) (x12_1 : Int), v4 = .int .i64 x4_1 ∧ v12 = .int .i64 x12_1 ∧ Aside0 (codepoint_Parse.l0 kq a0 x4_1 (a0.size : Int) x12_1 = some (r1, r2)) ∧ Aside0 (kq ≤ k) ∧ Aside0 (Below w.heap.size w w')))
    case atStart => exact ⟨(0), (0), (by first | rfl | (simp; done) | (simp [*]; done) | exact congrArg Value.bool (ne_nil_bool _) | exact congrArg Value.bool (eq_nil_bool _)), (by first | rfl | (simp; done) | (simp [*]; done) | exact congrArg Value.bool (ne_nil_bool _) | exact congrArg Value.bool (eq_nil_bool _)), H', ⟨Nat.le_refl _⟩, ⟨Hb⟩⟩
    case round =>
      (clear H'); (try clear c2); (try clear c2b0); (try clear c2b1); (try clear p2); (obtain ⟨x4_1, x12_1, rfl, rfl, HA, HK1, HB⟩ := hrel)
      cases gk with
      | zero => exact absurd HA.out (by simp [codepoint_Parse.l0])
      | succ k1 =>
        (have H := HA.out); (clear HA); (simp only [codepoint_Parse.l0] at H); (by_cases c3 : x12_1 < (a0.size : Int))
        · (rw [if_pos c3] at H); (have c3b0 : decide (x12_1 < (a0.size : Int)) = true := decide_eq_true c3); (clear c3); (by_cases c4 : 0 ≤ x12_1)
          · (rw [if_pos c4] at H); (have c4b0 : decide (0 ≤ x12_1) = true := decide_eq_true c4); (clear c4); (by_cases c5 : x12_1 < (a0.size : Int))
            · (rw [if_pos c5] at H); (have c5b0 : decide (x12_1 < (a0.size : Int)) = true := decide_eq_true c5); (clear c5); (have HC7 := Aside0.mk H); (clear H); (have p6 : 0 ≤ (x12_1 : Int) := Oa); (have q6 : x12_1 < (a0.size : Int) := Oa); (have hx6 := bt_at a0 x12_1); (replace p6 := eq_true p6); (replace q6 := eq_true q6); (go_upto_region 9 with (fail)); (go_cut [18] (fun v18 wc => ∃ (kq : Nat) (x18_6 : Bool), v18 = .bool x18_6 ∧ Aside0 (codepoint_Parse.j1 kq a0 x4_1 (bt a0 x12_1) (a0.size : Int) x12_1 x18_6 = some (r1, r2)) ∧ Aside0 (kq ≤ k1) ∧ Aside0 (Below w.heap.size w wc)))
              case first =>
                (have H := HC7.out); (clear HC7); (by_cases c8 : (bt a0 x12_1) ≥ 48)
                · (rw [if_pos c8] at H); (have c8b0 : decide (48 ≤ (bt a0 x12_1)) = true := decide_eq_true c8); (clear c8); (first | rw [c8b0] | (simp only [i64_w, i32_w]; rw [c8b0]) | skip); (have H' := Aside0.mk H); (clear H); (go_wp2); (go_meet)
                  case rel => exact ⟨_, (decide ((bt a0 x12_1) ≤ 57)), (by first | rfl | (simp; done) | (simp [*]; done) | exact congrArg Value.bool (ne_nil_bool _) | exact congrArg Value.bool (eq_nil_bool _)), H', ⟨by have := HK1.out; first | omega | exact Nat.le_refl _⟩, ⟨Hb⟩⟩
                · (rw [if_neg c8] at H); (have c8b0 : decide (48 ≤ (bt a0 x12_1)) = false := decide_eq_false c8); (clear c8); (first | rw [c8b0] | (simp only [i64_w, i32_w]; rw [c8b0]) | skip); (have H' := Aside0.mk H); (clear H); (go_wp2); (go_meet)
                  case rel => exact ⟨_, (false), (by first | rfl | (simp; done) | (simp [*]; done) | exact congrArg Value.bool (ne_nil_bool _) | exact congrArg Value.bool (eq_nil_bool _)), H', ⟨by have := HK1.out; first | omega | exact Nat.le_refl _⟩, ⟨Hb⟩⟩
              case rest =>
                (clear HC7); (try clear c2); (try clear c2b0); (try clear c2b1); (try clear p2); (try clear c3); (try clear c3b0); (try clear c4); (try clear c4b0); (try clear c5); (try clear c5b0); (try clear p6); (try clear q6); (try clear hx6); (try clear c7); (try clear c8); (try clear c8b0); (try clear p2); (try clear p6); (try clear q6); (obtain ⟨kq, x18_6, rfl, HA, HJ6, HB⟩ := hcut)
                cases kq with
                | zero => exact absurd HA.out (by simp [codepoint_Parse.j1])
                | succ kj6 =>
                  (have H := HA.out); (clear HA); (simp only [codepoint_Parse.j1] at H); (by_cases c9 : x18_6 = true)
                  · (subst c9); (have H1 : (codepoint_Parse.l0 kj6 a0 (wrap64 ((wrap64 (x4_1 * 16)) + (((bt a0 x12_1) - 48) % 256))) (a0.size : Int) (wrap64 (x12_1 + 1))) = some (r1, r2) := by rw [if_pos rfl] at H; exact H); (clear H); (have H := H1); (clear H1); (have H' := Aside0.mk H); (clear H); (go_wp2); (go_roundg kj6)
                    case measure => have := HK1.out; have := HJ6.out; omega
                    case rel => exact ⟨(wrap64 ((wrap64 (x4_1 * 16)) + (((bt a0 x12_1) - 48) % 256))), (wrap64 (x12_1 + 1)), (by first | rfl | (simp; done) | (simp [*]; done) | exact congrArg Value.bool (ne_nil_bool _) | exact congrArg Value.bool (eq_nil_bool _)), (by first | rfl | (simp; done) | (simp [*]; done) | exact congrArg Value.bool (ne_nil_bool _) | exact congrArg Value.bool (eq_nil_bool _)), H', ⟨by have := HK1.out; have := HJ6.out; omega⟩, ⟨Hb⟩⟩
                  · (replace c9 := Bool.eq_false_iff.mpr c9); (subst c9); (have H1 : (if (bt a0 x12_1) ≥ 65 then (if (bt a0 x12_1) ≤ 70 then (codepoint_Parse.l0 kj6 a0 (wrap64 ((wrap64 ((wrap64 (x4_1 * 16)) + (((bt a0 x12_1) - 65) % 256))) + 10)) (a0.size : Int) (wrap64 (x12_1 + 1))) else (some (0, 3))) else (some (0, 3))) = some (r1, r2) := by rw [if_neg (show ¬ (false = true) by decide)] at H; exact H); (clear H); (have H := H1); (clear H1); (by_cases c10 : (bt a0 x12_1) ≥ 65)
                    · (rw [if_pos c10] at H); (have c10b0 : decide (65 ≤ (bt a0 x12_1)) = true := decide_eq_true c10); (clear c10); (by_cases c11 : (bt a0 x12_1) ≤ 70)
                      · (rw [if_pos c11] at H); (have c11b0 : decide ((bt a0 x12_1) ≤ 70) = true := decide_eq_true c11); (clear c11); (have H' := Aside0.mk H); (clear H); (go_wp2); (go_roundg kj6)
                        case measure => have := HK1.out; have := HJ6.out; omega
                        case rel => exact ⟨(wrap64 ((wrap64 ((wrap64 (x4_1 * 16)) + (((bt a0 x12_1) - 65) % 256))) + 10)), (wrap64 (x12_1 + 1)), (by first | rfl | (simp; done) | (simp [*]; done) | exact congrArg Value.bool (ne_nil_bool _) | exact congrArg Value.bool (eq_nil_bool _)), (by first | rfl | (simp; done) | (simp [*]; done) | exact congrArg Value.bool (ne_nil_bool _) | exact congrArg Value.bool (eq_nil_bool _)), H', ⟨by have := HK1.out; have := HJ6.out; omega⟩, ⟨Hb⟩⟩
                      · (rw [if_neg c11] at H); (have c11b0 : decide ((bt a0 x12_1) ≤ 70) = false := decide_eq_false c11); (clear c11); (simp only [Option.some.injEq, Prod.mk.injEq] at H); (obtain ⟨rfl, rfl⟩ := H); (go_wp2); (go_ret2); (exact ⟨Er, Hb⟩)
                    · (rw [if_neg c10] at H); (have c10b0 : decide (65 ≤ (bt a0 x12_1)) = false := decide_eq_false c10); (clear c10); (simp only [Option.some.injEq, Prod.mk.injEq] at H); (obtain ⟨rfl, rfl⟩ := H); (go_wp2); (go_ret2); (exact ⟨Er, Hb⟩)
            · (rw [if_neg c5] at H); (exact absurd H (by simp))
          · (rw [if_neg c4] at H); (exact absurd H (by simp))
        · (rw [if_neg c3] at H); (have c3b0 : decide (x12_1 < (a0.size : Int)) = false := decide_eq_false c3); (clear c3); (by_cases c12 : a0.toList = ([] : List UInt8))
          · (rw [if_pos c12] at H); (have c12b0 : (a0.toList == ([] : List UInt8)) = true := beq_iff_eq.mpr c12); (have c12b1 : (a0.toList != ([] : List UInt8)) = false := bne_eq_false_iff_eq.mpr c12); (clear c12); (simp only [Option.some.injEq, Prod.mk.injEq] at H); (obtain ⟨rfl, rfl⟩ := H); (go_wp2); (go_ret2); (exact ⟨Er, Hb⟩)
          · (rw [if_neg c12] at H); (have c12b0 : (a0.toList == ([] : List UInt8)) = false := beq_eq_false_iff_ne.mpr c12); (have c12b1 : (a0.toList != ([] : List UInt8)) = true := bne_iff_ne.mpr c12); (replace H := Option.bind_eq_some_iff.mp H); (obtain ⟨t328, A130, H⟩ := H); (replace H : (if t328.toList = a0.toList then (some (x4_1, 0)) else (some (0, 3))) = some (r1, r2) := H); (have A13 := Aside0.mk A130); (clear A130); (by_cases c14 : t328.toList = a0.toList)
            · (rw [if_pos c14] at H); (have c14b0 : (t328.toList == a0.toList) = true := beq_iff_eq.mpr c14); (have c14b1 : (t328.toList != a0.toList) = false := bne_eq_false_iff_eq.mpr c14); (clear c14); (simp only [Option.some.injEq, Prod.mk.injEq] at H); (obtain ⟨rfl, rfl⟩ := H); (go_wp2_with (first | (go_at_call 57; (with_reducible refine (codepoint_Hex.calls x4_1 t328 _ A13.out).mono ?_); rintro e w15 ⟨rfl, hb⟩; replace HB := Bs hb))); (go_ret2); (exact ⟨Er, Hb⟩)
            · (rw [if_neg c14] at H); (have c14b0 : (t328.toList == a0.toList) = false := beq_eq_false_iff_ne.mpr c14); (have c14b1 : (t328.toList != a0.toList) = true := bne_iff_ne.mpr c14); (simp only [Option.some.injEq, Prod.mk.injEq] at H); (obtain ⟨rfl, rfl⟩ := H); (go_wp2_with (first | (go_at_call 57; (with_reducible refine (codepoint_Hex.calls x4_1 t328 _ A13.out).mono ?_); rintro e w16 ⟨rfl, hb⟩; replace HB := Bs hb))); (go_ret2); (exact ⟨Er, Hb⟩)
def escape_ParseCodes.l0 : Nat → List Int → List ByteArray → Int → Int → Option (List Int × Int)
  | 0, _, _, _, _ => none
  | k + 1, x4, x12, x13, x14 => if x14 < x13 then (if 0 ≤ x14 then (if x14 < (x12.length : Int) then ((codepoint_Parse.f k (rdOf ByteArray.empty x12 x14)).bind fun bt333 => (if bt333.2 = 0 then (if x4.length < 17592186044416 then (escape_ParseCodes.l0 k (x4 ++ [bt333.1]) x12 x13 (wrap64 (x14 + 1))) else (none)) else (some (([] : List Int), 3)))) else (none)) else (none)) else (some (x4, 0))
def escape_ParseCodes.f (k : Nat) (a0 : ByteArray) : Option (List Int × Int) := if a0.toList = ([] : List UInt8) then (some (([] : List Int), 0)) else ((strings_Split.f a0 (⟨#[32]⟩ : ByteArray)).bind fun t329 => (escape_ParseCodes.l0 k ([] : List Int) t329 (t329.length : Int) 0))
theorem escape_ParseCodes.mono_l : ∀ k, (∀ y0 y1 y2 y3, LeO (escape_ParseCodes.l0 k y0 y1 y2 y3) (escape_ParseCodes.l0 (k + 1) y0 y1 y2 y3))
  | 0 => fun _ _ _ _ r h => by simp [escape_ParseCodes.l0] at h
  | k + 1 => by
    have ih0 := escape_ParseCodes.mono_l k
    · (intro y0 y1 y2 y3); (unfold escape_ParseCodes.l0)
      repeat' first
      | (with_reducible exact ih0 _ _ _ _)
      | (with_reducible exact codepoint_Parse.mono _ _)
      | (with_reducible exact LeO.refl _)
      | (with_reducible exact LeO.none _)
      | (with_reducible refine LeO.ite ?_ ?_)
      | (with_reducible refine LeO.bind ?_ (fun _ => ?_))
theorem escape_ParseCodes.mono : ∀ a0 k, LeO (escape_ParseCodes.f k a0) (escape_ParseCodes.f (k + 1) a0) := by
  (intro a0 k); (have ih0 := escape_ParseCodes.mono_l k); (unfold escape_ParseCodes.f)
  repeat' first
      | (with_reducible exact ih0 _ _ _ _)
      | (with_reducible exact codepoint_Parse.mono _ _)
      | (with_reducible exact LeO.refl _)
      | (with_reducible exact LeO.none _)
      | (with_reducible refine LeO.ite ?_ ?_)
      | (with_reducible refine LeO.bind ?_ (fun _ => ?_))
set_option maxHeartbeats 8000000 in
set_option maxRecDepth 100000 in
theorem escape_ParseCodes.calls (k : Nat) (a0 : ByteArray) (r1 : List Int) (r2 : Int) (w : World) (h : escape_ParseCodes.f k a0 = some (r1, r2)) (hG : GW w) :
    Calls Tryz.prog 67 #[.string a0] w fun e w' => ∃ v0_ : Value, e = .returned (.tuple #[v0_, .int .i64 r2]) ∧ Kd.R (Kd.int .i64) 3 w' w.heap.size (fun _ => True) v0_ r1 ∧ Below w.heap.size w w' := by
  (have HG := Aside0.mk hG); (clear hG); (have HB := Aside0.mk (Below.refl w.heap.size w)); (have H : (if a0.toList = ([] : List UInt8) then (some (([] : List Int), 0)) else ((strings_Split.f a0 (⟨#[32]⟩ : ByteArray)).bind fun t329 => (escape_ParseCodes.l0 k ([] : List Int) t329 (t329.length : Int) 0))) = some (r1, r2) := h); (clear h); (by_cases c2 : a0.toList = ([] : List UInt8))
  · (rw [if_pos c2] at H); (have c2b0 : (a0.toList == ([] : List UInt8)) = true := beq_iff_eq.mpr c2); (have c2b1 : (a0.toList != ([] : List UInt8)) = false := bne_eq_false_iff_eq.mpr c2); (clear c2); (simp only [Option.some.injEq, Prod.mk.injEq] at H); (obtain ⟨rfl, rfl⟩ := H); (go_enter Tryz.func67, Tryz.ntmps67); (go_wp2); (go_ret2); (exact ⟨_, Er, Kn, Hb⟩)
  · (rw [if_neg c2] at H); (have c2b0 : (a0.toList == ([] : List UInt8)) = false := beq_eq_false_iff_ne.mpr c2); (have c2b1 : (a0.toList != ([] : List UInt8)) = true := bne_iff_ne.mpr c2); (replace H := Option.bind_eq_some_iff.mp H); (obtain ⟨t329, A30, H⟩ := H); (replace H : (escape_ParseCodes.l0 k ([] : List Int) t329 (t329.length : Int) 0) = some (r1, r2) := H); (have A3 := Aside0.mk A30); (clear A30); (have H' := Aside0.mk H); (clear H); (go_enter Tryz.func67, Tryz.ntmps67); (go_wp2_with (first | ((with_reducible refine gate_callee (f := 36) rfl ?_); refine Gl (some 12) Tryz.func36 #[.string a0, .string (⟨#[32]⟩ : ByteArray)] ?_; (with_reducible refine (strings_Split.calls a0 (⟨#[32]⟩ : ByteArray) t329 _ A3.out ?sideG).mono ?_); (case sideG => exact GW.below HG.out Hb); rintro e w4 ⟨v330, rfl, ho0, hb⟩; refine ⟨_, rfl, ?_⟩; have HO331 := Aside0.mk (Kd.R_lower ho0 (below_size Hb)); replace HB := Bs hb; (try clear ho0); obtain ⟨Ao5, co5, eo5⟩ := Kd.R_slice HO331.out; subst eo5))); (go_loopg [4, 14] k (fun kq v4 v14 w' => ∃ (x4_1 : List Int) (x14_1 : Int), v14 = .int .i64 x14_1 ∧ Aside0 (escape_ParseCodes.l0 kq x4_1 t329 (t329.length : Int) x14_1 = some (r1, r2)) ∧ Aside0 (kq ≤ k) ∧ Aside0 (Kd.R (Kd.int .i64) 3 w' w.heap.size (fun _ => True) v4 x4_1) ∧ Aside0 (Kd.R Kd.string 9 w' w.heap.size (fun _ => True) (.slice Ao5 t329.length co5) t329) ∧ Aside0 (Below w.heap.size w w')))
    case atStart => exact ⟨(([] : List Int)), (0), (by first | rfl | (simp; done) | (simp [*]; done) | exact congrArg Value.bool (ne_nil_bool _) | exact congrArg Value.bool (eq_nil_bool _)), H', ⟨Nat.le_refl _⟩, ⟨Kn⟩, ⟨by (with_reducible repeat (first | apply Kd.R_alloc | apply Kd.R_drewN | apply Kd.R_drew)); exact HO331.out⟩, ⟨Hb⟩⟩
    case round =>
      (clear H'); (try clear c2); (try clear c2b0); (try clear c2b1); (try clear p2); (try clear c3); (obtain ⟨x4_1, x14_1, rfl, HA, HK1, HO_4, HO_12, HB⟩ := hrel)
      cases gk with
      | zero => exact absurd HA.out (by simp [escape_ParseCodes.l0])
      | succ k1 =>
        (have H := HA.out); (clear HA); (simp only [escape_ParseCodes.l0] at H); (by_cases c6 : x14_1 < (t329.length : Int))
        · (rw [if_pos c6] at H); (have c6b0 : decide (x14_1 < (t329.length : Int)) = true := decide_eq_true c6); (clear c6); (by_cases c7 : 0 ≤ x14_1)
          · (rw [if_pos c7] at H); (have c7b0 : decide (0 ≤ x14_1) = true := decide_eq_true c7); (clear c7); (by_cases c8 : x14_1 < (t329.length : Int))
            · (rw [if_pos c8] at H); (have c8b0 : decide (x14_1 < (t329.length : Int)) = true := decide_eq_true c8); (clear c8); (replace H := Option.bind_eq_some_iff.mp H); (obtain ⟨⟨t333, t334⟩, A90, H⟩ := H); (replace H : (if t334 = 0 then (if x4_1.length < 17592186044416 then (escape_ParseCodes.l0 k1 (x4_1 ++ [t333]) t329 (t329.length : Int) (wrap64 (x14_1 + 1))) else (none)) else (some (([] : List Int), 3))) = some (r1, r2) := H); (have A9 := Aside0.mk A90); (clear A90); (by_cases c10 : t334 = 0)
              · (rw [if_pos c10] at H); (have c10b0 : (t334 == 0) = true := beq_iff_eq.mpr c10); (have c10b1 : (t334 != 0) = false := bne_eq_false_iff_eq.mpr c10); (clear c10); (by_cases c11 : x4_1.length < 17592186044416)
                · (rw [if_pos c11] at H); (have LMc11 := Aside0.mk c11); (clear c11); (obtain ⟨y335, hy335⟩ : ∃ y_ : List Int, y_ = (x4_1 ++ [t333]) := ⟨_, rfl⟩); (replace H : (escape_ParseCodes.l0 k1 y335 t329 (t329.length : Int) (wrap64 (x14_1 + 1))) = some (r1, r2) := by first | (rw [hy335]; with_reducible exact H) | (have H2_ := (Option.bind_some _ _).symm.trans H; rw [hy335]; with_reducible exact H2_) | (have H2_ := (Option.bind_some _ _).symm.trans H; with_reducible exact H2_) | with_reducible exact H | (rw [hy335]; exact H) | exact H); (have Ny335 := Aside0.mk hy335); (clear hy335); (have H' := Aside0.mk H); (clear H); (have p332 : 0 ≤ (x14_1 : Int) := Oa); (have q332 : x14_1 < (t329.length : Int) := Oa); (obtain ⟨ad332, e332, hx332_0⟩ := Kd.at_string (Kd.R_reads' HO_12.out).2.2 x14_1 p332 q332); (cases e332); (replace p332 := eq_true p332); (replace q332 := eq_true q332); (go_wp2_with (first | ((with_reducible refine gate_callee (f := 70) rfl ?_); refine Gl (some 20) Tryz.func70 #[.string (rdOf ByteArray.empty t329 x14_1)] ?_; (with_reducible refine (codepoint_Parse.calls k1 (rdOf ByteArray.empty t329 x14_1) t333 t334 _ A9.out).mono ?_); rintro e w12 ⟨rfl, hb⟩; refine ⟨_, rfl, ?_⟩; replace HO_4 := Aside0.mk (Kd.R_below (Kr HO_4) hb); replace HO_12 := Aside0.mk (Kd.R_below (Kr HO_12) hb); replace HB := Bs hb) | ((with_reducible refine gate_builtin (b := .append) (xs := #[.tmp 25, .tmp 27]) rfl ?_); at_builtin; refine Kd.R_append (Kd.int .i64) (w0 := w) w.heap.size rfl (.tmp 25) (.tmp 27) 47 3 (.int .i64 0) 8 rfl Tryz.underlying47 info3 rfl (by decide) (by omega) u4 x4_1 t333 [.int .i64 t333] (fun _ => True) (fun _ => False) rfl rfl ?aP (fun _ hk => hk.elim) ?aF ?aO ?aB ?aS ?aL ?_; (case aP => exact rfl); (case aB => exact Hb); (case aF => exact (fun _ _ => trivial)); (case aO => exact (Kr HO_4)); (case aS => exact (below_size Hb)); (case aL => have := LMc11.out; omega); intro v336 w13 ho hb hg hat; rw [← Ny335.out] at ho; have HO337 := Aside0.mk (ho); replace HO_12 := Aside0.mk (Kd.R_over' (Kr HO_12) (Kd.R_typed (Kr HO_4)) (by decide) hg); replace HB := Aside0.mk (hb); clear HO_4; clear ho hb hg hat))); (go_roundg k1)
                  case measure => have := HK1.out; omega
                  case rel => exact ⟨(y335), (wrap64 (x14_1 + 1)), (by first | rfl | (simp; done) | (simp [*]; done) | exact congrArg Value.bool (ne_nil_bool _) | exact congrArg Value.bool (eq_nil_bool _)), H', ⟨by have := HK1.out; omega⟩, ⟨by (with_reducible repeat (first | apply Kd.R_alloc | apply Kd.R_drewN | apply Kd.R_drew)); exact HO337.out⟩, ⟨by (with_reducible repeat (first | apply Kd.R_alloc | apply Kd.R_drewN | apply Kd.R_drew)); exact HO_12.out⟩, ⟨Hb⟩⟩
                · (rw [if_neg c11] at H); (exact absurd H (by simp))
              · (rw [if_neg c10] at H); (have c10b0 : (t334 == 0) = false := beq_eq_false_iff_ne.mpr c10); (have c10b1 : (t334 != 0) = true := bne_iff_ne.mpr c10); (simp only [Option.some.injEq, Prod.mk.injEq] at H); (obtain ⟨rfl, rfl⟩ := H); (have p332 : 0 ≤ (x14_1 : Int) := Oa); (have q332 : x14_1 < (t329.length : Int) := Oa); (obtain ⟨ad332, e332, hx332_0⟩ := Kd.at_string (Kd.R_reads' HO_12.out).2.2 x14_1 p332 q332); (cases e332); (replace p332 := eq_true p332); (replace q332 := eq_true q332); (go_wp2_with (first | ((with_reducible refine gate_callee (f := 70) rfl ?_); refine Gl (some 20) Tryz.func70 #[.string (rdOf ByteArray.empty t329 x14_1)] ?_; (with_reducible refine (codepoint_Parse.calls k1 (rdOf ByteArray.empty t329 x14_1) t333 t334 _ A9.out).mono ?_); rintro e w14 ⟨rfl, hb⟩; refine ⟨_, rfl, ?_⟩; replace HO_4 := Aside0.mk (Kd.R_below (Kr HO_4) hb); replace HO_12 := Aside0.mk (Kd.R_below (Kr HO_12) hb); replace HB := Bs hb))); (go_ret2); (exact ⟨_, Er, Kn, Hb⟩)
            · (rw [if_neg c8] at H); (exact absurd H (by simp))
          · (rw [if_neg c7] at H); (exact absurd H (by simp))
        · (rw [if_neg c6] at H); (have c6b0 : decide (x14_1 < (t329.length : Int)) = false := decide_eq_false c6); (clear c6); (simp only [Option.some.injEq, Prod.mk.injEq] at H); (obtain ⟨rfl, rfl⟩ := H); (go_wp2); (go_ret2); (exact ⟨_, Er, by (with_reducible repeat (first | apply Kd.R_alloc | apply Kd.R_drewN | apply Kd.R_drew)); exact HO_4.out, Hb⟩)
end Go.Proofs.YtdaijpjjilmkkaaGreatDoor.Pr

/- Plain laws of the notation of code points: the digits of a code point, their reading, and lists of bytes; the reference's functions and the program's compute them. -/
namespace Go.Proofs.YtdaijpjjilmkkaaGreatDoor.Pr
open Go.RowKit Go.Proofs.YtdaijpjjilmkkaaGreatDoorW.PrintWords Go.Proofs.YtdaijpjjilmkkaaGreatDoorW.PrintLast Go.Proofs.YtdaijpjjilmkkaaGreatDoorW.PrintMore
set_option linter.unusedVariables false
set_option linter.unusedSimpArgs false
theorem wrap_id {x : Int} (h0 : -9223372036854775808 ≤ x) (h1 : x ≤ 9223372036854775807) : wrap64 x = x := by unfold wrap64; omega
theorem wrap_succ (i : Nat) (h : i < 9223372036854775807) : wrap64 ((i : Int) + 1) = ((i + 1 : Nat) : Int) := by unfold wrap64; omega
abbrev ofL (l : List UInt8) : ByteArray := ⟨l.toArray⟩
theorem ofL_eq (s : ByteArray) : ofL s.data.toList = s := by apply ByteArray.ext; simp
theorem ofL_list (l : List UInt8) : (ofL l).data.toList = l := by simp
theorem ofL_size (l : List UInt8) : (ofL l).size = l.length := rfl
theorem ofL_toList (l : List UInt8) : (ofL l).toList = l := by rw [Lib.toList_data]
theorem ofL_append (a b : List UInt8) : ofL a ++ ofL b = ofL (a ++ b) := by apply ByteArray.ext; simp
theorem ofL_extract (l : List UInt8) (i j : Nat) : (ofL l).extract i j = ofL ((l.drop i).take (j - i)) := by
  rw [← ofL_eq ((ofL l).extract i j), Lib.extract_data]
theorem bt_ofL (l : List UInt8) (i : Nat) (h : i < l.length) : bt (ofL l) (i : Int) = ((l[i]).toNat : Int) := by
  (unfold bt); (have : ((i : Int)).toNat < (ofL l).size := by rw [ofL_size]; simpa using h); (rw [dif_pos this]); (rfl)
theorem strOfNums_ofL (xs : List Int) : strOfNums xs = ofL (xs.map fun n => UInt8.ofNat n.toNat) := rfl
def hexL (n : Nat) : List UInt8 := (hexNums n).map fun d => UInt8.ofNat d.toNat
theorem hexL_length (n : Nat) : (hexL n).length = hexLen n := by simp [hexL, hexNums]
theorem hexL_at (n j : Nat) (h : j < hexLen n) : (hexL n)[j]? = some (UInt8.ofNat (hexDig (n / 16 ^ (hexLen n - 1 - j) % 16)).toNat) := by
  simp [hexL, hexNums, h]
theorem hexOf_ofL (n : Nat) (h : n ≤ 1114111) : hexOf (n : Int) = ofL (hexL n) := by
  (unfold hexOf); (rw [if_pos (by omega), Int.toNat_natCast]); (rfl)
theorem digit_cut (d : Nat) (h : d < 16) : (⟨#[48, 49, 50, 51, 52, 53, 54, 55, 56, 57, 65, 66, 67, 68, 69, 70]⟩ : ByteArray).extract d (d + 1) = ofL [UInt8.ofNat (hexDig d).toNat] := by
  match d, h with
  | 0, _ | 1, _ | 2, _ | 3, _ | 4, _ | 5, _ | 6, _ | 7, _ | 8, _ | 9, _ | 10, _ | 11, _ | 12, _ | 13, _ | 14, _ | 15, _ => rfl
  | n + 16, h => omega
theorem ref_hex_step (n : Nat) (hn : n ≤ 1114111) (d : Nat) : ∀ (j k : Nat), j + d = hexLen n → d < k →
    r01_Hex.l0 k ((n / 16 ^ j : Nat) : Int) (ofL ((hexL n).drop d)) = some (ofL (hexL n)) := by
  have hL := hexLen_le n
  induction d with
  | zero =>
    (intro j k hj hk); (obtain ⟨k, rfl⟩ : ∃ m, k = m + 1 := ⟨k - 1, by omega⟩); (obtain rfl : j = hexLen n := by omega); (simp only [r01_Hex.l0])
    rw [hexLen_stop n hn, List.drop_zero, ofL_size, hexL_length, if_neg (by omega), if_neg (by decide)]
  | succ d ih =>
    (intro j k hj hk); (obtain ⟨k, rfl⟩ : ∃ m, k = m + 1 := ⟨k - 1, by omega⟩); (have hjl : j < hexLen n := by omega); (have hsz : (ofL ((hexL n).drop (d + 1))).size = j := by rw [ofL_size, List.length_drop, hexL_length]; omega); (have hq1 : n / 16 ^ (j + 1) = n / 16 ^ j / 16 := by rw [Nat.pow_succ, ← Nat.div_div_eq_div_mul]); (have hle : n / 16 ^ j ≤ 1114111 := Nat.le_trans (Nat.div_le_self _ _) hn)
    have hd : (hexL n).drop d = UInt8.ofNat (hexDig (n / 16 ^ j % 16)).toNat :: (hexL n).drop (d + 1) := by
      (have hdl : d < (hexL n).length := by rw [hexL_length]; omega); (have := hexL_at n d (by omega)); (rw [List.getElem?_eq_getElem hdl, show hexLen n - 1 - d = j by omega] at this); (rw [List.drop_eq_getElem_cons hdl, Option.some.inj this])
    (have hpos : 4 ≤ j → 0 < n / 16 ^ j := fun h => hexLen_go n j hn hjl h); (have hih := ih (j + 1) k (by omega) (by omega)); (rw [hd, hq1] at hih); (obtain ⟨q, hq⟩ : ∃ q, n / 16 ^ j = q := ⟨_, rfl⟩); (rw [hq] at hle hpos hih ⊢)
    have hmod : Int.tmod (q : Int) 16 = ((q % 16 : Nat) : Int) := by
      rw [Int.tmod_eq_emod_of_nonneg (by omega)]; rfl
    have hdiv : Int.tdiv (q : Int) 16 = ((q / 16 : Nat) : Int) := by
      rw [Int.tdiv_eq_ediv_of_nonneg (by omega)]; rfl
    (have hlt : q % 16 < 16 := Nat.mod_lt _ (by decide)); (have hcut := digit_cut _ hlt); (simp only [r01_Hex.l0, hmod, hdiv]); (rw [wrap_succ _ (by omega), wrap_id (by omega) (by omega), Int.toNat_natCast, Int.toNat_natCast, hcut, ofL_append, hsz, ofL_size]); (have hone : [UInt8.ofNat (hexDig (q % 16)).toNat].length = 1 := rfl); (rw [hone]); (by_cases h4 : j < 4)
    · (rw [if_pos (by omega), if_pos (by omega), if_pos (by omega), if_pos (by omega), if_pos (by omega)]); (exact hih)
    · (have := hpos (by omega)); (rw [if_neg (by omega), if_pos (by omega), if_pos (by omega), if_pos (by omega), if_pos (by omega), if_pos (by omega)]); (exact hih)
theorem ref_valid (c : Int) : r01_Valid.f c = some (decide (0 ≤ c ∧ c ≤ 1114111)) := by
  (unfold r01_Valid.f); (by_cases h0 : c ≥ 0)
  · rw [if_pos h0]; congr 1; simp [h0]
  · rw [if_neg h0]; congr 1; simp; omega
theorem ref_hex (c : Int) : r01_Hex.f 7 c = some (hexOf c) := by
  (unfold r01_Hex.f); (rw [ref_valid, Option.bind_some]); (by_cases h : 0 ≤ c ∧ c ≤ 1114111)
  · (rw [if_pos (by simpa using h)]); (obtain ⟨n, rfl⟩ := Int.eq_ofNat_of_zero_le h.1); (have hn : n ≤ 1114111 := by omega); (have hL := hexLen_le n); (have := ref_hex_step n hn (hexLen n) 0 7 (by omega) (by omega)); (rw [List.drop_of_length_le (by rw [hexL_length]; omega)] at this); (rw [hexOf_ofL n hn, ← this]); (simp)
  · (rw [if_neg (by simpa using h)]); (unfold hexOf); (rw [if_neg h])
def hv (b : Nat) : Int := if 48 ≤ b ∧ b ≤ 57 then (b : Int) - 48 else if 65 ≤ b ∧ b ≤ 70 then (b : Int) - 55 else -1
theorem hv_bd (b : Nat) : -1 ≤ hv b ∧ hv b ≤ 15 := by unfold hv; (repeat' split) <;> omega
theorem ref_digit_all : (List.range 256).all (fun b => r01_digit.f 17 (b : Int) == some (hv b)) = true := by decide +kernel
theorem ref_digit (b : UInt8) (k : Nat) (hk : 17 ≤ k) : r01_digit.f k (b.toNat : Int) = some (hv b.toNat) := by
  (have h := List.all_eq_true.1 ref_digit_all b.toNat (List.mem_range.2 b.toNat_lt)); (exact at_rounds (fun k => r01_digit.mono _ k) hk (by simpa using h))
def valL : List UInt8 → Int → Option Int
  | [], a => some a
  | b :: t, a => if hv b.toNat < 0 then none else valL t (16 * a + hv b.toNat)
def readV (l : List UInt8) : Option Int → Int × Int
  | none => (0, 3)
  | some v => if hexOf v = ofL l then (v, 0) else (0, 3)
theorem readV_some (l : List UInt8) (v : Int) : readV l (some v) = if hexOf v = ofL l then (v, 0) else (0, 3) := rfl
theorem valL_nil (a : Int) : valL [] a = some a := rfl
def parseS (l : List UInt8) : Int × Int := if 4 ≤ l.length ∧ l.length ≤ 6 then readV l (valL l 0) else (0, 3)
theorem hexOf_eq (v : Int) (l : List UInt8) : ((hexOf v).toList = (ofL l).toList) ↔ hexOf v = ofL l := by
  (rw [Lib.toList_data, Lib.toList_data]); (constructor)
  · intro h; rw [← ofL_eq (hexOf v), h, ofL_eq]
  · intro h; rw [h]
theorem pow_le6 (i : Nat) (h : i ≤ 6) : (16 : Int) ^ i ≤ 16777216 := by
  match i, h with
  | 0, _ | 1, _ | 2, _ | 3, _ | 4, _ | 5, _ | 6, _ => decide
  | n + 7, h => omega
theorem ref_parse_loop (l : List UInt8) (h6 : l.length ≤ 6) (d : Nat) : ∀ (i k : Nat) (a : Int), i + d = l.length → d + 20 ≤ k → 0 ≤ a → a < 16 ^ i →
    r01_Parse.l0 k (ofL l) a (i : Int) = some (readV l (valL (l.drop i) a)) := by
  induction d with
  | zero =>
    (intro i k a hi hk h0 h1); (obtain ⟨k, rfl⟩ : ∃ m, k = m + 1 := ⟨k - 1, by omega⟩); (simp only [r01_Parse.l0]); (rw [if_neg (by rw [ofL_size]; omega), List.drop_of_length_le (by omega), at_rounds (fun k => r01_Hex.mono _ k) (show 7 ≤ k by omega) (ref_hex a), Option.bind_some]); (rw [valL_nil, readV_some]); (by_cases h : hexOf a = ofL l)
    · rw [if_pos ((hexOf_eq a l).2 h), if_pos h]
    · rw [if_neg (fun h' => h ((hexOf_eq a l).1 h')), if_neg h]
  | succ d ih =>
    (intro i k a hi hk h0 h1); (obtain ⟨k, rfl⟩ : ∃ m, k = m + 1 := ⟨k - 1, by omega⟩); (have hlt : i < l.length := by omega); (have hp := pow_le6 i (by omega)); (have hb := hv_bd (l[i]).toNat); (simp only [r01_Parse.l0]); (rw [if_pos (by rw [ofL_size]; omega), if_pos (by omega), bt_ofL l i hlt, ref_digit _ k (by omega), List.drop_eq_getElem_cons hlt]); (simp only [Option.bind_some, valL]); (by_cases hneg : hv (l[i]).toNat < 0)
    · rw [if_pos hneg, if_pos hneg]; rfl
    · (rw [if_neg hneg, if_neg hneg, wrap_id (x := 16 * a) (by omega) (by omega), wrap_id (by omega) (by omega), wrap_succ _ (by omega)]); (exact ih (i + 1) k _ (by omega) (by omega) (by omega) (by rw [Int.pow_succ]; omega))
theorem ref_parse (l : List UInt8) : Ev (fun k => r01_Parse.f k (ofL l)) (parseS l) := by
  (refine Ev.of (fun k => r01_Parse.mono _ k) (k := l.length + 30) ?_); (unfold r01_Parse.f parseS); (simp only [r01_Parse.j0, ofL_size]); (by_cases h4 : l.length < 4)
  · rw [if_pos (by omega), if_pos trivial, if_neg (by omega)]
  · (rw [if_neg (by omega)]); (by_cases h6 : l.length ≤ 6)
    · (rw [if_neg (by simp; omega), if_pos ⟨by omega, h6⟩]); (exact ref_parse_loop l h6 l.length 0 _ 0 (by omega) (by omega) (by omega) (by simp))
    · rw [if_pos (by simp; omega), if_neg (by omega)]
theorem prog_parse_loop (l : List UInt8) (h6 : l.length ≤ 6) (hne : l ≠ []) (d : Nat) : ∀ (i k : Nat) (a : Int), i + d = l.length → 2 * d + 2 ≤ k → 0 ≤ a → a < 16 ^ i →
    codepoint_Parse.l0 k (ofL l) a (l.length : Int) (i : Int) = some (readV l (valL (l.drop i) a)) := by
  induction d with
  | zero =>
    (intro i k a hi hk h0 h1); (obtain ⟨k, rfl⟩ : ∃ m, k = m + 1 := ⟨k - 1, by omega⟩); (simp only [codepoint_Parse.l0, codepoint_Hex.f]); (rw [if_neg (by omega), List.drop_of_length_le (by omega), if_neg (by rw [ofL_toList]; exact hne), Option.bind_some]); (rw [valL_nil, readV_some]); (by_cases h : hexOf a = ofL l)
    · rw [if_pos ((hexOf_eq a l).2 h), if_pos h]
    · rw [if_neg (fun h' => h ((hexOf_eq a l).1 h')), if_neg h]
  | succ d ih =>
    (intro i k a hi hk h0 h1); (obtain ⟨k, rfl⟩ : ∃ m, k = m + 2 := ⟨k - 2, by omega⟩); (have hlt : i < l.length := by omega); (have hp := pow_le6 i (by omega)); (have hih := fun v hv0 hv1 => ih (i + 1) k v (by omega) (by omega) hv0 hv1); (have hb256 := (l[i]).toNat_lt); (have hd : l.drop i = l[i] :: l.drop (i + 1) := List.drop_eq_getElem_cons hlt); (simp only [codepoint_Parse.l0, codepoint_Parse.j1]); (rw [if_pos (by omega), if_pos (by omega), if_pos (by rw [ofL_size]; omega), bt_ofL l i hlt, hd]); (simp only [valL]); (obtain ⟨b, hb⟩ : ∃ b, (l[i]).toNat = b := ⟨_, rfl⟩); (rw [hb] at hb256 ⊢); (by_cases h48 : 48 ≤ b)
    · (rw [if_pos (by omega)]); (by_cases h57 : b ≤ 57)
      · (have hh : hv b = (b : Int) - 48 := by unfold hv; rw [if_pos ⟨h48, h57⟩]); (rw [if_pos (by simp; omega), hh, if_neg (by omega), wrap_id (x := a * 16) (by omega) (by omega), wrap_id (by omega) (by omega), wrap_succ _ (by omega)]); (have := hih (16 * a + ((b : Int) - 48)) (by omega) (by rw [Int.pow_succ]; omega)); (rw [show a * 16 + ((b : Int) - 48) % 256 = 16 * a + ((b : Int) - 48) by omega]); (exact this)
      · (rw [if_neg (by simp; omega)]); (by_cases h65 : 65 ≤ b)
        · (rw [if_pos (by omega)]); (by_cases h70 : b ≤ 70)
          · (have hh : hv b = (b : Int) - 55 := by unfold hv; rw [if_neg (by omega), if_pos ⟨h65, h70⟩]); (rw [if_pos (by omega), hh, if_neg (by omega), wrap_id (x := a * 16) (by omega) (by omega), wrap_id (x := a * 16 + _) (by omega) (by omega), wrap_id (by omega) (by omega), wrap_succ _ (by omega)]); (have := hih (16 * a + ((b : Int) - 55)) (by omega) (by rw [Int.pow_succ]; omega)); (rw [show a * 16 + ((b : Int) - 65) % 256 + 10 = 16 * a + ((b : Int) - 55) by omega]); (exact this)
          · (have hh : hv b = -1 := by unfold hv; rw [if_neg (by omega), if_neg (by omega)]); (rw [if_neg (by omega), hh, if_pos (by decide)]; rfl)
        · (have hh : hv b = -1 := by unfold hv; rw [if_neg (by omega), if_neg (by omega)]); (rw [if_neg (by omega), hh, if_pos (by decide)]; rfl)
    · (have hh : hv b = -1 := by unfold hv; rw [if_neg (by omega), if_neg (by omega)]); (rw [if_neg (by omega), if_neg (by decide), if_neg (by omega), hh, if_pos (by decide)]; rfl)
theorem hexOf_size (v : Int) : (hexOf v).size = 0 ∨ 4 ≤ (hexOf v).size := by
  (unfold hexOf); (split)
  · (right); (rw [strOfNums_size]); (simp [hexNums]); (exact (hexLen_le _).1)
  · left; rfl
theorem prog_parse (l : List UInt8) : Ev (fun k => codepoint_Parse.f k (ofL l)) (parseS l) := by
  (refine Ev.of (fun k => codepoint_Parse.mono _ k) (k := 2 * l.length + 2) ?_); (unfold codepoint_Parse.f parseS); (rw [ofL_size]); (by_cases h6 : l.length ≤ 6)
  · (rw [if_neg (by omega)]); (by_cases hne : l = [])
    · (subst hne); (simp only [codepoint_Parse.l0, List.length_nil, ofL_toList]); (simp)
    · (have hpos : 0 < l.length := List.length_pos_iff.2 hne); (have := prog_parse_loop l h6 hne l.length 0 (2 * l.length + 2) 0 (by omega) (by omega) (by omega) (by simp)); (rw [List.drop_zero] at this); (refine Eq.trans this ?_); (by_cases h4 : 4 ≤ l.length)
      · rw [if_pos ⟨h4, h6⟩]
      · rw [if_neg (by omega)]
        cases hv : valL l 0 with
        | none => rfl
        | some v =>
          (rw [readV_some, if_neg]); (intro h); (have hs := hexOf_size v); (rw [h, ofL_size] at hs); (omega)
  · rw [if_pos (by omega), if_neg (by omega)]
end Go.Proofs.YtdaijpjjilmkkaaGreatDoor.Pr

/- The contracts of strings.Cut and strings.TrimRight (a cutset of one ASCII byte), in the form of the printed contracts. -/
namespace Go.Proofs.YtdaijpjjilmkkaaGreatDoor.Pr
open Go.RowKit Go.Shelf Go.Proofs.YtdaijpjjilmkkaaGreatDoorW.PrintWords Go.Proofs.YtdaijpjjilmkkaaGreatDoorW.PrintLast Go.Proofs.YtdaijpjjilmkkaaGreatDoorW.PrintMore
set_option linter.unusedVariables false
def strings_Cut.f (a0 a1 : ByteArray) : Option (ByteArray × ByteArray × Bool) :=
  if a0.size < 4294967281 then some (⟨(Lib.cut a0.data.toList a1.data.toList).1.toArray⟩, ⟨(Lib.cut a0.data.toList a1.data.toList).2.1.toArray⟩, (Lib.cut a0.data.toList a1.data.toList).2.2) else none
theorem strings_Cut.calls (a0 a1 r1 r2 : ByteArray) (r3 : Bool) (w : World) (h : strings_Cut.f a0 a1 = some (r1, r2, r3)) (hG : GW w) :
    Calls Tryz.prog 37 #[.string a0, .string a1] w fun e w' => e = .returned (.tuple #[.string r1, .string r2, .bool r3]) ∧ Below w.heap.size w w' := by
  (unfold strings_Cut.f at h); (by_cases hc : a0.size < 4294967281)
  · (rw [if_pos hc] at h); (simp only [Option.some.injEq, Prod.mk.injEq] at h); (obtain ⟨rfl, rfl, rfl⟩ := h); (obtain ⟨m, hm⟩ := hG.len); (refine (Tryz.strings_Cut a0 a1 m w hc hm).mono ?_); (rintro e w' ⟨rfl, n, rfl⟩); (exact ⟨rfl, pw_below_drewN (Below.refl _ _) n⟩)
  · rw [if_neg hc] at h; cases h
def strings_TrimRight.f (a0 a1 : ByteArray) : Option ByteArray :=
  if a0.size ≤ 9223372036854775807 ∧ a1 = ⟨#[32]⟩ then some ⟨(Lib.trimRightB a0.data.toList 32).toArray⟩ else none
theorem strings_TrimRight.calls (a0 a1 r : ByteArray) (w : World) (h : strings_TrimRight.f a0 a1 = some r) :
    Calls Tryz.prog 38 #[.string a0, .string a1] w fun e w' => e = .returned (.string r) ∧ Below w.heap.size w w' := by
  (unfold strings_TrimRight.f at h); (by_cases hc : a0.size ≤ 9223372036854775807 ∧ a1 = ⟨#[32]⟩)
  · (rw [if_pos hc] at h); (obtain rfl := Option.some.inj h); (obtain ⟨h1, rfl⟩ := hc); (refine (Tryz.strings_TrimRight_one a0 32 (by decide) w h1).mono ?_); (rintro e w' ⟨rfl, rfl⟩); (exact ⟨rfl, Below.refl _ _⟩)
  · rw [if_neg hc] at h; cases h
end Go.Proofs.YtdaijpjjilmkkaaGreatDoor.Pr

/- Plain laws: a text cut at a byte, at its first byte; strings.Split and strings.Cut on lists. -/
namespace Go.Proofs.YtdaijpjjilmkkaaGreatDoor.Pr
open Go.RowKit Go.Proofs.YtdaijpjjilmkkaaGreatDoorW.PrintWords Go.Proofs.YtdaijpjjilmkkaaGreatDoorW.PrintLast Go.Proofs.YtdaijpjjilmkkaaGreatDoorW.PrintMore
set_option linter.unusedVariables false
set_option linter.unusedSimpArgs false
def cutAt (c : UInt8) : List UInt8 → List (List UInt8)
  | [] => [[]]
  | b :: t => if b = c then [] :: cutAt c t else match cutAt c t with
    | [] => [[b]]
    | p :: r => (b :: p) :: r
theorem cutAt_ne (c : UInt8) (l : List UInt8) : cutAt c l ≠ [] := by
  cases l with
  | nil => simp [cutAt]
  | cons b t =>
    (unfold cutAt); (split)
    · simp
    · split <;> simp
theorem cutAt_len (c : UInt8) (l : List UInt8) : (cutAt c l).length ≤ l.length + 1 := by
  induction l with
  | nil => simp [cutAt]
  | cons b t ih =>
    (unfold cutAt); (split)
    · simp; exact ih
    · split
      · simp
      · next p r h => rw [h] at ih; simp at ih ⊢; omega
theorem cut_f (l sep : List UInt8) (h : l.length ≤ 1000000) : strings_Cut.f (ofL l) (ofL sep) = some (ofL (Lib.cut l sep).1, ofL (Lib.cut l sep).2.1, (Lib.cut l sep).2.2) := by
  (unfold strings_Cut.f); (rw [if_pos (by rw [ofL_size]; omega), ofL_list, ofL_list])
theorem split_at (c : UInt8) : ∀ l : List UInt8, Lib.splitK [c] 0 (Lib.count l [c]) l = cutAt c l
  | [] => by rw [Lib.count_miss (by simp [Lib.index])]; rfl
  | b :: t => by
    (have ih := split_at c t); (by_cases h : b = c)
    · (subst h); (have hix : Lib.index (b :: t) [b] = ((0 : Nat) : Int) := by rw [Lib.index]; simp [List.isPrefixOf]); (rw [Lib.count_cons_eq, Nat.add_comm, Lib.splitK, if_neg (by rw [hix]; decide), hix, cutAt, if_pos rfl, ← ih]); (simp)
    · (have hp : ([c] : List UInt8).isPrefixOf (b :: t) = false := by simp [List.isPrefixOf, Ne.symm h]); (have hix : Lib.index (b :: t) [c] = if Lib.index t [c] == -1 then -1 else Lib.index t [c] + 1 := by rw [Lib.index, hp]; simp); (rw [Lib.count_cons_ne b c t h, cutAt, if_neg h, ← ih]); (by_cases hm : Lib.index t [c] = -1)
      · rw [Lib.count_miss hm]; rfl
      · (have hge := Lib.index_ge t [c]); (obtain ⟨j, hj⟩ : ∃ j : Nat, Lib.index t [c] = j := ⟨(Lib.index t [c]).toNat, by omega⟩); (have hc := Lib.count_hit (s := t) (sub := [c]) (i := j) (by simp) hj); (have hix' : Lib.index (b :: t) [c] = ((j + 1 : Nat) : Int) := by rw [hix, if_neg (fun e => hm (beq_iff_eq.1 e)), hj]; omega); (rw [hc, Nat.add_comm, Lib.splitK, Lib.splitK, hix', hj, if_neg (by first | (simp; done) | (simp; omega)), if_neg (by first | (simp; done) | (simp; omega))]); (simp only [Int.toNat_natCast, List.length_cons, List.length_nil]); (rw [show j + 1 + (0 + 1) = (j + (0 + 1)) + 1 by omega, List.drop_succ_cons]); (simp)
theorem splitc_f (c : UInt8) (l : List UInt8) (hl : l.length ≤ 1000000) : strings_Split.f (ofL l) (ofL [c]) = some ((cutAt c l).map ofL) := by
  (unfold strings_Split.f); (rw [if_pos ⟨by rw [ofL_size]; omega, by rw [ofL_size]; simp⟩]); (have h := Lib.splitB_data (ofL [c]) 0 (Lib.countB (ofL l) (ofL [c])) (ofL l)); (have hc : Lib.countB (ofL l) (ofL [c]) = Lib.count l [c] := by unfold Lib.countB; simp); (rw [hc] at h ⊢); (rw [ofL_list, ofL_list, split_at c l] at h); (rw [← h, List.map_map]); (congr 1); (refine (List.map_id _).symm.trans (List.map_congr_left fun s _ => ?_)); (exact (ofL_eq s).symm)
theorem cutAt_mem (c : UInt8) : ∀ (l q : List UInt8), q ∈ cutAt c l → q.length ≤ l.length
  | [], q, h => by simp [cutAt] at h; simp [h]
  | b :: t, q, h => by
    (unfold cutAt at h); (split at h)
    · rcases List.mem_cons.1 h with rfl | h
      · simp
      · have := cutAt_mem c t q h; simp; omega
    · split at h
      · next hn => exact absurd hn (cutAt_ne c t)
      · next p r hr =>
        rcases List.mem_cons.1 h with rfl | h
        · have := cutAt_mem c t p (by rw [hr]; exact List.mem_cons_self ..); simp; omega
        · have := cutAt_mem c t q (by rw [hr]; exact List.mem_cons_of_mem _ h); simp; omega
theorem rdc_at (ps : List (List UInt8)) (i : Nat) (h : i < ps.length) : rdOf ByteArray.empty (ps.map ofL) (i : Int) = ofL ps[i] := by simp [rdOf, h]
def glue (p : List UInt8) : List (List UInt8) → List (List UInt8)
  | [] => [p]
  | q :: r => (p ++ q) :: r
theorem glue_cons (p q : List UInt8) (r : List (List UInt8)) : glue p (q :: r) = (p ++ q) :: r := rfl
theorem glue_nil {xs : List (List UInt8)} (h : xs ≠ []) : glue [] xs = xs := by cases xs with | nil => exact absurd rfl h | cons => rfl
theorem cutAt_hit (c : UInt8) (t : List UInt8) : cutAt c (c :: t) = [] :: cutAt c t := by rw [cutAt, if_pos rfl]
theorem cutAt_miss (c b : UInt8) (t : List UInt8) (h : b ≠ c) : cutAt c (b :: t) = glue [b] (cutAt c t) := by
  (rw [cutAt, if_neg h]); (cases cutAt c t <;> rfl)
theorem glue_glue (p q : List UInt8) (xs : List (List UInt8)) : glue p (glue q xs) = glue (p ++ q) xs := by cases xs <;> simp [glue]
theorem cut_at (c : UInt8) (l : List UInt8) : (Lib.cut l [c] = (l, [], false) ∧ c ∉ l) ∨ ∃ a b, l = a ++ c :: b ∧ c ∉ a ∧ Lib.cut l [c] = (a, b, true) := by
  unfold Lib.cut
  induction l with
  | nil => left; refine ⟨?_, by simp⟩; rw [if_neg (by simp [Lib.index])]
  | cons x t ih =>
    by_cases h : x = c
    · (subst h); (right); (have hix : Lib.index (x :: t) [x] = ((0 : Nat) : Int) := by rw [Lib.index]; simp [List.isPrefixOf]); (refine ⟨[], t, rfl, by simp, ?_⟩); (rw [hix]); (simp)
    · (have hp : ([c] : List UInt8).isPrefixOf (x :: t) = false := by simp [List.isPrefixOf, Ne.symm h]); (have hix : Lib.index (x :: t) [c] = if Lib.index t [c] == -1 then -1 else Lib.index t [c] + 1 := by rw [Lib.index, hp]; simp); (have hge := Lib.index_ge t [c]); (by_cases hm : Lib.index t [c] = -1)
      · (rw [hix, hm]); (rw [hm] at ih); (rcases ih with ⟨-, h2⟩ | ⟨a, b, -, -, h3⟩)
        · (left); (exact ⟨by rw [if_neg (by decide)], by simp [Ne.symm h, h2]⟩)
        · (rw [if_neg (by decide)] at h3); (simp at h3)
      · (obtain ⟨j, hj⟩ : ∃ j : Nat, Lib.index t [c] = j := ⟨(Lib.index t [c]).toNat, by omega⟩); (have hix' : Lib.index (x :: t) [c] = ((j + 1 : Nat) : Int) := by rw [hix, if_neg (fun e => hm (beq_iff_eq.1 e)), hj]; omega); (rw [hix', if_pos (by omega)]); (rw [hj, if_pos (by omega)] at ih); (rcases ih with ⟨h1, -⟩ | ⟨a, b, h1, h2, h3⟩)
        · simp at h1
        · (right); (simp only [Prod.mk.injEq, and_true] at h3); (refine ⟨x :: a, b, by rw [h1]; rfl, by simp [Ne.symm h, h2], ?_⟩); (rw [← h3.1, ← h3.2]); (simp)
theorem cut_uniq {a b a' b' : List UInt8} (h : a' ++ 35 :: b' = a ++ 35 :: b) (h1 : 35 ∉ a') (h2 : 35 ∉ a) : a' = a ∧ b' = b := by
  induction a' generalizing a with
  | nil =>
    cases a with
    | nil => simp at h; exact ⟨rfl, h⟩
    | cons y a => simp at h; exact absurd (by rw [← h.1]; simp) h2
  | cons z a' ih =>
    cases a with
    | nil => simp at h; exact absurd (by rw [h.1]; simp) h1
    | cons y a =>
      (simp at h h1 h2); (have := ih h.2 h1.2 h2.2); (exact ⟨by rw [h.1, this.1], this.2⟩)
theorem cutAt_none (c : UInt8) : ∀ l : List UInt8, c ∉ l → cutAt c l = [l]
  | [], _ => rfl
  | x :: t, h => by
    (rw [cutAt_miss c x t (fun e => h (by rw [e]; simp)), cutAt_none c t (fun e => h (by simp [e]))]); (rfl)
theorem cutAt_joinR (c : UInt8) (a b : List UInt8) : cutAt c (a ++ c :: b) = cutAt c a ++ cutAt c b := by
  induction a with
  | nil => rw [List.nil_append, cutAt_hit]; rfl
  | cons x a ih =>
    (rw [List.cons_append]); (by_cases h : x = c)
    · (subst h); (rw [cutAt_hit, cutAt_hit, ih]; rfl)
    · rw [cutAt_miss c x _ h, cutAt_miss c x _ h, ih]
      cases hc : cutAt c a with
      | nil => exact absurd hc (cutAt_ne c a)
      | cons => rfl
end Go.Proofs.YtdaijpjjilmkkaaGreatDoor.Pr

/- Plain laws of the collation elements: their text, and its reading. -/
namespace Go.Proofs.YtdaijpjjilmkkaaGreatDoor.Pr
open Go.RowKit Go.Proofs.YtdaijpjjilmkkaaGreatDoorW.PrintWords Go.Proofs.YtdaijpjjilmkkaaGreatDoorW.PrintLast Go.Proofs.YtdaijpjjilmkkaaGreatDoorW.PrintMore
set_option linter.unusedVariables false
set_option linter.unusedSimpArgs false
def hexT (c : Int) : List UInt8 := (hexOf c).data.toList
theorem hexT_len (c : Int) : (hexT c).length ≤ 6 := by
  (unfold hexT hexOf); (split)
  · (have := (hexLen_le c.toNat).2); (simp [strOfNums, hexNums]); (exact this)
  · simp
theorem hv_dig (d : Nat) (h : d < 16) : hv (UInt8.ofNat (hexDig d).toNat).toNat = d := by
  match d, h with
  | 0, _ | 1, _ | 2, _ | 3, _ | 4, _ | 5, _ | 6, _ | 7, _ | 8, _ | 9, _ | 10, _ | 11, _ | 12, _ | 13, _ | 14, _ | 15, _ => decide
  | n + 16, h => omega
theorem hexL_mem (n : Nat) (d : UInt8) (h : d ∈ hexL n) : 48 ≤ d.toNat ∧ d.toNat ≤ 70 ∧ d.toNat ≠ 59 := by
  (simp only [hexL, hexNums, List.map_map, List.mem_map, Function.comp] at h); (obtain ⟨j, _, rfl⟩ := h)
  have key : ∀ q, q < 16 → 48 ≤ (UInt8.ofNat (hexDig q).toNat).toNat ∧ (UInt8.ofNat (hexDig q).toNat).toNat ≤ 70 ∧ (UInt8.ofNat (hexDig q).toNat).toNat ≠ 59 := by
    intro q hq
    match q, hq with
    | 0, _ | 1, _ | 2, _ | 3, _ | 4, _ | 5, _ | 6, _ | 7, _ | 8, _ | 9, _ | 10, _ | 11, _ | 12, _ | 13, _ | 14, _ | 15, _ => decide
    | n + 16, h => omega
  exact key _ (Nat.mod_lt _ (by decide))
theorem hexL_val_at (n : Nat) (m : Nat) : ∀ j, j + m = hexLen n → valL ((hexL n).drop j) ((n / 16 ^ m : Nat) : Int) = some (n : Int) := by
  induction m with
  | zero =>
    (intro j hj); (rw [List.drop_of_length_le (by rw [hexL_length]; omega)])
    simp [valL]
  | succ m ih =>
    (intro j hj); (have hlt : j < (hexL n).length := by rw [hexL_length]; omega); (have hat := hexL_at n j (by omega)); (rw [List.getElem?_eq_getElem hlt, show hexLen n - 1 - j = m by omega] at hat); (rw [List.drop_eq_getElem_cons hlt, Option.some.inj hat]); (have hq1 : n / 16 ^ (m + 1) = n / 16 ^ m / 16 := by rw [Nat.pow_succ, ← Nat.div_div_eq_div_mul]); (have hih := ih (j + 1) (by omega)); (rw [hq1]); (obtain ⟨q, hq⟩ : ∃ q, n / 16 ^ m = q := ⟨_, rfl⟩); (rw [hq] at hih ⊢); (simp only [valL]); (rw [hv_dig (q % 16) (Nat.mod_lt _ (by decide)), if_neg (by omega), show 16 * ((q / 16 : Nat) : Int) + ((q % 16 : Nat) : Int) = (q : Int) by omega]); (exact hih)
theorem hexT_nat (n : Nat) (hn : n ≤ 1114111) : hexT (n : Int) = hexL n := by unfold hexT; rw [hexOf_ofL n hn, ofL_list]
theorem parse_hexT (c : Int) (h : 0 ≤ c ∧ c ≤ 1114111) : parseS (hexT c) = (c, 0) := by
  (obtain ⟨n, rfl⟩ := Int.eq_ofNat_of_zero_le h.1); (have hn : n ≤ 1114111 := by omega); (have hL := hexLen_le n); (have hv := hexL_val_at n (hexLen n) 0 (by omega)); (rw [hexLen_stop n hn, List.drop_zero] at hv); (rw [hexT_nat n hn]); (unfold parseS); (rw [if_pos (by rw [hexL_length]; exact hL), show ((0 : Nat) : Int) = 0 from rfl] at *); (rw [hv, readV_some, if_pos (hexOf_ofL n hn)])
theorem hexT_mem (c : Int) (d : UInt8) (h : d ∈ hexT c) : 48 ≤ d.toNat ∧ d.toNat ≤ 70 ∧ d.toNat ≠ 59 := by
  by_cases hc : 0 ≤ c ∧ c ≤ 1114111
  · (obtain ⟨n, rfl⟩ := Int.eq_ofNat_of_zero_le hc.1); (rw [hexT_nat n (by omega)] at h); (exact hexL_mem n d h)
  · (unfold hexT hexOf at h); (rw [if_neg hc] at h); (cases h)
theorem hexT_len4 (c : Int) (h : 0 ≤ c ∧ c ≤ 65535) : (hexT c).length = 4 := by
  (obtain ⟨n, rfl⟩ := Int.eq_ofNat_of_zero_le h.1); (rw [hexT_nat n (by omega), hexL_length]); (unfold hexLen); (rw [if_pos (by omega)])
def dig4 (l : List UInt8) : Option Int := if l.length = 4 ∧ (parseS l).2 = 0 then some (parseS l).1 else none
theorem parse_some {l : List UInt8} (h : (parseS l).2 = 0) : hexT (parseS l).1 = l ∧ 0 ≤ (parseS l).1 := by
  (unfold parseS at h ⊢); (by_cases hl : 4 ≤ l.length ∧ l.length ≤ 6)
  · rw [if_pos hl] at h ⊢
    cases hv : valL l 0 with
    | none => rw [hv] at h; simp [readV] at h
    | some v =>
      (rw [hv, readV_some] at h); (rw [readV_some]); (by_cases hx : hexOf v = ofL l)
      · (rw [if_pos hx]); (refine ⟨by unfold hexT; rw [hx, ofL_list], ?_⟩); (unfold hexOf at hx); (by_cases hc : 0 ≤ v ∧ v ≤ 1114111)
        · exact hc.1
        · (rw [if_neg hc] at hx); (have : (ofL l).size = 0 := by rw [← hx]; rfl); (rw [ofL_size] at this); (omega)
      · rw [if_neg hx] at h; simp at h
  · rw [if_neg hl] at h; simp at h
theorem hexT_big (n : Nat) (h0 : 65535 < n) (hn : n ≤ 1114111) : (hexT (n : Int)).length ≠ 4 := by
  (rw [hexT_nat n hn, hexL_length]); (unfold hexLen); (rw [if_neg (by omega)]); (split <;> omega)
theorem dig4_some {l : List UInt8} {v : Int} (h : dig4 l = some v) : hexT v = l ∧ 0 ≤ v ∧ v ≤ 65535 := by
  (unfold dig4 at h); (by_cases hc : l.length = 4 ∧ (parseS l).2 = 0)
  · (rw [if_pos hc] at h); (obtain rfl := Option.some.inj h); (obtain ⟨h1, h2⟩ := parse_some hc.2); (refine ⟨h1, h2, ?_⟩); (by_cases hb : (parseS l).1 ≤ 65535)
    · exact hb
    · obtain ⟨n, hn⟩ := Int.eq_ofNat_of_zero_le h2
      have hle : (parseS l).1 ≤ 1114111 := by
        by_cases hx : (parseS l).1 ≤ 1114111
        · exact hx
        · (have : hexT (parseS l).1 = [] := by unfold hexT hexOf; rw [if_neg (by omega)]); (rw [h1] at this); (rw [this] at hc); (simp at hc)
      (rw [hn] at h1 hle hb); (exact absurd (by rw [h1]; exact hc.1) (hexT_big n (by omega) (by omega)))
  · rw [if_neg hc] at h; cases h
theorem dig4_hexT (c : Int) (h : 0 ≤ c ∧ c ≤ 65535) : dig4 (hexT c) = some c := by
  (unfold dig4); (rw [parse_hexT c (by omega), if_pos ⟨hexT_len4 c h, rfl⟩])
def elT (x : S44) : List UInt8 := 91 :: (if x.f3 = true then 42 else 46) :: (hexT x.f0 ++ 46 :: (hexT x.f1 ++ 46 :: (hexT x.f2 ++ [93])))
def okW (x : S44) : Prop := (0 ≤ x.f0 ∧ x.f0 ≤ 65535) ∧ (0 ≤ x.f1 ∧ x.f1 ≤ 65535) ∧ (0 ≤ x.f2 ∧ x.f2 ≤ 65535)
def oneE (t : List UInt8) : Option S44 :=
  if t.getD 0 0 = 91 ∧ (t.getD 1 0 = 42 ∨ t.getD 1 0 = 46) ∧ t.getD 16 0 = 93 then
    match cutAt 46 ((t.drop 2).take 14) with
    | [p, q, r] => (dig4 p).bind fun a => (dig4 q).bind fun b => (dig4 r).bind fun c => some ⟨a, b, c, t.getD 1 0 == 42⟩
    | _ => none
  else none
theorem cutAt_inv (c : UInt8) : ∀ (l : List UInt8), (cutAt c l = [l] ∧ c ∉ l) ∨ ∃ p q, l = p ++ c :: q ∧ c ∉ p ∧ cutAt c l = p :: cutAt c q
  | [] => Or.inl ⟨rfl, by simp⟩
  | x :: t => by
    by_cases h : x = c
    · (subst h); (exact Or.inr ⟨[], t, rfl, by simp, by rw [cutAt_hit]⟩)
    · (rw [cutAt_miss c x t h]); (rcases cutAt_inv c t with ⟨h1, h2⟩ | ⟨p, q, h1, h2, h3⟩)
      · left; rw [h1]; exact ⟨rfl, by simp [h2, Ne.symm h]⟩
      · (right); (refine ⟨x :: p, q, by rw [h1]; rfl, by simp [h2, Ne.symm h], by rw [h3]; rfl⟩)
theorem cut3 {l p q r : List UInt8} (h : cutAt 46 l = [p, q, r]) : l = p ++ 46 :: (q ++ 46 :: r) := by
  rcases cutAt_inv 46 l with ⟨h1, -⟩ | ⟨a, b, h1, -, h3⟩
  · rw [h1] at h; cases h
  · (rw [h3] at h); (simp only [List.cons.injEq] at h); (obtain ⟨rfl, h⟩ := h); (rcases cutAt_inv 46 b with ⟨h4, -⟩ | ⟨c, d, h4, -, h6⟩)
    · rw [h4] at h; cases h
    · (rw [h6] at h); (simp only [List.cons.injEq] at h); (obtain ⟨rfl, h⟩ := h); (rcases cutAt_inv 46 d with ⟨h7, -⟩ | ⟨e, f, -, -, h9⟩)
      · (rw [h7] at h); (simp only [List.cons.injEq, and_true] at h); (rw [h1, h4, h])
      · (rw [h9] at h); (simp only [List.cons.injEq] at h); (exact absurd h.2 (cutAt_ne 46 f))
theorem hexT_no46 (c : Int) : 46 ∉ hexT c := fun h => by
  (have := hexT_mem c 46 h); (simp at this)
theorem oneE_of (x : S44) (h : okW x) : oneE (elT x) = some x := by
  (have l0 := hexT_len4 _ h.1); (have l1 := hexT_len4 _ h.2.1); (have l2 := hexT_len4 _ h.2.2); (have hm : (elT x).getD 1 0 = if x.f3 = true then 42 else 46 := rfl)
  have h16 : (elT x).getD 16 0 = 93 := by
    (unfold elT); (rw [List.getD_eq_getElem?_getD, List.getElem?_cons_succ, List.getElem?_cons_succ, List.getElem?_append_right (by omega), l0, List.getElem?_cons_succ, List.getElem?_append_right (by omega), l1, List.getElem?_cons_succ, List.getElem?_append_right (by omega), l2]); (rfl)
  have hcut : ((elT x).drop 2).take 14 = hexT x.f0 ++ 46 :: (hexT x.f1 ++ 46 :: hexT x.f2) := by
    (unfold elT); (rw [List.drop_succ_cons, List.drop_succ_cons, List.drop_zero]); (have e : hexT x.f0 ++ 46 :: (hexT x.f1 ++ 46 :: (hexT x.f2 ++ [93])) = (hexT x.f0 ++ 46 :: (hexT x.f1 ++ 46 :: hexT x.f2)) ++ [93] := by simp); (rw [e, List.take_left' (by simp; omega)])
  (unfold oneE); (rw [if_pos ⟨rfl, by rw [hm]; split <;> simp, h16⟩, hcut, cutAt_joinR, cutAt_joinR, cutAt_none 46 _ (hexT_no46 _), cutAt_none 46 _ (hexT_no46 _), cutAt_none 46 _ (hexT_no46 _)]); (simp only [List.cons_append, List.nil_append]); (rw [dig4_hexT _ h.1, dig4_hexT _ h.2.1, dig4_hexT _ h.2.2, Option.bind_some, Option.bind_some, Option.bind_some, hm])
  cases hb : x.f3 with
  | true => rw [show (⟨x.f0, x.f1, x.f2, (if true = true then (42 : UInt8) else 46) == 42⟩ : S44) = ⟨x.f0, x.f1, x.f2, true⟩ from rfl, ← hb]
  | false => rw [show (⟨x.f0, x.f1, x.f2, (if false = true then (42 : UInt8) else 46) == 42⟩ : S44) = ⟨x.f0, x.f1, x.f2, false⟩ from rfl, ← hb]
theorem oneE_some {t : List UInt8} {x : S44} (ht : t.length = 17) (h : oneE t = some x) : elT x = t ∧ okW x := by
  (unfold oneE at h); (by_cases hc : t.getD 0 0 = 91 ∧ (t.getD 1 0 = 42 ∨ t.getD 1 0 = 46) ∧ t.getD 16 0 = 93)
  · (rw [if_pos hc] at h); (split at h)
    · next p q r hpqr =>
      cases h0 : dig4 p with
      | none => rw [h0] at h; cases h
      | some a =>
        cases h1 : dig4 q with
        | none => rw [h0, h1] at h; cases h
        | some b =>
          cases h2 : dig4 r with
          | none => rw [h0, h1, h2] at h; cases h
          | some c =>
            (rw [h0, h1, h2] at h); (simp only [Option.bind_some, Option.some.injEq] at h); (obtain ⟨e0, a0, a1⟩ := dig4_some h0); (obtain ⟨e1, b0, b1⟩ := dig4_some h1); (obtain ⟨e2, c0, c1⟩ := dig4_some h2); (have hj := cut3 hpqr); (subst h); (refine ⟨?_, ⟨a0, a1⟩, ⟨b0, b1⟩, ⟨c0, c1⟩⟩)
            have hsplit : t = t.getD 0 0 :: t.getD 1 0 :: ((t.drop 2).take 14 ++ [t.getD 16 0]) := by
              match t, ht with
              | [t0, t1, t2, t3, t4, t5, t6, t7, t8, t9, t10, t11, t12, t13, t14, t15, t16], _ => rfl
            (obtain ⟨m, hm⟩ : ∃ m, t.getD 1 0 = m := ⟨_, rfl⟩); (rw [hj, hc.1, hc.2.2, hm] at hsplit); (have hmm := hc.2.1); (rw [hm] at hmm); (unfold elT); (dsimp only); (rw [e0, e1, e2, hm]); (refine Eq.trans ?_ hsplit.symm); (rcases hmm with rfl | rfl)
            · simp
            · simp
    · cases h
  · rw [if_neg hc] at h; cases h
def readN : Nat → List UInt8 → Option (List S44)
  | 0, l => if l = [] then some [] else none
  | n + 1, l => if l = [] then some [] else if l.length < 17 then none else (oneE (l.take 17)).bind fun e => (readN n (l.drop 17)).map fun r => e :: r
def readE (l : List UInt8) : Option (List S44) := readN l.length l
def checkE (x : S44) : Int :=
  if (0 ≤ x.f0 ∧ x.f0 ≤ 65535) ∧ (0 ≤ x.f1 ∧ x.f1 ≤ 65535) ∧ (0 ≤ x.f2 ∧ x.f2 ≤ 65535) then
    (if (x.f0 ≠ 0 ∧ (x.f1 = 0 ∨ x.f2 = 0)) ∨ (x.f1 ≠ 0 ∧ x.f2 = 0) ∨ (x.f3 = true ∧ x.f0 = 0) then 11 else 0)
  else 1
def errE : List S44 → Int
  | [] => 0
  | x :: r => if checkE x = 0 then errE r else checkE x
end Go.Proofs.YtdaijpjjilmkkaaGreatDoor.Pr

/- The contracts of strings.Builder's copyCheck and WriteString in this translation, after the shelf's (the panic in copyCheck's body is a refused statement here, so that the shelf's own do not fit): the builder holds the bytes written behind those that it held. -/
set_option linter.unusedVariables false
set_option linter.unusedSimpArgs false
namespace Go.Proofs.YtdaijpjjilmkkaaGreatDoor.Bd
open Go.RowKit
theorem sizeBuilder : (Tryz.prog.info? 59).map (·.size) = some 2 := by kernel_rfl
theorem liesBuilder : liesAt Tryz.prog Tryz.prog.depth 59 (2 / Tryz.prog.cellsOf 59) 0 59 1 = true := by kernel_rfl
theorem infoByte : (Tryz.prog.info? 5).map (fun i => (i.zero, i.size, i.bytes)) = some (some (.int .u8 0), 1, 1) := by kernel_rfl
set_option maxHeartbeats 1000000 in
set_option maxRecDepth 100000 in
theorem copyCheck_used (b : Nat) (w : World) (h0 : w.cell? ⟨b, 0, none⟩ = some (.pointer (some ⟨b, 0, none⟩))) :
    Calls Tryz.prog 53 #[.pointer (some ⟨b, 0, none⟩)] w fun e w' => e = .returned (.tuple #[]) ∧ w' = w := by
  (obtain ⟨j, hj, _⟩ := Option.map_eq_some_iff.1 sizeBuilder); (go_enter Tryz.func53, Tryz.ntmps53); (go_wp2); (rw [Lib.run_neq_ptr_same w _ Tryz.underlying56 hj]); (go_wp2); (go_end0); (exact ⟨rfl, rfl⟩)
set_option maxHeartbeats 1000000 in
set_option maxRecDepth 100000 in
theorem copyCheck_fresh (b : Nat) (w : World) (h0 : w.cell? ⟨b, 0, none⟩ = some (.pointer none)) (hsh : w.shape? b = some (59, 2)) (hfz : w.frozen? ⟨b, 0, none⟩ = false) :
    Calls Tryz.prog 53 #[.pointer (some ⟨b, 0, none⟩)] w fun e w' => e = .returned (.tuple #[]) ∧ w' = w.setCell ⟨b, 0, none⟩ (.pointer (some ⟨b, 0, none⟩)) := by
  (obtain ⟨j, hj, hjs⟩ := Option.map_eq_some_iff.1 sizeBuilder); (go_enter Tryz.func53, Tryz.ntmps53); (go_wp2); (rw [Lib.run_to_unsafe w ⟨b, 0, none⟩ Tryz.underlying56 Tryz.underlying115 hj (by rw [hjs]; decide) hsh (Nat.zero_lt_succ 1)]); (simp only [Result.andThen]); (rw [Oper.upon_value]); (go_wp2); (rw [run_callFunc_extern Tryz.func74 (by kernel_rfl) (by kernel_rfl) (by kernel_rfl) (e := Extern.AbiNoEscape.same) (by kernel_rfl)]); (rw [Lib.run_noEscape]); (simp only [Result.andThen]); (rw [Oper.upon_value]); (go_wp2); (rw [Lib.run_from_unsafe w ⟨b, 0, none⟩ Tryz.underlying115 Tryz.underlying56 hj hsh liesBuilder]); (simp only [Result.andThen]); (rw [Oper.upon_value]); (go_wp2); (go_end0); (exact ⟨rfl, rfl⟩)
abbrev Is (B b : Nat) (bs : List Value) (w : World) : Prop := Lib.IsBuilderF 59 5 B b bs w
theorem copyCheck (B b : Nat) (bs : List Value) (w : World) (h : Is B b bs w) :
    Calls Tryz.prog 53 #[.pointer (some ⟨b, 0, none⟩)] w fun e w' => e = .returned (.tuple #[]) ∧ (Lib.BuilderAtF 59 5 B b (.pointer (some ⟨b, 0, none⟩)) bs w' ∧ Below B w w' ∧ Lib.OthersKept 5 (some b) w w') := by
  rcases h with h | h
  · (refine (copyCheck_fresh b w h.cell0 h.shape h.frozen0).mono ?_); (rintro e w' ⟨rfl, rfl⟩); (exact ⟨rfl, h.used _, (Below.refl B w).setCell (p := ⟨b, 0, none⟩) h.1 _, (Lib.OthersKept.refl _ _ w).setCell ⟨b, 0, none⟩ rfl _⟩)
  · (refine (copyCheck_used b w h.cell0).mono ?_); (rintro e w' ⟨rfl, rfl⟩); (exact ⟨rfl, h, Below.refl B _, Lib.OthersKept.refl _ _ _⟩)
set_option maxHeartbeats 2000000 in
set_option maxRecDepth 100000 in
theorem WriteString (B b : Nat) (bs : List Value) (s : ByteArray) (w : World) (h : Is B b bs w) (hlen : bs.length + s.size ≤ 140737488355328) (hBw : B ≤ w.heap.size) :
    Calls Tryz.prog 27 #[.pointer (some ⟨b, 0, none⟩), .string s] w fun e w' => e = .returned (.tuple #[.int .i64 s.size, .nilIface]) ∧ (Is B b (bs ++ Lib.strCells s) w' ∧ Below B w w' ∧ Lib.OthersKept 5 (some b) w w') := by
  (obtain ⟨i0, hi, hz0, hz1, hz2⟩ := info_parts infoByte); (go_enter Tryz.func27, Tryz.ntmps27); (go_wp2_with (go_at_call 53; refine (copyCheck B b bs _ h).mono ?_)); (rintro e w1 ⟨rfl, h1, hb1, hk1⟩); (obtain ⟨hB, v, hbk, hown, hne⟩ := h1); (have c0 : w1.cell? ⟨b, 0, none⟩ = some (.pointer (some ⟨b, 0, none⟩)) := by rw [Lib.cell_of_heap hbk]; rfl); (have c1 : w1.cell? ⟨b, 1, none⟩ = some v := by rw [Lib.cell_of_heap hbk]; rfl); (go_wp2_with (at_builtin; refine Lib.wpList_append_own_stringF _ rfl _ _ 57 9 rfl B 5 i0 Tryz.underlying57 Tryz.underlying9 hi hz0 hz1 hz2 _ _ _ rfl hown s rfl ?c3 ?c4 ?c5 ?_))
  case c3 => unfold maxLen; omega
  case c4 => omega
  case c5 => have := hb1.size; omega
  intro v' w2 hown' hgrow _
  have hlt : b < w1.heap.size := by
    rcases Nat.lt_or_ge b w1.heap.size with h' | h'
    · exact h'
    · simp [Array.getElem?_eq_none h'] at hbk
  have hb2 : w2.heap[b]? = some (.cells #[.pointer (some ⟨b, 0, none⟩), v] 59 (0, 0)) := by
    (rw [hgrow.block b hlt (fun e => hne e.symm)]); (exact hbk)
  (have d0 : w2.cell? ⟨b, 0, none⟩ = some (.pointer (some ⟨b, 0, none⟩)) := by rw [Lib.cell_of_heap hb2]; rfl); (have d1 : w2.cell? ⟨b, 1, none⟩ = some v := by rw [Lib.cell_of_heap hb2]; rfl); (have f1 : w2.frozen? ⟨b, 1, none⟩ = false := Lib.frozen_of_heap hb2 1)
  obtain ⟨ao, n', cap, rfl⟩ : ∃ ao n' cap, v' = .slice ao n' cap := by
    rcases hown'.2 with ⟨hv, _⟩ | ⟨g, cap, cur, fz, hv, _⟩
    · exact ⟨_, _, _, hv⟩
    · exact ⟨_, _, _, hv⟩
  (go_wp2); (go_ret2); (refine ⟨rfl, .inr ?_, ?_, (hk1.grown hgrow (Lib.ownsRowF_kind hown)).setCell ⟨b, 1, none⟩ rfl _⟩)
  · exact Lib.BuilderAtF.put (T := 59) (e := 5) hB hb2 (bs' := bs ++ Lib.strCells s) (by simpa [Lib.strCells_length] using hown') (by decide)
  · exact (hb1.grown hgrow (by have := hb1.size; omega) (fun k hk => (hown.lt k hk).1)).setCell (p := ⟨b, 1, none⟩) hB _
theorem fresh (w : World) : Is w.heap.size w.heap.size [] (w.alloc (.cells #[.pointer none, .slice none 0 0] 59)) := Lib.IsBuilderF.of (Lib.fresh_isBuilder _ _ w)
theorem kept {B b : Nat} {bs : List Value} {w w' : World} {row : Option Nat} (h : Is B b bs w) (hg : w.grownBy w' row) (hr : ∀ r, row = some r → ∃ o : Obj, w.heap[r]? = some o ∧ o.isCells = false) : Is B b bs w' := by
  have one : ∀ p, Lib.BuilderAtF 59 5 B b p bs w → Lib.BuilderAtF 59 5 B b p bs w' := by
    (rintro p h1); (have hlt := h1.lt); (obtain ⟨hB, v, hb, hown, hne⟩ := h1); (refine ⟨hB, v, (hg.block b hlt (fun e => ?_)).trans hb, hown.kept hg ?_, hne⟩)
    · (obtain ⟨o, ho, hc⟩ := hr b e.symm); (rw [hb] at ho; cases ho; cases hc)
    · cases hv : v.ownBlock with
      | none => exact .inl rfl
      | some g =>
        (refine .inr fun e => ?_); (obtain ⟨c, fz, hc⟩ := Lib.ownsRowF_kind hown g hv); (obtain ⟨o, ho, hcc⟩ := hr g e.symm); (rw [hc] at ho; cases ho; cases hcc)
  exact h.elim (fun h => .inl (one _ h)) (fun h => .inr (one _ h))
end Go.Proofs.YtdaijpjjilmkkaaGreatDoor.Bd

namespace Go.Proofs.YtdaijpjjilmkkaaGreatDoor.Pr
open Go.RowKit Go.Proofs.YtdaijpjjilmkkaaGreatDoorW.PrintWords Go.Proofs.YtdaijpjjilmkkaaGreatDoorW.PrintLast Go.Proofs.YtdaijpjjilmkkaaGreatDoorW.PrintMore
attribute [local go_sem] max2_int min2_int max_two min_two max_three min_three max_four min_four   -- for this text's walks alone
set_option linter.unusedVariables false
set_option linter.unusedSimpArgs false
def element_weights.l0 : Nat → List ByteArray → List Int → Int → Int → Option (ByteArray)
  | 0, _, _, _, _ => none
  | k + 1, x3, x6, x7, x8 => if x8 < x7 then (if 0 ≤ x8 then (if x8 < (x6.length : Int) then ((codepoint_Hex.f (rd x6 x8)).bind fun t292 => (if x3.length < 8796093022208 then (element_weights.l0 k (x3 ++ [t292]) x6 x7 (wrap64 (x8 + 1))) else (none))) else (none)) else (none)) else ((strings_Join.f x3 (⟨#[46]⟩ : ByteArray)).bind fun t296 => (some t296))
def element_weights.f (k : Nat) (l0 : List Int) : Option (ByteArray) := element_weights.l0 k ([] : List ByteArray) l0 (l0.length : Int) 0
theorem element_weights.mono_l : ∀ k, (∀ y0 y1 y2 y3, LeO (element_weights.l0 k y0 y1 y2 y3) (element_weights.l0 (k + 1) y0 y1 y2 y3))
  | 0 => fun _ _ _ _ r h => by simp [element_weights.l0] at h
  | k + 1 => by
    have ih0 := element_weights.mono_l k
    · (intro y0 y1 y2 y3); (unfold element_weights.l0)
      repeat' first
      | (with_reducible exact ih0 _ _ _ _)
      | (with_reducible exact LeO.refl _)
      | (with_reducible exact LeO.none _)
      | (with_reducible refine LeO.ite ?_ ?_)
      | (with_reducible refine LeO.bind ?_ (fun _ => ?_))
theorem element_weights.mono : ∀ a0 k, LeO (element_weights.f k a0) (element_weights.f (k + 1) a0) := by
  (intro a0 k); (have ih0 := element_weights.mono_l k); (unfold element_weights.f)
  repeat' first
      | (with_reducible exact ih0 _ _ _ _)
      | (with_reducible exact LeO.refl _)
      | (with_reducible exact LeO.none _)
      | (with_reducible refine LeO.ite ?_ ?_)
      | (with_reducible refine LeO.bind ?_ (fun _ => ?_))
set_option maxHeartbeats 8000000 in
set_option maxRecDepth 100000 in
theorem element_weights.calls (k : Nat) (A0 : Option Addr) (c0 : Nat) (l0 : List Int) (r : ByteArray) (w : World) (hr0 : Kd.C (Kd.int .i64) w A0 l0.length l0) (hc0 : l0.length ≤ c0) (h : element_weights.f k l0 = some r) :
    Calls Tryz.prog 49 #[.slice A0 l0.length c0] w fun e w' => e = .returned (.string r) ∧ Below w.heap.size w w' := by
  (have HR0 := Aside0.mk hr0); (have HC0 := Aside0.mk hc0); (clear hr0 hc0); (have HB := Aside0.mk (Below.refl w.heap.size w)); (have H : (element_weights.l0 k ([] : List ByteArray) l0 (l0.length : Int) 0) = some r := h); (clear h); (have H' := Aside0.mk H); (clear H); (go_enter Tryz.func49, Tryz.ntmps49); (go_wp2); (go_loopg [3, 8] k (fun kq v3 v8 w' => ∃ (x3_1 : List ByteArray) (x8_1 : Int), v8 = .int .i64 x8_1 ∧ Aside0 (element_weights.l0 kq x3_1 l0 (l0.length : Int) x8_1 = some r) ∧ Aside0 (kq ≤ k) ∧ Aside0 (Kd.R Kd.string 9 w' w.heap.size (fun _ => True) v3 x3_1) ∧ Aside0 (Below w.heap.size w w')))
  case atStart => exact ⟨(([] : List ByteArray)), (0), (by first | rfl | (simp; done) | (simp [*]; done) | exact congrArg Value.bool (ne_nil_bool _) | exact congrArg Value.bool (eq_nil_bool _)), H', ⟨Nat.le_refl _⟩, ⟨Kn⟩, ⟨Hb⟩⟩
  case round =>
    (clear H'); (obtain ⟨x3_1, x8_1, rfl, HA, HK1, HO_3, HB⟩ := hrel)
    cases gk with
    | zero => exact absurd HA.out (by simp [element_weights.l0])
    | succ k1 =>
      (have H := HA.out); (clear HA); (simp only [element_weights.l0] at H); (by_cases c2 : x8_1 < (l0.length : Int))
      · (rw [if_pos c2] at H); (have c2b0 : decide (x8_1 < (l0.length : Int)) = true := decide_eq_true c2); (clear c2); (by_cases c3 : 0 ≤ x8_1)
        · (rw [if_pos c3] at H); (have c3b0 : decide (0 ≤ x8_1) = true := decide_eq_true c3); (clear c3); (by_cases c4 : x8_1 < (l0.length : Int))
          · (rw [if_pos c4] at H); (have c4b0 : decide (x8_1 < (l0.length : Int)) = true := decide_eq_true c4); (clear c4); (replace H := Option.bind_eq_some_iff.mp H); (obtain ⟨t292, A50, H⟩ := H); (replace H : (if x3_1.length < 8796093022208 then (element_weights.l0 k1 (x3_1 ++ [t292]) l0 (l0.length : Int) (wrap64 (x8_1 + 1))) else (none)) = some r := H); (have A5 := Aside0.mk A50); (clear A50); (by_cases c6 : x3_1.length < 8796093022208)
            · (rw [if_pos c6] at H); (have LMc6 := Aside0.mk c6); (clear c6); (obtain ⟨y293, hy293⟩ : ∃ y_ : List ByteArray, y_ = (x3_1 ++ [t292]) := ⟨_, rfl⟩); (replace H : (element_weights.l0 k1 y293 l0 (l0.length : Int) (wrap64 (x8_1 + 1))) = some r := by first | (rw [hy293]; with_reducible exact H) | (have H2_ := (Option.bind_some _ _).symm.trans H; rw [hy293]; with_reducible exact H2_) | (have H2_ := (Option.bind_some _ _).symm.trans H; with_reducible exact H2_) | with_reducible exact H | (rw [hy293]; exact H) | exact H); (have Ny293 := Aside0.mk hy293); (clear hy293); (have H' := Aside0.mk H); (clear H); (have p291 : 0 ≤ (x8_1 : Int) := Oa); (have q291 : x8_1 < (l0.length : Int) := Oa); (obtain ⟨ad291, e291, hx291_0⟩ := Kd.at_int HR0.out x8_1 p291 q291); (cases e291); (replace hx291_0 := (HB.out.cell (World.block_lt_of_cell? w _ hx291_0)).trans hx291_0); (replace p291 := eq_true p291); (replace q291 := eq_true q291); (go_wp2_with (first | ((with_reducible refine gate_callee (f := 57) rfl ?_); refine Gl (some 14) Tryz.func57 #[.int .i64 (rd l0 x8_1)] ?_; (with_reducible refine (codepoint_Hex.calls (rd l0 x8_1) t292 _ A5.out).mono ?_); rintro e w7 ⟨rfl, hb⟩; refine ⟨_, rfl, ?_⟩; replace HO_3 := Aside0.mk (Kd.R_below (Kr HO_3) hb); replace HB := Bs hb) | ((with_reducible refine gate_builtin (b := .append) (xs := #[.tmp 12, .tmp 15]) rfl ?_); at_builtin; refine Kd.R_append Kd.string (w0 := w) w.heap.size rfl (.tmp 12) (.tmp 15) 68 9 (.string ⟨#[]⟩) 16 rfl Tryz.underlying68 info9 rfl (by decide) (by omega) u3 x3_1 t292 [.string t292] (fun _ => True) (fun _ => False) rfl rfl ?aP (fun _ hk => hk.elim) ?aF ?aO ?aB ?aS ?aL ?_; (case aP => exact rfl); (case aB => exact Hb); (case aF => exact (fun _ _ => trivial)); (case aO => exact (Kr HO_3)); (case aS => exact (below_size Hb)); (case aL => have := LMc6.out; omega); intro v294 w8 ho hb hg hat; rw [← Ny293.out] at ho; have HO295 := Aside0.mk (ho); replace HB := Aside0.mk (hb); clear HO_3; clear ho hb hg hat))); (go_roundg k1)
              case measure => have := HK1.out; omega
              case rel => exact ⟨(y293), (wrap64 (x8_1 + 1)), (by first | rfl | (simp; done) | (simp [*]; done) | exact congrArg Value.bool (ne_nil_bool _) | exact congrArg Value.bool (eq_nil_bool _)), H', ⟨by have := HK1.out; omega⟩, ⟨by (with_reducible repeat (first | apply Kd.R_alloc | apply Kd.R_drewN | apply Kd.R_drew)); exact HO295.out⟩, ⟨Hb⟩⟩
            · (rw [if_neg c6] at H); (exact absurd H (by simp))
          · (rw [if_neg c4] at H); (exact absurd H (by simp))
        · (rw [if_neg c3] at H); (exact absurd H (by simp))
      · (rw [if_neg c2] at H); (have c2b0 : decide (x8_1 < (l0.length : Int)) = false := decide_eq_false c2); (clear c2); (replace H := Option.bind_eq_some_iff.mp H); (obtain ⟨t296, A90, H⟩ := H); (replace H : (some t296) = some r := H); (have A9 := Aside0.mk A90); (clear A90); (obtain rfl := Option.some.inj H); (obtain ⟨Ao10, co10, eo10⟩ := Kd.R_slice HO_3.out); (subst eo10); (go_wp2_with (first | ((with_reducible refine gate_callee (f := 54) rfl ?_); refine Gl (some 19) Tryz.func54 #[.slice Ao10 x3_1.length co10, .string (⟨#[46]⟩ : ByteArray)] ?_; (with_reducible refine (strings_Join.calls _ _ x3_1 (⟨#[46]⟩ : ByteArray) t296 _ ?side1 ?side2 A9.out).mono ?_); (case side1 => repeat (first | exact (Kd.R_reads' HO_3.out).2.2 | (with_reducible refine Kd.C_alloc ?_ _) | (with_reducible refine Kd.C_drewN ?_ _) | (with_reducible refine Kd.C_drew ?_))); (case side2 => exact (Kd.R_reads' HO_3.out).2.1); rintro e w11 ⟨rfl, hb⟩; refine ⟨_, rfl, ?_⟩; replace HO_3 := Aside0.mk (Kd.R_below (Kr HO_3) hb); replace HB := Bs hb))); (go_ret); (exact ⟨Er, Hb⟩)
def escape_Codes.l0 : Nat → List ByteArray → List Int → Int → Int → Option (ByteArray × Int)
  | 0, _, _, _, _ => none
  | k + 1, x4, x10, x11, x12 => if x12 < x11 then (if 0 ≤ x12 then (if x12 < (x10.length : Int) then ((codepoint_Hex.f (rd x10 x12)).bind fun t299 => (if x4.length < 8796093022208 then (escape_Codes.l0 k (x4 ++ [t299]) x10 x11 (wrap64 (x12 + 1))) else (none))) else (none)) else (none)) else ((strings_Join.f x4 (⟨#[32]⟩ : ByteArray)).bind fun t303 => (some (t303, 0)))
def escape_Codes.f (k : Nat) (l0 : List Int) : Option (ByteArray × Int) := (escape_valid.f k l0).bind fun t297 => (if t297 = true then (escape_Codes.l0 k ([] : List ByteArray) l0 (l0.length : Int) 0) else (some ((⟨#[]⟩ : ByteArray), 1)))
theorem escape_Codes.mono_l : ∀ k, (∀ y0 y1 y2 y3, LeO (escape_Codes.l0 k y0 y1 y2 y3) (escape_Codes.l0 (k + 1) y0 y1 y2 y3))
  | 0 => fun _ _ _ _ r h => by simp [escape_Codes.l0] at h
  | k + 1 => by
    have ih0 := escape_Codes.mono_l k
    · (intro y0 y1 y2 y3); (unfold escape_Codes.l0)
      repeat' first
      | (with_reducible exact ih0 _ _ _ _)
      | (with_reducible exact escape_valid.mono _ _)
      | (with_reducible exact LeO.refl _)
      | (with_reducible exact LeO.none _)
      | (with_reducible refine LeO.ite ?_ ?_)
      | (with_reducible refine LeO.bind ?_ (fun _ => ?_))
theorem escape_Codes.mono : ∀ a0 k, LeO (escape_Codes.f k a0) (escape_Codes.f (k + 1) a0) := by
  (intro a0 k); (have ih0 := escape_Codes.mono_l k); (unfold escape_Codes.f)
  repeat' first
      | (with_reducible exact ih0 _ _ _ _)
      | (with_reducible exact escape_valid.mono _ _)
      | (with_reducible exact LeO.refl _)
      | (with_reducible exact LeO.none _)
      | (with_reducible refine LeO.ite ?_ ?_)
      | (with_reducible refine LeO.bind ?_ (fun _ => ?_))
set_option maxHeartbeats 8000000 in
set_option maxRecDepth 100000 in
theorem escape_Codes.calls (k : Nat) (A0 : Option Addr) (c0 : Nat) (l0 : List Int) (r1 : ByteArray) (r2 : Int) (w : World) (hr0 : Kd.C (Kd.int .i64) w A0 l0.length l0) (hc0 : l0.length ≤ c0) (h : escape_Codes.f k l0 = some (r1, r2)) :
    Calls Tryz.prog 30 #[.slice A0 l0.length c0] w fun e w' => e = .returned (.tuple #[.string r1, .int .i64 r2]) ∧ Below w.heap.size w w' := by
  (have HR0 := Aside0.mk hr0); (have HC0 := Aside0.mk hc0); (clear hr0 hc0); (have HB := Aside0.mk (Below.refl w.heap.size w)); (have H : ((escape_valid.f k l0).bind fun t297 => (if t297 = true then (escape_Codes.l0 k ([] : List ByteArray) l0 (l0.length : Int) 0) else (some ((⟨#[]⟩ : ByteArray), 1)))) = some (r1, r2) := h); (clear h); (replace H := Option.bind_eq_some_iff.mp H); (obtain ⟨t297, A20, H⟩ := H); (replace H : (if t297 = true then (escape_Codes.l0 k ([] : List ByteArray) l0 (l0.length : Int) 0) else (some ((⟨#[]⟩ : ByteArray), 1))) = some (r1, r2) := H); (have A2 := Aside0.mk A20); (clear A20); (by_cases c3 : t297 = true)
  · (subst c3); (have H1 : (escape_Codes.l0 k ([] : List ByteArray) l0 (l0.length : Int) 0) = some (r1, r2) := by rw [if_pos rfl] at H; exact H); (clear H); (have H := H1); (clear H1); (have H' := Aside0.mk H); (clear H); (go_enter Tryz.func30, Tryz.ntmps30); (go_wp2_with (first | ((with_reducible refine gate_callee (f := 56) rfl ?_); refine Gl (some 8) Tryz.func56 #[.slice A0 l0.length c0] ?_; (with_reducible refine (escape_valid.calls k _ _ l0 true _ ?side1 ?side2 A2.out).mono ?_); (case side1 => repeat (first | exact HR0.out | (with_reducible refine Kd.C_alloc ?_ _) | (with_reducible refine Kd.C_drewN ?_ _) | (with_reducible refine Kd.C_drew ?_))); (case side2 => exact HC0.out); rintro e w' ⟨rfl, ⟨nd, rfl⟩⟩; refine ⟨_, rfl, ?_⟩))); (go_loopg [4, 12] k (fun kq v4 v12 w' => ∃ (x4_1 : List ByteArray) (x12_1 : Int), v12 = .int .i64 x12_1 ∧ Aside0 (escape_Codes.l0 kq x4_1 l0 (l0.length : Int) x12_1 = some (r1, r2)) ∧ Aside0 (kq ≤ k) ∧ Aside0 (Kd.R Kd.string 9 w' w.heap.size (fun _ => True) v4 x4_1) ∧ Aside0 (Below w.heap.size w w')))
    case atStart => exact ⟨(([] : List ByteArray)), (0), (by first | rfl | (simp; done) | (simp [*]; done) | exact congrArg Value.bool (ne_nil_bool _) | exact congrArg Value.bool (eq_nil_bool _)), H', ⟨Nat.le_refl _⟩, ⟨Kn⟩, ⟨Hb⟩⟩
    case round =>
      (clear H'); (try clear p2); (try clear c3); (obtain ⟨x4_1, x12_1, rfl, HA, HK1, HO_4, HB⟩ := hrel)
      cases gk with
      | zero => exact absurd HA.out (by simp [escape_Codes.l0])
      | succ k1 =>
        (have H := HA.out); (clear HA); (simp only [escape_Codes.l0] at H); (by_cases c4 : x12_1 < (l0.length : Int))
        · (rw [if_pos c4] at H); (have c4b0 : decide (x12_1 < (l0.length : Int)) = true := decide_eq_true c4); (clear c4); (by_cases c5 : 0 ≤ x12_1)
          · (rw [if_pos c5] at H); (have c5b0 : decide (0 ≤ x12_1) = true := decide_eq_true c5); (clear c5); (by_cases c6 : x12_1 < (l0.length : Int))
            · (rw [if_pos c6] at H); (have c6b0 : decide (x12_1 < (l0.length : Int)) = true := decide_eq_true c6); (clear c6); (replace H := Option.bind_eq_some_iff.mp H); (obtain ⟨t299, A70, H⟩ := H); (replace H : (if x4_1.length < 8796093022208 then (escape_Codes.l0 k1 (x4_1 ++ [t299]) l0 (l0.length : Int) (wrap64 (x12_1 + 1))) else (none)) = some (r1, r2) := H); (have A7 := Aside0.mk A70); (clear A70); (by_cases c8 : x4_1.length < 8796093022208)
              · (rw [if_pos c8] at H); (have LMc8 := Aside0.mk c8); (clear c8); (obtain ⟨y300, hy300⟩ : ∃ y_ : List ByteArray, y_ = (x4_1 ++ [t299]) := ⟨_, rfl⟩); (replace H : (escape_Codes.l0 k1 y300 l0 (l0.length : Int) (wrap64 (x12_1 + 1))) = some (r1, r2) := by first | (rw [hy300]; with_reducible exact H) | (have H2_ := (Option.bind_some _ _).symm.trans H; rw [hy300]; with_reducible exact H2_) | (have H2_ := (Option.bind_some _ _).symm.trans H; with_reducible exact H2_) | with_reducible exact H | (rw [hy300]; exact H) | exact H); (have Ny300 := Aside0.mk hy300); (clear hy300); (have H' := Aside0.mk H); (clear H); (have p298 : 0 ≤ (x12_1 : Int) := Oa); (have q298 : x12_1 < (l0.length : Int) := Oa); (obtain ⟨ad298, e298, hx298_0⟩ := Kd.at_int HR0.out x12_1 p298 q298); (cases e298); (replace hx298_0 := (HB.out.cell (World.block_lt_of_cell? w _ hx298_0)).trans hx298_0); (replace p298 := eq_true p298); (replace q298 := eq_true q298); (go_wp2_with (first | ((with_reducible refine gate_callee (f := 57) rfl ?_); refine Gl (some 18) Tryz.func57 #[.int .i64 (rd l0 x12_1)] ?_; (with_reducible refine (codepoint_Hex.calls (rd l0 x12_1) t299 _ A7.out).mono ?_); rintro e w9 ⟨rfl, hb⟩; refine ⟨_, rfl, ?_⟩; replace HO_4 := Aside0.mk (Kd.R_below (Kr HO_4) hb); replace HB := Bs hb) | ((with_reducible refine gate_builtin (b := .append) (xs := #[.tmp 16, .tmp 19]) rfl ?_); at_builtin; refine Kd.R_append Kd.string (w0 := w) w.heap.size rfl (.tmp 16) (.tmp 19) 68 9 (.string ⟨#[]⟩) 16 rfl Tryz.underlying68 info9 rfl (by decide) (by omega) u4 x4_1 t299 [.string t299] (fun _ => True) (fun _ => False) rfl rfl ?aP (fun _ hk => hk.elim) ?aF ?aO ?aB ?aS ?aL ?_; (case aP => exact rfl); (case aB => exact Hb); (case aF => exact (fun _ _ => trivial)); (case aO => exact (Kr HO_4)); (case aS => exact (below_size Hb)); (case aL => have := LMc8.out; omega); intro v301 w10 ho hb hg hat; rw [← Ny300.out] at ho; have HO302 := Aside0.mk (ho); replace HB := Aside0.mk (hb); clear HO_4; clear ho hb hg hat))); (go_roundg k1)
                case measure => have := HK1.out; omega
                case rel => exact ⟨(y300), (wrap64 (x12_1 + 1)), (by first | rfl | (simp; done) | (simp [*]; done) | exact congrArg Value.bool (ne_nil_bool _) | exact congrArg Value.bool (eq_nil_bool _)), H', ⟨by have := HK1.out; omega⟩, ⟨by (with_reducible repeat (first | apply Kd.R_alloc | apply Kd.R_drewN | apply Kd.R_drew)); exact HO302.out⟩, ⟨Hb⟩⟩
              · (rw [if_neg c8] at H); (exact absurd H (by simp))
            · (rw [if_neg c6] at H); (exact absurd H (by simp))
          · (rw [if_neg c5] at H); (exact absurd H (by simp))
        · (rw [if_neg c4] at H); (have c4b0 : decide (x12_1 < (l0.length : Int)) = false := decide_eq_false c4); (clear c4); (replace H := Option.bind_eq_some_iff.mp H); (obtain ⟨t303, A110, H⟩ := H); (replace H : (some (t303, 0)) = some (r1, r2) := H); (have A11 := Aside0.mk A110); (clear A110); (simp only [Option.some.injEq, Prod.mk.injEq] at H); (obtain ⟨rfl, rfl⟩ := H); (obtain ⟨Ao12, co12, eo12⟩ := Kd.R_slice HO_4.out); (subst eo12); (go_wp2_with (first | ((with_reducible refine gate_callee (f := 54) rfl ?_); refine Gl (some 23) Tryz.func54 #[.slice Ao12 x4_1.length co12, .string (⟨#[32]⟩ : ByteArray)] ?_; (with_reducible refine (strings_Join.calls _ _ x4_1 (⟨#[32]⟩ : ByteArray) t303 _ ?side1 ?side2 A11.out).mono ?_); (case side1 => repeat (first | exact (Kd.R_reads' HO_4.out).2.2 | (with_reducible refine Kd.C_alloc ?_ _) | (with_reducible refine Kd.C_drewN ?_ _) | (with_reducible refine Kd.C_drew ?_))); (case side2 => exact (Kd.R_reads' HO_4.out).2.1); rintro e w13 ⟨rfl, hb⟩; refine ⟨_, rfl, ?_⟩; replace HO_4 := Aside0.mk (Kd.R_below (Kr HO_4) hb); replace HB := Bs hb))); (go_ret2); (exact ⟨Er, Hb⟩)
  · (replace c3 := Bool.eq_false_iff.mpr c3); (subst c3); (have H1 : (some ((⟨#[]⟩ : ByteArray), 1)) = some (r1, r2) := by rw [if_neg (show ¬ (false = true) by decide)] at H; exact H); (clear H); (have H := H1); (clear H1); (simp only [Option.some.injEq, Prod.mk.injEq] at H); (obtain ⟨rfl, rfl⟩ := H); (go_enter Tryz.func30, Tryz.ntmps30); (go_wp2_with (first | ((with_reducible refine gate_callee (f := 56) rfl ?_); refine Gl (some 8) Tryz.func56 #[.slice A0 l0.length c0] ?_; (with_reducible refine (escape_valid.calls k _ _ l0 false _ ?side1 ?side2 A2.out).mono ?_); (case side1 => repeat (first | exact HR0.out | (with_reducible refine Kd.C_alloc ?_ _) | (with_reducible refine Kd.C_drewN ?_ _) | (with_reducible refine Kd.C_drew ?_))); (case side2 => exact HC0.out); rintro e w' ⟨rfl, ⟨nd, rfl⟩⟩; refine ⟨_, rfl, ?_⟩))); (go_ret2); (exact ⟨Er, Hb⟩)
end Go.Proofs.YtdaijpjjilmkkaaGreatDoor.Pr
