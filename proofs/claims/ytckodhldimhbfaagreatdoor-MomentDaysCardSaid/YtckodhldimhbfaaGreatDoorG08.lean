/-
  Part 8 of the proof: what functions return, and plain facts (Shelf Pfmt Pcarry). Conditions: each theorem names its own.
-/
import Derived.Shelf.Strings.Builder1
import Derived.Shelf.Strings.Builder2
import Derived.Shelf.Strings.Trim
import Derived.Shelf.Small.Utf8
import Derived.Shelf.Small.Strs
import Derived.Shelf.Small.Wraps
import Derived.Shelf.Strings.BuilderF
import Derived.Shelf.Strings.BuilderK
import Derived.Shelf.Strconv.Atoi
import Derived.Shelf.Strconv.Itoa0
import Derived.Shelf.Strconv.Itoa1
import Derived.Shelf.LaysM
import Derived.Shelf.Strconv.Itoa2
import Derived.Shelf.Strconv.Itoa3
import Derived.Shelf.Strconv.Itoa4
import Derived.Shelf.Strconv.ParseIntEmpty
import Derived.Shelf.Strconv.Clone
import Derived.Shelf.Strconv.SyntaxError
import Derived.Shelf.LaysC
import Derived.Shelf.Strconv.ToError
import Derived.Shelf.Strconv.Lower
import Derived.Shelf.Strconv.ParseUint10
import Derived.Shelf.Strconv.ParseUint10Empty
import Derived.Shelf.Strconv.ParseUint10Any
import Derived.Shelf.Strconv.ParseInt10
import Derived.Shelf.Strconv.RangeError
import Derived.Shelf.Strconv.ToErrorRange
import Derived.Shelf.Strconv.ParseUintEmpty
import Derived.Shelf.Strconv.ParseUint10b64
import Derived.Shelf.Strconv.ParseUint10b32
import Derived.Shelf.Strconv.ParseUint10b16
import Derived.Shelf.Strconv.ParseUint10b8
import Derived.Shelf.Strconv.ParseUint10At
import Derived.Shelf.Strconv.ParseInt10At64
import Derived.Shelf.Strconv.ParseInt10At32
import Derived.Shelf.Strconv.ParseInt10At16
import Derived.Shelf.Strconv.ParseInt10At8
import Derived.Shelf.Strconv.ParseInt10All
import Derived.Shelf.Strconv.ParseIntPublic10
import Derived.Ground.MpProg
import Derived.Shelf.Pu.ParseUintPublic10
import Derived.Shelf.Pu.ErrVarParseUint
import Derived.Shelf.Strings.Search1
import Derived.Shelf.Strings.Search2
import Derived.Shelf.Strings.Cut
import Derived.Shelf.Strings.Shaped
import Derived.Shelf.Strings.Prefix
import Derived.Shelf.Unicode.Decode
import Derived.Shelf.Strings.Runes
import Derived.Shelf.Strings.AsciiSet
import Derived.Shelf.Bits.Mul64
import Derived.Shelf.Strings.Repeat
import Derived.Shelf.Unicode.DecodeSlow
import Derived.Shelf.Unicode.DecodeAny
import Derived.Test.YtckodhldimhbfaaGreatDoorProg
import Derived.Test.YtckodhldimhbfaaGreatDoorG07
import Derived.Lib.ItoaMem
import Derived.Lib.AppendIntMem
set_option maxRecDepth 1000000
set_option maxHeartbeats 16000000
namespace Go.Proofs
open Go.Shelf
def Tryz.lays169_ren : Go.Shelf.Ren := ⟨fun | 169 => 67 | n => n, fun | 70 => 82 | 9 => 9 | 0 => 0 | 72 => 85 | 37 => 83 | 127 => 120 | 3 => 3 | 5 => 5 | n => n, fun | n => n⟩
theorem Tryz.lays169 : Go.Proofs.Lays.n169 Tryz.prog Tryz.lays169_ren := {
 mixed := by kernel_rfl
 f169 := Tryz.func67.trans (congrArg some (by kernel_rfl))
 t0 := Tryz.underlying0
 a0 := Tryz.isAgg0
 z0 := Tryz.sizeOf0
 v0 := Tryz.zeroValue0
 t3 := Tryz.underlying3
 a3 := Tryz.isAgg3
 z3 := Tryz.sizeOf3
 v3 := Tryz.zeroValue3
 t9 := Tryz.underlying9
 a9 := Tryz.isAgg9
 z9 := Tryz.sizeOf9
 v9 := Tryz.zeroValue9
 t37 := Tryz.underlying83
 a37 := Tryz.isAgg83
 z37 := Tryz.sizeOf83
 v37 := Tryz.zeroValue83
 t70 := Tryz.underlying82
 a70 := Tryz.isAgg82
 z70 := Tryz.sizeOf82
 v70 := Tryz.zeroValue82
 t72 := Tryz.underlying85
 a72 := Tryz.isAgg85
 z72 := Tryz.sizeOf85
 v72 := Tryz.zeroValue85
 t127 := Tryz.underlying120
 a127 := Tryz.isAgg120
 z127 := Tryz.sizeOf120
 v127 := Tryz.zeroValue120 }
theorem Tryz.Builder_Extra_169 : Builder.Extra Tryz.prog Tryz.lays169_ren := {
 sizeBuilder := by kernel_rfl
 liesBuilder := by kernel_rfl
 t5 := Tryz.underlying5
 a5 := Tryz.isAgg5
 z5 := Tryz.sizeOf5
 v5 := Tryz.zeroValue5
 infoByte := by kernel_rfl
 cellsByte := by kernel_rfl
 sizeByte := by kernel_rfl
 neB5 := by decide }
open Go.RowKit in
theorem Tryz.Builder_String_any (B b : Nat) (l : List UInt8) (w : World) (h : Lib.IsBuilder 85 5 B b (Lib.byteCells l) w) (hBw : B <= w.heap.size) :
  Calls Tryz.prog 67 #[.pointer (some ⟨b, 0, none⟩)] w fun e w' => e = .returned (.string ⟨l.toArray⟩) /\ Below B w w' := Any.Builder_String_any Tryz.lays169 Tryz.Builder_Extra_169 B b l w h hBw
def Tryz.lays161_ren : Go.Shelf.Ren := ⟨fun | 161 => 100 | 231 => 128 | 227 => 129 | 233 => 130 | 235 => 131 | 228 => 158 | 197 => 159 | 151 => 160 | 260 => 182 | 152 => 183 | 137 => 189 | 119 => 190 | 224 => 166 | 225 => 165 | 217 => 164 | 266 => 185 | n => n, fun | 9 => 9 | 4 => 4 | 3 => 3 | 5 => 5 | 117 => 138 | 116 => 137 | 0 => 0 | 124 => 141 | 105 => 167 | 21 => 21 | 119 => 192 | 46 => 144 | 139 => 195 | 138 => 194 | n => n, fun | 3 => 5 | 4 => 6 | n => n⟩
theorem Tryz.lays161 : Go.Proofs.Lays.n161 Tryz.prog Tryz.lays161_ren := {
 mixed := by kernel_rfl
 f119 := Tryz.func190.trans (congrArg some (by kernel_rfl))
 f137 := Tryz.func189.trans (congrArg some (by kernel_rfl))
 f151 := Tryz.func160.trans (congrArg some (by kernel_rfl))
 f152 := Tryz.func183.trans (congrArg some (by kernel_rfl))
 f161 := Tryz.func100.trans (congrArg some (by kernel_rfl))
 f197 := Tryz.func159.trans (congrArg some (by kernel_rfl))
 f217 := Tryz.func164.trans (congrArg some (by kernel_rfl))
 f224 := Tryz.func166.trans (congrArg some (by kernel_rfl))
 f225 := Tryz.func165.trans (congrArg some (by kernel_rfl))
 f227 := Tryz.func129.trans (congrArg some (by kernel_rfl))
 f228 := Tryz.func158.trans (congrArg some (by kernel_rfl))
 f231 := Tryz.func128.trans (congrArg some (by kernel_rfl))
 f233 := Tryz.func130.trans (congrArg some (by kernel_rfl))
 f235 := Tryz.func131.trans (congrArg some (by kernel_rfl))
 f260 := Tryz.func182.trans (congrArg some (by kernel_rfl))
 f266 := Tryz.func185.trans (congrArg some (by kernel_rfl))
 t0 := Tryz.underlying0
 a0 := Tryz.isAgg0
 z0 := Tryz.sizeOf0
 v0 := Tryz.zeroValue0
 t3 := Tryz.underlying3
 a3 := Tryz.isAgg3
 z3 := Tryz.sizeOf3
 v3 := Tryz.zeroValue3
 t4 := Tryz.underlying4
 a4 := Tryz.isAgg4
 z4 := Tryz.sizeOf4
 v4 := Tryz.zeroValue4
 t5 := Tryz.underlying5
 a5 := Tryz.isAgg5
 z5 := Tryz.sizeOf5
 v5 := Tryz.zeroValue5
 t9 := Tryz.underlying9
 a9 := Tryz.isAgg9
 z9 := Tryz.sizeOf9
 v9 := Tryz.zeroValue9
 t21 := Tryz.underlying21
 a21 := Tryz.isAgg21
 z21 := Tryz.sizeOf21
 v21 := Tryz.zeroValue21
 t46 := Tryz.underlying144
 a46 := Tryz.isAgg144
 z46 := Tryz.sizeOf144
 v46 := Tryz.zeroValue144
 t105 := Tryz.underlying167
 a105 := Tryz.isAgg167
 z105 := Tryz.sizeOf167
 v105 := Tryz.zeroValue167
 t116 := Tryz.underlying137
 a116 := Tryz.isAgg137
 z116 := Tryz.sizeOf137
 t117 := Tryz.underlying138
 a117 := Tryz.isAgg138
 z117 := Tryz.sizeOf138
 v117 := Tryz.zeroValue138
 t119 := Tryz.underlying192
 a119 := Tryz.isAgg192
 z119 := Tryz.sizeOf192
 t124 := Tryz.underlying141
 a124 := Tryz.isAgg141
 z124 := Tryz.sizeOf141
 v124 := Tryz.zeroValue141
 t138 := Tryz.underlying194
 a138 := Tryz.isAgg194
 z138 := Tryz.sizeOf194
 v138 := Tryz.zeroValue194
 t139 := Tryz.underlying195
 a139 := Tryz.isAgg195
 z139 := Tryz.sizeOf195
 v139 := Tryz.zeroValue195
 g3 := by kernel_rfl
 g4 := by kernel_rfl }
open Go.RowKit in
theorem Tryz.strings_TrimLeft_one (s : ByteArray) (c : UInt8) (hc : c.toNat < 128) (w : World) :
  Calls Tryz.prog 100 #[.string s, .string ⟨#[c]⟩] w fun e w' => e = .returned (.string ⟨(Lib.trimLeftB s.data.toList c).toArray⟩) /\ w' = w := Any.strings_TrimLeft_one Tryz.lays161 s c hc w
def Tryz.lays103_ren : Go.Shelf.Ren := ⟨fun | 103 => 126 | 210 => 156 | 206 => 132 | n => n, fun | 9 => 9 | 4 => 4 | 24 => 133 | 3 => 3 | n => n, fun | n => n⟩
theorem Tryz.lays103 : Go.Proofs.Lays.n103 Tryz.prog Tryz.lays103_ren := {
 mixed := by kernel_rfl
 f103 := Tryz.func126.trans (congrArg some (by kernel_rfl))
 f206 := Tryz.func132.trans (congrArg some (by kernel_rfl))
 f210 := Tryz.func156.trans (congrArg some (by kernel_rfl))
 t3 := Tryz.underlying3
 a3 := Tryz.isAgg3
 z3 := Tryz.sizeOf3
 v3 := Tryz.zeroValue3
 t4 := Tryz.underlying4
 a4 := Tryz.isAgg4
 z4 := Tryz.sizeOf4
 v4 := Tryz.zeroValue4
 t9 := Tryz.underlying9
 a9 := Tryz.isAgg9
 z9 := Tryz.sizeOf9
 v9 := Tryz.zeroValue9
 t24 := Tryz.underlying133
 a24 := Tryz.isAgg133
 z24 := Tryz.sizeOf133
 v24 := Tryz.zeroValue133 }
open Go.RowKit in
theorem Tryz.strings_CutPrefix (s p : ByteArray) (w : World) :
  Calls Tryz.prog 126 #[.string s, .string p] w fun e w' => e = .returned (.tuple #[.string ⟨(Lib.trimPrefix s.data.toList p.data.toList).toArray⟩, .bool (Lib.hasPrefix s.data.toList p.data.toList)]) /\ w' = w := Any.strings_CutPrefix Tryz.lays103 s p w
def Tryz.lays172_ren : Go.Shelf.Ren := ⟨fun | 172 => 127 | 244 => 157 | 245 => 120 | 247 => 119 | 279 => 150 | 280 => 151 | 281 => 152 | 282 => 153 | 287 => 149 | 316 => 179 | 171 => 104 | 205 => 180 | 321 => 177 | 322 => 178 | 243 => 134 | 246 => 113 | 283 => 141 | 284 => 142 | 285 => 143 | 286 => 144 | 129 => 169 | 317 => 168 | 318 => 170 | 319 => 171 | 320 => 172 | 337 => 187 | 338 => 188 | n => n, fun | 9 => 9 | 3 => 3 | 75 => 87 | 76 => 88 | 4 => 4 | 5 => 5 | 167 => 162 | 37 => 83 | 0 => 0 | 85 => 113 | 2 => 2 | 168 => 163 | 53 => 151 | 175 => 152 | 46 => 144 | 210 => 183 | 127 => 120 | 145 => 191 | 143 => 189 | 21 => 21 | 171 => 154 | 173 => 157 | 212 => 176 | 51 => 101 | 20 => 20 | 213 => 177 | 232 => 197 | 233 => 198 | 80 => 93 | n => n, fun | 15 => 3 | 16 => 4 | 17 => 2 | 18 => 7 | 19 => 8 | n => n⟩
theorem Tryz.lays172 : Go.Proofs.Lays.n172 Tryz.prog Tryz.lays172_ren := {
 mixed := by kernel_rfl
 f129 := Tryz.func169.trans (congrArg some (by kernel_rfl))
 f171 := Tryz.func104.trans (congrArg some (by kernel_rfl))
 f172 := Tryz.func127.trans (congrArg some (by kernel_rfl))
 f205 := Tryz.func180.trans (congrArg some (by kernel_rfl))
 f243 := Tryz.func134.trans (congrArg some (by kernel_rfl))
 f244 := Tryz.func157.trans (congrArg some (by kernel_rfl))
 f245 := Tryz.func120.trans (congrArg some (by kernel_rfl))
 f246 := Tryz.func113.trans (congrArg some (by kernel_rfl))
 f247 := Tryz.func119.trans (congrArg some (by kernel_rfl))
 f279 := Tryz.func150.trans (congrArg some (by kernel_rfl))
 f280 := Tryz.func151.trans (congrArg some (by kernel_rfl))
 f281 := Tryz.func152.trans (congrArg some (by kernel_rfl))
 f282 := Tryz.func153.trans (congrArg some (by kernel_rfl))
 f283 := Tryz.func141.trans (congrArg some (by kernel_rfl))
 f284 := Tryz.func142.trans (congrArg some (by kernel_rfl))
 f285 := Tryz.func143.trans (congrArg some (by kernel_rfl))
 f286 := Tryz.func144.trans (congrArg some (by kernel_rfl))
 f287 := Tryz.func149.trans (congrArg some (by kernel_rfl))
 f316 := Tryz.func179.trans (congrArg some (by kernel_rfl))
 f317 := Tryz.func168.trans (congrArg some (by kernel_rfl))
 f318 := Tryz.func170.trans (congrArg some (by kernel_rfl))
 f319 := Tryz.func171.trans (congrArg some (by kernel_rfl))
 f320 := Tryz.func172.trans (congrArg some (by kernel_rfl))
 f321 := Tryz.func177.trans (congrArg some (by kernel_rfl))
 f322 := Tryz.func178.trans (congrArg some (by kernel_rfl))
 f337 := Tryz.func187.trans (congrArg some (by kernel_rfl))
 f338 := Tryz.func188.trans (congrArg some (by kernel_rfl))
 t0 := Tryz.underlying0
 a0 := Tryz.isAgg0
 z0 := Tryz.sizeOf0
 v0 := Tryz.zeroValue0
 t2 := Tryz.underlying2
 a2 := Tryz.isAgg2
 z2 := Tryz.sizeOf2
 v2 := Tryz.zeroValue2
 t3 := Tryz.underlying3
 a3 := Tryz.isAgg3
 z3 := Tryz.sizeOf3
 v3 := Tryz.zeroValue3
 t4 := Tryz.underlying4
 a4 := Tryz.isAgg4
 z4 := Tryz.sizeOf4
 v4 := Tryz.zeroValue4
 t5 := Tryz.underlying5
 a5 := Tryz.isAgg5
 z5 := Tryz.sizeOf5
 v5 := Tryz.zeroValue5
 t9 := Tryz.underlying9
 a9 := Tryz.isAgg9
 z9 := Tryz.sizeOf9
 v9 := Tryz.zeroValue9
 t20 := Tryz.underlying20
 a20 := Tryz.isAgg20
 z20 := Tryz.sizeOf20
 v20 := Tryz.zeroValue20
 t21 := Tryz.underlying21
 a21 := Tryz.isAgg21
 z21 := Tryz.sizeOf21
 v21 := Tryz.zeroValue21
 t37 := Tryz.underlying83
 a37 := Tryz.isAgg83
 z37 := Tryz.sizeOf83
 v37 := Tryz.zeroValue83
 t46 := Tryz.underlying144
 a46 := Tryz.isAgg144
 z46 := Tryz.sizeOf144
 v46 := Tryz.zeroValue144
 t51 := Tryz.underlying101
 a51 := Tryz.isAgg101
 z51 := Tryz.sizeOf101
 v51 := Tryz.zeroValue101
 t53 := Tryz.underlying151
 a53 := Tryz.isAgg151
 z53 := Tryz.sizeOf151
 v53 := Tryz.zeroValue151
 t75 := Tryz.underlying87
 a75 := Tryz.isAgg87
 z75 := Tryz.sizeOf87
 v75 := Tryz.zeroValue87
 t76 := Tryz.underlying88
 a76 := Tryz.isAgg88
 z76 := Tryz.sizeOf88
 v76 := Tryz.zeroValue88
 t85 := Tryz.underlying113
 a85 := Tryz.isAgg113
 z85 := Tryz.sizeOf113
 v85 := Tryz.zeroValue113
 t127 := Tryz.underlying120
 a127 := Tryz.isAgg120
 z127 := Tryz.sizeOf120
 v127 := Tryz.zeroValue120
 t143 := Tryz.underlying189
 a143 := Tryz.isAgg189
 z143 := Tryz.sizeOf189
 v143 := Tryz.zeroValue189
 t145 := Tryz.underlying191
 a145 := Tryz.isAgg191
 z145 := Tryz.sizeOf191
 v145 := Tryz.zeroValue191
 t167 := Tryz.underlying162
 a167 := Tryz.isAgg162
 z167 := Tryz.sizeOf162
 v167 := Tryz.zeroValue162
 t168 := Tryz.underlying163
 a168 := Tryz.isAgg163
 z168 := Tryz.sizeOf163
 v168 := Tryz.zeroValue163
 t171 := Tryz.underlying154
 a171 := Tryz.isAgg154
 z171 := Tryz.sizeOf154
 v171 := Tryz.zeroValue154
 t173 := Tryz.underlying157
 a173 := Tryz.isAgg157
 z173 := Tryz.sizeOf157
 v173 := Tryz.zeroValue157
 t175 := Tryz.underlying152
 a175 := Tryz.isAgg152
 z175 := Tryz.sizeOf152
 v175 := Tryz.zeroValue152
 t210 := Tryz.underlying183
 a210 := Tryz.isAgg183
 z210 := Tryz.sizeOf183
 v210 := Tryz.zeroValue183
 t212 := Tryz.underlying176
 a212 := Tryz.isAgg176
 z212 := Tryz.sizeOf176
 v212 := Tryz.zeroValue176
 t213 := Tryz.underlying177
 a213 := Tryz.isAgg177
 z213 := Tryz.sizeOf177
 t232 := Tryz.underlying197
 a232 := Tryz.isAgg197
 z232 := Tryz.sizeOf197
 v232 := Tryz.zeroValue197
 t233 := Tryz.underlying198
 a233 := Tryz.isAgg198
 z233 := Tryz.sizeOf198
 v233 := Tryz.zeroValue198
 g15 := by kernel_rfl
 g16 := by kernel_rfl
 g17 := by kernel_rfl
 g18 := by kernel_rfl
 g19 := by kernel_rfl }
open Go.RowKit in
theorem Tryz.strconv_Atoi (s : ByteArray) (n : Int) (hl : s.size <= 18) (h : Lib.atoi s.data.toList = some n) (w : World) :
  Calls Tryz.prog 127 #[.string s] w fun e w' => e = .returned (.tuple #[.int .i64 n, .nilIface]) /\ ∃ t, w' = Lib.bytesWorld w 5 t := Any.strconv_Atoi Tryz.lays172 s n hl h w
def Tryz.lays283_ren : Go.Shelf.Ren := ⟨fun | 283 => 141 | n => n, fun | 3 => 3 | 9 => 9 | 4 => 4 | n => n, fun | n => n⟩
theorem Tryz.lays283 : Go.Proofs.Lays.n283 Tryz.prog Tryz.lays283_ren := {
 mixed := by kernel_rfl
 f283 := Tryz.func141.trans (congrArg some (by kernel_rfl))
 t3 := Tryz.underlying3
 a3 := Tryz.isAgg3
 z3 := Tryz.sizeOf3
 v3 := Tryz.zeroValue3
 t4 := Tryz.underlying4
 a4 := Tryz.isAgg4
 z4 := Tryz.sizeOf4
 v4 := Tryz.zeroValue4
 t9 := Tryz.underlying9
 a9 := Tryz.isAgg9
 z9 := Tryz.sizeOf9
 v9 := Tryz.zeroValue9 }
open Go.Lib in
theorem Tryz.internal_strconv_small (i : Nat) (h : i < 100) (w : World) :
  Calls Tryz.prog 141 #[.int .i64 i] w fun e w' => e = .returned (.string ⟨(Lib.decDigits i).toArray⟩) /\ w' = w := Any.internal_strconv_small Tryz.lays283 i h w
def Tryz.laysM284_ren : Go.Shelf.Ren := ⟨fun | 284 => 142 | 129 => 169 | 317 => 168 | 318 => 170 | n => n, fun | 53 => 151 | 3 => 3 | 212 => 176 | 0 => 0 | 4 => 4 | 46 => 144 | 5 => 5 | 9 => 9 | n => n, fun | 17 => 2 | n => n⟩
theorem Tryz.laysM284 : Go.Proofs.LaysM.n284 Tryz.prog Tryz.laysM284_ren := {
 mixed := by kernel_rfl
 f129 := Tryz.func169.trans (congrArg some (by kernel_rfl))
 f284 := Tryz.func142.trans (congrArg some (by kernel_rfl))
 f317 := Tryz.func168.trans (congrArg some (by kernel_rfl))
 f318 := Tryz.func170.trans (congrArg some (by kernel_rfl))
 t0 := Tryz.underlying0
 a0 := Tryz.isAgg0
 z0 := Tryz.sizeOf0
 v0 := Tryz.zeroValue0
 t3 := Tryz.underlying3
 a3 := Tryz.isAgg3
 z3 := Tryz.sizeOf3
 v3 := Tryz.zeroValue3
 t4 := Tryz.underlying4
 a4 := Tryz.isAgg4
 z4 := Tryz.sizeOf4
 v4 := Tryz.zeroValue4
 t5 := Tryz.underlying5
 a5 := Tryz.isAgg5
 z5 := Tryz.sizeOf5
 v5 := Tryz.zeroValue5
 t9 := Tryz.underlying9
 a9 := Tryz.isAgg9
 z9 := Tryz.sizeOf9
 v9 := Tryz.zeroValue9
 t46 := Tryz.underlying144
 a46 := Tryz.isAgg144
 z46 := Tryz.sizeOf144
 v46 := Tryz.zeroValue144
 t53 := Tryz.underlying151
 a53 := Tryz.isAgg151
 z53 := Tryz.sizeOf151
 v53 := Tryz.zeroValue151
 t212 := Tryz.underlying176
 a212 := Tryz.isAgg176
 z212 := Tryz.sizeOf176
 v212 := Tryz.zeroValue176
 g17 := by kernel_rfl
 i0 := by kernel_rfl
 i3 := by kernel_rfl
 i4 := by kernel_rfl
 i5 := by kernel_rfl
 i9 := by kernel_rfl
 i46 := by kernel_rfl
 i53 := by kernel_rfl
 i212 := by kernel_rfl
 m17 := by kernel_rfl }
open Go.Lib in
theorem Tryz.internal_strconv_numDigits (u : Nat) (h1 : 1 <= u) (h2 : u < 18446744073709551616) (w : World) (htab : Lib.TabIs Tryz.prog w "internal/strconv.uint64pow10" .u64 Lib.pow10Tab) :
  Calls Tryz.prog 142 #[.int .u64 u] w fun e w' => e = .returned (.int .i64 (Lib.nDigits u)) /\ w' = w := Any.internal_strconv_numDigits Tryz.laysM284 u h1 h2 w htab
def Tryz.lays285_ren : Go.Shelf.Ren := ⟨fun | 285 => 143 | n => n, fun | 37 => 83 | 53 => 151 | 3 => 3 | 4 => 4 | 51 => 101 | 9 => 9 | 5 => 5 | 0 => 0 | n => n, fun | n => n⟩
theorem Tryz.lays285 : Go.Proofs.Lays.n285 Tryz.prog Tryz.lays285_ren := {
 mixed := by kernel_rfl
 f285 := Tryz.func143.trans (congrArg some (by kernel_rfl))
 t0 := Tryz.underlying0
 a0 := Tryz.isAgg0
 z0 := Tryz.sizeOf0
 v0 := Tryz.zeroValue0
 t3 := Tryz.underlying3
 a3 := Tryz.isAgg3
 z3 := Tryz.sizeOf3
 v3 := Tryz.zeroValue3
 t4 := Tryz.underlying4
 a4 := Tryz.isAgg4
 z4 := Tryz.sizeOf4
 v4 := Tryz.zeroValue4
 t5 := Tryz.underlying5
 a5 := Tryz.isAgg5
 z5 := Tryz.sizeOf5
 v5 := Tryz.zeroValue5
 t9 := Tryz.underlying9
 a9 := Tryz.isAgg9
 z9 := Tryz.sizeOf9
 v9 := Tryz.zeroValue9
 t37 := Tryz.underlying83
 a37 := Tryz.isAgg83
 z37 := Tryz.sizeOf83
 v37 := Tryz.zeroValue83
 t51 := Tryz.underlying101
 a51 := Tryz.isAgg101
 z51 := Tryz.sizeOf101
 v51 := Tryz.zeroValue101
 t53 := Tryz.underlying151
 a53 := Tryz.isAgg151
 z53 := Tryz.sizeOf151
 v53 := Tryz.zeroValue151 }
open Go.RowKit Go.Sort Go.Lib in
theorem Tryz.internal_strconv_formatBase10 (blk off cap : Nat) (u : Nat) (d : Array UInt8) (w : World) (hH : Holds (fun (b : UInt8) => Value.int .u8 (b.toNat : Int)) w blk off d) (hu : u < 10 ^ d.size) (hu64 : u < 18446744073709551616) (hsz : d.size < 4611686018427387904) :
  Calls Tryz.prog 143 #[.slice (some ⟨blk, off, none⟩) d.size cap, .int .u64 u] w fun e w' =>
   e = .returned (.tuple #[]) /\ ∃ (n v' : Nat) (dk : Array UInt8), w' = (putRow (fun (b : UInt8) => Value.int .u8 (b.toNat : Int)) w blk off dk).drewN n /\ FmtInv d.size u 0 v' dk := Any.internal_strconv_formatBase10 Tryz.lays285 blk off cap u d w hH hu hu64 hsz
def Tryz.laysM171_ren : Go.Shelf.Ren := ⟨fun | 171 => 104 | 243 => 134 | 246 => 113 | 283 => 141 | 284 => 142 | 285 => 143 | 286 => 144 | 129 => 169 | 317 => 168 | 318 => 170 | 319 => 171 | 320 => 172 | 337 => 187 | 338 => 188 | n => n, fun | 3 => 3 | 9 => 9 | 2 => 2 | 4 => 4 | 171 => 154 | 0 => 0 | 53 => 151 | 37 => 83 | 5 => 5 | 173 => 157 | 212 => 176 | 51 => 101 | 20 => 20 | 213 => 177 | 46 => 144 | 232 => 197 | 233 => 198 | n => n, fun | 17 => 2 | 18 => 7 | 19 => 8 | n => n⟩
theorem Tryz.laysM171 : Go.Proofs.LaysM.n171 Tryz.prog Tryz.laysM171_ren := {
 mixed := by kernel_rfl
 f129 := Tryz.func169.trans (congrArg some (by kernel_rfl))
 f171 := Tryz.func104.trans (congrArg some (by kernel_rfl))
 f243 := Tryz.func134.trans (congrArg some (by kernel_rfl))
 f246 := Tryz.func113.trans (congrArg some (by kernel_rfl))
 f283 := Tryz.func141.trans (congrArg some (by kernel_rfl))
 f284 := Tryz.func142.trans (congrArg some (by kernel_rfl))
 f285 := Tryz.func143.trans (congrArg some (by kernel_rfl))
 f286 := Tryz.func144.trans (congrArg some (by kernel_rfl))
 f317 := Tryz.func168.trans (congrArg some (by kernel_rfl))
 f318 := Tryz.func170.trans (congrArg some (by kernel_rfl))
 f319 := Tryz.func171.trans (congrArg some (by kernel_rfl))
 f320 := Tryz.func172.trans (congrArg some (by kernel_rfl))
 f337 := Tryz.func187.trans (congrArg some (by kernel_rfl))
 f338 := Tryz.func188.trans (congrArg some (by kernel_rfl))
 t0 := Tryz.underlying0
 a0 := Tryz.isAgg0
 z0 := Tryz.sizeOf0
 v0 := Tryz.zeroValue0
 t2 := Tryz.underlying2
 a2 := Tryz.isAgg2
 z2 := Tryz.sizeOf2
 v2 := Tryz.zeroValue2
 t3 := Tryz.underlying3
 a3 := Tryz.isAgg3
 z3 := Tryz.sizeOf3
 v3 := Tryz.zeroValue3
 t4 := Tryz.underlying4
 a4 := Tryz.isAgg4
 z4 := Tryz.sizeOf4
 v4 := Tryz.zeroValue4
 t5 := Tryz.underlying5
 a5 := Tryz.isAgg5
 z5 := Tryz.sizeOf5
 v5 := Tryz.zeroValue5
 t9 := Tryz.underlying9
 a9 := Tryz.isAgg9
 z9 := Tryz.sizeOf9
 v9 := Tryz.zeroValue9
 t20 := Tryz.underlying20
 a20 := Tryz.isAgg20
 z20 := Tryz.sizeOf20
 v20 := Tryz.zeroValue20
 t37 := Tryz.underlying83
 a37 := Tryz.isAgg83
 z37 := Tryz.sizeOf83
 v37 := Tryz.zeroValue83
 t46 := Tryz.underlying144
 a46 := Tryz.isAgg144
 z46 := Tryz.sizeOf144
 v46 := Tryz.zeroValue144
 t51 := Tryz.underlying101
 a51 := Tryz.isAgg101
 z51 := Tryz.sizeOf101
 v51 := Tryz.zeroValue101
 t53 := Tryz.underlying151
 a53 := Tryz.isAgg151
 z53 := Tryz.sizeOf151
 v53 := Tryz.zeroValue151
 t171 := Tryz.underlying154
 a171 := Tryz.isAgg154
 z171 := Tryz.sizeOf154
 v171 := Tryz.zeroValue154
 t173 := Tryz.underlying157
 a173 := Tryz.isAgg157
 z173 := Tryz.sizeOf157
 v173 := Tryz.zeroValue157
 t212 := Tryz.underlying176
 a212 := Tryz.isAgg176
 z212 := Tryz.sizeOf176
 v212 := Tryz.zeroValue176
 t213 := Tryz.underlying177
 a213 := Tryz.isAgg177
 z213 := Tryz.sizeOf177
 t232 := Tryz.underlying197
 a232 := Tryz.isAgg197
 z232 := Tryz.sizeOf197
 v232 := Tryz.zeroValue197
 t233 := Tryz.underlying198
 a233 := Tryz.isAgg198
 z233 := Tryz.sizeOf198
 v233 := Tryz.zeroValue198
 g17 := by kernel_rfl
 g18 := by kernel_rfl
 g19 := by kernel_rfl
 i0 := by kernel_rfl
 i2 := by kernel_rfl
 i3 := by kernel_rfl
 i4 := by kernel_rfl
 i5 := by kernel_rfl
 i9 := by kernel_rfl
 i20 := by kernel_rfl
 i37 := by kernel_rfl
 i46 := by kernel_rfl
 i51 := by kernel_rfl
 i53 := by kernel_rfl
 i171 := by kernel_rfl
 i173 := by kernel_rfl
 i212 := by kernel_rfl
 i232 := by kernel_rfl
 i233 := by kernel_rfl
 m17 := by kernel_rfl
 m18 := by kernel_rfl
 m19 := by kernel_rfl }
open Go.RowKit Go.Sort Go.Lib in
theorem Tryz.strconv_Itoa (n : Int) (h0 : -9223372036854775808 <= n) (h1 : n <= 9223372036854775807) (w : World) (htab : Lib.TabIs Tryz.prog w "internal/strconv.uint64pow10" .u64 Lib.pow10Tab) :
  Calls Tryz.prog 104 #[.int .i64 n] w fun e w' => e = .returned (.string ⟨(Lib.itoa n).toArray⟩) /\ ∃ k os, w' = grow (w.drewN k) os := Any.strconv_Itoa Tryz.laysM171 n h0 h1 w htab
def Tryz.laysM173_ren : Go.Shelf.Ren := ⟨fun | 173 => 83 | 246 => 113 | 283 => 141 | 284 => 142 | 285 => 143 | 286 => 144 | 129 => 169 | 317 => 168 | 318 => 170 | 319 => 171 | 320 => 172 | 337 => 187 | 338 => 188 | n => n, fun | 2 => 2 | 3 => 3 | 9 => 9 | 4 => 4 | 171 => 154 | 0 => 0 | 53 => 151 | 37 => 83 | 5 => 5 | 173 => 157 | 212 => 176 | 51 => 101 | 20 => 20 | 213 => 177 | 46 => 144 | 232 => 197 | 233 => 198 | n => n, fun | 17 => 2 | 18 => 7 | 19 => 8 | n => n⟩
theorem Tryz.laysM173 : Go.Proofs.LaysM.n173 Tryz.prog Tryz.laysM173_ren := {
 mixed := by kernel_rfl
 f129 := Tryz.func169.trans (congrArg some (by kernel_rfl))
 f173 := Tryz.func83.trans (congrArg some (by kernel_rfl))
 f246 := Tryz.func113.trans (congrArg some (by kernel_rfl))
 f283 := Tryz.func141.trans (congrArg some (by kernel_rfl))
 f284 := Tryz.func142.trans (congrArg some (by kernel_rfl))
 f285 := Tryz.func143.trans (congrArg some (by kernel_rfl))
 f286 := Tryz.func144.trans (congrArg some (by kernel_rfl))
 f317 := Tryz.func168.trans (congrArg some (by kernel_rfl))
 f318 := Tryz.func170.trans (congrArg some (by kernel_rfl))
 f319 := Tryz.func171.trans (congrArg some (by kernel_rfl))
 f320 := Tryz.func172.trans (congrArg some (by kernel_rfl))
 f337 := Tryz.func187.trans (congrArg some (by kernel_rfl))
 f338 := Tryz.func188.trans (congrArg some (by kernel_rfl))
 t0 := Tryz.underlying0
 a0 := Tryz.isAgg0
 z0 := Tryz.sizeOf0
 v0 := Tryz.zeroValue0
 t2 := Tryz.underlying2
 a2 := Tryz.isAgg2
 z2 := Tryz.sizeOf2
 v2 := Tryz.zeroValue2
 t3 := Tryz.underlying3
 a3 := Tryz.isAgg3
 z3 := Tryz.sizeOf3
 v3 := Tryz.zeroValue3
 t4 := Tryz.underlying4
 a4 := Tryz.isAgg4
 z4 := Tryz.sizeOf4
 v4 := Tryz.zeroValue4
 t5 := Tryz.underlying5
 a5 := Tryz.isAgg5
 z5 := Tryz.sizeOf5
 v5 := Tryz.zeroValue5
 t9 := Tryz.underlying9
 a9 := Tryz.isAgg9
 z9 := Tryz.sizeOf9
 v9 := Tryz.zeroValue9
 t20 := Tryz.underlying20
 a20 := Tryz.isAgg20
 z20 := Tryz.sizeOf20
 v20 := Tryz.zeroValue20
 t37 := Tryz.underlying83
 a37 := Tryz.isAgg83
 z37 := Tryz.sizeOf83
 v37 := Tryz.zeroValue83
 t46 := Tryz.underlying144
 a46 := Tryz.isAgg144
 z46 := Tryz.sizeOf144
 v46 := Tryz.zeroValue144
 t51 := Tryz.underlying101
 a51 := Tryz.isAgg101
 z51 := Tryz.sizeOf101
 v51 := Tryz.zeroValue101
 t53 := Tryz.underlying151
 a53 := Tryz.isAgg151
 z53 := Tryz.sizeOf151
 v53 := Tryz.zeroValue151
 t171 := Tryz.underlying154
 a171 := Tryz.isAgg154
 z171 := Tryz.sizeOf154
 v171 := Tryz.zeroValue154
 t173 := Tryz.underlying157
 a173 := Tryz.isAgg157
 z173 := Tryz.sizeOf157
 v173 := Tryz.zeroValue157
 t212 := Tryz.underlying176
 a212 := Tryz.isAgg176
 z212 := Tryz.sizeOf176
 v212 := Tryz.zeroValue176
 t213 := Tryz.underlying177
 a213 := Tryz.isAgg177
 z213 := Tryz.sizeOf177
 t232 := Tryz.underlying197
 a232 := Tryz.isAgg197
 z232 := Tryz.sizeOf197
 v232 := Tryz.zeroValue197
 t233 := Tryz.underlying198
 a233 := Tryz.isAgg198
 z233 := Tryz.sizeOf198
 v233 := Tryz.zeroValue198
 g17 := by kernel_rfl
 g18 := by kernel_rfl
 g19 := by kernel_rfl
 i0 := by kernel_rfl
 i2 := by kernel_rfl
 i3 := by kernel_rfl
 i4 := by kernel_rfl
 i5 := by kernel_rfl
 i9 := by kernel_rfl
 i20 := by kernel_rfl
 i37 := by kernel_rfl
 i46 := by kernel_rfl
 i51 := by kernel_rfl
 i53 := by kernel_rfl
 i171 := by kernel_rfl
 i173 := by kernel_rfl
 i212 := by kernel_rfl
 i232 := by kernel_rfl
 i233 := by kernel_rfl
 m17 := by kernel_rfl
 m18 := by kernel_rfl
 m19 := by kernel_rfl }
open Go.RowKit Go.Sort Go.Lib in
theorem Tryz.strconv_FormatInt_10 (n : Int) (h0 : -9223372036854775808 <= n) (h1 : n <= 9223372036854775807) (w : World) (htab : Lib.TabIs Tryz.prog w "internal/strconv.uint64pow10" .u64 Lib.pow10Tab) :
  Calls Tryz.prog 83 #[.int .i64 n, .int .i64 10] w fun e w' => e = .returned (.string ⟨(Lib.itoa n).toArray⟩) /\ ∃ k os, w' = grow (w.drewN k) os := Any.strconv_FormatInt_10 Tryz.laysM173 n h0 h1 w htab
def Tryz.laysC174_ren : Go.Shelf.Ren := ⟨fun | 174 => 89 | 247 => 119 | 245 => 120 | 287 => 149 | 279 => 150 | 280 => 151 | 281 => 152 | 282 => 153 | 321 => 177 | 322 => 178 | 316 => 179 | 171 => 104 | 205 => 180 | 243 => 134 | 246 => 113 | 283 => 141 | 284 => 142 | 285 => 143 | 286 => 144 | 129 => 169 | 317 => 168 | 318 => 170 | 319 => 171 | 320 => 172 | 337 => 187 | 338 => 188 | n => n, fun | 9 => 9 | 3 => 3 | 2 => 2 | 75 => 87 | 85 => 113 | 4 => 4 | 167 => 162 | 5 => 5 | 53 => 151 | 175 => 152 | 46 => 144 | 168 => 163 | 37 => 83 | 0 => 0 | 210 => 183 | 21 => 21 | 127 => 120 | 145 => 191 | 143 => 189 | 171 => 154 | 173 => 157 | 212 => 176 | 51 => 101 | 20 => 20 | 213 => 177 | 232 => 197 | 233 => 198 | 80 => 93 | n => n, fun | 15 => 3 | 16 => 4 | 17 => 2 | 18 => 7 | 19 => 8 | n => n⟩
theorem Tryz.laysC174 : Go.Proofs.LaysC.n174 Tryz.prog Tryz.laysC174_ren := {
 mixed := by kernel_rfl
 f129 := Tryz.func169.trans (congrArg some (by kernel_rfl))
 f171 := Tryz.func104.trans (congrArg some (by kernel_rfl))
 f174 := Tryz.func89.trans (congrArg some (by kernel_rfl))
 f205 := Tryz.func180.trans (congrArg some (by kernel_rfl))
 f243 := Tryz.func134.trans (congrArg some (by kernel_rfl))
 f245 := Tryz.func120.trans (congrArg some (by kernel_rfl))
 f246 := Tryz.func113.trans (congrArg some (by kernel_rfl))
 f247 := Tryz.func119.trans (congrArg some (by kernel_rfl))
 f279 := Tryz.func150.trans (congrArg some (by kernel_rfl))
 f280 := Tryz.func151.trans (congrArg some (by kernel_rfl))
 f281 := Tryz.func152.trans (congrArg some (by kernel_rfl))
 f282 := Tryz.func153.trans (congrArg some (by kernel_rfl))
 f283 := Tryz.func141.trans (congrArg some (by kernel_rfl))
 f284 := Tryz.func142.trans (congrArg some (by kernel_rfl))
 f285 := Tryz.func143.trans (congrArg some (by kernel_rfl))
 f286 := Tryz.func144.trans (congrArg some (by kernel_rfl))
 f287 := Tryz.func149.trans (congrArg some (by kernel_rfl))
 f316 := Tryz.func179.trans (congrArg some (by kernel_rfl))
 f317 := Tryz.func168.trans (congrArg some (by kernel_rfl))
 f318 := Tryz.func170.trans (congrArg some (by kernel_rfl))
 f319 := Tryz.func171.trans (congrArg some (by kernel_rfl))
 f320 := Tryz.func172.trans (congrArg some (by kernel_rfl))
 f321 := Tryz.func177.trans (congrArg some (by kernel_rfl))
 f322 := Tryz.func178.trans (congrArg some (by kernel_rfl))
 f337 := Tryz.func187.trans (congrArg some (by kernel_rfl))
 f338 := Tryz.func188.trans (congrArg some (by kernel_rfl))
 t0 := Tryz.underlying0
 a0 := Tryz.isAgg0
 z0 := Tryz.sizeOf0
 v0 := Tryz.zeroValue0
 t2 := Tryz.underlying2
 a2 := Tryz.isAgg2
 z2 := Tryz.sizeOf2
 v2 := Tryz.zeroValue2
 t3 := Tryz.underlying3
 a3 := Tryz.isAgg3
 z3 := Tryz.sizeOf3
 v3 := Tryz.zeroValue3
 t4 := Tryz.underlying4
 a4 := Tryz.isAgg4
 z4 := Tryz.sizeOf4
 v4 := Tryz.zeroValue4
 t5 := Tryz.underlying5
 a5 := Tryz.isAgg5
 z5 := Tryz.sizeOf5
 v5 := Tryz.zeroValue5
 t9 := Tryz.underlying9
 a9 := Tryz.isAgg9
 z9 := Tryz.sizeOf9
 v9 := Tryz.zeroValue9
 t20 := Tryz.underlying20
 a20 := Tryz.isAgg20
 z20 := Tryz.sizeOf20
 v20 := Tryz.zeroValue20
 t21 := Tryz.underlying21
 a21 := Tryz.isAgg21
 z21 := Tryz.sizeOf21
 v21 := Tryz.zeroValue21
 t37 := Tryz.underlying83
 a37 := Tryz.isAgg83
 z37 := Tryz.sizeOf83
 v37 := Tryz.zeroValue83
 t46 := Tryz.underlying144
 a46 := Tryz.isAgg144
 z46 := Tryz.sizeOf144
 v46 := Tryz.zeroValue144
 t51 := Tryz.underlying101
 a51 := Tryz.isAgg101
 z51 := Tryz.sizeOf101
 v51 := Tryz.zeroValue101
 t53 := Tryz.underlying151
 a53 := Tryz.isAgg151
 z53 := Tryz.sizeOf151
 v53 := Tryz.zeroValue151
 t75 := Tryz.underlying87
 a75 := Tryz.isAgg87
 z75 := Tryz.sizeOf87
 v75 := Tryz.zeroValue87
 t85 := Tryz.underlying113
 a85 := Tryz.isAgg113
 z85 := Tryz.sizeOf113
 v85 := Tryz.zeroValue113
 t127 := Tryz.underlying120
 a127 := Tryz.isAgg120
 z127 := Tryz.sizeOf120
 v127 := Tryz.zeroValue120
 t143 := Tryz.underlying189
 a143 := Tryz.isAgg189
 z143 := Tryz.sizeOf189
 v143 := Tryz.zeroValue189
 t145 := Tryz.underlying191
 a145 := Tryz.isAgg191
 z145 := Tryz.sizeOf191
 v145 := Tryz.zeroValue191
 t167 := Tryz.underlying162
 a167 := Tryz.isAgg162
 z167 := Tryz.sizeOf162
 v167 := Tryz.zeroValue162
 t168 := Tryz.underlying163
 a168 := Tryz.isAgg163
 z168 := Tryz.sizeOf163
 v168 := Tryz.zeroValue163
 t171 := Tryz.underlying154
 a171 := Tryz.isAgg154
 z171 := Tryz.sizeOf154
 v171 := Tryz.zeroValue154
 t173 := Tryz.underlying157
 a173 := Tryz.isAgg157
 z173 := Tryz.sizeOf157
 v173 := Tryz.zeroValue157
 t175 := Tryz.underlying152
 a175 := Tryz.isAgg152
 z175 := Tryz.sizeOf152
 v175 := Tryz.zeroValue152
 t210 := Tryz.underlying183
 a210 := Tryz.isAgg183
 z210 := Tryz.sizeOf183
 v210 := Tryz.zeroValue183
 t212 := Tryz.underlying176
 a212 := Tryz.isAgg176
 z212 := Tryz.sizeOf176
 v212 := Tryz.zeroValue176
 t213 := Tryz.underlying177
 a213 := Tryz.isAgg177
 z213 := Tryz.sizeOf177
 t232 := Tryz.underlying197
 a232 := Tryz.isAgg197
 z232 := Tryz.sizeOf197
 v232 := Tryz.zeroValue197
 t233 := Tryz.underlying198
 a233 := Tryz.isAgg198
 z233 := Tryz.sizeOf198
 v233 := Tryz.zeroValue198
 g15 := by kernel_rfl
 g16 := by kernel_rfl
 g17 := by kernel_rfl
 g18 := by kernel_rfl
 g19 := by kernel_rfl
 t80 := Tryz.underlying93
 a80 := Tryz.isAgg93
 z80 := Tryz.sizeOf93
 v80 := Tryz.zeroValue93
 i0 := by kernel_rfl
 i2 := by kernel_rfl
 i3 := by kernel_rfl
 i4 := by kernel_rfl
 i5 := by kernel_rfl
 i9 := by kernel_rfl
 i20 := by kernel_rfl
 i21 := by kernel_rfl
 i37 := by kernel_rfl
 i46 := by kernel_rfl
 i51 := by kernel_rfl
 i53 := by kernel_rfl
 i75 := by kernel_rfl
 i80 := by kernel_rfl
 i85 := by kernel_rfl
 i127 := by kernel_rfl
 i143 := by kernel_rfl
 i145 := by kernel_rfl
 i167 := by kernel_rfl
 i168 := by kernel_rfl
 i171 := by kernel_rfl
 i173 := by kernel_rfl
 i175 := by kernel_rfl
 i210 := by kernel_rfl
 i212 := by kernel_rfl
 i232 := by kernel_rfl
 i233 := by kernel_rfl
 m15 := by kernel_rfl
 m16 := by kernel_rfl
 m17 := by kernel_rfl
 m18 := by kernel_rfl
 m19 := by kernel_rfl
 c0 := by kernel_rfl
 c2 := by kernel_rfl
 c3 := by kernel_rfl
 c4 := by kernel_rfl
 c5 := by kernel_rfl
 c9 := by kernel_rfl
 c20 := by kernel_rfl
 c21 := by kernel_rfl
 c37 := by kernel_rfl
 c46 := by kernel_rfl
 c51 := by kernel_rfl
 c53 := by kernel_rfl
 c75 := by kernel_rfl
 c80 := by kernel_rfl
 c85 := by kernel_rfl
 c127 := by kernel_rfl
 c143 := by kernel_rfl
 c145 := by kernel_rfl
 c167 := by kernel_rfl
 c168 := by kernel_rfl
 c171 := by kernel_rfl
 c173 := by kernel_rfl
 c175 := by kernel_rfl
 c210 := by kernel_rfl
 c212 := by kernel_rfl
 c213 := by kernel_rfl
 c232 := by kernel_rfl
 c233 := by kernel_rfl }
open Go.RowKit in
theorem Tryz.strconv_ParseInt_10_at64_ok (s : ByteArray) (hmax : s.size <= 9223372036854775806) (v : Int) (h : Lib.parseIntB 64 s.data.toList = .ok v) (w : World) :
  Calls Tryz.prog 89 #[.string s, .int .i64 10, .int .i64 64] w fun e w' => e = .returned (.tuple #[.int .i64 v, .nilIface]) /\ (w' = w \/ ∃ t, w' = Lib.bytesWorld w 5 t) := Any.strconv_ParseInt_10_at64_ok Tryz.laysC174 s hmax v h w
def Tryz.laysPu14_ren : Go.Shelf.Ren := ⟨fun | 14 => 140 | 16 => 149 | 17 => 120 | 19 => 177 | 20 => 178 | 21 => 150 | 22 => 151 | 23 => 152 | 24 => 153 | 25 => 179 | 27 => 104 | 26 => 180 | 28 => 134 | 29 => 113 | 30 => 141 | 31 => 142 | 32 => 143 | 33 => 144 | 35 => 169 | 34 => 168 | 36 => 170 | 37 => 171 | 38 => 172 | 39 => 187 | 40 => 188 | n => n, fun | 9 => 9 | 3 => 3 | 22 => 151 | 24 => 87 | 25 => 152 | 4 => 4 | 34 => 162 | 5 => 5 | 36 => 144 | 37 => 83 | 0 => 0 | 39 => 163 | 21 => 21 | 44 => 183 | 47 => 120 | 50 => 191 | 48 => 189 | 2 => 2 | 52 => 154 | 55 => 157 | 59 => 176 | 60 => 101 | 20 => 20 | 61 => 177 | 65 => 197 | 66 => 198 | 67 => 93 | n => n, fun | 0 => 3 | 1 => 4 | 2 => 2 | 3 => 7 | 4 => 8 | n => n⟩
theorem Tryz.laysPu14 : Go.Proofs.LaysPu.n14 Tryz.prog Tryz.laysPu14_ren := {
 mixed := by kernel_rfl
 f14 := Tryz.func140.trans (congrArg some (by kernel_rfl))
 f16 := Tryz.func149.trans (congrArg some (by kernel_rfl))
 f17 := Tryz.func120.trans (congrArg some (by kernel_rfl))
 f19 := Tryz.func177.trans (congrArg some (by kernel_rfl))
 f20 := Tryz.func178.trans (congrArg some (by kernel_rfl))
 f21 := Tryz.func150.trans (congrArg some (by kernel_rfl))
 f22 := Tryz.func151.trans (congrArg some (by kernel_rfl))
 f23 := Tryz.func152.trans (congrArg some (by kernel_rfl))
 f24 := Tryz.func153.trans (congrArg some (by kernel_rfl))
 f25 := Tryz.func179.trans (congrArg some (by kernel_rfl))
 f26 := Tryz.func180.trans (congrArg some (by kernel_rfl))
 f27 := Tryz.func104.trans (congrArg some (by kernel_rfl))
 f28 := Tryz.func134.trans (congrArg some (by kernel_rfl))
 f29 := Tryz.func113.trans (congrArg some (by kernel_rfl))
 f30 := Tryz.func141.trans (congrArg some (by kernel_rfl))
 f31 := Tryz.func142.trans (congrArg some (by kernel_rfl))
 f32 := Tryz.func143.trans (congrArg some (by kernel_rfl))
 f33 := Tryz.func144.trans (congrArg some (by kernel_rfl))
 f34 := Tryz.func168.trans (congrArg some (by kernel_rfl))
 f35 := Tryz.func169.trans (congrArg some (by kernel_rfl))
 f36 := Tryz.func170.trans (congrArg some (by kernel_rfl))
 f37 := Tryz.func171.trans (congrArg some (by kernel_rfl))
 f38 := Tryz.func172.trans (congrArg some (by kernel_rfl))
 f39 := Tryz.func187.trans (congrArg some (by kernel_rfl))
 f40 := Tryz.func188.trans (congrArg some (by kernel_rfl))
 t0 := Tryz.underlying0
 a0 := Tryz.isAgg0
 z0 := Tryz.sizeOf0
 v0 := Tryz.zeroValue0
 i0 := by kernel_rfl
 t2 := Tryz.underlying2
 a2 := Tryz.isAgg2
 z2 := Tryz.sizeOf2
 v2 := Tryz.zeroValue2
 i2 := by kernel_rfl
 t3 := Tryz.underlying3
 a3 := Tryz.isAgg3
 z3 := Tryz.sizeOf3
 v3 := Tryz.zeroValue3
 i3 := by kernel_rfl
 t4 := Tryz.underlying4
 a4 := Tryz.isAgg4
 z4 := Tryz.sizeOf4
 v4 := Tryz.zeroValue4
 i4 := by kernel_rfl
 t5 := Tryz.underlying5
 a5 := Tryz.isAgg5
 z5 := Tryz.sizeOf5
 v5 := Tryz.zeroValue5
 i5 := by kernel_rfl
 t9 := Tryz.underlying9
 a9 := Tryz.isAgg9
 z9 := Tryz.sizeOf9
 v9 := Tryz.zeroValue9
 i9 := by kernel_rfl
 t20 := Tryz.underlying20
 a20 := Tryz.isAgg20
 z20 := Tryz.sizeOf20
 v20 := Tryz.zeroValue20
 i20 := by kernel_rfl
 t21 := Tryz.underlying21
 a21 := Tryz.isAgg21
 z21 := Tryz.sizeOf21
 v21 := Tryz.zeroValue21
 i21 := by kernel_rfl
 t22 := Tryz.underlying151
 a22 := Tryz.isAgg151
 z22 := Tryz.sizeOf151
 v22 := Tryz.zeroValue151
 i22 := by kernel_rfl
 t24 := Tryz.underlying87
 a24 := Tryz.isAgg87
 z24 := Tryz.sizeOf87
 v24 := Tryz.zeroValue87
 i24 := by kernel_rfl
 t25 := Tryz.underlying152
 a25 := Tryz.isAgg152
 z25 := Tryz.sizeOf152
 v25 := Tryz.zeroValue152
 i25 := by kernel_rfl
 t34 := Tryz.underlying162
 a34 := Tryz.isAgg162
 z34 := Tryz.sizeOf162
 v34 := Tryz.zeroValue162
 i34 := by kernel_rfl
 c34 := by kernel_rfl
 t36 := Tryz.underlying144
 a36 := Tryz.isAgg144
 z36 := Tryz.sizeOf144
 v36 := Tryz.zeroValue144
 i36 := by kernel_rfl
 t37 := Tryz.underlying83
 a37 := Tryz.isAgg83
 z37 := Tryz.sizeOf83
 v37 := Tryz.zeroValue83
 i37 := by kernel_rfl
 t39 := Tryz.underlying163
 a39 := Tryz.isAgg163
 z39 := Tryz.sizeOf163
 v39 := Tryz.zeroValue163
 i39 := by kernel_rfl
 t44 := Tryz.underlying183
 a44 := Tryz.isAgg183
 z44 := Tryz.sizeOf183
 v44 := Tryz.zeroValue183
 i44 := by kernel_rfl
 t47 := Tryz.underlying120
 a47 := Tryz.isAgg120
 z47 := Tryz.sizeOf120
 v47 := Tryz.zeroValue120
 i47 := by kernel_rfl
 t48 := Tryz.underlying189
 a48 := Tryz.isAgg189
 z48 := Tryz.sizeOf189
 v48 := Tryz.zeroValue189
 i48 := by kernel_rfl
 t50 := Tryz.underlying191
 a50 := Tryz.isAgg191
 z50 := Tryz.sizeOf191
 v50 := Tryz.zeroValue191
 i50 := by kernel_rfl
 t52 := Tryz.underlying154
 a52 := Tryz.isAgg154
 z52 := Tryz.sizeOf154
 v52 := Tryz.zeroValue154
 i52 := by kernel_rfl
 t55 := Tryz.underlying157
 a55 := Tryz.isAgg157
 z55 := Tryz.sizeOf157
 v55 := Tryz.zeroValue157
 i55 := by kernel_rfl
 t59 := Tryz.underlying176
 a59 := Tryz.isAgg176
 z59 := Tryz.sizeOf176
 v59 := Tryz.zeroValue176
 i59 := by kernel_rfl
 t60 := Tryz.underlying101
 a60 := Tryz.isAgg101
 z60 := Tryz.sizeOf101
 v60 := Tryz.zeroValue101
 i60 := by kernel_rfl
 t61 := Tryz.underlying177
 a61 := Tryz.isAgg177
 z61 := Tryz.sizeOf177
 t65 := Tryz.underlying197
 a65 := Tryz.isAgg197
 z65 := Tryz.sizeOf197
 v65 := Tryz.zeroValue197
 i65 := by kernel_rfl
 t66 := Tryz.underlying198
 a66 := Tryz.isAgg198
 z66 := Tryz.sizeOf198
 v66 := Tryz.zeroValue198
 i66 := by kernel_rfl
 t67 := Tryz.underlying93
 a67 := Tryz.isAgg93
 z67 := Tryz.sizeOf93
 v67 := Tryz.zeroValue93
 i67 := by kernel_rfl
 g0 := by kernel_rfl
 m0 := by kernel_rfl
 g1 := by kernel_rfl
 m1 := by kernel_rfl
 g2 := by kernel_rfl
 m2 := by kernel_rfl
 g3 := by kernel_rfl
 m3 := by kernel_rfl
 g4 := by kernel_rfl
 m4 := by kernel_rfl }
open Go.RowKit in
theorem Tryz.strconv_ParseUint_10_at32_ok (s : ByteArray) (hmax : s.size <= 9223372036854775806) (u : Nat) (h : Lib.parseUintB 32 s.data.toList = .ok u) (w : World) :
  Calls Tryz.prog 140 #[.string s, .int .i64 10, .int .i64 32] w fun e w' => e = .returned (.tuple #[.int .u64 u, .nilIface]) /\ (w' = w \/ w' = Lib.bytesWorld w 5 s) := Any.strconv_ParseUint_10_at32_ok Tryz.laysPu14 s hmax u h w
def Tryz.lays145_ren : Go.Shelf.Ren := ⟨fun | 145 => 66 | 220 => 106 | 219 => 138 | 217 => 164 | 225 => 165 | 224 => 166 | 267 => 167 | 266 => 185 | 314 => 186 | n => n, fun | 9 => 9 | 4 => 4 | 59 => 91 | 3 => 3 | 5 => 5 | 46 => 144 | 146 => 170 | 51 => 101 | n => n, fun | 1 => 1 | n => n⟩
theorem Tryz.lays145 : Go.Proofs.Lays.n145 Tryz.prog Tryz.lays145_ren := {
 mixed := by kernel_rfl
 f145 := Tryz.func66.trans (congrArg some (by kernel_rfl))
 f217 := Tryz.func164.trans (congrArg some (by kernel_rfl))
 f219 := Tryz.func138.trans (congrArg some (by kernel_rfl))
 f220 := Tryz.func106.trans (congrArg some (by kernel_rfl))
 f224 := Tryz.func166.trans (congrArg some (by kernel_rfl))
 f225 := Tryz.func165.trans (congrArg some (by kernel_rfl))
 f266 := Tryz.func185.trans (congrArg some (by kernel_rfl))
 f267 := Tryz.func167.trans (congrArg some (by kernel_rfl))
 f314 := Tryz.func186.trans (congrArg some (by kernel_rfl))
 t3 := Tryz.underlying3
 a3 := Tryz.isAgg3
 z3 := Tryz.sizeOf3
 v3 := Tryz.zeroValue3
 t4 := Tryz.underlying4
 a4 := Tryz.isAgg4
 z4 := Tryz.sizeOf4
 v4 := Tryz.zeroValue4
 t5 := Tryz.underlying5
 a5 := Tryz.isAgg5
 z5 := Tryz.sizeOf5
 v5 := Tryz.zeroValue5
 t9 := Tryz.underlying9
 a9 := Tryz.isAgg9
 z9 := Tryz.sizeOf9
 v9 := Tryz.zeroValue9
 t46 := Tryz.underlying144
 a46 := Tryz.isAgg144
 z46 := Tryz.sizeOf144
 v46 := Tryz.zeroValue144
 t51 := Tryz.underlying101
 a51 := Tryz.isAgg101
 z51 := Tryz.sizeOf101
 v51 := Tryz.zeroValue101
 t59 := Tryz.underlying91
 a59 := Tryz.isAgg91
 z59 := Tryz.sizeOf91
 v59 := Tryz.zeroValue91
 t146 := Tryz.underlying170
 a146 := Tryz.isAgg170
 z146 := Tryz.sizeOf170
 v146 := Tryz.zeroValue170
 g1 := by kernel_rfl }
open Go.RowKit Go.Lib in
theorem Tryz.strings_Cut (s sep : ByteArray) (m : Int) (w : World) (hs : s.size < 4294967281) (hm : w.cell? ⟨1, 0, none⟩ = some (.int .i64 m)) :
  Calls Tryz.prog 66 #[.string s, .string sep] w fun e w' => e = .returned (.tuple #[.string ⟨(Lib.cut s.data.toList sep.data.toList).1.toArray⟩, .string ⟨(Lib.cut s.data.toList sep.data.toList).2.1.toArray⟩, .bool (Lib.cut s.data.toList sep.data.toList).2.2]) /\ ∃ n, w' = w.drewN n := Any.strings_Cut Tryz.lays145 s sep m w hs hm
def Tryz.lays99_ren : Go.Shelf.Ren := ⟨fun | 99 => 101 | 206 => 132 | n => n, fun | 9 => 9 | 4 => 4 | 3 => 3 | n => n, fun | n => n⟩
theorem Tryz.lays99 : Go.Proofs.Lays.n99 Tryz.prog Tryz.lays99_ren := {
 mixed := by kernel_rfl
 f99 := Tryz.func101.trans (congrArg some (by kernel_rfl))
 f206 := Tryz.func132.trans (congrArg some (by kernel_rfl))
 t3 := Tryz.underlying3
 a3 := Tryz.isAgg3
 z3 := Tryz.sizeOf3
 v3 := Tryz.zeroValue3
 t4 := Tryz.underlying4
 a4 := Tryz.isAgg4
 z4 := Tryz.sizeOf4
 v4 := Tryz.zeroValue4
 t9 := Tryz.underlying9
 a9 := Tryz.isAgg9
 z9 := Tryz.sizeOf9
 v9 := Tryz.zeroValue9 }
open Go.RowKit Go.Lib in
theorem Tryz.strings_HasPrefix (s p : ByteArray) (w : World) :
  Calls Tryz.prog 101 #[.string s, .string p] w fun e w' => e = .returned (.bool (Lib.hasPrefix s.data.toList p.data.toList)) /\ w' = w := Any.strings_HasPrefix Tryz.lays99 s p w
def Tryz.lays100_ren : Go.Shelf.Ren := ⟨fun | 100 => 79 | 207 => 111 | n => n, fun | 9 => 9 | 4 => 4 | 3 => 3 | n => n, fun | n => n⟩
theorem Tryz.lays100 : Go.Proofs.Lays.n100 Tryz.prog Tryz.lays100_ren := {
 mixed := by kernel_rfl
 f100 := Tryz.func79.trans (congrArg some (by kernel_rfl))
 f207 := Tryz.func111.trans (congrArg some (by kernel_rfl))
 t3 := Tryz.underlying3
 a3 := Tryz.isAgg3
 z3 := Tryz.sizeOf3
 v3 := Tryz.zeroValue3
 t4 := Tryz.underlying4
 a4 := Tryz.isAgg4
 z4 := Tryz.sizeOf4
 v4 := Tryz.zeroValue4
 t9 := Tryz.underlying9
 a9 := Tryz.isAgg9
 z9 := Tryz.sizeOf9
 v9 := Tryz.zeroValue9 }
open Go.RowKit Go.Lib in
theorem Tryz.strings_HasSuffix (s p : ByteArray) (w : World) (hs : s.size <= 9223372036854775807) :
  Calls Tryz.prog 79 #[.string s, .string p] w fun e w' => e = .returned (.bool (Lib.hasSuffix s.data.toList p.data.toList)) /\ w' = w := Any.strings_HasSuffix Tryz.lays100 s p w hs
def Tryz.lays101_ren : Go.Shelf.Ren := ⟨fun | 101 => 84 | 208 => 114 | 206 => 132 | n => n, fun | 9 => 9 | 4 => 4 | 3 => 3 | n => n, fun | n => n⟩
theorem Tryz.lays101 : Go.Proofs.Lays.n101 Tryz.prog Tryz.lays101_ren := {
 mixed := by kernel_rfl
 f101 := Tryz.func84.trans (congrArg some (by kernel_rfl))
 f206 := Tryz.func132.trans (congrArg some (by kernel_rfl))
 f208 := Tryz.func114.trans (congrArg some (by kernel_rfl))
 t3 := Tryz.underlying3
 a3 := Tryz.isAgg3
 z3 := Tryz.sizeOf3
 v3 := Tryz.zeroValue3
 t4 := Tryz.underlying4
 a4 := Tryz.isAgg4
 z4 := Tryz.sizeOf4
 v4 := Tryz.zeroValue4
 t9 := Tryz.underlying9
 a9 := Tryz.isAgg9
 z9 := Tryz.sizeOf9
 v9 := Tryz.zeroValue9 }
open Go.RowKit Go.Lib in
theorem Tryz.strings_TrimPrefix (s p : ByteArray) (w : World) :
  Calls Tryz.prog 84 #[.string s, .string p] w fun e w' => e = .returned (.string ⟨(Lib.trimPrefix s.data.toList p.data.toList).toArray⟩) /\ w' = w := Any.strings_TrimPrefix Tryz.lays101 s p w
def Tryz.lays105_ren : Go.Shelf.Ren := ⟨fun | 105 => 105 | 212 => 135 | 99 => 101 | 165 => 136 | 166 => 63 | 170 => 137 | 169 => 67 | 263 => 161 | 264 => 162 | 206 => 132 | 240 => 103 | 241 => 163 | 276 => 133 | 277 => 184 | n => n, fun | 9 => 9 | 3 => 3 | 4 => 4 | 20 => 20 | 0 => 0 | 46 => 144 | 109 => 145 | 5 => 5 | 72 => 85 | 76 => 88 | 51 => 101 | 146 => 170 | 53 => 151 | 148 => 172 | 70 => 82 | 37 => 83 | 75 => 87 | 127 => 120 | 164 => 142 | 80 => 93 | n => n, fun | n => n⟩
theorem Tryz.lays105 : Go.Proofs.Lays.n105 Tryz.prog Tryz.lays105_ren := {
 mixed := by kernel_rfl
 f99 := Tryz.func101.trans (congrArg some (by kernel_rfl))
 f105 := Tryz.func105.trans (congrArg some (by kernel_rfl))
 f165 := Tryz.func136.trans (congrArg some (by kernel_rfl))
 f166 := Tryz.func63.trans (congrArg some (by kernel_rfl))
 f169 := Tryz.func67.trans (congrArg some (by kernel_rfl))
 f170 := Tryz.func137.trans (congrArg some (by kernel_rfl))
 f206 := Tryz.func132.trans (congrArg some (by kernel_rfl))
 f212 := Tryz.func135.trans (congrArg some (by kernel_rfl))
 f240 := Tryz.func103.trans (congrArg some (by kernel_rfl))
 f241 := Tryz.func163.trans (congrArg some (by kernel_rfl))
 f263 := Tryz.func161.trans (congrArg some (by kernel_rfl))
 f264 := Tryz.func162.trans (congrArg some (by kernel_rfl))
 f276 := Tryz.func133.trans (congrArg some (by kernel_rfl))
 f277 := Tryz.func184.trans (congrArg some (by kernel_rfl))
 t0 := Tryz.underlying0
 a0 := Tryz.isAgg0
 z0 := Tryz.sizeOf0
 v0 := Tryz.zeroValue0
 t3 := Tryz.underlying3
 a3 := Tryz.isAgg3
 z3 := Tryz.sizeOf3
 v3 := Tryz.zeroValue3
 t4 := Tryz.underlying4
 a4 := Tryz.isAgg4
 z4 := Tryz.sizeOf4
 v4 := Tryz.zeroValue4
 t5 := Tryz.underlying5
 a5 := Tryz.isAgg5
 z5 := Tryz.sizeOf5
 v5 := Tryz.zeroValue5
 t9 := Tryz.underlying9
 a9 := Tryz.isAgg9
 z9 := Tryz.sizeOf9
 v9 := Tryz.zeroValue9
 t20 := Tryz.underlying20
 a20 := Tryz.isAgg20
 z20 := Tryz.sizeOf20
 v20 := Tryz.zeroValue20
 t37 := Tryz.underlying83
 a37 := Tryz.isAgg83
 z37 := Tryz.sizeOf83
 v37 := Tryz.zeroValue83
 t46 := Tryz.underlying144
 a46 := Tryz.isAgg144
 z46 := Tryz.sizeOf144
 v46 := Tryz.zeroValue144
 t51 := Tryz.underlying101
 a51 := Tryz.isAgg101
 z51 := Tryz.sizeOf101
 v51 := Tryz.zeroValue101
 t53 := Tryz.underlying151
 a53 := Tryz.isAgg151
 z53 := Tryz.sizeOf151
 v53 := Tryz.zeroValue151
 t70 := Tryz.underlying82
 a70 := Tryz.isAgg82
 z70 := Tryz.sizeOf82
 v70 := Tryz.zeroValue82
 t72 := Tryz.underlying85
 a72 := Tryz.isAgg85
 z72 := Tryz.sizeOf85
 v72 := Tryz.zeroValue85
 t75 := Tryz.underlying87
 a75 := Tryz.isAgg87
 z75 := Tryz.sizeOf87
 v75 := Tryz.zeroValue87
 t76 := Tryz.underlying88
 a76 := Tryz.isAgg88
 z76 := Tryz.sizeOf88
 v76 := Tryz.zeroValue88
 t109 := Tryz.underlying145
 a109 := Tryz.isAgg145
 z109 := Tryz.sizeOf145
 v109 := Tryz.zeroValue145
 t127 := Tryz.underlying120
 a127 := Tryz.isAgg120
 z127 := Tryz.sizeOf120
 v127 := Tryz.zeroValue120
 t146 := Tryz.underlying170
 a146 := Tryz.isAgg170
 z146 := Tryz.sizeOf170
 v146 := Tryz.zeroValue170
 t148 := Tryz.underlying172
 a148 := Tryz.isAgg172
 z148 := Tryz.sizeOf172
 v148 := Tryz.zeroValue172
 t164 := Tryz.underlying142
 a164 := Tryz.isAgg142
 z164 := Tryz.sizeOf142
 v164 := Tryz.zeroValue142 }
theorem Tryz.Builder_Extra_105 : Builder.Extra Tryz.prog Tryz.lays105_ren := {
 sizeBuilder := by kernel_rfl
 liesBuilder := by kernel_rfl
 t5 := Tryz.underlying5
 a5 := Tryz.isAgg5
 z5 := Tryz.sizeOf5
 v5 := Tryz.zeroValue5
 infoByte := by kernel_rfl
 cellsByte := by kernel_rfl
 sizeByte := by kernel_rfl
 neB5 := by decide }
open Go.RowKit Go.Lib in
theorem Tryz.strings_Repeat (s : ByteArray) (c : Nat) (w : World) (hc : c <= 9223372036854775807) (hlen : s.size * c <= 140737488355328) :
  Calls Tryz.prog 105 #[.string s, .int .i64 c] w fun e w' => e = .returned (.string ⟨(Lib.repeatL s.data.toList c).toArray⟩) /\ Below w.heap.size w w' := Any.strings_Repeat Tryz.lays105 Tryz.Builder_Extra_105 s c w hc hlen
end Go.Proofs
namespace Go.Proofs.YtckodhldimhbfaaGreatDoor
open Go Go.RowKit Go.Sort Go.Lib

def Pow (w : World) : Prop := Lib.TabIs Tryz.prog w "internal/strconv.uint64pow10" .u64 Lib.pow10Tab
theorem decDigits_digs (u : Nat) : (Lib.decDigits u).map UInt8.toNat = Dc.digs u := by
 refine Dc.digs_induct (P := fun u => (Lib.decDigits u).map UInt8.toNat = Dc.digs u) ?_ ?_ u
 ·intro n hn
  rw [Lib.decDigits, dif_pos hn, Dc.digs_low hn]
  simp [UInt8.toNat_ofNat']; omega
 ·intro n hn ih
  rw [Lib.decDigits, dif_neg (by omega), Dc.digs_step hn, List.map_append, ih]
  simp [UInt8.toNat_ofNat']; omega
theorem bts_dec (u : Nat) : bts ⟨(Lib.decDigits u).toArray⟩ = Dc.digs u := by rw [<- decDigits_digs]; simp [bts]
theorem zeros0 (w : World) (T : TypeId) (nd : Nat) (hs : nd <= 24) : Holds (fun (b : UInt8) => Value.int .u8 (b.toNat : Int)) (w.alloc (.cells Lib.zeros24 T)) w.heap.size 0 (Array.replicate nd (0 : UInt8)) := fun j hj => by
 have hj' : j < nd := by simpa using hj
 refine ⟨?_, World.frozen?_alloc_new _ _ _ _⟩
 rw [World.cell?_alloc_new, Lib.zeros24_at _ (by omega), getElem!_pos _ j hj]
 simp
theorem fin0 (w : World) (o : Obj) (dk : Array UInt8) (k : Nat) : ∃ os, (putRow (fun (b : UInt8) => Value.int .u8 (b.toNat : Int)) (w.alloc o) w.heap.size 0 dk).drewN k = grow (w.drewN k) os := by
 rw [alloc_eq_grow]
 obtain ⟨os', _, e⟩ := putRow_grow_new (fun (b : UInt8) => Value.int .u8 (b.toNat : Int)) w #[o] w.heap.size 0 dk (Nat.le_refl _)
 exact ⟨os', by rw [e]; rfl⟩

theorem conv_row {u v' : Nat} (w : World) (dk : Array UInt8) (k : Nat) (hH : Holds (fun (b : UInt8) => Value.int .u8 (b.toNat : Int)) (w.alloc (.cells Lib.zeros24 154)) w.heap.size 0 (Array.replicate (Lib.nDigits u) (0 : UInt8))) (hF : FmtInv (Lib.nDigits u) u 0 v' dk) :
  (convert 83 9 (.slice (some ⟨w.heap.size, 0, none⟩) (Lib.nDigits u) 24)).run Tryz.prog ((putRow (fun (b : UInt8) => Value.int .u8 (b.toNat : Int)) (w.alloc (.cells Lib.zeros24 154)) w.heap.size 0 dk).drewN k) = .ok (.string ⟨(Lib.decDigits u).toArray⟩) ((putRow (fun (b : UInt8) => Value.int .u8 (b.toNat : Int)) (w.alloc (.cells Lib.zeros24 154)) w.heap.size 0 dk).drewN k) := by
 have h := run_convert_bytes_back (P := Tryz.prog) ((putRow (fun (b : UInt8) => Value.int .u8 (b.toNat : Int)) (w.alloc (.cells Lib.zeros24 154)) w.heap.size 0 dk).drewN k) 83 9 5 ⟨w.heap.size, 0, none⟩ 24 (Lib.decDigits u) Tryz.underlying83 Tryz.underlying5 Tryz.underlying9 (fun j hj => by
  rw [Lib.row_is_numeral hF j hj, Lib.add_plain, World.cell?_drewN]
  exact cell?_putRow (fun (b : UInt8) => Value.int .u8 (b.toNat : Int)) _ w.heap.size 0 _ dk hH (by rw [hF.size, Array.size_replicate]) j (by rw [hF.size]; rw [Lib.decDigits_length] at hj; exact hj))
 rw [Lib.decDigits_length] at h
 exact h

theorem fuint_in (u : Nat) (hu64 : u < 18446744073709551616) (w : World) (htab : Pow w) : Calls Tryz.prog 176 #[.int .u64 (u : Int), .int .i64 10] w fun e w' => e = .returned (.string ⟨(Lib.decDigits u).toArray⟩) /\ Below w.heap.size w w' := by
 by_cases h100 : u < 100
 ·have d1 : decide (u < 100) = true := decide_eq_true h100
  go_enter Tryz.func176, Tryz.ntmps176
  go_wp2_with (go_at_call 141; refine (Tryz.internal_strconv_small u h100 _).mono ?_; rintro e w' ⟨rfl, rfl⟩)
  go_ret
  exact ⟨rfl, Below.refl _ _⟩
 ·have d1 : decide (u < 100) = false := decide_eq_false h100
  have hu1 : 1 <= u := by omega
  have hnd20 : Lib.nDigits u <= 20 := by have := Lib.numDigits_eq u hu1 hu64; split at this <;> omega
  have hal : Tryz.prog.arrayLen 154 = 24 := by kernel_rfl
  have hsl1 : ∀ W, (Instr.sliceAt 154 (.pointer (some ⟨w.heap.size, 0, none⟩)) none (some (.int .i64 (Lib.nDigits u : Int))) none).run Tryz.prog W = .ok (.slice (some ⟨w.heap.size, 0, none⟩) (Lib.nDigits u) 24) W := fun W => by
   rw [run_sliceAt_array_h W 154 ⟨w.heap.size, 0, none⟩ (by simp [Program.arrayLen, Program.elem, Tryz.underlying154]) .i64 (Lib.nDigits u : Int) (by omega) (by rw [hal]; omega)]
   go_simp
  have hH0 := zeros0 w 154 (Lib.nDigits u) (by omega)
  have hfmt := Tryz.internal_strconv_formatBase10 w.heap.size 0 24 u (Array.replicate (Lib.nDigits u) 0) (w.alloc (.cells Lib.zeros24 154)) hH0 (by rw [Array.size_replicate]; exact Lib.lt_pow_nDigits u) hu64 (by rw [Array.size_replicate]; omega)
  rw [Array.size_replicate] at hfmt
  have HH0 := Lib.hid hH0
  have HF : Hid _ := Lib.hid hfmt
  have HT : Hid _ := Lib.hid htab
  clear hH0 hal hfmt htab
  go_enter Tryz.func176, Tryz.ntmps176
  go_wp2_with (first
   | (go_at_call 142; refine (Tryz.internal_strconv_numDigits u hu1 hu64 _ (Lib.tabIs_alloc HT.out _)).mono ?_; rintro e w' ⟨rfl, rfl⟩)
   | (go_at_call 143; refine (HF.out).mono ?_; rintro e w' ⟨rfl, k, v', dk, rfl, hF⟩; have HFF : Hid _ := Lib.hid hF; clear hF; have hcv := conv_row w dk k HH0.out HFF.out))
  go_ret
  obtain ⟨os, eo⟩ := fin0 w (.cells Lib.zeros24 154) dk k
  exact ⟨rfl, by rw [eo]; exact Lib.below_grow _ _ (Nat.le_refl _) _ _⟩
theorem fuint_any (u : Nat) (hu64 : u < 18446744073709551616) (w : World) (htab : Pow w) : Calls Tryz.prog 148 #[.int .u64 (u : Int), .int .i64 10] w fun e w' => (∃ t : ByteArray, e = .returned (.string t) /\ bts t = Dc.digs u) /\ Below w.heap.size w w' := by
 have C : Hid _ := Lib.hid (fuint_in u hu64 w htab)
 clear htab
 go_enter Tryz.func148, Tryz.ntmps148
 go_wp2_with (go_at_call 176; refine (C.out).mono ?_; rintro e w' ⟨rfl, hb⟩)
 go_ret
 exact ⟨⟨_, rfl, bts_dec u⟩, hb⟩
end Go.Proofs.YtckodhldimhbfaaGreatDoor
namespace Go.Proofs.YtckodhldimhbfaaGreatDoor
open Go Go.RowKit

theorem pplus1_any (x y c z : Int) (hx : 0 <= x) (hx2 : x <= 1000000000) (hy : 0 <= y) (hy2 : y <= 1000000000) (hc : 0 <= c) (hc2 : c <= 1) (hz : x + y + c = z) (w : World) : Calls Tryz.prog 174 #[.int .i64 x, .int .i64 y, .int .i64 c] w fun e w' => e = .returned (.int .i64 z) /\ w' = w := by
 have HZ : Hid _ := Lib.hid hz
 clear hz
 go_enter Tryz.func174, Tryz.ntmps174
 go_wp2
 go_ret
 exact ⟨by rw [HZ.out]; rfl, rfl⟩
theorem pminus1_any (x y c z : Int) (hx : 0 <= x) (hx2 : x <= 1000000000) (hy : 0 <= y) (hy2 : y <= 1000000000) (hc : -1 <= c) (hc2 : c <= 0) (hz : x - y + c = z) (w : World) : Calls Tryz.prog 175 #[.int .i64 x, .int .i64 y, .int .i64 c] w fun e w' => e = .returned (.int .i64 z) /\ w' = w := by
 have HZ : Hid _ := Lib.hid hz
 clear hz
 go_enter Tryz.func175, Tryz.ntmps175
 go_wp2
 go_ret
 exact ⟨by rw [HZ.out]; rfl, rfl⟩
theorem rows3 (w : World) (a b : List Nat) (ha : a.length = 24) (hb : b.length = 24) : Row24 (((w.alloc (.cells (numV a) 103)).alloc (.cells (numV b) 103)).alloc (.cells (numV (List.replicate 24 0)) 103)) w.heap.size a /\
  Row24 (((w.alloc (.cells (numV a) 103)).alloc (.cells (numV b) 103)).alloc (.cells (numV (List.replicate 24 0)) 103)) (w.heap.size + 1) b /\
  Row24 (((w.alloc (.cells (numV a) 103)).alloc (.cells (numV b) 103)).alloc (.cells (numV (List.replicate 24 0)) 103)) (w.heap.size + 1 + 1) (List.replicate 24 0) /\
  Below w.heap.size w (((w.alloc (.cells (numV a) 103)).alloc (.cells (numV b) 103)).alloc (.cells (numV (List.replicate 24 0)) 103)) := by
 have e1 : (w.alloc (.cells (numV a) 103)).heap.size = w.heap.size + 1 := Array.size_push _
 have e2 : ((w.alloc (.cells (numV a) 103)).alloc (.cells (numV b) 103)).heap.size = w.heap.size + 1 + 1 := by rw [<- e1]; exact Array.size_push _
 have b1 : Below w.heap.size w (w.alloc (.cells (numV a) 103)) := (Below.refl _ w).alloc (Nat.le_refl _) _
 have b2 : Below w.heap.size w ((w.alloc (.cells (numV a) 103)).alloc (.cells (numV b) 103)) := b1.alloc b1.size _
 refine ⟨((Row24.new w a ha).old _).old _, ?_, ?_, b2.alloc b2.size _⟩
 ·have := (Row24.new (w.alloc (.cells (numV a) 103)) b hb).old (.cells (numV (List.replicate 24 0)) 103)
  rwa [e1] at this
 ·have := Row24.new ((w.alloc (.cells (numV a) 103)).alloc (.cells (numV b) 103)) (List.replicate 24 0) rfl
  rwa [e2] at this
theorem low_step {O : List Nat} {k x : Nat} (hO : O.length = 24) (hk : k < 24) (h : ∀ d ∈ O.take k, d < 1000000000) (hx : x < 1000000000) : ∀ d ∈ (O.set k x).take (k + 1), d < 1000000000 := by
 intro d hd
 rw [List.take_add_one, List.take_set, List.set_eq_of_length_le (by rw [List.length_take]; omega), List.getElem?_set_self (by omega)] at hd
 rcases List.mem_append.1 hd with h1 | h1
 ·exact h d h1
 ·simp at h1; rw [h1]; exact hx
theorem drop_step {O a : List Nat} {k x : Nat} (h : O.drop k = a.drop k) : (O.set k x).drop (k + 1) = a.drop (k + 1) := by
 have h5 := congrArg (List.drop 1) h
 rw [List.drop_drop, List.drop_drop] at h5
 rw [List.drop_set, if_pos (by omega)]; exact h5
theorem drop_at {O a : List Nat} {k : Nat} (h : O.drop k = a.drop k) : O.getD k 0 = a.getD k 0 := by
 have := congrArg (fun l => l.getD 0 0) h
 simp only [List.getD_eq_getElem?_getD, List.getElem?_drop, Nat.add_zero] at this
 rw [List.getD_eq_getElem?_getD, List.getD_eq_getElem?_getD]; exact this
theorem pcarried_plus (a b : List Nat) (ha : Num a) (hb : Num b) (w : World) : Calls Tryz.prog 173 #[.agg (numV a), .agg (numV b), .func (.func 174) #[] #[]] w fun e w' => (∃ O : List Nat, e = .returned (.agg (numV O)) /\ Num O /\ Dc.valB O = (Dc.valB a + Dc.valB b) % top) /\ Below w.heap.size w w' := by
 have HA : Hid _ := Lib.hid ha
 have HB : Hid _ := Lib.hid hb
 have R : Hid _ := Lib.hid (rows3 w a b ha.len hb.len)
 clear ha hb
 go_enter Tryz.func173, Tryz.ntmps173
 go_wp2
 go_loopw [7, 10] (fun c i wr => ∃ (k cy : Nat) (zc : Int) (O : List Nat), k <= 24 /\ i = .int .i64 (k : Int) /\ c = .int .i64 zc /\ Hid (zc = (cy : Int)) /\ -1 <= zc /\ zc <= 1 /\ cy <= 1 /\ Hid (∀ d ∈ O.take k, d < 1000000000) /\ Hid (Dc.valB (O.take k) + 1000000000 ^ k * cy = Dc.valB (a.take k) + Dc.valB (b.take k)) /\ Hid (O.drop k = a.drop k) /\ Row24 wr w.heap.size O /\ Row24 wr (w.heap.size + 1) b /\ Row24 wr (w.heap.size + 1 + 1) (List.replicate 24 0) /\ Below w.heap.size w wr) (fun _ i _ => 24 - (intOf i).toNat)
 case atStart => exact ⟨0, 0, 0, a, Nat.zero_le _, rfl, rfl, Lib.hid rfl, by omega, by omega, by omega, Lib.hid (by simp), Lib.hid (by simp [Dc.valB]), Lib.hid rfl, R.out.1, R.out.2.1, R.out.2.2.1, R.out.2.2.2⟩
 case round =>
  obtain ⟨k, cy, zc, O, hk, rfl, rfl, hzc, hz1, hz2, hcy, hlow, hval, hdr, hr1, hr2, hr3, hB⟩ := hrel
  by_cases hk24 : k = 24
  ·subst hk24
   have hO : O.take 24 = O := List.take_of_length_le (by rw [hr1.len]; exact Nat.le_refl _)
   have ha : a.take 24 = a := List.take_of_length_le (by rw [HA.out.len]; exact Nat.le_refl _)
   have hb : b.take 24 = b := List.take_of_length_le (by rw [HB.out.len]; exact Nat.le_refl _)
   have hN : Hid (Num O) := Lib.hid ⟨hr1.len, by have := hlow.out; rwa [hO] at this⟩
   have hV : Hid (Dc.valB O = (Dc.valB a + Dc.valB b) % top) := Lib.hid (by
    have h3 := hval.out
    rw [hO, ha, hb] at h3
    have h4 := Dc.valB_lt hN.out.low
    rw [hr1.len] at h4
    rw [top, <- h3, Nat.add_mul_mod_self_left, Nat.mod_eq_of_lt h4])
   have hl := hr1.len
   have R3 : Hid _ := Lib.hid (hr3.set hr1.len)
   clear hO ha hb hk hlow hval hdr
   go_wp2_with (first
    | (refine wp_loadN hr1 rfl _ rfl rfl ?_)
    | (refine wp_storeN hr3 hl rfl _ _ rfl rfl rfl ?_))
   (try simp only [Exit.inBlock, Exit.then]); refine bodyPost_ret (R3.out.result rfl rfl) rfl ?_
   exact ⟨⟨O, rfl, hN.out, hV.out⟩, below_setRow hB (by omega) _⟩
  ·have hk' : k < 24 := by omega
   have c1 := hr1.cell hk'
   have c2 := hr2.cell hk'
   have f1 := hr1.open (j := k)
   have j0 : (0 : Int) <= (k : Int) := by omega
   have j1 : (k : Int) < 24 := by omega
   obtain ⟨x, hx⟩ : ∃ x, a.getD k 0 = x := ⟨_, rfl⟩
   obtain ⟨y, hy⟩ : ∃ y, b.getD k 0 = y := ⟨_, rfl⟩
   have hxl : x < 1000000000 := by rw [<- hx]; exact HA.out.at k
   have hyl : y < 1000000000 := by rw [<- hy]; exact HB.out.at k
   rw [drop_at hdr.out, hx] at c1
   rw [hy] at c2
   have eA : Hid (Dc.valB (a.take (k + 1)) = Dc.valB (a.take k) + 1000000000 ^ k * x) := Lib.hid (by rw [Dc.valB_take (by rw [HA.out.len]; exact hk'), hx])
   have eB : Hid (Dc.valB (b.take (k + 1)) = Dc.valB (b.take k) + 1000000000 ^ k * y) := Lib.hid (by rw [Dc.valB_take (by rw [HB.out.len]; exact hk'), hy])
   have pw : Hid (1000000000 ^ (k + 1) = 1000000000 ^ k * 1000000000) := Lib.hid (Nat.pow_succ ..)
   clear hx hy hk24
   obtain ⟨v, hv⟩ : ∃ v, x + y + cy = v := ⟨_, rfl⟩
   have hz0 : 0 <= zc := by have := hzc.out; omega
   have hvl : v <= 1999999999 := by omega
   have hvi : Hid ((x : Int) + (y : Int) + zc = (v : Int)) := Lib.hid (by have := hzc.out; omega)
   have q1 : Int.tdiv (v : Int) 1000000000 = ((v / 1000000000 : Nat) : Int) := rfl
   have q2 : Int.tmod (v : Int) 1000000000 = ((v % 1000000000 : Nat) : Int) := rfl
   obtain ⟨q, hq⟩ : ∃ q, v / 1000000000 = q := ⟨_, rfl⟩
   obtain ⟨m, hm⟩ : ∃ m, v % 1000000000 = m := ⟨_, rfl⟩
   have hqm : Hid (m + 1000000000 * q = x + y + cy) := Lib.hid (by rw [<- hq, <- hm, Nat.mod_add_div, hv])
   have hml : m < 1000000000 := by omega
   have hql : q <= 1 := by omega
   rw [hq] at q1
   rw [hm] at q2
   have hval2 : Hid (Dc.valB ((O.set k m).take (k + 1)) + 1000000000 ^ (k + 1) * q = Dc.valB (a.take (k + 1)) + Dc.valB (b.take (k + 1))) := Lib.hid (by
    rw [step_take hr1.len hk', eA.out, eB.out, pw.out, Nat.mul_assoc, Nat.add_assoc, <- Nat.mul_add, hqm.out, Nat.mul_add, Nat.mul_add]
    have := hval.out
    omega)
   have hlow2 : Hid (∀ d ∈ (O.set k m).take (k + 1), d < 1000000000) := Lib.hid (low_step hr1.len hk' hlow.out hml)
   have hdr2 : Hid ((O.set k m).drop (k + 1) = a.drop (k + 1)) := Lib.hid (drop_step hdr.out)
   clear hlow hval hdr hv hq hm
   go_wp2
   go_quiet (exact Calls.quiet_of_same (pplus1_any _ _ _ (v : Int) (by omega) (by omega) (by omega) (by omega) hz0 (by omega) hvi.out _))
   go_wp2
   go_roundw
   case rel => exact ⟨k + 1, q, (q : Int), O.set k m, by omega, rfl, rfl, Lib.hid rfl, by omega, by omega, by omega, hlow2, hval2, hdr2, (hr1.drew _).put k _, (hr2.drew _).apart (by omega) k _, (hr3.drew _).apart (by omega) k _, (below_drewN hB _).setCell (p := ⟨w.heap.size, k, none⟩) (Nat.le_refl _) _⟩
   case measure => simp [intOf]; omega
theorem pcarried_minus (a b : List Nat) (ha : Num a) (hb : Num b) (hle : Hid (Dc.valB b <= Dc.valB a)) (w : World) : Calls Tryz.prog 173 #[.agg (numV a), .agg (numV b), .func (.func 175) #[] #[]] w fun e w' => (∃ O : List Nat, e = .returned (.agg (numV O)) /\ Num O /\ Dc.valB O = Dc.valB a - Dc.valB b) /\ Below w.heap.size w w' := by
 have HA : Hid _ := Lib.hid ha
 have HB : Hid _ := Lib.hid hb
 have R : Hid _ := Lib.hid (rows3 w a b ha.len hb.len)
 clear ha hb
 go_enter Tryz.func173, Tryz.ntmps173
 go_wp2
 go_loopw [7, 10] (fun c i wr => ∃ (k cy : Nat) (zc : Int) (O : List Nat), k <= 24 /\ i = .int .i64 (k : Int) /\ c = .int .i64 zc /\ Hid (zc = -(cy : Int)) /\ -1 <= zc /\ zc <= 1 /\ cy <= 1 /\ Hid (∀ d ∈ O.take k, d < 1000000000) /\ Hid (Dc.valB (O.take k) + Dc.valB (b.take k) = Dc.valB (a.take k) + 1000000000 ^ k * cy) /\ Hid (O.drop k = a.drop k) /\ Row24 wr w.heap.size O /\ Row24 wr (w.heap.size + 1) b /\ Row24 wr (w.heap.size + 1 + 1) (List.replicate 24 0) /\ Below w.heap.size w wr) (fun _ i _ => 24 - (intOf i).toNat)
 case atStart => exact ⟨0, 0, 0, a, Nat.zero_le _, rfl, rfl, Lib.hid rfl, by omega, by omega, by omega, Lib.hid (by simp), Lib.hid (by simp [Dc.valB]), Lib.hid rfl, R.out.1, R.out.2.1, R.out.2.2.1, R.out.2.2.2⟩
 case round =>
  obtain ⟨k, cy, zc, O, hk, rfl, rfl, hzc, hz1, hz2, hcy, hlow, hval, hdr, hr1, hr2, hr3, hB⟩ := hrel
  by_cases hk24 : k = 24
  ·subst hk24
   have hO : O.take 24 = O := List.take_of_length_le (by rw [hr1.len]; exact Nat.le_refl _)
   have ha : a.take 24 = a := List.take_of_length_le (by rw [HA.out.len]; exact Nat.le_refl _)
   have hb : b.take 24 = b := List.take_of_length_le (by rw [HB.out.len]; exact Nat.le_refl _)
   have hN : Hid (Num O) := Lib.hid ⟨hr1.len, by have := hlow.out; rwa [hO] at this⟩
   have hV : Hid (Dc.valB O = Dc.valB a - Dc.valB b) := Lib.hid (by
    have h3 := hval.out
    rw [hO, ha, hb] at h3
    have h4 := Dc.valB_lt hN.out.low
    rw [hr1.len] at h4
    have h5 := hle.out
    rw [<- top] at h3 h4
    have h6 : cy = 0 \/ cy = 1 := by omega
    rcases h6 with rfl | rfl <;> omega)
   have hl := hr1.len
   have R3 : Hid _ := Lib.hid (hr3.set hr1.len)
   clear hO ha hb hk hlow hval hdr
   go_wp2_with (first
    | (refine wp_loadN hr1 rfl _ rfl rfl ?_)
    | (refine wp_storeN hr3 hl rfl _ _ rfl rfl rfl ?_))
   (try simp only [Exit.inBlock, Exit.then]); refine bodyPost_ret (R3.out.result rfl rfl) rfl ?_
   exact ⟨⟨O, rfl, hN.out, hV.out⟩, below_setRow hB (by omega) _⟩
  ·have hk' : k < 24 := by omega
   have c1 := hr1.cell hk'
   have c2 := hr2.cell hk'
   have f1 := hr1.open (j := k)
   have j0 : (0 : Int) <= (k : Int) := by omega
   have j1 : (k : Int) < 24 := by omega
   obtain ⟨x, hx⟩ : ∃ x, a.getD k 0 = x := ⟨_, rfl⟩
   obtain ⟨y, hy⟩ : ∃ y, b.getD k 0 = y := ⟨_, rfl⟩
   have hxl : x < 1000000000 := by rw [<- hx]; exact HA.out.at k
   have hyl : y < 1000000000 := by rw [<- hy]; exact HB.out.at k
   rw [drop_at hdr.out, hx] at c1
   rw [hy] at c2
   have eA : Hid (Dc.valB (a.take (k + 1)) = Dc.valB (a.take k) + 1000000000 ^ k * x) := Lib.hid (by rw [Dc.valB_take (by rw [HA.out.len]; exact hk'), hx])
   have eB : Hid (Dc.valB (b.take (k + 1)) = Dc.valB (b.take k) + 1000000000 ^ k * y) := Lib.hid (by rw [Dc.valB_take (by rw [HB.out.len]; exact hk'), hy])
   have pw : Hid (1000000000 ^ (k + 1) = 1000000000 ^ k * 1000000000) := Lib.hid (Nat.pow_succ ..)
   clear hx hy hk24
   rcases Nat.lt_or_ge x (y + cy) with hxy | hxy
   ·rcases Nat.lt_or_ge (y + cy) (x + 1000000000) with hu | hu
    ·obtain ⟨u, hu'⟩ : ∃ u, y + cy = x + u := ⟨y + cy - x, by omega⟩
     obtain ⟨m, hm⟩ : ∃ m, m + u = 1000000000 := ⟨1000000000 - u, by omega⟩
     have hvi : Hid ((x : Int) - (y : Int) + zc = -(u : Int)) := Lib.hid (by have := hzc.out; omega)
     have q1 : Int.tdiv (-(u : Int)) 1000000000 = 0 := by rw [Int.neg_tdiv, show Int.tdiv (u : Int) 1000000000 = ((u / 1000000000 : Nat) : Int) from rfl, Nat.div_eq_of_lt (by omega)]; rfl
     have q2 : Int.tmod (-(u : Int)) 1000000000 = -(u : Int) := by rw [Int.neg_tmod, show Int.tmod (u : Int) 1000000000 = ((u % 1000000000 : Nat) : Int) from rfl, Nat.mod_eq_of_lt (by omega)]
     have q3 : -(u : Int) + 1000000000 = (m : Int) := by omega
     have q4 : decide (-(u : Int) < 0) = true := decide_eq_true (by omega)
     have hval2 : Hid (Dc.valB ((O.set k m).take (k + 1)) + Dc.valB (b.take (k + 1)) = Dc.valB (a.take (k + 1)) + 1000000000 ^ (k + 1) * 1) := Lib.hid (by
      rw [step_take hr1.len hk', eA.out, eB.out, pw.out]
      have h3 := hval.out
      have h4 : 1000000000 ^ k * m + 1000000000 ^ k * y + 1000000000 ^ k * cy = 1000000000 ^ k * x + 1000000000 ^ k * 1000000000 := by
       rw [<- Nat.mul_add, <- Nat.mul_add, <- Nat.mul_add]; congr 1; omega
      omega)
     have hml : m < 1000000000 := by omega
     have hul : u <= 1000000000 := by omega
     have hup : 1 <= u := by omega
     have hlow2 : Hid (∀ d ∈ (O.set k m).take (k + 1), d < 1000000000) := Lib.hid (low_step hr1.len hk' hlow.out hml)
     have hdr2 : Hid ((O.set k m).drop (k + 1) = a.drop (k + 1)) := Lib.hid (drop_step hdr.out)
     have hzn : zc <= 0 := by have := hzc.out; omega
     clear hlow hval hdr hm hu' hxy hu
     go_wp2
     go_quiet (exact Calls.quiet_of_same (pminus1_any _ _ _ (-(u : Int)) (by omega) (by omega) (by omega) (by omega) (by omega) (by omega) hvi.out _))
     go_wp2
     go_roundw
     case rel => exact ⟨k + 1, 1, -1, O.set k m, by omega, rfl, rfl, Lib.hid rfl, by omega, by omega, by omega, hlow2, hval2, hdr2, (hr1.drew _).put k _, (hr2.drew _).apart (by omega) k _, (hr3.drew _).apart (by omega) k _, (below_drewN hB _).setCell (p := ⟨w.heap.size, k, none⟩) (Nat.le_refl _) _⟩
     case measure => simp [intOf]; omega
    ·obtain rfl : x = 0 := by omega
     obtain rfl : y = 999999999 := by omega
     obtain rfl : cy = 1 := by omega
     have hvi : Hid (((0 : Nat) : Int) - ((999999999 : Nat) : Int) + zc = -1000000000) := Lib.hid (by have := hzc.out; omega)
     have hval2 : Hid (Dc.valB ((O.set k 0).take (k + 1)) + Dc.valB (b.take (k + 1)) = Dc.valB (a.take (k + 1)) + 1000000000 ^ (k + 1) * 1) := Lib.hid (by
      rw [step_take hr1.len hk', eA.out, eB.out, pw.out]
      have h3 := hval.out
      omega)
     have hlow2 : Hid (∀ d ∈ (O.set k 0).take (k + 1), d < 1000000000) := Lib.hid (low_step hr1.len hk' hlow.out (by decide))
     have hdr2 : Hid ((O.set k 0).drop (k + 1) = a.drop (k + 1)) := Lib.hid (drop_step hdr.out)
     have hzn : zc <= 0 := by have := hzc.out; omega
     clear hlow hval hdr hxy hu
     go_wp2
     go_quiet (exact Calls.quiet_of_same (pminus1_any _ _ _ (-1000000000) (by decide) (by decide) (by decide) (by decide) (by omega) (by omega) hvi.out _))
     go_wp2
     go_roundw
     case rel => exact ⟨k + 1, 1, -1, O.set k 0, by omega, rfl, rfl, Lib.hid rfl, by omega, by omega, by omega, hlow2, hval2, hdr2, (hr1.drew _).put k _, (hr2.drew _).apart (by omega) k _, (hr3.drew _).apart (by omega) k _, (below_drewN hB _).setCell (p := ⟨w.heap.size, k, none⟩) (Nat.le_refl _) _⟩
     case measure => simp [intOf]; omega
   ·obtain ⟨m, hm⟩ : ∃ m, y + cy + m = x := ⟨x - (y + cy), by omega⟩
    have hvi : Hid ((x : Int) - (y : Int) + zc = (m : Int)) := Lib.hid (by have := hzc.out; omega)
    have q1 : Int.tdiv (m : Int) 1000000000 = 0 := by rw [show Int.tdiv (m : Int) 1000000000 = ((m / 1000000000 : Nat) : Int) from rfl, Nat.div_eq_of_lt (by omega)]; rfl
    have q2 : Int.tmod (m : Int) 1000000000 = (m : Int) := by rw [show Int.tmod (m : Int) 1000000000 = ((m % 1000000000 : Nat) : Int) from rfl, Nat.mod_eq_of_lt (by omega)]
    have hval2 : Hid (Dc.valB ((O.set k m).take (k + 1)) + Dc.valB (b.take (k + 1)) = Dc.valB (a.take (k + 1)) + 1000000000 ^ (k + 1) * 0) := Lib.hid (by
     rw [step_take hr1.len hk', eA.out, eB.out, pw.out]
     have h3 := hval.out
     have h4 : 1000000000 ^ k * m + 1000000000 ^ k * y + 1000000000 ^ k * cy = 1000000000 ^ k * x := by
      rw [<- Nat.mul_add, <- Nat.mul_add]; congr 1; omega
     omega)
    have hml : m < 1000000000 := by omega
    have hlow2 : Hid (∀ d ∈ (O.set k m).take (k + 1), d < 1000000000) := Lib.hid (low_step hr1.len hk' hlow.out hml)
    have hdr2 : Hid ((O.set k m).drop (k + 1) = a.drop (k + 1)) := Lib.hid (drop_step hdr.out)
    have hzn : zc <= 0 := by have := hzc.out; omega
    clear hlow hval hdr hm hxy
    go_wp2
    go_quiet (exact Calls.quiet_of_same (pminus1_any _ _ _ (m : Int) (by omega) (by omega) (by omega) (by omega) (by omega) (by omega) hvi.out _))
    go_wp2
    go_roundw
    case rel => exact ⟨k + 1, 0, 0, O.set k m, by omega, rfl, rfl, Lib.hid rfl, by omega, by omega, by omega, hlow2, hval2, hdr2, (hr1.drew _).put k _, (hr2.drew _).apart (by omega) k _, (hr3.drew _).apart (by omega) k _, (below_drewN hB _).setCell (p := ⟨w.heap.size, k, none⟩) (Nat.le_refl _) _⟩
    case measure => simp [intOf]; omega
end Go.Proofs.YtckodhldimhbfaaGreatDoor
