/- The texts Shelf, W5, Fa, Gb, Gc of this proof, one behind the other. -/
import Derived.Shelf.LaysM
import Derived.Shelf.Slices.Turned
import Derived.Shelf.Small.Strs
import Derived.Shelf.Small.Utf8
import Derived.Shelf.Small.Wraps
import Derived.Shelf.Strings.AsciiSet
import Derived.Shelf.Strings.Builder1
import Derived.Shelf.Strings.Builder2
import Derived.Shelf.Strings.BuilderF
import Derived.Shelf.Strings.BuilderK
import Derived.Shelf.Strings.Count
import Derived.Shelf.Strings.Cut
import Derived.Shelf.Strings.Explode
import Derived.Shelf.Strings.OnBuilder
import Derived.Shelf.Strings.Prefix
import Derived.Shelf.Strings.RuneCount
import Derived.Shelf.Strings.Runes
import Derived.Shelf.Strings.Search1
import Derived.Shelf.Strings.Search2
import Derived.Shelf.Strings.Search3
import Derived.Shelf.Strings.Shaped
import Derived.Shelf.Strings.Split
import Derived.Shelf.Strings.SplitShaped
import Derived.Shelf.Strings.Trim
import Derived.Shelf.Unicode.Decode
import Derived.Shelf.Unicode.DecodeAny
import Derived.Shelf.Unicode.DecodeSlow
import Derived.Shelf.Utf8.RuneCount
import Derived.Test.YtchkiegehejfmaaGreatDoorProg
import Derived.Test.YtchkiegehejfmaaGreatDoorMaq
import Derived.Test.YtchkiegehejfmaaGreatDoorMag
import Derived.Test.YtchkiegehejfmaaGreatDoorMae
import Derived.Test.YtchkiegehejfmaaGreatDoorMaf
set_option linter.unusedSimpArgs false
set_option maxHeartbeats 16000000
set_option maxRecDepth 100000
/- The text Shelf. -/
namespace Go.Proofs
open Go.Shelf
def Tryz.lays170_ren : Go.Shelf.Ren := ⟨fun | 170 => 37 | n => n, fun | 70 => 53 | 3 => 3 | 0 => 0 | 72 => 56 | 37 => 54 | 5 => 5 | n => n, fun | n => n⟩
theorem Tryz.lays170 : Go.Proofs.Lays.n170 Tryz.prog Tryz.lays170_ren := {
 mixed := by kernel_rfl
 f170 := Tryz.func37.trans (congrArg some (by kernel_rfl))
 t0 := Tryz.underlying0
 a0 := Tryz.isAgg0
 z0 := Tryz.sizeOf0
 v0 := Tryz.zeroValue0
 t3 := Tryz.underlying3
 a3 := Tryz.isAgg3
 z3 := Tryz.sizeOf3
 v3 := Tryz.zeroValue3
 t37 := Tryz.underlying54
 a37 := Tryz.isAgg54
 z37 := Tryz.sizeOf54
 v37 := Tryz.zeroValue54
 t70 := Tryz.underlying53
 a70 := Tryz.isAgg53
 z70 := Tryz.sizeOf53
 v70 := Tryz.zeroValue53
 t72 := Tryz.underlying56
 a72 := Tryz.isAgg56
 z72 := Tryz.sizeOf56
 v72 := Tryz.zeroValue56 }
open Go.RowKit in
theorem Tryz.Builder_Len (B b : Nat) (bs : List Value) (w : World) (h : Lib.IsBuilder 56 5 B b bs w) :
  Calls Tryz.prog 37 #[.pointer (some ⟨b, 0, none⟩)] w fun e w' => e = .returned (.int .i64 bs.length) ∧ w' = w := Any.Builder_Len Tryz.lays170 B b bs w h
def Tryz.lays169_ren : Go.Shelf.Ren := ⟨fun | 169 => 38 | n => n, fun | 70 => 53 | 9 => 9 | 0 => 0 | 72 => 56 | 37 => 54 | 127 => 107 | 3 => 3 | 5 => 5 | n => n, fun | n => n⟩
theorem Tryz.lays169 : Go.Proofs.Lays.n169 Tryz.prog Tryz.lays169_ren := {
 mixed := by kernel_rfl
 f169 := Tryz.func38.trans (congrArg some (by kernel_rfl))
 t0 := Tryz.underlying0
 a0 := Tryz.isAgg0
 z0 := Tryz.sizeOf0
 v0 := Tryz.zeroValue0
 t3 := Tryz.underlying3
 a3 := Tryz.isAgg3
 z3 := Tryz.sizeOf3
 v3 := Tryz.zeroValue3
 t9 := Tryz.underlying9
 a9 := Tryz.isAgg9
 z9 := Tryz.sizeOf9
 v9 := Tryz.zeroValue9
 t37 := Tryz.underlying54
 a37 := Tryz.isAgg54
 z37 := Tryz.sizeOf54
 v37 := Tryz.zeroValue54
 t70 := Tryz.underlying53
 a70 := Tryz.isAgg53
 z70 := Tryz.sizeOf53
 v70 := Tryz.zeroValue53
 t72 := Tryz.underlying56
 a72 := Tryz.isAgg56
 z72 := Tryz.sizeOf56
 v72 := Tryz.zeroValue56
 t127 := Tryz.underlying107
 a127 := Tryz.isAgg107
 z127 := Tryz.sizeOf107
 v127 := Tryz.zeroValue107 }
theorem Tryz.Builder_Extra_169 : Builder.Extra Tryz.prog Tryz.lays169_ren := {
 sizeBuilder := by kernel_rfl
 liesBuilder := by kernel_rfl
 t5 := Tryz.underlying5
 a5 := Tryz.isAgg5
 z5 := Tryz.sizeOf5
 v5 := Tryz.zeroValue5
 infoByte := by kernel_rfl
 cellsByte := by kernel_rfl
 sizeByte := by kernel_rfl
 neB5 := by decide }
open Go.RowKit in
theorem Tryz.Builder_String_any (B b : Nat) (l : List UInt8) (w : World) (h : Lib.IsBuilder 56 5 B b (Lib.byteCells l) w) (hBw : B ≤ w.heap.size) :
  Calls Tryz.prog 38 #[.pointer (some ⟨b, 0, none⟩)] w fun e w' => e = .returned (.string ⟨l.toArray⟩) ∧ Below B w w' := Any.Builder_String_any Tryz.lays169 Tryz.Builder_Extra_169 B b l w h hBw
def Tryz.lays156_ren : Go.Shelf.Ren := ⟨fun | 156 => 36 | 165 => 77 | 166 => 34 | 169 => 38 | 240 => 68 | 241 => 116 | 276 => 115 | 277 => 144 | n => n, fun | 31 => 43 | 9 => 9 | 3 => 3 | 4 => 4 | 0 => 0 | 20 => 20 | 72 => 56 | 76 => 61 | 70 => 53 | 37 => 54 | 75 => 60 | 127 => 107 | 164 => 136 | 5 => 5 | 80 => 66 | n => n, fun | n => n⟩
theorem Tryz.lays156 : Go.Proofs.Lays.n156 Tryz.prog Tryz.lays156_ren := {
 mixed := by kernel_rfl
 f156 := Tryz.func36.trans (congrArg some (by kernel_rfl))
 f165 := Tryz.func77.trans (congrArg some (by kernel_rfl))
 f166 := Tryz.func34.trans (congrArg some (by kernel_rfl))
 f169 := Tryz.func38.trans (congrArg some (by kernel_rfl))
 f240 := Tryz.func68.trans (congrArg some (by kernel_rfl))
 f241 := Tryz.func116.trans (congrArg some (by kernel_rfl))
 f276 := Tryz.func115.trans (congrArg some (by kernel_rfl))
 f277 := Tryz.func144.trans (congrArg some (by kernel_rfl))
 t0 := Tryz.underlying0
 a0 := Tryz.isAgg0
 z0 := Tryz.sizeOf0
 v0 := Tryz.zeroValue0
 t3 := Tryz.underlying3
 a3 := Tryz.isAgg3
 z3 := Tryz.sizeOf3
 v3 := Tryz.zeroValue3
 t4 := Tryz.underlying4
 a4 := Tryz.isAgg4
 z4 := Tryz.sizeOf4
 v4 := Tryz.zeroValue4
 t9 := Tryz.underlying9
 a9 := Tryz.isAgg9
 z9 := Tryz.sizeOf9
 v9 := Tryz.zeroValue9
 t20 := Tryz.underlying20
 a20 := Tryz.isAgg20
 z20 := Tryz.sizeOf20
 v20 := Tryz.zeroValue20
 t31 := Tryz.underlying43
 a31 := Tryz.isAgg43
 z31 := Tryz.sizeOf43
 v31 := Tryz.zeroValue43
 t37 := Tryz.underlying54
 a37 := Tryz.isAgg54
 z37 := Tryz.sizeOf54
 v37 := Tryz.zeroValue54
 t70 := Tryz.underlying53
 a70 := Tryz.isAgg53
 z70 := Tryz.sizeOf53
 v70 := Tryz.zeroValue53
 t72 := Tryz.underlying56
 a72 := Tryz.isAgg56
 z72 := Tryz.sizeOf56
 v72 := Tryz.zeroValue56
 t75 := Tryz.underlying60
 a75 := Tryz.isAgg60
 z75 := Tryz.sizeOf60
 v75 := Tryz.zeroValue60
 t76 := Tryz.underlying61
 a76 := Tryz.isAgg61
 z76 := Tryz.sizeOf61
 v76 := Tryz.zeroValue61
 t127 := Tryz.underlying107
 a127 := Tryz.isAgg107
 z127 := Tryz.sizeOf107
 v127 := Tryz.zeroValue107
 t164 := Tryz.underlying136
 a164 := Tryz.isAgg136
 z164 := Tryz.sizeOf136
 v164 := Tryz.zeroValue136 }
theorem Tryz.Builder_Extra_156 : Builder.Extra Tryz.prog Tryz.lays156_ren := {
 sizeBuilder := by kernel_rfl
 liesBuilder := by kernel_rfl
 t5 := Tryz.underlying5
 a5 := Tryz.isAgg5
 z5 := Tryz.sizeOf5
 v5 := Tryz.zeroValue5
 infoByte := by kernel_rfl
 cellsByte := by kernel_rfl
 sizeByte := by kernel_rfl
 neB5 := by decide }
open Go.RowKit in
theorem Tryz.strings_Join_none (a : Option Addr) (c : Nat) (sep : ByteArray) (w : World) :
  Calls Tryz.prog 36 #[.slice a 0 c, .string sep] w fun e w' => e = .returned (.string ⟨#[]⟩) ∧ w' = w := Any.strings_Join_none Tryz.lays156 Tryz.Builder_Extra_156 a c sep w
open Go.RowKit in
theorem Tryz.strings_Join (bk o c : Nat) (xs : List ByteArray) (sep : ByteArray) (w : World) (hcells : ∀ (j : Nat) x, xs[j]? = some x → w.cell? ⟨bk, o + j, none⟩ = some (.string x)) (hbk : bk < w.heap.size) (hN : xs.length ≤ 140737488355328) (hcap : xs.length ≤ c) (hlen : (Lib.join (xs.map (·.data.toList)) sep.data.toList).length ≤ 140737488355328) :
  Calls Tryz.prog 36 #[.slice (some ⟨bk, o, none⟩) xs.length c, .string sep] w fun e w' => e = .returned (.string ⟨(Lib.join (xs.map (·.data.toList)) sep.data.toList).toArray⟩) ∧ Below w.heap.size w w' := Any.strings_Join Tryz.lays156 Tryz.Builder_Extra_156 bk o c xs sep w hcells hbk hN hcap hlen
def Tryz.lays161_ren : Go.Shelf.Ren := ⟨fun | 161 => 58 | 231 => 104 | 227 => 105 | 233 => 106 | 235 => 107 | 228 => 139 | 197 => 136 | 151 => 140 | 260 => 157 | 152 => 161 | 137 => 117 | 119 => 169 | 224 => 159 | 225 => 158 | 217 => 145 | 266 => 165 | n => n, fun | 9 => 9 | 4 => 4 | 3 => 3 | 5 => 5 | 117 => 127 | 116 => 126 | 0 => 0 | 124 => 130 | 105 => 146 | 21 => 21 | 119 => 160 | 46 => 155 | 139 => 163 | 138 => 162 | n => n, fun | 3 => 1 | 4 => 2 | n => n⟩
theorem Tryz.lays161 : Go.Proofs.Lays.n161 Tryz.prog Tryz.lays161_ren := {
 mixed := by kernel_rfl
 f119 := Tryz.func169.trans (congrArg some (by kernel_rfl))
 f137 := Tryz.func117.trans (congrArg some (by kernel_rfl))
 f151 := Tryz.func140.trans (congrArg some (by kernel_rfl))
 f152 := Tryz.func161.trans (congrArg some (by kernel_rfl))
 f161 := Tryz.func58.trans (congrArg some (by kernel_rfl))
 f197 := Tryz.func136.trans (congrArg some (by kernel_rfl))
 f217 := Tryz.func145.trans (congrArg some (by kernel_rfl))
 f224 := Tryz.func159.trans (congrArg some (by kernel_rfl))
 f225 := Tryz.func158.trans (congrArg some (by kernel_rfl))
 f227 := Tryz.func105.trans (congrArg some (by kernel_rfl))
 f228 := Tryz.func139.trans (congrArg some (by kernel_rfl))
 f231 := Tryz.func104.trans (congrArg some (by kernel_rfl))
 f233 := Tryz.func106.trans (congrArg some (by kernel_rfl))
 f235 := Tryz.func107.trans (congrArg some (by kernel_rfl))
 f260 := Tryz.func157.trans (congrArg some (by kernel_rfl))
 f266 := Tryz.func165.trans (congrArg some (by kernel_rfl))
 t0 := Tryz.underlying0
 a0 := Tryz.isAgg0
 z0 := Tryz.sizeOf0
 v0 := Tryz.zeroValue0
 t3 := Tryz.underlying3
 a3 := Tryz.isAgg3
 z3 := Tryz.sizeOf3
 v3 := Tryz.zeroValue3
 t4 := Tryz.underlying4
 a4 := Tryz.isAgg4
 z4 := Tryz.sizeOf4
 v4 := Tryz.zeroValue4
 t5 := Tryz.underlying5
 a5 := Tryz.isAgg5
 z5 := Tryz.sizeOf5
 v5 := Tryz.zeroValue5
 t9 := Tryz.underlying9
 a9 := Tryz.isAgg9
 z9 := Tryz.sizeOf9
 v9 := Tryz.zeroValue9
 t21 := Tryz.underlying21
 a21 := Tryz.isAgg21
 z21 := Tryz.sizeOf21
 v21 := Tryz.zeroValue21
 t46 := Tryz.underlying155
 a46 := Tryz.isAgg155
 z46 := Tryz.sizeOf155
 v46 := Tryz.zeroValue155
 t105 := Tryz.underlying146
 a105 := Tryz.isAgg146
 z105 := Tryz.sizeOf146
 v105 := Tryz.zeroValue146
 t116 := Tryz.underlying126
 a116 := Tryz.isAgg126
 z116 := Tryz.sizeOf126
 t117 := Tryz.underlying127
 a117 := Tryz.isAgg127
 z117 := Tryz.sizeOf127
 v117 := Tryz.zeroValue127
 t119 := Tryz.underlying160
 a119 := Tryz.isAgg160
 z119 := Tryz.sizeOf160
 t124 := Tryz.underlying130
 a124 := Tryz.isAgg130
 z124 := Tryz.sizeOf130
 v124 := Tryz.zeroValue130
 t138 := Tryz.underlying162
 a138 := Tryz.isAgg162
 z138 := Tryz.sizeOf162
 v138 := Tryz.zeroValue162
 t139 := Tryz.underlying163
 a139 := Tryz.isAgg163
 z139 := Tryz.sizeOf163
 v139 := Tryz.zeroValue163
 g3 := by kernel_rfl
 g4 := by kernel_rfl }
open Go.RowKit in
theorem Tryz.strings_TrimLeft_one (s : ByteArray) (c : UInt8) (hc : c.toNat < 128) (w : World) :
  Calls Tryz.prog 58 #[.string s, .string ⟨#[c]⟩] w fun e w' => e = .returned (.string ⟨(Lib.trimLeftB s.data.toList c).toArray⟩) ∧ w' = w := Any.strings_TrimLeft_one Tryz.lays161 s c hc w
def Tryz.lays137_ren : Go.Shelf.Ren := ⟨fun | 137 => 117 | 217 => 145 | 266 => 165 | n => n, fun | 9 => 9 | 5 => 5 | 3 => 3 | n => n, fun | n => n⟩
theorem Tryz.lays137 : Go.Proofs.Lays.n137 Tryz.prog Tryz.lays137_ren := {
 mixed := by kernel_rfl
 f137 := Tryz.func117.trans (congrArg some (by kernel_rfl))
 f217 := Tryz.func145.trans (congrArg some (by kernel_rfl))
 f266 := Tryz.func165.trans (congrArg some (by kernel_rfl))
 t3 := Tryz.underlying3
 a3 := Tryz.isAgg3
 z3 := Tryz.sizeOf3
 v3 := Tryz.zeroValue3
 t5 := Tryz.underlying5
 a5 := Tryz.isAgg5
 z5 := Tryz.sizeOf5
 v5 := Tryz.zeroValue5
 t9 := Tryz.underlying9
 a9 := Tryz.isAgg9
 z9 := Tryz.sizeOf9
 v9 := Tryz.zeroValue9 }
open Go.RowKit in
theorem Tryz.strings_IndexByte (s : ByteArray) (c : Int) (w : World) :
  Calls Tryz.prog 117 #[.string s, .int .u8 c] w fun e w' => e = .returned (.int .i64 (Lib.indexByte s.data.toList c.toNat.toUInt8)) ∧ w' = w := Any.strings_IndexByte Tryz.lays137 s c w
def Tryz.lays145_ren : Go.Shelf.Ren := ⟨fun | 145 => 118 | 220 => 146 | 219 => 138 | 217 => 145 | 225 => 158 | 224 => 159 | 267 => 160 | 266 => 165 | 314 => 168 | n => n, fun | 9 => 9 | 4 => 4 | 59 => 112 | 3 => 3 | 5 => 5 | 46 => 155 | 146 => 165 | 51 => 164 | n => n, fun | 1 => 0 | n => n⟩
theorem Tryz.lays145 : Go.Proofs.Lays.n145 Tryz.prog Tryz.lays145_ren := {
 mixed := by kernel_rfl
 f145 := Tryz.func118.trans (congrArg some (by kernel_rfl))
 f217 := Tryz.func145.trans (congrArg some (by kernel_rfl))
 f219 := Tryz.func138.trans (congrArg some (by kernel_rfl))
 f220 := Tryz.func146.trans (congrArg some (by kernel_rfl))
 f224 := Tryz.func159.trans (congrArg some (by kernel_rfl))
 f225 := Tryz.func158.trans (congrArg some (by kernel_rfl))
 f266 := Tryz.func165.trans (congrArg some (by kernel_rfl))
 f267 := Tryz.func160.trans (congrArg some (by kernel_rfl))
 f314 := Tryz.func168.trans (congrArg some (by kernel_rfl))
 t3 := Tryz.underlying3
 a3 := Tryz.isAgg3
 z3 := Tryz.sizeOf3
 v3 := Tryz.zeroValue3
 t4 := Tryz.underlying4
 a4 := Tryz.isAgg4
 z4 := Tryz.sizeOf4
 v4 := Tryz.zeroValue4
 t5 := Tryz.underlying5
 a5 := Tryz.isAgg5
 z5 := Tryz.sizeOf5
 v5 := Tryz.zeroValue5
 t9 := Tryz.underlying9
 a9 := Tryz.isAgg9
 z9 := Tryz.sizeOf9
 v9 := Tryz.zeroValue9
 t46 := Tryz.underlying155
 a46 := Tryz.isAgg155
 z46 := Tryz.sizeOf155
 v46 := Tryz.zeroValue155
 t51 := Tryz.underlying164
 a51 := Tryz.isAgg164
 z51 := Tryz.sizeOf164
 v51 := Tryz.zeroValue164
 t59 := Tryz.underlying112
 a59 := Tryz.isAgg112
 z59 := Tryz.sizeOf112
 v59 := Tryz.zeroValue112
 t146 := Tryz.underlying165
 a146 := Tryz.isAgg165
 z146 := Tryz.sizeOf165
 v146 := Tryz.zeroValue165
 g1 := by kernel_rfl }
open Go.RowKit Go.Lib in
theorem Tryz.strings_Cut (s sep : ByteArray) (m : Int) (w : World) (hs : s.size < 4294967281) (hm : w.cell? ⟨0, 0, none⟩ = some (.int .i64 m)) :
  Calls Tryz.prog 118 #[.string s, .string sep] w fun e w' => e = .returned (.tuple #[.string ⟨(Lib.cut s.data.toList sep.data.toList).1.toArray⟩, .string ⟨(Lib.cut s.data.toList sep.data.toList).2.1.toArray⟩, .bool (Lib.cut s.data.toList sep.data.toList).2.2]) ∧ ∃ n, w' = w.drewN n := Any.strings_Cut Tryz.lays145 s sep m w hs hm
def Tryz.lays146_ren : Go.Shelf.Ren := ⟨fun | 146 => 28 | 221 => 57 | 268 => 101 | 138 => 102 | 143 => 103 | 195 => 135 | 197 => 136 | 218 => 137 | 219 => 138 | 260 => 157 | 217 => 145 | 225 => 158 | 224 => 159 | 267 => 160 | 266 => 165 | 314 => 168 | n => n, fun | 9 => 9 | 31 => 43 | 3 => 3 | 4 => 4 | 0 => 0 | 105 => 146 | 21 => 21 | 5 => 5 | 46 => 155 | 119 => 160 | 139 => 163 | 138 => 162 | 146 => 165 | 51 => 164 | n => n, fun | 1 => 0 | 3 => 1 | 4 => 2 | n => n⟩
theorem Tryz.lays146 : Go.Proofs.Lays.n146 Tryz.prog Tryz.lays146_ren := {
 mixed := by kernel_rfl
 f138 := Tryz.func102.trans (congrArg some (by kernel_rfl))
 f143 := Tryz.func103.trans (congrArg some (by kernel_rfl))
 f146 := Tryz.func28.trans (congrArg some (by kernel_rfl))
 f195 := Tryz.func135.trans (congrArg some (by kernel_rfl))
 f197 := Tryz.func136.trans (congrArg some (by kernel_rfl))
 f217 := Tryz.func145.trans (congrArg some (by kernel_rfl))
 f218 := Tryz.func137.trans (congrArg some (by kernel_rfl))
 f219 := Tryz.func138.trans (congrArg some (by kernel_rfl))
 f221 := Tryz.func57.trans (congrArg some (by kernel_rfl))
 f224 := Tryz.func159.trans (congrArg some (by kernel_rfl))
 f225 := Tryz.func158.trans (congrArg some (by kernel_rfl))
 f260 := Tryz.func157.trans (congrArg some (by kernel_rfl))
 f266 := Tryz.func165.trans (congrArg some (by kernel_rfl))
 f267 := Tryz.func160.trans (congrArg some (by kernel_rfl))
 f268 := Tryz.func101.trans (congrArg some (by kernel_rfl))
 f314 := Tryz.func168.trans (congrArg some (by kernel_rfl))
 t0 := Tryz.underlying0
 a0 := Tryz.isAgg0
 z0 := Tryz.sizeOf0
 v0 := Tryz.zeroValue0
 t3 := Tryz.underlying3
 a3 := Tryz.isAgg3
 z3 := Tryz.sizeOf3
 v3 := Tryz.zeroValue3
 t4 := Tryz.underlying4
 a4 := Tryz.isAgg4
 z4 := Tryz.sizeOf4
 v4 := Tryz.zeroValue4
 t5 := Tryz.underlying5
 a5 := Tryz.isAgg5
 z5 := Tryz.sizeOf5
 v5 := Tryz.zeroValue5
 t9 := Tryz.underlying9
 a9 := Tryz.isAgg9
 z9 := Tryz.sizeOf9
 v9 := Tryz.zeroValue9
 t21 := Tryz.underlying21
 a21 := Tryz.isAgg21
 z21 := Tryz.sizeOf21
 v21 := Tryz.zeroValue21
 t31 := Tryz.underlying43
 a31 := Tryz.isAgg43
 z31 := Tryz.sizeOf43
 v31 := Tryz.zeroValue43
 t46 := Tryz.underlying155
 a46 := Tryz.isAgg155
 z46 := Tryz.sizeOf155
 v46 := Tryz.zeroValue155
 t51 := Tryz.underlying164
 a51 := Tryz.isAgg164
 z51 := Tryz.sizeOf164
 v51 := Tryz.zeroValue164
 t105 := Tryz.underlying146
 a105 := Tryz.isAgg146
 z105 := Tryz.sizeOf146
 v105 := Tryz.zeroValue146
 t119 := Tryz.underlying160
 a119 := Tryz.isAgg160
 z119 := Tryz.sizeOf160
 t138 := Tryz.underlying162
 a138 := Tryz.isAgg162
 z138 := Tryz.sizeOf162
 v138 := Tryz.zeroValue162
 t139 := Tryz.underlying163
 a139 := Tryz.isAgg163
 z139 := Tryz.sizeOf163
 v139 := Tryz.zeroValue163
 t146 := Tryz.underlying165
 a146 := Tryz.isAgg165
 z146 := Tryz.sizeOf165
 v146 := Tryz.zeroValue165
 g1 := by kernel_rfl
 g3 := by kernel_rfl
 g4 := by kernel_rfl }
open Go.RowKit Go.Lib in
theorem Tryz.strings_Split (s sep : ByteArray) (m : Int) (w : World) (hs : s.size < 4294967281) (hm : w.cell? ⟨0, 0, none⟩ = some (.int .i64 m)) (h1 : 1 ≤ sep.size) :
  Calls Tryz.prog 28 #[.string s, .string sep] w fun e w' =>
   e = .returned (.slice (some ⟨w.heap.size, 0, none⟩) (Lib.countB s sep + 1) (Lib.countB s sep + 1)) ∧ w' = w.alloc (.cells ((Lib.splitB sep 0 (Lib.countB s sep) s).map Value.string).toArray 9) := Any.strings_Split Tryz.lays146 (by kernel_rfl) s sep m w hs hm h1
end Go.Proofs
/- The text W5. -/
namespace Pr
def letterN (n : Nat) : Bool := (decide (97 ≤ n) && decide (n ≤ 122)) || (decide (48 ≤ n) && decide (n ≤ 57))
def locN (n : Nat) : Bool := n == 95 || (n == 46 || (n == 45 || n == 61))
def srvN (n : Nat) : Bool := n == 46 || n == 45
def validL (other : Nat → Bool) (s : Str) : Bool := decide (1 ≤ s.length) && (decide (s.length ≤ 32) && s.all fun c => letterN c.toNat || other c.toNat)
def localL (s : Str) : Bool := validL locN s
def serverL (s : Str) : Bool := validL srvN s && (letterN ((s.headD 0).toNat) && letterN ((s.getLastD 0).toNat))
def cutC : Str → Option (Str × Str)
 | [] => none
 | c :: r => if c = 58 then some ([], r) else (cutC r).map fun p => (c :: p.1, p.2)
def splitP (ms : Str) : Str → Option (Str × Str)
 | [] => none
 | c :: r => if ms.contains c then (match cutC r with
  | some (a, b) => if localL a && serverL b then some (a, b) else none
  | none => none) else none
def userE (s : Str) : Int := if (splitP [64] s).isSome then 0 else 3
def serverOf (s : Str) : Str := match splitP [64, 33] s with
 | some (_, b) => b
 | none => []
theorem index_cut : ∀ (s : Str), (match cutC s with
  | some (a, b) => Go.Lib.indexByte s 58 = (a.length : Int) ∧ s = a ++ 58 :: b
  | none => Go.Lib.indexByte s 58 = -1)
 | [] => rfl
 | c :: r => by
  have ih := index_cut r
  unfold cutC
  by_cases h : c = 58
  ·rw [if_pos h]
   subst h
   exact ⟨rfl, rfl⟩
  ·rw [if_neg h]
   have hb : (c == 58) = false := beq_eq_false_iff_ne.2 h
   cases hc : cutC r with
   | none =>
    rw [hc] at ih
    show Go.Lib.indexByte (c :: r) 58 = -1
    have ih' : Go.Lib.indexByte r 58 = -1 := ih
    unfold Go.Lib.indexByte
    rw [hb, ih']
    rfl
   | some p =>
    obtain ⟨a, b⟩ := p
    rw [hc] at ih
    obtain ⟨h1, h2⟩ : Go.Lib.indexByte r 58 = (a.length : Int) ∧ r = a ++ 58 :: b := ih
    show Go.Lib.indexByte (c :: r) 58 = ((c :: a).length : Int) ∧ c :: r = (c :: a) ++ 58 :: b
    refine ⟨?_, by rw [h2]; rfl⟩
    unfold Go.Lib.indexByte
    rw [hb, h1]
    have : ((a.length : Int) == -1) = false := by rw [beq_eq_false_iff_ne]; omega
    rw [this]
    simp
theorem lib_cut (s : Str) : Go.Lib.cut s [58] = match cutC s with
  | some (a, b) => (a, b, true)
  | none => (s, [], false) := by
 have h := index_cut s
 unfold Go.Lib.cut
 rw [Go.Lib.index_one]
 cases hc : cutC s with
 | none =>
  rw [hc] at h
  have h' : Go.Lib.indexByte s 58 = -1 := h
  rw [h']
  rfl
 | some p =>
  obtain ⟨a, b⟩ := p
  rw [hc] at h
  obtain ⟨h1, h2⟩ : Go.Lib.indexByte s 58 = (a.length : Int) ∧ s = a ++ 58 :: b := h
  show (if _ then _ else _) = (a, b, true)
  rw [h1, if_pos (by omega)]
  rw [h2]
  simp
theorem cutC_len : ∀ (s a b : Str), cutC s = some (a, b) → a.length + b.length < s.length
 | [], a, b, h => by cases h
 | c :: r, a, b, h => by
  unfold cutC at h
  split at h
  ·injection h with h
   injection h with h1 h2
   subst h1
   subst h2
   simp
  ·obtain ⟨p, hp, he⟩ := Option.map_eq_some_iff.1 h
   obtain ⟨a', b'⟩ := p
   have := cutC_len r a' b' hp
   injection he with h1 h2
   subst h1
   subst h2
   simp only [List.length_cons] at this ⊢
   omega
end Pr
/- The text Fa. -/
namespace Pr
def wordR (o : Int) : Str := if o = 4 then notW else simpleW o ++ fieldW o
def endsB (n : Nat) : Bool := n == 32 || (n == 40 || (n == 41 || (n == 44 || n == 34)))
def boundsR (o : Int) : Int × Int := if o = 5 then (1, 14) else if o = 10 then (-1000, 1000) else if o = 12 then (0, 1000000000) else (0, 1000000000000)
theorem comm_skip {r : Str} : commentP (32 :: r) = commentP r := rfl
theorem comm_hit {c : UInt8} {r : Str} (h : c ≠ 32) : commentP (c :: r) = (c == 35) := by
 unfold commentP
 rw [List.dropWhile_cons_of_neg (by simpa using h)]
end Pr
namespace Go.Proofs.YtchkiegehejfmaaGreatDoor
open Go.RowKit Go.Lib
set_option linter.unusedVariables false
set_option linter.unusedSimpArgs false
theorem rkinds_any (w : World) : Calls Tryz.prog 79 #[] w fun e w' => (∃ g, e = .returned (.slice (some ⟨g, 0, none⟩) 14 14) ∧ w.heap.size ≤ g ∧ Rd w' (some ⟨g, 0, none⟩) 14 (strL Pr.kindL)) ∧ Below w.heap.size w w' := by
 go_enter Tryz.func79, Tryz.ntmps79
 go_wp2_with fail
 go_ret
 exact ⟨⟨w.heap.size, rfl, Nat.le_refl _, Rd.of_blk (vs := strL Pr.kindL) (Blk.new w 9 (strL Pr.kindL).toArray)⟩, (Below.refl _ w).alloc (Nat.le_refl _) _⟩
theorem rword_any (o : Int) (h1 : 1 ≤ o) (h2 : o ≤ 17) (w : World) : Calls Tryz.prog 80 #[.int .i64 o] w fun e w' => e = .returned (.string (bstr (Pr.wordR o))) ∧ Below w.heap.size w w' := by
 obtain h | h | h | h | h | h | h | h | h | h | h | h | h | h | h | h | h : o = 1 ∨ o = 2 ∨ o = 3 ∨ o = 4 ∨ o = 5 ∨ o = 6 ∨ o = 7 ∨ o = 8 ∨ o = 9 ∨ o = 10 ∨ o = 11 ∨ o = 12 ∨ o = 13 ∨ o = 14 ∨ o = 15 ∨ o = 16 ∨ o = 17 := by omega
 all_goals
  subst h
  go_enter Tryz.func80, Tryz.ntmps80
  go_wp2_with fail
  go_ret
  exact ⟨rfl, (Below.refl _ w).alloc (Nat.le_refl _) _⟩
theorem rends_any (n : Nat) (w : World) : Calls Tryz.prog 113 #[.int .u8 (n : Int)] w fun e w' => e = .returned (.bool (Pr.endsB n)) ∧ w = w' := by
 by_cases h32 : n = 32
 ·subst h32
  rw [show Pr.endsB 32 = true from rfl]
  go_enter Tryz.func113, Tryz.ntmps113
  go_wp2_with fail
  go_ret
  exact ⟨rfl, rfl⟩
 by_cases h40 : n = 40
 ·subst h40
  rw [show Pr.endsB 40 = true from rfl]
  go_enter Tryz.func113, Tryz.ntmps113
  go_wp2_with fail
  go_ret
  exact ⟨rfl, rfl⟩
 by_cases h41 : n = 41
 ·subst h41
  rw [show Pr.endsB 41 = true from rfl]
  go_enter Tryz.func113, Tryz.ntmps113
  go_wp2_with fail
  go_ret
  exact ⟨rfl, rfl⟩
 by_cases h44 : n = 44
 ·subst h44
  rw [show Pr.endsB 44 = true from rfl]
  go_enter Tryz.func113, Tryz.ntmps113
  go_wp2_with fail
  go_ret
  exact ⟨rfl, rfl⟩
 by_cases h34 : n = 34
 ·subst h34
  rw [show Pr.endsB 34 = true from rfl]
  go_enter Tryz.func113, Tryz.ntmps113
  go_wp2_with fail
  go_ret
  exact ⟨rfl, rfl⟩
 have e : Pr.endsB n = false := by unfold Pr.endsB; simp [h32, h40, h41, h44, h34]
 have d32 : ((n : Int) == 32) = false := by rw [beq_eq_false_iff_ne]; omega
 have d40 : ((n : Int) == 40) = false := by rw [beq_eq_false_iff_ne]; omega
 have d41 : ((n : Int) == 41) = false := by rw [beq_eq_false_iff_ne]; omega
 have d44 : ((n : Int) == 44) = false := by rw [beq_eq_false_iff_ne]; omega
 have d34 : ((n : Int) == 34) = false := by rw [beq_eq_false_iff_ne]; omega
 rw [e]
 clear e h32 h40 h41 h44 h34
 go_enter Tryz.func113, Tryz.ntmps113
 go_wp2_with fail
 go_ret
 exact ⟨rfl, rfl⟩
theorem rbounds_any (o : Int) (w : World) : Calls Tryz.prog 132 #[.int .i64 o] w fun e w' => e = .returned (.tuple #[.int .i64 (Pr.boundsR o).1, .int .i64 (Pr.boundsR o).2]) ∧ w = w' := by
 by_cases h5 : o = 5
 ·subst h5
  rw [show Pr.boundsR 5 = _ from rfl]
  go_enter Tryz.func132, Tryz.ntmps132
  go_wp2_with fail
  go_ret2
  exact ⟨rfl, rfl⟩
 by_cases h10 : o = 10
 ·subst h10
  rw [show Pr.boundsR 10 = _ from rfl]
  go_enter Tryz.func132, Tryz.ntmps132
  go_wp2_with fail
  go_ret2
  exact ⟨rfl, rfl⟩
 by_cases h12 : o = 12
 ·subst h12
  rw [show Pr.boundsR 12 = _ from rfl]
  go_enter Tryz.func132, Tryz.ntmps132
  go_wp2_with fail
  go_ret2
  exact ⟨rfl, rfl⟩
 have e : Pr.boundsR o = (0, 1000000000000) := by unfold Pr.boundsR; rw [if_neg h5, if_neg h10, if_neg h12]
 have d5 : (o == 5) = false := by rw [beq_eq_false_iff_ne]; omega
 have d10 : (o == 10) = false := by rw [beq_eq_false_iff_ne]; omega
 have d12 : (o == 12) = false := by rw [beq_eq_false_iff_ne]; omega
 rw [e]
 clear e h5 h10 h12
 go_enter Tryz.func132, Tryz.ntmps132
 go_wp2_with fail
 go_ret2
 exact ⟨rfl, rfl⟩
theorem rcomment_any (S : ByteArray) (w : World) (hs : S.size ≤ 1000000) : Calls Tryz.prog 31 #[.string S] w fun e w' => e = .returned (.bool (Pr.commentP S.data.toList)) ∧ w = w' := by
 have HDA : Hid (∀ k (h : k < S.size), S.data.toList.drop k = S[k] :: S.data.toList.drop (k + 1)) := hid (drop_at S)
 have HDE : Hid (∀ k, S.size ≤ k → S.data.toList.drop k = []) := hid (drop_end S)
 obtain ⟨X, hX⟩ : ∃ X, Pr.commentP S.data.toList = X := ⟨_, rfl⟩
 have HX : Hid (Pr.commentP (S.data.toList.drop 0) = X) := hid hX
 rw [hX]
 clear hX
 go_enter Tryz.func31, Tryz.ntmps31
 go_wp2_with fail
 go_loopw [3] (fun ix wr => ∃ k : Nat, k ≤ S.size ∧ ix = .int .i64 (k : Int) ∧ w = wr ∧ Hid (Pr.commentP (S.data.toList.drop k) = X)) (fun ix _ => S.size - (RowKit.intOf ix).toNat)
 case atStart => exact ⟨0, Nat.zero_le _, rfl, rfl, HX⟩
 case round =>
  obtain ⟨k, hk, rfl, rfl, hc⟩ := hrel
  by_cases hlt : k < S.size
  ·have hdl := HDA.out k hlt
   have hc2 := (S[k]'hlt).toNat_lt
   by_cases h32 : S[k]'hlt = 32
   ·have hy := u8_beq (n := 32) rfl h32
    have HN : Hid (Pr.commentP (S.data.toList.drop (k + 1)) = X) := hid (by rw [← hc.out, hdl, h32, Pr.comm_skip])
    clear hdl h32
    go_wp2_with fail
    go_roundw
    case rel => exact ⟨k + 1, by omega, by go_num, by trivial, HN⟩
    case measure => simp [RowKit.intOf]; omega
   ·have hy := u8_bne (n := 32) rfl h32
    by_cases h35 : S[k]'hlt = 35
    ·have hz := u8_eq (n := 35) rfl h35
     have HE : Hid (true = X) := hid (by rw [← hc.out, hdl, Pr.comm_hit h32, h35]; rfl)
     clear hdl h32 h35
     go_wp2_with fail
     go_ret
     exact ⟨congrArg (fun b => Ending.returned (.bool b)) HE.out, by trivial⟩
    ·have hz := u8_ne (n := 35) rfl h35
     have HE : Hid (false = X) := hid (by rw [← hc.out, hdl, Pr.comm_hit h32]; exact (beq_eq_false_iff_ne.2 h35).symm)
     clear hdl h32 h35
     go_wp2_with fail
     go_ret
     exact ⟨congrArg (fun b => Ending.returned (.bool b)) HE.out, by trivial⟩
  ·have HE : Hid (true = X) := hid (by rw [← hc.out, HDE.out k (by omega)]; rfl)
   go_wp2_with fail
   go_ret
   exact ⟨congrArg (fun b => Ending.returned (.bool b)) HE.out, by trivial⟩
end Go.Proofs.YtchkiegehejfmaaGreatDoor
/- The text Gb. -/
namespace Pr
theorem nodeE_kids {o : Int} {t : Str} {n : Int} {m : Nat} (h : nodeE o t n m = 0) (hm : m ≠ 0) : ((o = 2 ∨ o = 3) ∧ 2 ≤ m ∨ o = 4 ∧ m = 1) ∧ t = [] ∧ n = 0 := by
 unfold nodeE at h
 split at h
 ·cases h
 ·rename_i g
  simp only [not_or, not_and, Bool.not_eq_false] at g
  obtain ⟨g1, g2, g3, g4, g5⟩ := g
  have hk : useKids o = true := by
   cases hk : useKids o with
   | true => rfl
   | false => exact absurd (g4 hk) (by omega)
  have ho : o = 2 ∨ o = 3 ∨ o = 4 := by
   unfold useKids at hk
   simp only [Bool.or_eq_true, beq_iff_eq] at hk
   omega
  have ht : t = [] := Classical.not_not.1 (g2 (by rcases ho with rfl | rfl | rfl <;> rfl))
  have hn : n = 0 := Classical.not_not.1 (g3 (by rcases ho with rfl | rfl | rfl <;> rfl))
  refine ⟨?_, ht, hn⟩
  rcases ho with rfl | rfl | rfl
  ·left
   refine ⟨.inl rfl, ?_⟩
   have h2 : (if m < 2 then (9 : Int) else 0) = 0 := h
   split at h2
   ·cases h2
   ·omega
  ·left
   refine ⟨.inr rfl, ?_⟩
   have h2 : (if m < 2 then (9 : Int) else 0) = 0 := h
   split at h2
   ·cases h2
   ·omega
  ·exact .inr ⟨rfl, Classical.not_not.1 (g5 rfl)⟩
end Pr
namespace Go.Proofs.YtchkiegehejfmaaGreatDoor
open Go.RowKit Go.Lib
set_option linter.unusedVariables false
set_option linter.unusedSimpArgs false
def RnL (o : Int) (t : List UInt8) (n : Int) (m : Nat) : Prop := ∀ (A : Option Addr) (cap : Nat) (w : World), t.length ≤ 1000000 →
 Calls Tryz.prog 98 #[.agg #[.int .i64 o, .string (bstr t), .int .i64 n, .slice A m cap]] w fun e w' => e = .returned (.int .i64 (Pr.nodeE o t n m)) ∧ Below w.heap.size w w'
structure RnX (o : Int) (t : List UInt8) (n : Int) (m : Nat) (A : Option Addr) (cap : Nat) (w w1 : World) : Prop where
 be : Below w.heap.size w w1
 x0 : w1.cell? ⟨w.heap.size, 0, none⟩ = some (.int .i64 o)
 x1 : w1.cell? ⟨w.heap.size, 1, none⟩ = some (.string (bstr t))
 x2 : w1.cell? ⟨w.heap.size, 2, none⟩ = some (.int .i64 n)
 x3 : w1.cell? ⟨w.heap.size, 3, none⟩ = some (.slice A m cap)
theorem RnX.new (o : Int) (t : List UInt8) (n : Int) (m : Nat) (A : Option Addr) (cap : Nat) (w : World) : RnX o t n m A cap w (w.alloc (.cells #[.int .i64 o, .string (bstr t), .int .i64 n, .slice A m cap] 36)) := by
 have hk1 := Blk.new w 36 #[.int .i64 o, .string (bstr t), .int .i64 n, .slice A m cap]
 exact ⟨(Below.refl w.heap.size w).alloc (Nat.le_refl _) _, hk1.cell 0, hk1.cell 1, hk1.cell 2, hk1.cell 3⟩
theorem te_of {t : List UInt8} (h : (bstr t).toList.isEmpty = true) : t = [] := by
 rw [Lib.toList_data] at h
 exact List.isEmpty_iff.1 h
theorem te_no {t : List UInt8} (h : (bstr t).toList.isEmpty = false) : t ≠ [] := fun e => by
 subst e
 rw [Lib.toList_data] at h
 cases h
theorem rnode_bad (o : Int) (t : List UInt8) (n : Int) (m : Nat) (hb : Pr.known o = false ∨ (Pr.useText o = false ∧ t ≠ []) ∨ (Pr.useN o = false ∧ n ≠ 0) ∨ (Pr.useKids o = false ∧ 0 < m) ∨ (o = 4 ∧ m ≠ 1)) : RnL o t n m := fun A cap w htl => by
 rw [Pr.nodeE_bad hb]
 obtain ⟨HB1, hx0, hx1, hx2, hx3⟩ := RnX.new o t n m A cap w
 generalize hw1 : w.alloc (.cells #[.int .i64 o, .string (bstr t), .int .i64 n, .slice A m cap] 36) = w1 at *
 have HB1 := hid HB1
 have HUT := hid (fun W => rusestext_any o W)
 have HUN := hid (fun W => rusesn_any o W)
 have HUK := hid (fun W => ruseskids_any o W)
 by_cases hlo : o < 1
 ·clear hb
  go_enter Tryz.func98, Tryz.ntmps98
  go_wp2_with fail
  go_ret
  exact ⟨rfl, HB1.out⟩
 by_cases hhi : 17 < o
 ·clear hb
  go_enter Tryz.func98, Tryz.ntmps98
  go_wp2_with fail
  go_ret
  exact ⟨rfl, HB1.out⟩
 have hkn : Pr.known o = true := by unfold Pr.known; rw [Bool.and_eq_true, decide_eq_true_iff, decide_eq_true_iff]; omega
 rw [hkn] at hb
 have HB2 := hid hb
 clear hb hkn
 have hlo' : decide (o < 1) = false := decide_eq_false hlo
 have hhi' : decide (17 < o) = false := decide_eq_false hhi
 have HTE := hid (fun h : (bstr t).toList.isEmpty = true => te_of h)
 have HTN := hid (fun h : (bstr t).toList.isEmpty = false => te_no h)
 cases hte : (bstr t).toList.isEmpty <;> cases hut : Pr.useText o
 case false.false =>
  rw [hut] at HUT
  clear hut
  go_enter Tryz.func98, Tryz.ntmps98
  go_wp2_with ((go_at_call 46; refine (HUT.out _).mono ?_; rintro e w2 ⟨rfl, rfl⟩))
  go_ret
  exact ⟨rfl, HB1.out⟩
 all_goals
  have HNX : Hid ((Pr.useN o = false ∧ n ≠ 0) ∨ (Pr.useKids o = false ∧ 0 < m) ∨ (o = 4 ∧ m ≠ 1)) := hid (by
   rcases HB2.out with h | h | h
   ·cases h
   ·first
     | exact absurd (HTE.out hte) h.2
     | (rw [hut] at h; cases h.1)
   ·exact h)
  rw [hut] at HUT
  clear hut HTE HTN HB2
  cases hne : (n == 0) <;> cases hun : Pr.useN o
  case false.false =>
   have hnc : (n != 0) = true := by rw [bne, hne]; rfl
   rw [hun] at HUN
   clear hun
   go_enter Tryz.func98, Tryz.ntmps98
   go_wp2_with (first | (go_at_call 46; refine (HUT.out _).mono ?_; rintro e w2 ⟨rfl, rfl⟩) | (go_at_call 47; refine (HUN.out _).mono ?_; rintro e w2 ⟨rfl, rfl⟩))
   go_ret
   exact ⟨rfl, HB1.out⟩
  all_goals
   have HKX : Hid ((Pr.useKids o = false ∧ 0 < m) ∨ (o = 4 ∧ m ≠ 1)) := hid (by
    rcases HNX.out with h | h
    ·first
      | exact absurd (beq_iff_eq.1 hne) h.2
      | (rw [hun] at h; cases h.1)
    ·exact h)
   rw [hun] at HUN
   have hnc : (n != 0) = !(n == 0) := rfl
   rw [hne] at hnc
   clear hun HNX
   rcases Nat.eq_zero_or_pos m with hm | hm
   ·subst hm
    have h4 : o = 4 := by
     rcases HKX.out with h | h
     ·omega
     ·exact h.1
    subst h4
    clear HKX hlo hhi
    go_enter Tryz.func98, Tryz.ntmps98
    go_wp2_with (first | (go_at_call 46; refine (HUT.out _).mono ?_; rintro e w2 ⟨rfl, rfl⟩) | (go_at_call 47; refine (HUN.out _).mono ?_; rintro e w2 ⟨rfl, rfl⟩) | (go_at_call 130; refine (HUK.out _).mono ?_; rintro e w2 ⟨rfl, rfl⟩))
    go_ret
    exact ⟨rfl, HB1.out⟩
   ·have hmI : (0 : Int) < (m : Int) := by omega
    cases huk : Pr.useKids o
    case false =>
     rw [huk] at HUK
     clear huk HKX
     go_enter Tryz.func98, Tryz.ntmps98
     go_wp2_with (first | (go_at_call 46; refine (HUT.out _).mono ?_; rintro e w2 ⟨rfl, rfl⟩) | (go_at_call 47; refine (HUN.out _).mono ?_; rintro e w2 ⟨rfl, rfl⟩) | (go_at_call 130; refine (HUK.out _).mono ?_; rintro e w2 ⟨rfl, rfl⟩))
     go_ret
     exact ⟨rfl, HB1.out⟩
    case true =>
     rw [huk] at HUK
     have h4 : o = 4 ∧ m ≠ 1 := by
      rcases HKX.out with h | h
      ·rw [huk] at h; cases h.1
      ·exact h
     obtain ⟨h4, hm1⟩ := h4
     have hm1b : ((m : Int) == 1) = false := beq_eq_false_iff_ne.2 (by omega)
     have hm1c : ((m : Int) != 1) = true := by rw [bne, hm1b]; rfl
     have hm1d : (m == 1) = false := beq_eq_false_iff_ne.2 hm1
     have hm1e : (m != 1) = true := by rw [bne, hm1d]; rfl
     subst h4
     clear huk HKX hlo hhi
     go_enter Tryz.func98, Tryz.ntmps98
     go_wp2_with (first | (go_at_call 46; refine (HUT.out _).mono ?_; rintro e w2 ⟨rfl, rfl⟩) | (go_at_call 47; refine (HUN.out _).mono ?_; rintro e w2 ⟨rfl, rfl⟩) | (go_at_call 130; refine (HUK.out _).mono ?_; rintro e w2 ⟨rfl, rfl⟩))
     go_ret
     exact ⟨rfl, HB1.out⟩
end Go.Proofs.YtchkiegehejfmaaGreatDoor
/- The text Gc. -/
namespace Pr
theorem fieldE_bounds {o : Int} (t : Str) (n : Int) (m : Nat) (h : o = 5 ∨ o = 10 ∨ o = 11 ∨ o = 12) : fieldE o t n m = withinE n (boundsR o).1 (boundsR o).2 := by rcases h with rfl | rfl | rfl | rfl <;> rfl
end Pr
namespace Go.Proofs.YtchkiegehejfmaaGreatDoor
open Go.RowKit Go.Lib
set_option linter.unusedVariables false
set_option linter.unusedSimpArgs false
theorem rnode_t (o : Int) (t : List UInt8) (ho : o = 6 ∨ o = 7 ∨ o = 8) : RnL o t 0 0 := fun A cap w htl => by
 have hut : Pr.useText o = true := by rcases ho with rfl | rfl | rfl <;> rfl
 have hun : Pr.useN o = false := by rcases ho with rfl | rfl | rfl <;> rfl
 have huk : Pr.useKids o = false := by rcases ho with rfl | rfl | rfl <;> rfl
 have hz : Pr.nodeE o t 0 0 = Pr.globE t := by rcases ho with rfl | rfl | rfl <;> (rw [Pr.nodeE_ok (by simp [hut, Pr.known])]; rfl)
 rw [hz]
 clear hz
 obtain ⟨HB1, hx0, hx1, hx2, hx3⟩ := RnX.new o t 0 0 A cap w
 generalize hw1 : w.alloc (.cells #[.int .i64 o, .string (bstr t), .int .i64 0, .slice A 0 cap] 36) = w1 at *
 have HB1 := hid HB1
 have HUT := hid (fun W => rusestext_any o W)
 have HUN := hid (fun W => rusesn_any o W)
 have HUK := hid (fun W => ruseskids_any o W)
 rw [hut] at HUT
 rw [hun] at HUN
 rw [huk] at HUK
 have hlo : decide (o < 1) = false := decide_eq_false (by omega)
 have hhi : decide (17 < o) = false := decide_eq_false (by omega)
 have h2 : (o == 2) = false := beq_eq_false_iff_ne.2 (by omega)
 have hn2 : (o != 2) = true := by rw [bne, h2]; rfl
 have h3 : (o == 3) = false := beq_eq_false_iff_ne.2 (by omega)
 have hn3 : (o != 3) = true := by rw [bne, h3]; rfl
 have h4 : (o == 4) = false := beq_eq_false_iff_ne.2 (by omega)
 have hn4 : (o != 4) = true := by rw [bne, h4]; rfl
 have h9 : (o == 9) = false := beq_eq_false_iff_ne.2 (by omega)
 have hn9 : (o != 9) = true := by rw [bne, h9]; rfl
 have HGL := hid (fun W => rglob_any (bstr t) W (by rw [bstr_size]; exact htl))
 rw [show (bstr t).data.toList = t from rfl] at HGL
 generalize Pr.globE t = E at *
 clear hut hun huk ho
 by_cases hE : E = 0
 ·subst hE
  cases hte : (bstr t).toList.isEmpty
  all_goals
   go_enter Tryz.func98, Tryz.ntmps98
   go_wp2_with (first | (go_at_call 46; refine (HUT.out _).mono ?_; rintro e w2 ⟨rfl, rfl⟩) | (go_at_call 47; refine (HUN.out _).mono ?_; rintro e w2 ⟨rfl, rfl⟩) | (go_at_call 130; refine (HUK.out _).mono ?_; rintro e w2 ⟨rfl, rfl⟩) | (go_at_call 131; refine (HGL.out _).mono ?_; rintro e w2 ⟨rfl, rfl⟩))
   refine wp_loop_once ?_
   go_wp2_with fail
   go_ret
   exact ⟨rfl, HB1.out⟩
 ·have hEb : (E == 0) = false := beq_eq_false_iff_ne.2 hE
  have hEn : (E != 0) = true := by rw [bne, hEb]; rfl
  clear hE
  cases hte : (bstr t).toList.isEmpty
  all_goals
   go_enter Tryz.func98, Tryz.ntmps98
   go_wp2_with (first | (go_at_call 46; refine (HUT.out _).mono ?_; rintro e w2 ⟨rfl, rfl⟩) | (go_at_call 47; refine (HUN.out _).mono ?_; rintro e w2 ⟨rfl, rfl⟩) | (go_at_call 130; refine (HUK.out _).mono ?_; rintro e w2 ⟨rfl, rfl⟩) | (go_at_call 131; refine (HGL.out _).mono ?_; rintro e w2 ⟨rfl, rfl⟩))
   go_ret
   exact ⟨rfl, HB1.out⟩
theorem rnode_w (t : List UInt8) : RnL 9 t 0 0 := fun A cap w htl => by
 obtain ⟨o, ho⟩ : ∃ o : Int, o = 9 := ⟨_, rfl⟩
 have hut : Pr.useText o = true := by subst ho; rfl
 have hun : Pr.useN o = false := by subst ho; rfl
 have huk : Pr.useKids o = false := by subst ho; rfl
 have hz : Pr.nodeE 9 t 0 0 = (if Pr.okName false t then 0 else 3) := by rw [Pr.nodeE_ok (by simp [Pr.known, Pr.useText])]; rfl
 rw [hz, ← ho]
 clear hz
 obtain ⟨HB1, hx0, hx1, hx2, hx3⟩ := RnX.new o t 0 0 A cap w
 generalize hw1 : w.alloc (.cells #[.int .i64 o, .string (bstr t), .int .i64 0, .slice A 0 cap] 36) = w1 at *
 have HB1 := hid HB1
 have HUT := hid (fun W => rusestext_any o W)
 have HUN := hid (fun W => rusesn_any o W)
 have HUK := hid (fun W => ruseskids_any o W)
 rw [hut] at HUT
 rw [hun] at HUN
 rw [huk] at HUK
 have HPL := hid (fun W => rplain_any false (bstr t) W (by rw [bstr_size]; exact htl))
 rw [show (bstr t).data.toList = t from rfl] at HPL
 generalize Pr.okName false t = E at *
 clear hut hun huk
 subst ho
 cases E
 case true =>
  cases hte : (bstr t).toList.isEmpty
  all_goals
   go_enter Tryz.func98, Tryz.ntmps98
   go_wp2_with (first | (go_at_call 46; refine (HUT.out _).mono ?_; rintro e w2 ⟨rfl, rfl⟩) | (go_at_call 47; refine (HUN.out _).mono ?_; rintro e w2 ⟨rfl, rfl⟩) | (go_at_call 130; refine (HUK.out _).mono ?_; rintro e w2 ⟨rfl, rfl⟩) | (go_at_call 96; refine (HPL.out _).mono ?_; rintro e w2 ⟨rfl, rfl⟩))
   refine wp_loop_once ?_
   go_wp2_with fail
   go_ret
   exact ⟨rfl, HB1.out⟩
 case false =>
  cases hte : (bstr t).toList.isEmpty
  all_goals
   go_enter Tryz.func98, Tryz.ntmps98
   go_wp2_with (first | (go_at_call 46; refine (HUT.out _).mono ?_; rintro e w2 ⟨rfl, rfl⟩) | (go_at_call 47; refine (HUN.out _).mono ?_; rintro e w2 ⟨rfl, rfl⟩) | (go_at_call 130; refine (HUK.out _).mono ?_; rintro e w2 ⟨rfl, rfl⟩) | (go_at_call 96; refine (HPL.out _).mono ?_; rintro e w2 ⟨rfl, rfl⟩))
   go_ret
   exact ⟨rfl, HB1.out⟩
theorem rnode_n (o n : Int) (ho : o = 5 ∨ o = 10 ∨ o = 11 ∨ o = 12) : RnL o [] n 0 := fun A cap w htl => by
 have hut : Pr.useText o = false := by rcases ho with rfl | rfl | rfl | rfl <;> rfl
 have hun : Pr.useN o = true := by rcases ho with rfl | rfl | rfl | rfl <;> rfl
 have huk : Pr.useKids o = false := by rcases ho with rfl | rfl | rfl | rfl <;> rfl
 have hz : Pr.nodeE o [] n 0 = Pr.withinE n (Pr.boundsR o).1 (Pr.boundsR o).2 := by rcases ho with rfl | rfl | rfl | rfl <;> (rw [Pr.nodeE_ok (by simp [hun, Pr.known])]; rfl)
 rw [hz]
 clear hz
 have hte : (bstr ([] : List UInt8)).toList.isEmpty = true := bempty rfl
 obtain ⟨HB1, hx0, hx1, hx2, hx3⟩ := RnX.new o [] n 0 A cap w
 generalize hw1 : w.alloc (.cells #[.int .i64 o, .string (bstr []), .int .i64 n, .slice A 0 cap] 36) = w1 at *
 have HB1 := hid HB1
 have HUT := hid (fun W => rusestext_any o W)
 have HUN := hid (fun W => rusesn_any o W)
 have HUK := hid (fun W => ruseskids_any o W)
 rw [hut] at HUT
 rw [hun] at HUN
 rw [huk] at HUK
 have hlo : decide (o < 1) = false := decide_eq_false (by omega)
 have hhi : decide (17 < o) = false := decide_eq_false (by omega)
 have h2 : (o == 2) = false := beq_eq_false_iff_ne.2 (by omega)
 have hn2 : (o != 2) = true := by rw [bne, h2]; rfl
 have h3 : (o == 3) = false := beq_eq_false_iff_ne.2 (by omega)
 have hn3 : (o != 3) = true := by rw [bne, h3]; rfl
 have h4 : (o == 4) = false := beq_eq_false_iff_ne.2 (by omega)
 have hn4 : (o != 4) = true := by rw [bne, h4]; rfl
 have h9 : (o == 9) = false := beq_eq_false_iff_ne.2 (by omega)
 have hn9 : (o != 9) = true := by rw [bne, h9]; rfl
 have HBO := hid (fun W => rbounds_any o W)
 generalize (Pr.boundsR o).1 = lo at *
 generalize (Pr.boundsR o).2 = hi at *
 generalize bstr ([] : List UInt8) = S at *
 clear hut hun huk ho
 by_cases h1 : n < lo
 ·have hw : Pr.withinE n lo hi = 2 := by unfold Pr.withinE; rw [if_pos (.inl h1)]
  rw [hw]
  clear hw
  cases hne : (n == 0)
  all_goals
   have hnc : (n != 0) = !(n == 0) := rfl
   rw [hne] at hnc
   go_enter Tryz.func98, Tryz.ntmps98
   go_wp2_with (first | (go_at_call 46; refine (HUT.out _).mono ?_; rintro e w2 ⟨rfl, rfl⟩) | (go_at_call 47; refine (HUN.out _).mono ?_; rintro e w2 ⟨rfl, rfl⟩) | (go_at_call 130; refine (HUK.out _).mono ?_; rintro e w2 ⟨rfl, rfl⟩) | (go_at_call 132; refine (HBO.out _).mono ?_; rintro e w2 ⟨rfl, rfl⟩))
   go_ret
   exact ⟨rfl, HB1.out⟩
 by_cases h2 : hi < n
 ·have hw : Pr.withinE n lo hi = 2 := by unfold Pr.withinE; rw [if_pos (.inr h2)]
  rw [hw]
  clear hw
  cases hne : (n == 0)
  all_goals
   have hnc : (n != 0) = !(n == 0) := rfl
   rw [hne] at hnc
   go_enter Tryz.func98, Tryz.ntmps98
   go_wp2_with (first | (go_at_call 46; refine (HUT.out _).mono ?_; rintro e w2 ⟨rfl, rfl⟩) | (go_at_call 47; refine (HUN.out _).mono ?_; rintro e w2 ⟨rfl, rfl⟩) | (go_at_call 130; refine (HUK.out _).mono ?_; rintro e w2 ⟨rfl, rfl⟩) | (go_at_call 132; refine (HBO.out _).mono ?_; rintro e w2 ⟨rfl, rfl⟩))
   go_ret
   exact ⟨rfl, HB1.out⟩
 ·have hw : Pr.withinE n lo hi = 0 := by unfold Pr.withinE; rw [if_neg (by omega)]
  rw [hw]
  clear hw
  cases hne : (n == 0)
  all_goals
   have hnc : (n != 0) = !(n == 0) := rfl
   rw [hne] at hnc
   go_enter Tryz.func98, Tryz.ntmps98
   go_wp2_with (first | (go_at_call 46; refine (HUT.out _).mono ?_; rintro e w2 ⟨rfl, rfl⟩) | (go_at_call 47; refine (HUN.out _).mono ?_; rintro e w2 ⟨rfl, rfl⟩) | (go_at_call 130; refine (HUK.out _).mono ?_; rintro e w2 ⟨rfl, rfl⟩) | (go_at_call 132; refine (HBO.out _).mono ?_; rintro e w2 ⟨rfl, rfl⟩))
   refine wp_loop_once ?_
   go_wp2_with fail
   go_ret
   exact ⟨rfl, HB1.out⟩
theorem rnode_z (o : Int) (ho : o = 1 ∨ o = 13 ∨ o = 14 ∨ o = 15 ∨ o = 16 ∨ o = 17) : RnL o [] 0 0 := fun A cap w htl => by
 have hut : Pr.useText o = false := by rcases ho with rfl | rfl | rfl | rfl | rfl | rfl <;> rfl
 have hun : Pr.useN o = false := by rcases ho with rfl | rfl | rfl | rfl | rfl | rfl <;> rfl
 have huk : Pr.useKids o = false := by rcases ho with rfl | rfl | rfl | rfl | rfl | rfl <;> rfl
 have hz : Pr.nodeE o [] 0 0 = 0 := by rcases ho with rfl | rfl | rfl | rfl | rfl | rfl <;> rfl
 rw [hz]
 clear hz
 have hte : (bstr ([] : List UInt8)).toList.isEmpty = true := bempty rfl
 obtain ⟨HB1, hx0, hx1, hx2, hx3⟩ := RnX.new o [] 0 0 A cap w
 generalize hw1 : w.alloc (.cells #[.int .i64 o, .string (bstr []), .int .i64 0, .slice A 0 cap] 36) = w1 at *
 have HB1 := hid HB1
 have HUT := hid (fun W => rusestext_any o W)
 have HUN := hid (fun W => rusesn_any o W)
 have HUK := hid (fun W => ruseskids_any o W)
 rw [hut] at HUT
 rw [hun] at HUN
 rw [huk] at HUK
 have hlo : decide (o < 1) = false := decide_eq_false (by omega)
 have hhi : decide (17 < o) = false := decide_eq_false (by omega)
 have h2 : (o == 2) = false := beq_eq_false_iff_ne.2 (by omega)
 have hn2 : (o != 2) = true := by rw [bne, h2]; rfl
 have h3 : (o == 3) = false := beq_eq_false_iff_ne.2 (by omega)
 have hn3 : (o != 3) = true := by rw [bne, h3]; rfl
 have h4 : (o == 4) = false := beq_eq_false_iff_ne.2 (by omega)
 have hn4 : (o != 4) = true := by rw [bne, h4]; rfl
 have h9 : (o == 9) = false := beq_eq_false_iff_ne.2 (by omega)
 have hn9 : (o != 9) = true := by rw [bne, h9]; rfl
 generalize bstr ([] : List UInt8) = S at *
 clear hut hun huk ho
 go_enter Tryz.func98, Tryz.ntmps98
 go_wp2_with (first | (go_at_call 46; refine (HUT.out _).mono ?_; rintro e w2 ⟨rfl, rfl⟩) | (go_at_call 47; refine (HUN.out _).mono ?_; rintro e w2 ⟨rfl, rfl⟩) | (go_at_call 130; refine (HUK.out _).mono ?_; rintro e w2 ⟨rfl, rfl⟩))
 refine wp_loop_once ?_
 go_wp2_with fail
 go_ret
 exact ⟨rfl, HB1.out⟩
theorem rnode_k (o : Int) (m : Nat) (ho : o = 2 ∨ o = 3) (hm : m < 2) : RnL o [] 0 m := fun A cap w htl => by
 have hut : Pr.useText o = false := by rcases ho with rfl | rfl <;> rfl
 have hun : Pr.useN o = false := by rcases ho with rfl | rfl <;> rfl
 have huk : Pr.useKids o = true := by rcases ho with rfl | rfl <;> rfl
 have hz : Pr.nodeE o [] 0 m = 9 := by
  rcases ho with rfl | rfl
  all_goals
   rw [Pr.nodeE_ok (by simp [Pr.known, Pr.useKids])]
   show (if m < 2 then (9 : Int) else 0) = 9
   rw [if_pos hm]
 rw [hz]
 clear hz
 have hte : (bstr ([] : List UInt8)).toList.isEmpty = true := bempty rfl
 obtain ⟨HB1, hx0, hx1, hx2, hx3⟩ := RnX.new o [] 0 m A cap w
 generalize hw1 : w.alloc (.cells #[.int .i64 o, .string (bstr []), .int .i64 0, .slice A m cap] 36) = w1 at *
 have HB1 := hid HB1
 have HUT := hid (fun W => rusestext_any o W)
 have HUN := hid (fun W => rusesn_any o W)
 have HUK := hid (fun W => ruseskids_any o W)
 rw [hut] at HUT
 rw [hun] at HUN
 rw [huk] at HUK
 generalize bstr ([] : List UInt8) = S at *
 clear hut hun huk
 have hm2 : (m : Int) < 2 := by omega
 obtain rfl | rfl : m = 0 ∨ m = 1 := by omega
 all_goals rcases ho with rfl | rfl
 all_goals
  go_enter Tryz.func98, Tryz.ntmps98
  go_wp2_with (first | (go_at_call 46; refine (HUT.out _).mono ?_; rintro e w2 ⟨rfl, rfl⟩) | (go_at_call 47; refine (HUN.out _).mono ?_; rintro e w2 ⟨rfl, rfl⟩) | (go_at_call 130; refine (HUK.out _).mono ?_; rintro e w2 ⟨rfl, rfl⟩))
  go_ret
  exact ⟨rfl, HB1.out⟩
theorem rnode_leaf (o : Int) (t : List UInt8) (n : Int) (m : Nat) (h : Pr.nodeE o t n m ≠ 0 ∨ m = 0) : RnL o t n m := by
 by_cases hb : Pr.known o = false ∨ (Pr.useText o = false ∧ t ≠ []) ∨ (Pr.useN o = false ∧ n ≠ 0) ∨ (Pr.useKids o = false ∧ 0 < m) ∨ (o = 4 ∧ m ≠ 1)
 ·exact rnode_bad o t n m hb
 ·have hok := Pr.nodeE_ok hb
  simp only [not_or, not_and, Bool.not_eq_false, ne_eq, Classical.not_not] at hb
  obtain ⟨g1, g2, g3, g4, g5⟩ := hb
  have hk : 1 ≤ o ∧ o ≤ 17 := by
   unfold Pr.known at g1
   simpa using g1
  obtain hcl | hcl | hcl | hcl | hcl | hcl : (o = 6 ∨ o = 7 ∨ o = 8) ∨ o = 9 ∨ (o = 5 ∨ o = 10 ∨ o = 11 ∨ o = 12) ∨ (o = 2 ∨ o = 3) ∨ o = 4 ∨ (o = 1 ∨ o = 13 ∨ o = 14 ∨ o = 15 ∨ o = 16 ∨ o = 17) := by omega
  ·obtain rfl : n = 0 := g3 (by rcases hcl with rfl | rfl | rfl <;> rfl)
   obtain rfl : m = 0 := by have := g4 (by rcases hcl with rfl | rfl | rfl <;> rfl); omega
   exact rnode_t o t hcl
  ·subst hcl
   obtain rfl : n = 0 := g3 rfl
   obtain rfl : m = 0 := by have := g4 rfl; omega
   exact rnode_w t
  ·obtain rfl : t = [] := g2 (by rcases hcl with rfl | rfl | rfl | rfl <;> rfl)
   obtain rfl : m = 0 := by have := g4 (by rcases hcl with rfl | rfl | rfl | rfl <;> rfl); omega
   exact rnode_n o n hcl
  ·obtain rfl : t = [] := g2 (by rcases hcl with rfl | rfl <;> rfl)
   obtain rfl : n = 0 := g3 (by rcases hcl with rfl | rfl <;> rfl)
   refine rnode_k o m hcl ?_
   rcases h with h | h
   ·rw [hok] at h
    rcases hcl with rfl | rfl
    all_goals
     have h2 : (if m < 2 then (9 : Int) else 0) ≠ 0 := h
     split at h2
     ·assumption
     ·exact absurd rfl h2
   ·omega
  ·subst hcl
   exfalso
   have h1 := g5 rfl
   rcases h with h | h
   ·rw [hok] at h
    exact h rfl
   ·omega
  ·obtain rfl : t = [] := g2 (by rcases hcl with rfl | rfl | rfl | rfl | rfl | rfl <;> rfl)
   obtain rfl : n = 0 := g3 (by rcases hcl with rfl | rfl | rfl | rfl | rfl | rfl <;> rfl)
   obtain rfl : m = 0 := by have := g4 (by rcases hcl with rfl | rfl | rfl | rfl | rfl | rfl <;> rfl); omega
   exact rnode_z o hcl
theorem rnode_any : ∀ (m : Nat) (ok : Nat → Prop) (c : Pr.Cn) (V : Array Value) (w : World), Pr.nodes c ≤ m → m ≤ 1000000 → Pr.small c → CnV w ok V c → Calls Tryz.prog 98 #[.agg V] w fun e w' => e = .returned (.int .i64 (Pr.treeE c)) ∧ Below w.heap.size w w'
 | 0, ok, c, V, w, hm, _, _, h => absurd hm (by have := Pr.nodes_pos c; omega)
 | m + 1, ok, c, V, w, hm, hm6, hsm, h => by
  have IH := hid (fun c V w (hc : Pr.nodes c ≤ m) (hs : Pr.small c) (h : CnV w ok V c) => rnode_any m ok c V w hc (by omega) hs h)
  have hne := Pr.nodes_eq c
  have hkl := Pr.kids_nodes c.kids
  have hto := Pr.treeE_open c
  obtain ⟨htl, hsk⟩ := Pr.small_open hsm
  obtain ⟨A, cap, rfl, hrow⟩ := h.open
  by_cases hE : Pr.nodeE c.op c.text c.num c.kids.length = 0
  ·rw [if_neg (fun e => e hE)] at hto
   by_cases hk0 : c.kids.length = 0
   ·have := rnode_leaf c.op c.text c.num c.kids.length (.inr hk0) A cap w htl
    rw [hE] at this
    rw [hto, List.eq_nil_of_length_eq_zero hk0] at *
    exact this
   ·obtain ⟨hop, ht, hn⟩ := Pr.nodeE_kids hE hk0
    obtain ⟨Z, hZ⟩ : ∃ Z, Pr.treeE c = Z := ⟨_, rfl⟩
    rw [hZ] at hto ⊢
    have HTO := hid hto
    have HSK := hid hsk
    clear hto hsk hZ hE hsm h
    generalize c.kids = ks at *
    generalize c.op = o at *
    generalize c.text = t at *
    generalize c.num = n at *
    subst ht hn
    have hkm : Pr.nodesL ks ≤ m := by omega
    clear hne hk0
    have hut : Pr.useText o = false := by rcases hop with ⟨rfl | rfl, _⟩ | ⟨rfl, _⟩ <;> rfl
    have hun : Pr.useN o = false := by rcases hop with ⟨rfl | rfl, _⟩ | ⟨rfl, _⟩ <;> rfl
    have huk : Pr.useKids o = true := by rcases hop with ⟨rfl | rfl, _⟩ | ⟨rfl, _⟩ <;> rfl
    have hte : (bstr ([] : List UInt8)).toList.isEmpty = true := bempty rfl
    obtain ⟨HB1, hx0, hx1, hx2, hx3⟩ := RnX.new o [] 0 ks.length A cap w
    have HR1 := hid (hrow.below HB1)
    generalize hw1 : w.alloc (.cells #[.int .i64 o, .string (bstr []), .int .i64 0, .slice A ks.length cap] 36) = w1 at *
    have HB1 := hid HB1
    have HUT := hid (fun W => rusestext_any o W)
    have HUN := hid (fun W => rusesn_any o W)
    have HUK := hid (fun W => ruseskids_any o W)
    rw [hut] at HUT
    rw [hun] at HUN
    rw [huk] at HUK
    generalize bstr ([] : List UInt8) = S at *
    clear hut hun huk hrow
    have hpI : (0 : Int) < (ks.length : Int) := by rcases hop with ⟨_, h⟩ | ⟨_, h⟩ <;> omega
    rcases hop with ⟨rfl | rfl, h2⟩ | ⟨rfl, h1⟩
    iterate 2
     ·have h2I : ¬ (ks.length : Int) < 2 := by omega
      go_enter Tryz.func98, Tryz.ntmps98
      go_wp2_with (first | (go_at_call 46; refine (HUT.out _).mono ?_; rintro e w2 ⟨rfl, rfl⟩) | (go_at_call 47; refine (HUN.out _).mono ?_; rintro e w2 ⟨rfl, rfl⟩) | (go_at_call 130; refine (HUK.out _).mono ?_; rintro e w2 ⟨rfl, rfl⟩))
      go_loopw [6] (fun ix wr => ∃ k : Nat, k ≤ ks.length ∧ ix = .int .i64 (k : Int) ∧ Pr.treeEL (ks.drop k) = Z ∧ Below w1.heap.size w1 wr) (fun ix _ => ks.length - (RowKit.intOf ix).toNat)
      case atStart => exact ⟨0, Nat.zero_le _, rfl, HTO.out.symm, Below.refl _ _⟩
      case round =>
       obtain ⟨k, hk, rfl, hs, hb⟩ := hrel
       have HSS := hid hs
       have HB := hid hb
       have hx3w := (hb.cell (block_lt hx3)).trans hx3
       clear hs hb
       by_cases hlt : k < ks.length
       ·obtain ⟨x, hx⟩ : ∃ x, ks[k]? = some x := ⟨_, List.getElem?_eq_getElem hlt⟩
        obtain ⟨b, off, cs, rfl, hok, hr, hcl, hcv⟩ := (HR1.out.below HB.out) k x hx
        have HD := hid (Pr.treeEL_drop hx)
        have HSX := hid (Pr.small_kid HSK.out hx)
        have hnk := Pr.nodes_kid hx
        have HCV := hid hcv
        have HL2 : Hid ((Tryz.prog.info? 36).map (·.size) = some cs.length) := hid (by rw [size_cond, hcl])
        clear hx hcv
        go_wp2_with ((with_reducible refine wpList_load_mid rfl 36 _ rfl b (off + k * 4) ?_ cs _ hr Tryz.underlying36 ?_ HL2.out ?_); rfl; rfl)
        refine (IH.out x cs.toArray wr (by omega) HSX.out HCV.out).mono ?_
        rintro e w3 ⟨rfl, hb3⟩
        have HB3 := hid (HB.out.trans (hb3.mono HB.out.size))
        have HDZ : Hid (Z = if Pr.treeE x ≠ 0 then Pr.treeE x else Pr.treeEL (ks.drop (k + 1))) := hid (by rw [← HSS.out, HD.out])
        clear hb3
        generalize Pr.treeE x = F at *
        by_cases hF : F = 0
        ·subst hF
         have HZ2 : Hid (Pr.treeEL (ks.drop (k + 1)) = Z) := hid (by rw [HDZ.out, if_neg (by simp)])
         go_wp2_with fail
         go_roundw
         case rel => exact ⟨k + 1, hlt, by go_num, HZ2.out, HB3.out⟩
         case measure => simp [RowKit.intOf]; omega
        ·have HZ2 : Hid (Z = F) := hid (by rw [HDZ.out, if_pos hF])
         have hFb : (F == 0) = false := beq_eq_false_iff_ne.2 hF
         have hFn : (F != 0) = true := by rw [bne, hFb]; rfl
         clear hF
         go_wp2_with fail
         go_ret
         exact ⟨congrArg (fun z => Ending.returned (.int .i64 z)) HZ2.out.symm, HB1.out.trans (HB3.out.mono HB1.out.size)⟩
       ·obtain rfl : k = ks.length := by omega
        have HZ2 : Hid (Z = 0) := hid (by rw [← HSS.out, List.drop_length]; rfl)
        go_wp2_with fail
        go_ret
        exact ⟨congrArg (fun z => Ending.returned (.int .i64 z)) HZ2.out.symm, HB1.out.trans (HB.out.mono HB1.out.size)⟩
    ·have h1I : (ks.length : Int) = 1 := by omega
     have h1b : ((ks.length : Int) == 1) = true := by rw [h1I]; rfl
     have h1c : ((ks.length : Int) != 1) = false := by rw [bne, h1b]; rfl
     have h1d : (ks.length == 1) = true := by rw [h1]; rfl
     have h1e : (ks.length != 1) = false := by rw [bne, h1d]; rfl
     clear h1 h1I
     go_enter Tryz.func98, Tryz.ntmps98
     go_wp2_with (first | (go_at_call 46; refine (HUT.out _).mono ?_; rintro e w2 ⟨rfl, rfl⟩) | (go_at_call 47; refine (HUN.out _).mono ?_; rintro e w2 ⟨rfl, rfl⟩) | (go_at_call 130; refine (HUK.out _).mono ?_; rintro e w2 ⟨rfl, rfl⟩))
     go_loopw [6] (fun ix wr => ∃ k : Nat, k ≤ ks.length ∧ ix = .int .i64 (k : Int) ∧ Pr.treeEL (ks.drop k) = Z ∧ Below w1.heap.size w1 wr) (fun ix _ => ks.length - (RowKit.intOf ix).toNat)
     case atStart => exact ⟨0, Nat.zero_le _, rfl, HTO.out.symm, Below.refl _ _⟩
     case round =>
      obtain ⟨k, hk, rfl, hs, hb⟩ := hrel
      have HSS := hid hs
      have HB := hid hb
      have hx3w := (hb.cell (block_lt hx3)).trans hx3
      clear hs hb
      by_cases hlt : k < ks.length
      ·obtain ⟨x, hx⟩ : ∃ x, ks[k]? = some x := ⟨_, List.getElem?_eq_getElem hlt⟩
       obtain ⟨b, off, cs, rfl, hok, hr, hcl, hcv⟩ := (HR1.out.below HB.out) k x hx
       have HD := hid (Pr.treeEL_drop hx)
       have HSX := hid (Pr.small_kid HSK.out hx)
       have hnk := Pr.nodes_kid hx
       have HCV := hid hcv
       have HL2 : Hid ((Tryz.prog.info? 36).map (·.size) = some cs.length) := hid (by rw [size_cond, hcl])
       clear hx hcv
       go_wp2_with ((with_reducible refine wpList_load_mid rfl 36 _ rfl b (off + k * 4) ?_ cs _ hr Tryz.underlying36 ?_ HL2.out ?_); rfl; rfl)
       refine (IH.out x cs.toArray wr (by omega) HSX.out HCV.out).mono ?_
       rintro e w3 ⟨rfl, hb3⟩
       have HB3 := hid (HB.out.trans (hb3.mono HB.out.size))
       have HDZ : Hid (Z = if Pr.treeE x ≠ 0 then Pr.treeE x else Pr.treeEL (ks.drop (k + 1))) := hid (by rw [← HSS.out, HD.out])
       clear hb3
       generalize Pr.treeE x = F at *
       by_cases hF : F = 0
       ·subst hF
        have HZ2 : Hid (Pr.treeEL (ks.drop (k + 1)) = Z) := hid (by rw [HDZ.out, if_neg (by simp)])
        go_wp2_with fail
        go_roundw
        case rel => exact ⟨k + 1, hlt, by go_num, HZ2.out, HB3.out⟩
        case measure => simp [RowKit.intOf]; omega
       ·have HZ2 : Hid (Z = F) := hid (by rw [HDZ.out, if_pos hF])
        have hFb : (F == 0) = false := beq_eq_false_iff_ne.2 hF
        have hFn : (F != 0) = true := by rw [bne, hFb]; rfl
        clear hF
        go_wp2_with fail
        go_ret
        exact ⟨congrArg (fun z => Ending.returned (.int .i64 z)) HZ2.out.symm, HB1.out.trans (HB3.out.mono HB1.out.size)⟩
      ·obtain rfl : k = ks.length := by omega
       have HZ2 : Hid (Z = 0) := hid (by rw [← HSS.out, List.drop_length]; rfl)
       go_wp2_with fail
       go_ret
       exact ⟨congrArg (fun z => Ending.returned (.int .i64 z)) HZ2.out.symm, HB1.out.trans (HB.out.mono HB1.out.size)⟩
  ·rw [if_pos hE] at hto
   rw [hto]
   exact rnode_leaf c.op c.text c.num c.kids.length (.inl hE) A cap w htl
end Go.Proofs.YtchkiegehejfmaaGreatDoor
