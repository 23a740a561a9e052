/- The texts Shelf, W5, Fa of this proof, one behind the other. -/
import Derived.Shelf.LaysM
import Derived.Shelf.Slices.Turned
import Derived.Shelf.Small.Strs
import Derived.Shelf.Small.Utf8
import Derived.Shelf.Small.Wraps
import Derived.Shelf.Strings.AsciiSet
import Derived.Shelf.Strings.Builder1
import Derived.Shelf.Strings.Builder2
import Derived.Shelf.Strings.BuilderF
import Derived.Shelf.Strings.BuilderK
import Derived.Shelf.Strings.Count
import Derived.Shelf.Strings.Cut
import Derived.Shelf.Strings.Explode
import Derived.Shelf.Strings.OnBuilder
import Derived.Shelf.Strings.Prefix
import Derived.Shelf.Strings.RuneCount
import Derived.Shelf.Strings.Runes
import Derived.Shelf.Strings.Search1
import Derived.Shelf.Strings.Search2
import Derived.Shelf.Strings.Search3
import Derived.Shelf.Strings.Shaped
import Derived.Shelf.Strings.Split
import Derived.Shelf.Strings.SplitShaped
import Derived.Shelf.Strings.Trim
import Derived.Shelf.Unicode.Decode
import Derived.Shelf.Unicode.DecodeAny
import Derived.Shelf.Unicode.DecodeSlow
import Derived.Shelf.Utf8.RuneCount
import Derived.Test.YtchkiegehejfmaaGreatDoorProg
import Derived.Test.YtchkiegehejfmaaGreatDoorMsaw
import Derived.Test.YtchkiegehejfmaaGreatDoorMsaj
import Derived.Test.YtchkiegehejfmaaGreatDoorMsaf
set_option linter.unusedSimpArgs false
set_option maxHeartbeats 16000000
set_option maxRecDepth 100000
set_option linter.unusedVariables false
namespace Go.Proofs
open Go.Shelf
open Go.RowKit in
open Go.RowKit in
def Tryz.lays156_ren : Go.Shelf.Ren := ⟨fun | 156 => 36 | 165 => 77 | 166 => 34 | 169 => 38 | 240 => 68 | 241 => 116 | 276 => 115 | 277 => 144 | n => n, fun | 31 => 43 | 9 => 9 | 3 => 3 | 4 => 4 | 0 => 0 | 20 => 20 | 72 => 56 | 76 => 61 | 70 => 53 | 37 => 54 | 75 => 60 | 127 => 107 | 164 => 136 | 5 => 5 | 80 => 66 | n => n, fun | n => n⟩
theorem Tryz.lays156 : Go.Proofs.Lays.n156 Tryz.prog Tryz.lays156_ren := {
 mixed := by kernel_rfl
 f156 := Tryz.func36.trans (congrArg some (by kernel_rfl))
 f165 := Tryz.func77.trans (congrArg some (by kernel_rfl))
 f166 := Tryz.func34.trans (congrArg some (by kernel_rfl))
 f169 := Tryz.func38.trans (congrArg some (by kernel_rfl))
 f240 := Tryz.func68.trans (congrArg some (by kernel_rfl))
 f241 := Tryz.func116.trans (congrArg some (by kernel_rfl))
 f276 := Tryz.func115.trans (congrArg some (by kernel_rfl))
 f277 := Tryz.func144.trans (congrArg some (by kernel_rfl))
 t0 := Tryz.underlying0
 a0 := Tryz.isAgg0
 z0 := Tryz.sizeOf0
 v0 := Tryz.zeroValue0
 t3 := Tryz.underlying3
 a3 := Tryz.isAgg3
 z3 := Tryz.sizeOf3
 v3 := Tryz.zeroValue3
 t4 := Tryz.underlying4
 a4 := Tryz.isAgg4
 z4 := Tryz.sizeOf4
 v4 := Tryz.zeroValue4
 t9 := Tryz.underlying9
 a9 := Tryz.isAgg9
 z9 := Tryz.sizeOf9
 v9 := Tryz.zeroValue9
 t20 := Tryz.underlying20
 a20 := Tryz.isAgg20
 z20 := Tryz.sizeOf20
 v20 := Tryz.zeroValue20
 t31 := Tryz.underlying43
 a31 := Tryz.isAgg43
 z31 := Tryz.sizeOf43
 v31 := Tryz.zeroValue43
 t37 := Tryz.underlying54
 a37 := Tryz.isAgg54
 z37 := Tryz.sizeOf54
 v37 := Tryz.zeroValue54
 t70 := Tryz.underlying53
 a70 := Tryz.isAgg53
 z70 := Tryz.sizeOf53
 v70 := Tryz.zeroValue53
 t72 := Tryz.underlying56
 a72 := Tryz.isAgg56
 z72 := Tryz.sizeOf56
 v72 := Tryz.zeroValue56
 t75 := Tryz.underlying60
 a75 := Tryz.isAgg60
 z75 := Tryz.sizeOf60
 v75 := Tryz.zeroValue60
 t76 := Tryz.underlying61
 a76 := Tryz.isAgg61
 z76 := Tryz.sizeOf61
 v76 := Tryz.zeroValue61
 t127 := Tryz.underlying107
 a127 := Tryz.isAgg107
 z127 := Tryz.sizeOf107
 v127 := Tryz.zeroValue107
 t164 := Tryz.underlying136
 a164 := Tryz.isAgg136
 z164 := Tryz.sizeOf136
 v164 := Tryz.zeroValue136 }
theorem Tryz.Builder_Extra_156 : Builder.Extra Tryz.prog Tryz.lays156_ren := {
 sizeBuilder := by kernel_rfl
 liesBuilder := by kernel_rfl
 t5 := Tryz.underlying5
 a5 := Tryz.isAgg5
 z5 := Tryz.sizeOf5
 v5 := Tryz.zeroValue5
 infoByte := by kernel_rfl
 cellsByte := by kernel_rfl
 sizeByte := by kernel_rfl
 neB5 := by decide }
open Go.RowKit in
open Go.RowKit in
theorem Tryz.strings_Join (bk o c : Nat) (xs : List ByteArray) (sep : ByteArray) (w : World) (hcells : ∀ (j : Nat) x, xs[j]? = some x → w.cell? ⟨bk, o + j, none⟩ = some (.string x)) (hbk : bk < w.heap.size) (hN : xs.length ≤ 140737488355328) (hcap : xs.length ≤ c) (hlen : (Lib.join (xs.map (·.data.toList)) sep.data.toList).length ≤ 140737488355328) :
  Calls Tryz.prog 36 #[.slice (some ⟨bk, o, none⟩) xs.length c, .string sep] w fun e w' => e = .returned (.string ⟨(Lib.join (xs.map (·.data.toList)) sep.data.toList).toArray⟩) ∧ Below w.heap.size w w' := Any.strings_Join Tryz.lays156 Tryz.Builder_Extra_156 bk o c xs sep w hcells hbk hN hcap hlen
def Tryz.lays161_ren : Go.Shelf.Ren := ⟨fun | 161 => 58 | 231 => 104 | 227 => 105 | 233 => 106 | 235 => 107 | 228 => 139 | 197 => 136 | 151 => 140 | 260 => 157 | 152 => 161 | 137 => 117 | 119 => 169 | 224 => 159 | 225 => 158 | 217 => 145 | 266 => 165 | n => n, fun | 9 => 9 | 4 => 4 | 3 => 3 | 5 => 5 | 117 => 127 | 116 => 126 | 0 => 0 | 124 => 130 | 105 => 146 | 21 => 21 | 119 => 160 | 46 => 155 | 139 => 163 | 138 => 162 | n => n, fun | 3 => 1 | 4 => 2 | n => n⟩
theorem Tryz.lays161 : Go.Proofs.Lays.n161 Tryz.prog Tryz.lays161_ren := {
 mixed := by kernel_rfl
 f119 := Tryz.func169.trans (congrArg some (by kernel_rfl))
 f137 := Tryz.func117.trans (congrArg some (by kernel_rfl))
 f151 := Tryz.func140.trans (congrArg some (by kernel_rfl))
 f152 := Tryz.func161.trans (congrArg some (by kernel_rfl))
 f161 := Tryz.func58.trans (congrArg some (by kernel_rfl))
 f197 := Tryz.func136.trans (congrArg some (by kernel_rfl))
 f217 := Tryz.func145.trans (congrArg some (by kernel_rfl))
 f224 := Tryz.func159.trans (congrArg some (by kernel_rfl))
 f225 := Tryz.func158.trans (congrArg some (by kernel_rfl))
 f227 := Tryz.func105.trans (congrArg some (by kernel_rfl))
 f228 := Tryz.func139.trans (congrArg some (by kernel_rfl))
 f231 := Tryz.func104.trans (congrArg some (by kernel_rfl))
 f233 := Tryz.func106.trans (congrArg some (by kernel_rfl))
 f235 := Tryz.func107.trans (congrArg some (by kernel_rfl))
 f260 := Tryz.func157.trans (congrArg some (by kernel_rfl))
 f266 := Tryz.func165.trans (congrArg some (by kernel_rfl))
 t0 := Tryz.underlying0
 a0 := Tryz.isAgg0
 z0 := Tryz.sizeOf0
 v0 := Tryz.zeroValue0
 t3 := Tryz.underlying3
 a3 := Tryz.isAgg3
 z3 := Tryz.sizeOf3
 v3 := Tryz.zeroValue3
 t4 := Tryz.underlying4
 a4 := Tryz.isAgg4
 z4 := Tryz.sizeOf4
 v4 := Tryz.zeroValue4
 t5 := Tryz.underlying5
 a5 := Tryz.isAgg5
 z5 := Tryz.sizeOf5
 v5 := Tryz.zeroValue5
 t9 := Tryz.underlying9
 a9 := Tryz.isAgg9
 z9 := Tryz.sizeOf9
 v9 := Tryz.zeroValue9
 t21 := Tryz.underlying21
 a21 := Tryz.isAgg21
 z21 := Tryz.sizeOf21
 v21 := Tryz.zeroValue21
 t46 := Tryz.underlying155
 a46 := Tryz.isAgg155
 z46 := Tryz.sizeOf155
 v46 := Tryz.zeroValue155
 t105 := Tryz.underlying146
 a105 := Tryz.isAgg146
 z105 := Tryz.sizeOf146
 v105 := Tryz.zeroValue146
 t116 := Tryz.underlying126
 a116 := Tryz.isAgg126
 z116 := Tryz.sizeOf126
 t117 := Tryz.underlying127
 a117 := Tryz.isAgg127
 z117 := Tryz.sizeOf127
 v117 := Tryz.zeroValue127
 t119 := Tryz.underlying160
 a119 := Tryz.isAgg160
 z119 := Tryz.sizeOf160
 t124 := Tryz.underlying130
 a124 := Tryz.isAgg130
 z124 := Tryz.sizeOf130
 v124 := Tryz.zeroValue130
 t138 := Tryz.underlying162
 a138 := Tryz.isAgg162
 z138 := Tryz.sizeOf162
 v138 := Tryz.zeroValue162
 t139 := Tryz.underlying163
 a139 := Tryz.isAgg163
 z139 := Tryz.sizeOf163
 v139 := Tryz.zeroValue163
 g3 := by kernel_rfl
 g4 := by kernel_rfl }
open Go.RowKit in
theorem Tryz.strings_TrimLeft_one (s : ByteArray) (c : UInt8) (hc : c.toNat < 128) (w : World) :
  Calls Tryz.prog 58 #[.string s, .string ⟨#[c]⟩] w fun e w' => e = .returned (.string ⟨(Lib.trimLeftB s.data.toList c).toArray⟩) ∧ w' = w := Any.strings_TrimLeft_one Tryz.lays161 s c hc w
def Tryz.lays137_ren : Go.Shelf.Ren := ⟨fun | 137 => 117 | 217 => 145 | 266 => 165 | n => n, fun | 9 => 9 | 5 => 5 | 3 => 3 | n => n, fun | n => n⟩
theorem Tryz.lays137 : Go.Proofs.Lays.n137 Tryz.prog Tryz.lays137_ren := {
 mixed := by kernel_rfl
 f137 := Tryz.func117.trans (congrArg some (by kernel_rfl))
 f217 := Tryz.func145.trans (congrArg some (by kernel_rfl))
 f266 := Tryz.func165.trans (congrArg some (by kernel_rfl))
 t3 := Tryz.underlying3
 a3 := Tryz.isAgg3
 z3 := Tryz.sizeOf3
 v3 := Tryz.zeroValue3
 t5 := Tryz.underlying5
 a5 := Tryz.isAgg5
 z5 := Tryz.sizeOf5
 v5 := Tryz.zeroValue5
 t9 := Tryz.underlying9
 a9 := Tryz.isAgg9
 z9 := Tryz.sizeOf9
 v9 := Tryz.zeroValue9 }
open Go.RowKit in
theorem Tryz.strings_IndexByte (s : ByteArray) (c : Int) (w : World) :
  Calls Tryz.prog 117 #[.string s, .int .u8 c] w fun e w' => e = .returned (.int .i64 (Lib.indexByte s.data.toList c.toNat.toUInt8)) ∧ w' = w := Any.strings_IndexByte Tryz.lays137 s c w
def Tryz.lays145_ren : Go.Shelf.Ren := ⟨fun | 145 => 118 | 220 => 146 | 219 => 138 | 217 => 145 | 225 => 158 | 224 => 159 | 267 => 160 | 266 => 165 | 314 => 168 | n => n, fun | 9 => 9 | 4 => 4 | 59 => 112 | 3 => 3 | 5 => 5 | 46 => 155 | 146 => 165 | 51 => 164 | n => n, fun | 1 => 0 | n => n⟩
theorem Tryz.lays145 : Go.Proofs.Lays.n145 Tryz.prog Tryz.lays145_ren := {
 mixed := by kernel_rfl
 f145 := Tryz.func118.trans (congrArg some (by kernel_rfl))
 f217 := Tryz.func145.trans (congrArg some (by kernel_rfl))
 f219 := Tryz.func138.trans (congrArg some (by kernel_rfl))
 f220 := Tryz.func146.trans (congrArg some (by kernel_rfl))
 f224 := Tryz.func159.trans (congrArg some (by kernel_rfl))
 f225 := Tryz.func158.trans (congrArg some (by kernel_rfl))
 f266 := Tryz.func165.trans (congrArg some (by kernel_rfl))
 f267 := Tryz.func160.trans (congrArg some (by kernel_rfl))
 f314 := Tryz.func168.trans (congrArg some (by kernel_rfl))
 t3 := Tryz.underlying3
 a3 := Tryz.isAgg3
 z3 := Tryz.sizeOf3
 v3 := Tryz.zeroValue3
 t4 := Tryz.underlying4
 a4 := Tryz.isAgg4
 z4 := Tryz.sizeOf4
 v4 := Tryz.zeroValue4
 t5 := Tryz.underlying5
 a5 := Tryz.isAgg5
 z5 := Tryz.sizeOf5
 v5 := Tryz.zeroValue5
 t9 := Tryz.underlying9
 a9 := Tryz.isAgg9
 z9 := Tryz.sizeOf9
 v9 := Tryz.zeroValue9
 t46 := Tryz.underlying155
 a46 := Tryz.isAgg155
 z46 := Tryz.sizeOf155
 v46 := Tryz.zeroValue155
 t51 := Tryz.underlying164
 a51 := Tryz.isAgg164
 z51 := Tryz.sizeOf164
 v51 := Tryz.zeroValue164
 t59 := Tryz.underlying112
 a59 := Tryz.isAgg112
 z59 := Tryz.sizeOf112
 v59 := Tryz.zeroValue112
 t146 := Tryz.underlying165
 a146 := Tryz.isAgg165
 z146 := Tryz.sizeOf165
 v146 := Tryz.zeroValue165
 g1 := by kernel_rfl }
open Go.RowKit Go.Lib in
theorem Tryz.strings_Cut (s sep : ByteArray) (m : Int) (w : World) (hs : s.size < 4294967281) (hm : w.cell? ⟨0, 0, none⟩ = some (.int .i64 m)) :
  Calls Tryz.prog 118 #[.string s, .string sep] w fun e w' => e = .returned (.tuple #[.string ⟨(Lib.cut s.data.toList sep.data.toList).1.toArray⟩, .string ⟨(Lib.cut s.data.toList sep.data.toList).2.1.toArray⟩, .bool (Lib.cut s.data.toList sep.data.toList).2.2]) ∧ ∃ n, w' = w.drewN n := Any.strings_Cut Tryz.lays145 s sep m w hs hm
def Tryz.lays146_ren : Go.Shelf.Ren := ⟨fun | 146 => 28 | 221 => 57 | 268 => 101 | 138 => 102 | 143 => 103 | 195 => 135 | 197 => 136 | 218 => 137 | 219 => 138 | 260 => 157 | 217 => 145 | 225 => 158 | 224 => 159 | 267 => 160 | 266 => 165 | 314 => 168 | n => n, fun | 9 => 9 | 31 => 43 | 3 => 3 | 4 => 4 | 0 => 0 | 105 => 146 | 21 => 21 | 5 => 5 | 46 => 155 | 119 => 160 | 139 => 163 | 138 => 162 | 146 => 165 | 51 => 164 | n => n, fun | 1 => 0 | 3 => 1 | 4 => 2 | n => n⟩
theorem Tryz.lays146 : Go.Proofs.Lays.n146 Tryz.prog Tryz.lays146_ren := {
 mixed := by kernel_rfl
 f138 := Tryz.func102.trans (congrArg some (by kernel_rfl))
 f143 := Tryz.func103.trans (congrArg some (by kernel_rfl))
 f146 := Tryz.func28.trans (congrArg some (by kernel_rfl))
 f195 := Tryz.func135.trans (congrArg some (by kernel_rfl))
 f197 := Tryz.func136.trans (congrArg some (by kernel_rfl))
 f217 := Tryz.func145.trans (congrArg some (by kernel_rfl))
 f218 := Tryz.func137.trans (congrArg some (by kernel_rfl))
 f219 := Tryz.func138.trans (congrArg some (by kernel_rfl))
 f221 := Tryz.func57.trans (congrArg some (by kernel_rfl))
 f224 := Tryz.func159.trans (congrArg some (by kernel_rfl))
 f225 := Tryz.func158.trans (congrArg some (by kernel_rfl))
 f260 := Tryz.func157.trans (congrArg some (by kernel_rfl))
 f266 := Tryz.func165.trans (congrArg some (by kernel_rfl))
 f267 := Tryz.func160.trans (congrArg some (by kernel_rfl))
 f268 := Tryz.func101.trans (congrArg some (by kernel_rfl))
 f314 := Tryz.func168.trans (congrArg some (by kernel_rfl))
 t0 := Tryz.underlying0
 a0 := Tryz.isAgg0
 z0 := Tryz.sizeOf0
 v0 := Tryz.zeroValue0
 t3 := Tryz.underlying3
 a3 := Tryz.isAgg3
 z3 := Tryz.sizeOf3
 v3 := Tryz.zeroValue3
 t4 := Tryz.underlying4
 a4 := Tryz.isAgg4
 z4 := Tryz.sizeOf4
 v4 := Tryz.zeroValue4
 t5 := Tryz.underlying5
 a5 := Tryz.isAgg5
 z5 := Tryz.sizeOf5
 v5 := Tryz.zeroValue5
 t9 := Tryz.underlying9
 a9 := Tryz.isAgg9
 z9 := Tryz.sizeOf9
 v9 := Tryz.zeroValue9
 t21 := Tryz.underlying21
 a21 := Tryz.isAgg21
 z21 := Tryz.sizeOf21
 v21 := Tryz.zeroValue21
 t31 := Tryz.underlying43
 a31 := Tryz.isAgg43
 z31 := Tryz.sizeOf43
 v31 := Tryz.zeroValue43
 t46 := Tryz.underlying155
 a46 := Tryz.isAgg155
 z46 := Tryz.sizeOf155
 v46 := Tryz.zeroValue155
 t51 := Tryz.underlying164
 a51 := Tryz.isAgg164
 z51 := Tryz.sizeOf164
 v51 := Tryz.zeroValue164
 t105 := Tryz.underlying146
 a105 := Tryz.isAgg146
 z105 := Tryz.sizeOf146
 v105 := Tryz.zeroValue146
 t119 := Tryz.underlying160
 a119 := Tryz.isAgg160
 z119 := Tryz.sizeOf160
 t138 := Tryz.underlying162
 a138 := Tryz.isAgg162
 z138 := Tryz.sizeOf162
 v138 := Tryz.zeroValue162
 t139 := Tryz.underlying163
 a139 := Tryz.isAgg163
 z139 := Tryz.sizeOf163
 v139 := Tryz.zeroValue163
 t146 := Tryz.underlying165
 a146 := Tryz.isAgg165
 z146 := Tryz.sizeOf165
 v146 := Tryz.zeroValue165
 g1 := by kernel_rfl
 g3 := by kernel_rfl
 g4 := by kernel_rfl }
open Go.RowKit Go.Lib in
theorem Tryz.strings_Split (s sep : ByteArray) (m : Int) (w : World) (hs : s.size < 4294967281) (hm : w.cell? ⟨0, 0, none⟩ = some (.int .i64 m)) (h1 : 1 ≤ sep.size) :
  Calls Tryz.prog 28 #[.string s, .string sep] w fun e w' =>
   e = .returned (.slice (some ⟨w.heap.size, 0, none⟩) (Lib.countB s sep + 1) (Lib.countB s sep + 1)) ∧ w' = w.alloc (.cells ((Lib.splitB sep 0 (Lib.countB s sep) s).map Value.string).toArray 9) := Any.strings_Split Tryz.lays146 (by kernel_rfl) s sep m w hs hm h1
end Go.Proofs
namespace Pr
def letterN (n : Nat) : Bool := (decide (97 ≤ n) && decide (n ≤ 122)) || (decide (48 ≤ n) && decide (n ≤ 57))
def locN (n : Nat) : Bool := n == 95 || (n == 46 || (n == 45 || n == 61))
def srvN (n : Nat) : Bool := n == 46 || n == 45
def validL (other : Nat → Bool) (s : Str) : Bool := decide (1 ≤ s.length) && (decide (s.length ≤ 32) && s.all fun c => letterN c.toNat || other c.toNat)
def localL (s : Str) : Bool := validL locN s
def serverL (s : Str) : Bool := validL srvN s && (letterN ((s.headD 0).toNat) && letterN ((s.getLastD 0).toNat))
def cutC : Str → Option (Str × Str)
 | [] => none
 | c :: r => if c = 58 then some ([], r) else (cutC r).map fun p => (c :: p.1, p.2)
def splitP (ms : Str) : Str → Option (Str × Str)
 | [] => none
 | c :: r => if ms.contains c then (match cutC r with
  | some (a, b) => if localL a && serverL b then some (a, b) else none
  | none => none) else none
def userE (s : Str) : Int := if (splitP [64] s).isSome then 0 else 3
def serverOf (s : Str) : Str := match splitP [64, 33] s with
 | some (_, b) => b
 | none => []
theorem DC : ∀ (s : Str), (match cutC s with
  | some (a, b) => Go.Lib.indexByte s 58 = (a.length : Int) ∧ s = a ++ 58 :: b
  | none => Go.Lib.indexByte s 58 = -1)
 | [] => rfl
 | c :: r => by
  have ih := DC r;unfold cutC;by_cases h : c = 58
  ·rw [if_pos h];subst h;exact ⟨rfl, rfl⟩
  ·rw [if_neg h];have hb : (c == 58) = false := beq_eq_false_iff_ne.2 h
   cases hc : cutC r with
   | none =>
    rw [hc] at ih;show Go.Lib.indexByte (c :: r) 58 = -1;have ih' : Go.Lib.indexByte r 58 = -1 := ih;unfold Go.Lib.indexByte;rw [hb, ih'];rfl
   | some p =>
    obtain ⟨a, b⟩ := p;rw [hc] at ih;obtain ⟨h1, h2⟩ : Go.Lib.indexByte r 58 = (a.length : Int) ∧ r = a ++ 58 :: b := ih;show Go.Lib.indexByte (c :: r) 58 = ((c :: a).length : Int) ∧ c :: r = (c :: a) ++ 58 :: b;refine ⟨?_, by rw [h2]; rfl⟩;unfold Go.Lib.indexByte;rw [hb, h1];have : ((a.length : Int) == -1) = false := by rw [beq_eq_false_iff_ne]; omega
    rw [this];simp
theorem lib_cut (s : Str) : Go.Lib.cut s [58] = match cutC s with
  | some (a, b) => (a, b, true)
  | none => (s, [], false) := by
 have h := DC s;unfold Go.Lib.cut;rw [Go.Lib.index_one]
 cases hc : cutC s with
 | none =>
  rw [hc] at h;have h' : Go.Lib.indexByte s 58 = -1 := h;rw [h'];rfl
 | some p =>
  obtain ⟨a, b⟩ := p;rw [hc] at h;obtain ⟨h1, h2⟩ : Go.Lib.indexByte s 58 = (a.length : Int) ∧ s = a ++ 58 :: b := h;show (if _ then _ else _) = (a, b, true);rw [h1, if_pos (by omega)];rw [h2];simp
theorem cutC_len : ∀ (s a b : Str), cutC s = some (a, b) → a.length + b.length < s.length
 | [], a, b, h => by cases h
 | c :: r, a, b, h => by
  unfold cutC at h;split at h
  ·injection h with h;injection h with h1 h2;subst h1;subst h2;simp
  ·obtain ⟨p, hp, he⟩ := Option.map_eq_some_iff.1 h;obtain ⟨a', b'⟩ := p;have := cutC_len r a' b' hp;injection he with h1 h2;subst h1;subst h2;simp only [List.length_cons] at this ⊢;omega
end Pr
namespace Pr
def wordR (o : Int) : Str := if o = 4 then notW else simpleW o ++ fieldW o
def endsB (n : Nat) : Bool := n == 32 || (n == 40 || (n == 41 || (n == 44 || n == 34)))
def boundsR (o : Int) : Int × Int := if o = 5 then (1, 14) else if o = 10 then (-1000, 1000) else if o = 12 then (0, 1000000000) else (0, 1000000000000)
theorem comm_skip {r : Str} : commentP (32 :: r) = commentP r := rfl
theorem comm_hit {c : UInt8} {r : Str} (h : c ≠ 32) : commentP (c :: r) = (c == 35) := by
 unfold commentP;rw [List.dropWhile_cons_of_neg (by simpa using h)]
end Pr
namespace Go.Proofs.YtchkiegehejfmaaGreatDoor
open Go.RowKit Go.Lib
theorem Fd (w : World) : Calls Tryz.prog 79 #[] w fun e w' => (∃ g, e = .returned (.slice (some ⟨g, 0, none⟩) 14 14) ∧ w.heap.size ≤ g ∧ Rd w' (some ⟨g, 0, none⟩) 14 (strL Pr.kindL)) ∧ Below w.heap.size w w' := by
 go_enter Tryz.func79, Tryz.ntmps79;go_wp2_with fail;go_ret;exact ⟨⟨w.heap.size, rfl, Nat.le_refl _, Rd.of_blk (vs := strL Pr.kindL) (Blk.new w 9 (strL Pr.kindL).toArray)⟩, (Below.refl _ w).alloc (Nat.le_refl _) _⟩
theorem Gm (o : Int) (h1 : 1 ≤ o) (h2 : o ≤ 17) (w : World) : Calls Tryz.prog 80 #[.int .i64 o] w fun e w' => e = .returned (.string (bstr (Pr.wordR o))) ∧ Below w.heap.size w w' := by
 obtain h | h | h | h | h | h | h | h | h | h | h | h | h | h | h | h | h : o = 1 ∨ o = 2 ∨ o = 3 ∨ o = 4 ∨ o = 5 ∨ o = 6 ∨ o = 7 ∨ o = 8 ∨ o = 9 ∨ o = 10 ∨ o = 11 ∨ o = 12 ∨ o = 13 ∨ o = 14 ∨ o = 15 ∨ o = 16 ∨ o = 17 := by omega
 all_goals
  subst h;go_enter Tryz.func80, Tryz.ntmps80;go_wp2_with fail;go_ret;exact ⟨rfl, (Below.refl _ w).alloc (Nat.le_refl _) _⟩
theorem FY (n : Nat) (w : World) : Calls Tryz.prog 113 #[.int .u8 (n : Int)] w fun e w' => e = .returned (.bool (Pr.endsB n)) ∧ w = w' := by
 by_cases h32 : n = 32
 ·subst h32;rw [show Pr.endsB 32 = true from rfl];go_enter Tryz.func113, Tryz.ntmps113;go_wp2_with fail;go_ret;exact ⟨rfl, rfl⟩
 by_cases h40 : n = 40
 ·subst h40;rw [show Pr.endsB 40 = true from rfl];go_enter Tryz.func113, Tryz.ntmps113;go_wp2_with fail;go_ret;exact ⟨rfl, rfl⟩
 by_cases h41 : n = 41
 ·subst h41;rw [show Pr.endsB 41 = true from rfl];go_enter Tryz.func113, Tryz.ntmps113;go_wp2_with fail;go_ret;exact ⟨rfl, rfl⟩
 by_cases h44 : n = 44
 ·subst h44;rw [show Pr.endsB 44 = true from rfl];go_enter Tryz.func113, Tryz.ntmps113;go_wp2_with fail;go_ret;exact ⟨rfl, rfl⟩
 by_cases h34 : n = 34
 ·subst h34;rw [show Pr.endsB 34 = true from rfl];go_enter Tryz.func113, Tryz.ntmps113;go_wp2_with fail;go_ret;exact ⟨rfl, rfl⟩
 have e : Pr.endsB n = false := by unfold Pr.endsB; simp [h32, h40, h41, h44, h34]
 have d32 : ((n : Int) == 32) = false := by rw [beq_eq_false_iff_ne]; omega
 have d40 : ((n : Int) == 40) = false := by rw [beq_eq_false_iff_ne]; omega
 have d41 : ((n : Int) == 41) = false := by rw [beq_eq_false_iff_ne]; omega
 have d44 : ((n : Int) == 44) = false := by rw [beq_eq_false_iff_ne]; omega
 have d34 : ((n : Int) == 34) = false := by rw [beq_eq_false_iff_ne]; omega
 rw [e];clear e h32 h40 h41 h44 h34;go_enter Tryz.func113, Tryz.ntmps113;go_wp2_with fail;go_ret;exact ⟨rfl, rfl⟩
theorem Eh (o : Int) (w : World) : Calls Tryz.prog 132 #[.int .i64 o] w fun e w' => e = .returned (.tuple #[.int .i64 (Pr.boundsR o).1, .int .i64 (Pr.boundsR o).2]) ∧ w = w' := by
 by_cases h5 : o = 5
 ·subst h5;rw [show Pr.boundsR 5 = _ from rfl];go_enter Tryz.func132, Tryz.ntmps132;go_wp2_with fail
  go_ret2
  exact ⟨rfl, rfl⟩
 by_cases h10 : o = 10
 ·subst h10;rw [show Pr.boundsR 10 = _ from rfl];go_enter Tryz.func132, Tryz.ntmps132;go_wp2_with fail
  go_ret2
  exact ⟨rfl, rfl⟩
 by_cases h12 : o = 12
 ·subst h12;rw [show Pr.boundsR 12 = _ from rfl];go_enter Tryz.func132, Tryz.ntmps132;go_wp2_with fail
  go_ret2
  exact ⟨rfl, rfl⟩
 have e : Pr.boundsR o = (0, 1000000000000) := by unfold Pr.boundsR; rw [if_neg h5, if_neg h10, if_neg h12]
 have d5 : (o == 5) = false := by rw [beq_eq_false_iff_ne]; omega
 have d10 : (o == 10) = false := by rw [beq_eq_false_iff_ne]; omega
 have d12 : (o == 12) = false := by rw [beq_eq_false_iff_ne]; omega
 rw [e];clear e h5 h10 h12;go_enter Tryz.func132, Tryz.ntmps132;go_wp2_with fail
 go_ret2
 exact ⟨rfl, rfl⟩
theorem Co (S : ByteArray) (w : World) (hs : S.size ≤ 1000000) : Calls Tryz.prog 31 #[.string S] w fun e w' => e = .returned (.bool (Pr.commentP S.data.toList)) ∧ w = w' := by
 have HDA : Hid (∀ k (h : k < S.size), S.data.toList.drop k = S[k] :: S.data.toList.drop (k + 1)) := hid (Cl S);have HDE : Hid (∀ k, S.size ≤ k → S.data.toList.drop k = []) := hid (Ci S);obtain ⟨X, hX⟩ : ∃ X, Pr.commentP S.data.toList = X := ⟨_, rfl⟩;have HX : Hid (Pr.commentP (S.data.toList.drop 0) = X) := hid hX;rw [hX];clear hX;go_enter Tryz.func31, Tryz.ntmps31;go_wp2_with fail
 go_loopw [3] (fun ix wr => ∃ k : Nat, k ≤ S.size ∧ ix = .int .i64 (k : Int) ∧ w = wr ∧ Hid (Pr.commentP (S.data.toList.drop k) = X)) (fun ix _ => S.size - (RowKit.intOf ix).toNat)
 case atStart => exact ⟨0, Nat.zero_le _, rfl, rfl, HX⟩
 case round =>
  obtain ⟨k, hk, rfl, rfl, hc⟩ := hrel;by_cases hlt : k < S.size
  ·have hdl := HDA.out k hlt;have hc2 := (S[k]'hlt).toNat_lt;by_cases h32 : S[k]'hlt = 32
   ·have hy := Bu (n := 32) rfl h32;have HN : Hid (Pr.commentP (S.data.toList.drop (k + 1)) = X) := hid (by rw [← hc.out, hdl, h32, Pr.comm_skip]);clear hdl h32;go_wp2_with fail
    go_roundw
    case rel => exact ⟨k + 1, by omega, by go_num, by trivial, HN⟩
    case measure => simp [RowKit.intOf]; omega
   ·have hy := Bh (n := 32) rfl h32;by_cases h35 : S[k]'hlt = 35
    ·have hz := u8_eq (n := 35) rfl h35;have HE : Hid (true = X) := hid (by rw [← hc.out, hdl, Pr.comm_hit h32, h35]; rfl);clear hdl h32 h35;go_wp2_with fail;go_ret;exact ⟨congrArg (fun b => Ending.returned (.bool b)) HE.out, by trivial⟩
    ·have hz := u8_ne (n := 35) rfl h35;have HE : Hid (false = X) := hid (by rw [← hc.out, hdl, Pr.comm_hit h32]; exact (beq_eq_false_iff_ne.2 h35).symm);clear hdl h32 h35;go_wp2_with fail;go_ret;exact ⟨congrArg (fun b => Ending.returned (.bool b)) HE.out, by trivial⟩
  ·have HE : Hid (true = X) := hid (by rw [← hc.out, HDE.out k (by omega)]; rfl);go_wp2_with fail;go_ret;exact ⟨congrArg (fun b => Ending.returned (.bool b)) HE.out, by trivial⟩
end Go.Proofs.YtchkiegehejfmaaGreatDoor
