/- The texts Shelf, En, Eo, Ep of this proof, one behind the other. -/
import Derived.Ground.Names2Prog
import Derived.Ground.SlgnProg
import Derived.Shelf.Bits.Mul64
import Derived.Shelf.LaysM
import Derived.Shelf.Slices.Cells
import Derived.Shelf.Slices.Clone
import Derived.Shelf.Slices.CompactI
import Derived.Shelf.Slices.Empties
import Derived.Shelf.Slices.SearchI
import Derived.Shelf.Slices.Turned
import Derived.Shelf.SlicesE.Clone
import Derived.Shelf.Small.Bits
import Derived.Shelf.Small.Strs
import Derived.Shelf.Small.Wraps
import Derived.Shelf.Sort.Plain
import Derived.Shelf.Strconv.Itoa0
import Derived.Shelf.Strings.Builder1
import Derived.Shelf.Strings.Builder2
import Derived.Shelf.Strings.Builder2Cap
import Derived.Shelf.Strings.BuilderCap
import Derived.Shelf.Strings.BuilderF
import Derived.Shelf.Strings.BuilderK
import Derived.Shelf.Strings.Count
import Derived.Shelf.Strings.Cut
import Derived.Shelf.Strings.Explode
import Derived.Shelf.Strings.Prefix
import Derived.Shelf.Strings.Repeat
import Derived.Shelf.Strings.RuneCount
import Derived.Shelf.Strings.Search1
import Derived.Shelf.Strings.Search2
import Derived.Shelf.Strings.Search3
import Derived.Shelf.Strings.Shaped
import Derived.Shelf.Strings.Split
import Derived.Shelf.Strings.SplitShaped
import Derived.Shelf.Unicode.Decode
import Derived.Shelf.Unicode.DecodeAny
import Derived.Shelf.Unicode.DecodeSlow
import Derived.Shelf.Utf8.RuneCount
import Derived.Test.YtacjhbbieeliaaaGreatDoorProg
import Derived.Test.YtacjhbbieeliaaaGreatDoorMal
import Derived.Test.YtacjhbbieeliaaaGreatDoorMam
import Derived.Test.YtacjhbbieeliaaaGreatDoorMah
set_option linter.unusedSimpArgs false
set_option maxHeartbeats 16000000
set_option maxRecDepth 100000
/- The text Shelf. -/
namespace Go.Proofs
open Go.Shelf
def Tryz.lays137_ren : Go.Shelf.Ren := ⟨fun | 137 => 82 | 217 => 116 | 266 => 144 | n => n, fun | 9 => 9 | 5 => 5 | 3 => 3 | n => n, fun | n => n⟩
theorem Tryz.lays137 : Go.Proofs.Lays.n137 Tryz.prog Tryz.lays137_ren := {
 mixed := by kernel_rfl
 f137 := Tryz.func82.trans (congrArg some (by kernel_rfl))
 f217 := Tryz.func116.trans (congrArg some (by kernel_rfl))
 f266 := Tryz.func144.trans (congrArg some (by kernel_rfl))
 t3 := Tryz.underlying3
 a3 := Tryz.isAgg3
 z3 := Tryz.sizeOf3
 v3 := Tryz.zeroValue3
 t5 := Tryz.underlying5
 a5 := Tryz.isAgg5
 z5 := Tryz.sizeOf5
 v5 := Tryz.zeroValue5
 t9 := Tryz.underlying9
 a9 := Tryz.isAgg9
 z9 := Tryz.sizeOf9
 v9 := Tryz.zeroValue9 }
open Go.RowKit in
theorem Tryz.strings_IndexByte (s : ByteArray) (c : Int) (w : World) :
  Calls Tryz.prog 82 #[.string s, .int .u8 c] w fun e w' => e = .returned (.int .i64 (Lib.indexByte s.data.toList c.toNat.toUInt8)) ∧ w' = w := Any.strings_IndexByte Tryz.lays137 s c w
def Tryz.lays145_ren : Go.Shelf.Ren := ⟨fun | 145 => 68 | 220 => 99 | 219 => 124 | 217 => 116 | 225 => 146 | 224 => 147 | 267 => 148 | 266 => 144 | 314 => 166 | n => n, fun | 9 => 9 | 4 => 4 | 59 => 82 | 3 => 3 | 5 => 5 | 46 => 176 | 146 => 207 | 51 => 206 | n => n, fun | 1 => 0 | n => n⟩
theorem Tryz.lays145 : Go.Proofs.Lays.n145 Tryz.prog Tryz.lays145_ren := {
 mixed := by kernel_rfl
 f145 := Tryz.func68.trans (congrArg some (by kernel_rfl))
 f217 := Tryz.func116.trans (congrArg some (by kernel_rfl))
 f219 := Tryz.func124.trans (congrArg some (by kernel_rfl))
 f220 := Tryz.func99.trans (congrArg some (by kernel_rfl))
 f224 := Tryz.func147.trans (congrArg some (by kernel_rfl))
 f225 := Tryz.func146.trans (congrArg some (by kernel_rfl))
 f266 := Tryz.func144.trans (congrArg some (by kernel_rfl))
 f267 := Tryz.func148.trans (congrArg some (by kernel_rfl))
 f314 := Tryz.func166.trans (congrArg some (by kernel_rfl))
 t3 := Tryz.underlying3
 a3 := Tryz.isAgg3
 z3 := Tryz.sizeOf3
 v3 := Tryz.zeroValue3
 t4 := Tryz.underlying4
 a4 := Tryz.isAgg4
 z4 := Tryz.sizeOf4
 v4 := Tryz.zeroValue4
 t5 := Tryz.underlying5
 a5 := Tryz.isAgg5
 z5 := Tryz.sizeOf5
 v5 := Tryz.zeroValue5
 t9 := Tryz.underlying9
 a9 := Tryz.isAgg9
 z9 := Tryz.sizeOf9
 v9 := Tryz.zeroValue9
 t46 := Tryz.underlying176
 a46 := Tryz.isAgg176
 z46 := Tryz.sizeOf176
 v46 := Tryz.zeroValue176
 t51 := Tryz.underlying206
 a51 := Tryz.isAgg206
 z51 := Tryz.sizeOf206
 v51 := Tryz.zeroValue206
 t59 := Tryz.underlying82
 a59 := Tryz.isAgg82
 z59 := Tryz.sizeOf82
 v59 := Tryz.zeroValue82
 t146 := Tryz.underlying207
 a146 := Tryz.isAgg207
 z146 := Tryz.sizeOf207
 v146 := Tryz.zeroValue207
 g1 := by kernel_rfl }
open Go.RowKit Go.Lib in
theorem Tryz.strings_Cut (s sep : ByteArray) (m : Int) (w : World) (hs : s.size < 4294967281) (hm : w.cell? ⟨0, 0, none⟩ = some (.int .i64 m)) :
  Calls Tryz.prog 68 #[.string s, .string sep] w fun e w' => e = .returned (.tuple #[.string ⟨(Lib.cut s.data.toList sep.data.toList).1.toArray⟩, .string ⟨(Lib.cut s.data.toList sep.data.toList).2.1.toArray⟩, .bool (Lib.cut s.data.toList sep.data.toList).2.2]) ∧ ∃ n, w' = w.drewN n := Any.strings_Cut Tryz.lays145 s sep m w hs hm
def Tryz.lays99_ren : Go.Shelf.Ren := ⟨fun | 99 => 100 | 206 => 125 | n => n, fun | 9 => 9 | 4 => 4 | 3 => 3 | n => n, fun | n => n⟩
theorem Tryz.lays99 : Go.Proofs.Lays.n99 Tryz.prog Tryz.lays99_ren := {
 mixed := by kernel_rfl
 f99 := Tryz.func100.trans (congrArg some (by kernel_rfl))
 f206 := Tryz.func125.trans (congrArg some (by kernel_rfl))
 t3 := Tryz.underlying3
 a3 := Tryz.isAgg3
 z3 := Tryz.sizeOf3
 v3 := Tryz.zeroValue3
 t4 := Tryz.underlying4
 a4 := Tryz.isAgg4
 z4 := Tryz.sizeOf4
 v4 := Tryz.zeroValue4
 t9 := Tryz.underlying9
 a9 := Tryz.isAgg9
 z9 := Tryz.sizeOf9
 v9 := Tryz.zeroValue9 }
open Go.RowKit Go.Lib in
theorem Tryz.strings_HasPrefix (s p : ByteArray) (w : World) :
  Calls Tryz.prog 100 #[.string s, .string p] w fun e w' => e = .returned (.bool (Lib.hasPrefix s.data.toList p.data.toList)) ∧ w' = w := Any.strings_HasPrefix Tryz.lays99 s p w
def Tryz.lays146_ren : Go.Shelf.Ren := ⟨fun | 146 => 101 | 221 => 126 | 268 => 149 | 138 => 150 | 143 => 151 | 195 => 167 | 197 => 168 | 218 => 169 | 219 => 124 | 260 => 187 | 217 => 116 | 225 => 146 | 224 => 147 | 267 => 148 | 266 => 144 | 314 => 166 | n => n, fun | 9 => 9 | 31 => 24 | 3 => 3 | 4 => 4 | 0 => 0 | 105 => 220 | 21 => 21 | 5 => 5 | 46 => 176 | 119 => 262 | 139 => 265 | 138 => 264 | 146 => 207 | 51 => 206 | n => n, fun | 1 => 0 | 3 => 1 | 4 => 2 | n => n⟩
theorem Tryz.lays146 : Go.Proofs.Lays.n146 Tryz.prog Tryz.lays146_ren := {
 mixed := by kernel_rfl
 f138 := Tryz.func150.trans (congrArg some (by kernel_rfl))
 f143 := Tryz.func151.trans (congrArg some (by kernel_rfl))
 f146 := Tryz.func101.trans (congrArg some (by kernel_rfl))
 f195 := Tryz.func167.trans (congrArg some (by kernel_rfl))
 f197 := Tryz.func168.trans (congrArg some (by kernel_rfl))
 f217 := Tryz.func116.trans (congrArg some (by kernel_rfl))
 f218 := Tryz.func169.trans (congrArg some (by kernel_rfl))
 f219 := Tryz.func124.trans (congrArg some (by kernel_rfl))
 f221 := Tryz.func126.trans (congrArg some (by kernel_rfl))
 f224 := Tryz.func147.trans (congrArg some (by kernel_rfl))
 f225 := Tryz.func146.trans (congrArg some (by kernel_rfl))
 f260 := Tryz.func187.trans (congrArg some (by kernel_rfl))
 f266 := Tryz.func144.trans (congrArg some (by kernel_rfl))
 f267 := Tryz.func148.trans (congrArg some (by kernel_rfl))
 f268 := Tryz.func149.trans (congrArg some (by kernel_rfl))
 f314 := Tryz.func166.trans (congrArg some (by kernel_rfl))
 t0 := Tryz.underlying0
 a0 := Tryz.isAgg0
 z0 := Tryz.sizeOf0
 v0 := Tryz.zeroValue0
 t3 := Tryz.underlying3
 a3 := Tryz.isAgg3
 z3 := Tryz.sizeOf3
 v3 := Tryz.zeroValue3
 t4 := Tryz.underlying4
 a4 := Tryz.isAgg4
 z4 := Tryz.sizeOf4
 v4 := Tryz.zeroValue4
 t5 := Tryz.underlying5
 a5 := Tryz.isAgg5
 z5 := Tryz.sizeOf5
 v5 := Tryz.zeroValue5
 t9 := Tryz.underlying9
 a9 := Tryz.isAgg9
 z9 := Tryz.sizeOf9
 v9 := Tryz.zeroValue9
 t21 := Tryz.underlying21
 a21 := Tryz.isAgg21
 z21 := Tryz.sizeOf21
 v21 := Tryz.zeroValue21
 t31 := Tryz.underlying24
 a31 := Tryz.isAgg24
 z31 := Tryz.sizeOf24
 v31 := Tryz.zeroValue24
 t46 := Tryz.underlying176
 a46 := Tryz.isAgg176
 z46 := Tryz.sizeOf176
 v46 := Tryz.zeroValue176
 t51 := Tryz.underlying206
 a51 := Tryz.isAgg206
 z51 := Tryz.sizeOf206
 v51 := Tryz.zeroValue206
 t105 := Tryz.underlying220
 a105 := Tryz.isAgg220
 z105 := Tryz.sizeOf220
 v105 := Tryz.zeroValue220
 t119 := Tryz.underlying262
 a119 := Tryz.isAgg262
 z119 := Tryz.sizeOf262
 t138 := Tryz.underlying264
 a138 := Tryz.isAgg264
 z138 := Tryz.sizeOf264
 v138 := Tryz.zeroValue264
 t139 := Tryz.underlying265
 a139 := Tryz.isAgg265
 z139 := Tryz.sizeOf265
 v139 := Tryz.zeroValue265
 t146 := Tryz.underlying207
 a146 := Tryz.isAgg207
 z146 := Tryz.sizeOf207
 v146 := Tryz.zeroValue207
 g1 := by kernel_rfl
 g3 := by kernel_rfl
 g4 := by kernel_rfl }
open Go.RowKit Go.Lib in
theorem Tryz.strings_Split (s sep : ByteArray) (m : Int) (w : World) (hs : s.size < 4294967281) (hm : w.cell? ⟨0, 0, none⟩ = some (.int .i64 m)) (h1 : 1 ≤ sep.size) :
  Calls Tryz.prog 101 #[.string s, .string sep] w fun e w' =>
   e = .returned (.slice (some ⟨w.heap.size, 0, none⟩) (Lib.countB s sep + 1) (Lib.countB s sep + 1)) ∧ w' = w.alloc (.cells ((Lib.splitB sep 0 (Lib.countB s sep) s).map Value.string).toArray 9) := Any.strings_Split Tryz.lays146 (by kernel_rfl) s sep m w hs hm h1
def Tryz.lays105_ren : Go.Shelf.Ren := ⟨fun | 105 => 106 | 212 => 129 | 99 => 100 | 165 => 130 | 166 => 105 | 170 => 131 | 169 => 73 | 263 => 153 | 264 => 154 | 206 => 125 | 240 => 128 | 241 => 155 | 276 => 152 | 277 => 170 | n => n, fun | 9 => 9 | 3 => 3 | 4 => 4 | 20 => 20 | 0 => 0 | 46 => 176 | 109 => 177 | 5 => 5 | 72 => 116 | 76 => 147 | 51 => 206 | 146 => 207 | 53 => 174 | 148 => 209 | 70 => 113 | 37 => 114 | 75 => 146 | 127 => 151 | 164 => 204 | 80 => 118 | n => n, fun | n => n⟩
theorem Tryz.lays105 : Go.Proofs.Lays.n105 Tryz.prog Tryz.lays105_ren := {
 mixed := by kernel_rfl
 f99 := Tryz.func100.trans (congrArg some (by kernel_rfl))
 f105 := Tryz.func106.trans (congrArg some (by kernel_rfl))
 f165 := Tryz.func130.trans (congrArg some (by kernel_rfl))
 f166 := Tryz.func105.trans (congrArg some (by kernel_rfl))
 f169 := Tryz.func73.trans (congrArg some (by kernel_rfl))
 f170 := Tryz.func131.trans (congrArg some (by kernel_rfl))
 f206 := Tryz.func125.trans (congrArg some (by kernel_rfl))
 f212 := Tryz.func129.trans (congrArg some (by kernel_rfl))
 f240 := Tryz.func128.trans (congrArg some (by kernel_rfl))
 f241 := Tryz.func155.trans (congrArg some (by kernel_rfl))
 f263 := Tryz.func153.trans (congrArg some (by kernel_rfl))
 f264 := Tryz.func154.trans (congrArg some (by kernel_rfl))
 f276 := Tryz.func152.trans (congrArg some (by kernel_rfl))
 f277 := Tryz.func170.trans (congrArg some (by kernel_rfl))
 t0 := Tryz.underlying0
 a0 := Tryz.isAgg0
 z0 := Tryz.sizeOf0
 v0 := Tryz.zeroValue0
 t3 := Tryz.underlying3
 a3 := Tryz.isAgg3
 z3 := Tryz.sizeOf3
 v3 := Tryz.zeroValue3
 t4 := Tryz.underlying4
 a4 := Tryz.isAgg4
 z4 := Tryz.sizeOf4
 v4 := Tryz.zeroValue4
 t5 := Tryz.underlying5
 a5 := Tryz.isAgg5
 z5 := Tryz.sizeOf5
 v5 := Tryz.zeroValue5
 t9 := Tryz.underlying9
 a9 := Tryz.isAgg9
 z9 := Tryz.sizeOf9
 v9 := Tryz.zeroValue9
 t20 := Tryz.underlying20
 a20 := Tryz.isAgg20
 z20 := Tryz.sizeOf20
 v20 := Tryz.zeroValue20
 t37 := Tryz.underlying114
 a37 := Tryz.isAgg114
 z37 := Tryz.sizeOf114
 v37 := Tryz.zeroValue114
 t46 := Tryz.underlying176
 a46 := Tryz.isAgg176
 z46 := Tryz.sizeOf176
 v46 := Tryz.zeroValue176
 t51 := Tryz.underlying206
 a51 := Tryz.isAgg206
 z51 := Tryz.sizeOf206
 v51 := Tryz.zeroValue206
 t53 := Tryz.underlying174
 a53 := Tryz.isAgg174
 z53 := Tryz.sizeOf174
 v53 := Tryz.zeroValue174
 t70 := Tryz.underlying113
 a70 := Tryz.isAgg113
 z70 := Tryz.sizeOf113
 v70 := Tryz.zeroValue113
 t72 := Tryz.underlying116
 a72 := Tryz.isAgg116
 z72 := Tryz.sizeOf116
 v72 := Tryz.zeroValue116
 t75 := Tryz.underlying146
 a75 := Tryz.isAgg146
 z75 := Tryz.sizeOf146
 v75 := Tryz.zeroValue146
 t76 := Tryz.underlying147
 a76 := Tryz.isAgg147
 z76 := Tryz.sizeOf147
 v76 := Tryz.zeroValue147
 t109 := Tryz.underlying177
 a109 := Tryz.isAgg177
 z109 := Tryz.sizeOf177
 v109 := Tryz.zeroValue177
 t127 := Tryz.underlying151
 a127 := Tryz.isAgg151
 z127 := Tryz.sizeOf151
 v127 := Tryz.zeroValue151
 t146 := Tryz.underlying207
 a146 := Tryz.isAgg207
 z146 := Tryz.sizeOf207
 v146 := Tryz.zeroValue207
 t148 := Tryz.underlying209
 a148 := Tryz.isAgg209
 z148 := Tryz.sizeOf209
 v148 := Tryz.zeroValue209
 t164 := Tryz.underlying204
 a164 := Tryz.isAgg204
 z164 := Tryz.sizeOf204
 v164 := Tryz.zeroValue204 }
theorem Tryz.Builder_Extra_105 : Builder.Extra Tryz.prog Tryz.lays105_ren := {
 sizeBuilder := by kernel_rfl
 liesBuilder := by kernel_rfl
 t5 := Tryz.underlying5
 a5 := Tryz.isAgg5
 z5 := Tryz.sizeOf5
 v5 := Tryz.zeroValue5
 infoByte := by kernel_rfl
 cellsByte := by kernel_rfl
 sizeByte := by kernel_rfl
 neB5 := by decide }
open Go.RowKit Go.Lib in
theorem Tryz.strings_Repeat (s : ByteArray) (c : Nat) (w : World) (hc : c ≤ 9223372036854775807) (hlen : s.size * c ≤ 140737488355328) :
  Calls Tryz.prog 106 #[.string s, .int .i64 c] w fun e w' => e = .returned (.string ⟨(Lib.repeatL s.data.toList c).toArray⟩) ∧ Below w.heap.size w w' := Any.strings_Repeat Tryz.lays105 Tryz.Builder_Extra_105 s c w hc hlen
end Go.Proofs
/- The text En. -/
namespace Rn
theorem linesL_take (lv : Nat) : ∀ {ks : List Tr} {i : Nat} {c : Tr}, ks[i]? = some c → linesL lv (ks.take (i + 1)) = linesL lv (ks.take i) ++ lines lv c
 | [], i, c, h => by cases h
 | k :: r, 0, c, h => by injection h with h; subst h; simp [linesL]
 | k :: r, i + 1, c, h => by
  rw [List.getElem?_cons_succ] at h
  rw [List.take_succ_cons, List.take_succ_cons]
  unfold linesL
  rw [linesL_take lv h, List.append_assoc]
theorem linesL_le (lv : Nat) : ∀ (ks : List Tr) (i : Nat), (linesL lv (ks.take i)).length ≤ (linesL lv ks).length
 | [], i => by simp
 | k :: r, 0 => by simp [linesL]
 | k :: r, i + 1 => by
  rw [List.take_succ_cons]
  unfold linesL
  have := linesL_le lv r i
  rw [List.length_append, List.length_append]
  omega
theorem lines_eq (lv : Nat) (c : Tr) : lines lv c = line lv c.rule c.id c.err ++ 10 :: linesL (lv + 1) c.kids := by cases c; rfl
theorem repeat_blanks : ∀ n : Nat, Go.Lib.repeatL [32, 32] n = List.replicate (2 * n) 32
 | 0 => rfl
 | n + 1 => by
  have e : Go.Lib.repeatL ([32, 32] : List UInt8) (n + 1) = [32, 32] ++ Go.Lib.repeatL [32, 32] n := rfl
  rw [e, repeat_blanks n]
  rfl
theorem depth_kid : ∀ {ks : List Tr} {i : Nat} {c : Tr}, ks[i]? = some c → depth c ≤ depthL ks
 | [], i, c, h => by cases h
 | k :: r, 0, c, h => by injection h with h; subst h; unfold depthL; omega
 | k :: r, i + 1, c, h => by
  rw [List.getElem?_cons_succ] at h
  have := depth_kid h
  unfold depthL
  omega
end Rn
namespace Go.Proofs.YtacjhbbieeliaaaGreatDoor
open Go.RowKit Go.Lib
set_option linter.unusedVariables false
set_option linter.unusedSimpArgs false
theorem wstr_str (g : Nat) (q : Option Nat) (out : List UInt8) (X : ByteArray) (w : World) (h : PrS w g q out) (hlen : X.size ≤ 10000000000 ∧ out.length ≤ 10000000000) :
  Calls Tryz.prog 105 #[.pointer (some ⟨g, 0, none⟩), .string X] w fun e w' => (∃ n : Int, e = .returned (.tuple #[.int .i64 n, .nilIface])) ∧ ∃ q', PrS w' g q' (out ++ X.data.toList) ∧ PrK w g q w' q' := by
 have hx : bstr X.data.toList = X := rfl
 have hs : X.data.toList.length = X.size := (str_size X).symm
 have := wstr_any g q out X.data.toList w h (by rw [hs]; omega)
 rw [hx, hs] at this
 exact this.mono fun e w' h => ⟨⟨_, h.1⟩, h.2⟩
theorem size1_32 : (⟨#[32]⟩ : ByteArray).size = 1 := rfl
theorem size1_10 : (⟨#[10]⟩ : ByteArray).size = 1 := rfl
abbrev okP (g : Nat) (q : Option Nat) (b : Nat) : Prop := b ≠ g ∧ some b ≠ q
theorem RnV.prk {w w' : World} {g : Nat} {q q' : Option Nat} {V : Array Value} {c : Rn.Tr} (h : RnV w (okP g q) V c) (hk : PrK w g q w' q') : RnV w' (okP g q') V c := h.keep fun b hb hl => ⟨⟨hb.1, hk.apart hl hb.2⟩, hk.block b hl hb.1 hb.2⟩
theorem RnRow.prk {w w' : World} {g : Nat} {q q' : Option Nat} {A : Option Addr} {ks : List Rn.Tr} (h : RnRow w (okP g q) A ks) (hk : PrK w g q w' q') : RnRow w' (okP g q') A ks := h.keep fun b hb hl => ⟨⟨hb.1, hk.apart hl hb.2⟩, hk.block b hl hb.1 hb.2⟩
theorem Blk.prk {w w' : World} {g b : Nat} {q q' : Option Nat} {T : TypeId} {X : Array Value} (h : Blk w b T X) (hk : PrK w g q w' q') (hb : b ≠ g) (hq : some b ≠ q) : Blk w' b T X := (hk.block b h.lt hb hq).trans h
theorem pwrite_any : ∀ (N lv : Nat) (g : Nat) (q : Option Nat) (out : List UInt8) (c : Rn.Tr) (V : Array Value) (w : World), Rn.nodes c ≤ N → N ≤ 1000000 → lv + Rn.depth c ≤ 1000 → Rn.tame 100 c = true → PrS w g q out → RnV w (okP g q) V c → out.length + (Rn.lines lv c).length ≤ 1000000 →
  Calls Tryz.prog 72 #[.pointer (some ⟨g, 0, none⟩), .agg V, .int .i64 (lv : Int)] w fun e w' => e = .returned (.tuple #[]) ∧ ∃ q', PrS w' g q' (out ++ Rn.lines lv c) ∧ PrK w g q w' q'
 | 0, lv, g, q, out, c, V, w, hm, _, _, _, _, _, _ => absurd hm (by have := Rn.nodes_pos c; omega)
 | N + 1, lv, g, q, out, c, V, w, hm, hm6, hd, ht, hp, h, hlen => by
  have hb1 := (Below.refl w.heap.size w).alloc (Nat.le_refl _) (.cells V 42)
  have HV := h.bel hb1
  obtain ⟨A, cap, rfl, hrow⟩ := HV.open
  have hk1 := Blk.new w 42 #[.string (bstr c.rule), .int .i64 c.id, .int .i64 c.err, .slice A c.kids.length cap]
  have HP1 := hid (hp.bel hb1)
  have HK1 : Hid (PrK w g q (w.alloc (.cells #[.string (bstr c.rule), .int .i64 c.id, .int .i64 c.err, .slice A c.kids.length cap] 42)) q) := hid (PrK.of_bel hb1)
  have HBK1 := hid hk1
  have HR1 := hid hrow
  have HGN : Hid (w.heap.size ≠ g ∧ some w.heap.size ≠ q) := hid ⟨by have := hp.lt; omega, fun e => by have := (hp.own _ e.symm).2; omega⟩
  generalize hG : w.heap.size = G at *
  have HG := hid hG
  generalize hw1 : w.alloc (.cells #[.string (bstr c.rule), .int .i64 c.id, .int .i64 c.err, .slice A c.kids.length cap] 42) = w1 at *
  rw [Rn.tame_eq, Bool.and_eq_true, decide_eq_true_eq] at ht
  have hne := Rn.nodes_eq c
  have hdq := Rn.depth_eq c
  have hkm : Rn.nodesL c.kids ≤ N := by omega
  have hks := Rn.kids_nodes c.kids
  have HTA := hid ht.1
  have hrl := ht.2
  have HLE := hid (Rn.lines_eq lv c)
  have hlen2 : out.length + ((Rn.line lv c.rule c.id c.err).length + ((Rn.linesL (lv + 1) c.kids).length + 1)) ≤ 1000000 := by rw [HLE.out, List.length_append, List.length_cons] at hlen; omega
  have hdk : lv + 1 + Rn.depthL c.kids ≤ 1000 := by omega
  have IH := hid (fun (lv : Nat) (q : Option Nat) (out : List UInt8) (x : Rn.Tr) X W (hx : Rn.nodes x ≤ N) (hd : lv + Rn.depth x ≤ 1000) (ht : Rn.tame 100 x = true) (hp : PrS W g q out) (hX : RnV W (okP g q) X x) (hl : out.length + (Rn.lines lv x).length ≤ 1000000) => pwrite_any N lv g q out x X W hx (by omega) hd ht hp hX hl)
  have hnk6 : c.kids.length ≤ 1000000 := by omega
  have hlv : lv ≤ 1000 := by omega
  clear hrow h HV hb1 hk1 ht hne hdq hlen hd hp
  rw [HLE.out]
  generalize c.kids = ks at *
  generalize c.rule = r at *
  generalize c.id = i at *
  generalize c.err = er at *
  clear HLE
  have hrs : (bstr r).size ≤ 100 := by rw [bstr_size]; omega
  have HLN : Hid (Rn.line lv r i er = List.replicate (2 * lv) 32 ++ (r ++ 32 :: (Sm.digs (Sm.cut i) ++ 32 :: Rn.nameOf er))) := hid rfl
  have hll : 2 * lv ≤ (Rn.line lv r i er).length := by rw [HLN.out, List.length_append, List.length_replicate]; omega
  have HRE := hid (Rn.repeat_blanks lv)
  go_enter Tryz.func72, Tryz.ntmps72
  go_wp2_with fail
  refine (Tryz.strings_Repeat ⟨#[32, 32]⟩ lv _ (by omega) (by show 2 * lv ≤ _; omega)).mono ?_
  rintro e w2 ⟨rfl, hb2⟩
  rw [show (⟨#[32, 32]⟩ : ByteArray).data.toList = [32, 32] from rfl, HRE.out]
  have HB2 := hid hb2
  clear hb2
  go_wp2_with fail
  refine (wstr_any g q out (List.replicate (2 * lv) 32) w2 (HP1.out.bel HB2.out) (by rw [List.length_replicate]; omega)).mono ?_
  rintro e w3 ⟨rfl, q3, hp3, hk3⟩
  have HK3 := hid (HK1.out.tr ((PrK.of_bel HB2.out).tr hk3))
  have HK13 := hid ((PrK.of_bel HB2.out).tr hk3)
  have hb3 := HBK1.out.prk HK13.out HGN.out.1 HGN.out.2
  have HBK := hid hb3
  have HGQ3 : Hid (some G ≠ q3) := hid (HK13.out.apart HBK1.out.lt HGN.out.2)
  have HR3 := hid (HR1.out.prk HK13.out)
  have HP3' := hid hp3
  obtain ⟨out3, hout3⟩ : ∃ o, o = out ++ List.replicate (2 * lv) 32 := ⟨_, rfl⟩
  have HP3 : Hid (PrS w3 g q3 out3) := hid (by rw [hout3]; exact HP3'.out)
  have HO3 := hid hout3
  have hol : out3.length ≤ 1000000 := by rw [hout3, List.length_append, List.length_replicate]; omega
  clear hp3 hk3 hout3 HP3'
  go_wp2_with fail
  refine wp_region_noPanic ?_
  refine wp_region_held_drew (S := fun W => W.cell? ⟨G, 0, none⟩ = some (.string (bstr r)) ∧ W.cell? ⟨G, 1, none⟩ = some (.int .i64 i) ∧ W.cell? ⟨G, 2, none⟩ = some (.int .i64 er)) (by kernel_rfl) (⟨hb3.cell 0, hb3.cell 1, hb3.cell 2⟩) (fun hHeld => ?_)
  refine wpAnyH_take (i := 0) (oi := _) (v := ?_) rfl (by kernel_rfl) (by kernel_rfl) (by kernel_rfl) (fun _ _ _ h => h) (Or.inl ⟨by kernel_rfl, ?_⟩) hHeld ?_
  rotate_left
  ·intro wq hSw
   obtain ⟨hS0, hS1, hS2⟩ := hSw
   go_simp
   (try with_reducible rfl)
  (try simp only [Act.put, List.getElem_toArray, List.getElem_cons_zero, List.getElem_cons_succ, List.setIfInBounds_toArray, List.set_cons_zero, List.set_cons_succ])
  refine wpAnyH_take (i := 1) (oi := _) (v := ?_) rfl (by kernel_rfl) (by kernel_rfl) (by kernel_rfl) (fun _ _ _ h => h) (Or.inl ⟨by kernel_rfl, ?_⟩) hHeld ?_
  rotate_left
  ·intro wq hSw
   obtain ⟨hS0, hS1, hS2⟩ := hSw
   go_simp
   (try with_reducible rfl)
  (try simp only [Act.put, List.getElem_toArray, List.getElem_cons_zero, List.getElem_cons_succ, List.setIfInBounds_toArray, List.set_cons_zero, List.set_cons_succ])
  refine wpAnyH_take (i := 2) (oi := _) (v := ?_) rfl (by kernel_rfl) (by kernel_rfl) (by kernel_rfl) (fun _ _ _ h => h) (Or.inl ⟨by kernel_rfl, ?_⟩) hHeld ?_
  rotate_left
  ·intro wq hSw
   obtain ⟨hS0, hS1, hS2⟩ := hSw
   go_simp
   (try with_reducible rfl)
  (try simp only [Act.put, List.getElem_toArray, List.getElem_cons_zero, List.getElem_cons_succ, List.setIfInBounds_toArray, List.set_cons_zero, List.set_cons_succ])
  refine wpAnyH_take (i := 3) (oi := _) (v := ?_) rfl (by kernel_rfl) (by kernel_rfl) (by kernel_rfl) (fun _ _ _ h => h) (Or.inl ⟨by kernel_rfl, ?_⟩) hHeld ?_
  rotate_left
  ·intro wq hSw
   obtain ⟨hS0, hS1, hS2⟩ := hSw
   go_simp
   rw [if_neg (by (try simp only [ByteArray.size_append, size1_32, size1_10]); omega)]
  (try simp only [Act.put, List.getElem_toArray, List.getElem_cons_zero, List.getElem_cons_succ, List.setIfInBounds_toArray, List.set_cons_zero, List.set_cons_succ])
  refine wpAnyH_take (i := 4) (oi := _) (v := ?_) rfl (by kernel_rfl) (by kernel_rfl) (by kernel_rfl) (fun _ _ _ h => h) (Or.inl ⟨by kernel_rfl, ?_⟩) hHeld ?_
  rotate_left
  ·intro wq hSw
   obtain ⟨hS0, hS1, hS2⟩ := hSw
   go_simp
   (try with_reducible rfl)
  (try simp only [Act.put, List.getElem_toArray, List.getElem_cons_zero, List.getElem_cons_succ, List.setIfInBounds_toArray, List.set_cons_zero, List.set_cons_succ])
  refine wpAnyH_take (i := 5) (oi := _) (v := ?_) rfl (by kernel_rfl) (by kernel_rfl) (by kernel_rfl) (fun _ _ _ h => h) (Or.inl ⟨by kernel_rfl, ?_⟩) hHeld ?_
  rotate_left
  ·intro wq hSw
   obtain ⟨hS0, hS1, hS2⟩ := hSw
   go_simp
   (try with_reducible rfl)
  (try simp only [Act.put, List.getElem_toArray, List.getElem_cons_zero, List.getElem_cons_succ, List.setIfInBounds_toArray, List.set_cons_zero, List.set_cons_succ])
  refine wpAnyH_take (i := 9) (oi := _) (v := ?_) rfl (by kernel_rfl) (by kernel_rfl) (by kernel_rfl) (fun _ _ _ h => h) (Or.inl ⟨by kernel_rfl, ?_⟩) hHeld ?_
  rotate_left
  ·intro wq hSw
   obtain ⟨hS0, hS1, hS2⟩ := hSw
   go_simp
   (try with_reducible rfl)
  (try simp only [Act.put, List.getElem_toArray, List.getElem_cons_zero, List.getElem_cons_succ, List.setIfInBounds_toArray, List.set_cons_zero, List.set_cons_succ])
  refine wpAnyH_take (i := 10) (oi := _) (v := ?_) rfl (by kernel_rfl) (by kernel_rfl) (by kernel_rfl) (fun _ _ _ h => h) (Or.inl ⟨by kernel_rfl, ?_⟩) hHeld ?_
  rotate_left
  ·intro wq hSw
   obtain ⟨hS0, hS1, hS2⟩ := hSw
   go_simp
   (try with_reducible rfl)
  (try simp only [Act.put, List.getElem_toArray, List.getElem_cons_zero, List.getElem_cons_succ, List.setIfInBounds_toArray, List.set_cons_zero, List.set_cons_succ])
  refine wpAnyH_ready (rs := [6]) (by kernel_rfl) (by simp) ?_
  refine AllReadyH.cons (o := _) rfl (fun K hK => ?_) AllReadyH.nil
  go_simp
  go_at_call 107
  refine (hex_any i _).mono ?_
  rintro e w4 ⟨rfl, hb4⟩
  have HB4 : Hid (Below w3.heap.size w3 w4) := hid (((Below.refl _ w3).drew).trans hb4)
  clear hb4
  have hk4 := HBK.out.below HB4.out HBK.out.lt
  refine hK.out _ _ (⟨hk4.cell 0, hk4.cell 1, hk4.cell 2⟩) (fun hHeld2 => ?_)
  clear hK K hHeld
  have hHeld := hHeld2
  clear hHeld2
  (try simp only [Act.put, List.getElem_toArray, List.getElem_cons_zero, List.getElem_cons_succ, List.setIfInBounds_toArray, List.set_cons_zero, List.set_cons_succ])
  rw [show (⟨(Sm.digs (Sm.cut i)).toArray⟩ : ByteArray) = bstr (Sm.digs (Sm.cut i)) from rfl]
  have hxs : (bstr (Sm.digs (Sm.cut i))).size = 16 := by rw [bstr_size, Sm.digs_len]
  have hxs1 : (bstr (Sm.digs (Sm.cut i))).size ≤ 16 := by omega
  clear hxs
  generalize hDG : bstr (Sm.digs (Sm.cut i)) = DG at *
  have HDG := hid hDG
  clear hDG
  refine wpAnyH_take (i := 7) (oi := _) (v := ?_) rfl (by kernel_rfl) (by kernel_rfl) (by kernel_rfl) (fun _ _ _ h => h) (Or.inl ⟨by kernel_rfl, ?_⟩) hHeld ?_
  rotate_left
  ·intro wq hSw
   obtain ⟨hS0, hS1, hS2⟩ := hSw
   go_simp
   rw [if_neg (by (try simp only [ByteArray.size_append, size1_32, size1_10]); omega)]
  (try simp only [Act.put, List.getElem_toArray, List.getElem_cons_zero, List.getElem_cons_succ, List.setIfInBounds_toArray, List.set_cons_zero, List.set_cons_succ])
  refine wpAnyH_take (i := 8) (oi := _) (v := ?_) rfl (by kernel_rfl) (by kernel_rfl) (by kernel_rfl) (fun _ _ _ h => h) (Or.inl ⟨by kernel_rfl, ?_⟩) hHeld ?_
  rotate_left
  ·intro wq hSw
   obtain ⟨hS0, hS1, hS2⟩ := hSw
   go_simp
   rw [if_neg (by (try simp only [ByteArray.size_append, size1_32, size1_10]); omega)]
  (try simp only [Act.put, List.getElem_toArray, List.getElem_cons_zero, List.getElem_cons_succ, List.setIfInBounds_toArray, List.set_cons_zero, List.set_cons_succ])
  refine wpAnyH_ready (rs := [11]) (by kernel_rfl) (by simp) ?_
  refine AllReadyH.cons (o := _) rfl (fun K hK => ?_) AllReadyH.nil
  go_simp
  go_at_call 33
  refine (errno_any er _).mono ?_
  rintro e w5 ⟨rfl, hb5⟩
  have HB5 := hid (HB4.out.trans (hb5.mono HB4.out.size))
  clear hb5
  have hk5 := HBK.out.below HB5.out HBK.out.lt
  refine hK.out _ _ (⟨hk5.cell 0, hk5.cell 1, hk5.cell 2⟩) (fun hHeld2 => ?_)
  clear hK K hHeld
  have hHeld := hHeld2
  clear hHeld2
  (try simp only [Act.put, List.getElem_toArray, List.getElem_cons_zero, List.getElem_cons_succ, List.setIfInBounds_toArray, List.set_cons_zero, List.set_cons_succ])
  have hns : (bstr (Rn.nameOf er)).size ≤ 7 := by rw [bstr_size]; exact Rn.name_len er
  generalize hNM : bstr (Rn.nameOf er) = NM at *
  have HNM := hid hNM
  clear hNM
  refine wpAnyH_take (i := 12) (oi := _) (v := ?_) rfl (by kernel_rfl) (by kernel_rfl) (by kernel_rfl) (fun _ _ _ h => h) (Or.inl ⟨by kernel_rfl, ?_⟩) hHeld ?_
  rotate_left
  ·intro wq hSw
   obtain ⟨hS0, hS1, hS2⟩ := hSw
   go_simp
   rw [if_neg (by (try simp only [ByteArray.size_append, size1_32, size1_10]); omega)]
  (try simp only [Act.put, List.getElem_toArray, List.getElem_cons_zero, List.getElem_cons_succ, List.setIfInBounds_toArray, List.set_cons_zero, List.set_cons_succ])
  refine wpAnyH_take (i := 13) (oi := _) (v := ?_) rfl (by kernel_rfl) (by kernel_rfl) (by kernel_rfl) (fun _ _ _ h => h) (Or.inl ⟨by kernel_rfl, ?_⟩) hHeld ?_
  rotate_left
  ·intro wq hSw
   obtain ⟨hS0, hS1, hS2⟩ := hSw
   go_simp
   rw [if_neg (by (try simp only [ByteArray.size_append, size1_32, size1_10]); omega)]
  (try simp only [Act.put, List.getElem_toArray, List.getElem_cons_zero, List.getElem_cons_succ, List.setIfInBounds_toArray, List.set_cons_zero, List.set_cons_succ])
  refine wpAnyH_ready (rs := [14]) (by kernel_rfl) (by simp) ?_
  refine AllReadyH.cons (o := _) rfl (fun K hK => ?_) AllReadyH.nil
  go_simp
  go_at_call 105
  refine (wstr_str g q3 out3 _ w5 (HP3.out.bel HB5.out) ⟨?_, by omega⟩).mono ?_
  ·simp only [ByteArray.size_append, size1_32, size1_10]
   omega
  rintro e w6 ⟨⟨n6, rfl⟩, q6, hp6, hk6⟩
  have HP6 := hid hp6
  have HK6 := hid ((PrK.of_bel HB5.out).tr hk6)
  clear hp6 hk6
  have hk7 := HBK.out.prk HK6.out HGN.out.1 HGQ3.out
  have HK7 := hid hk7
  refine hK.out _ _ (⟨hk7.cell 0, hk7.cell 1, hk7.cell 2⟩) (fun hHeld2 => ?_)
  clear hK K hHeld
  have hHeld := hHeld2
  clear hHeld2
  (try simp only [Act.put, List.getElem_toArray, List.getElem_cons_zero, List.getElem_cons_succ, List.setIfInBounds_toArray, List.set_cons_zero, List.set_cons_succ])
  refine wpAnyH_done (by kernel_rfl) ?_ _
  refine NoPanic.normal ?_
  have HOUT : Hid (out3 ++ (bstr r ++ (⟨#[32]⟩ : ByteArray) ++ DG ++ (⟨#[32]⟩ : ByteArray) ++ NM ++ (⟨#[10]⟩ : ByteArray)).data.toList = out ++ (Rn.line lv r i er ++ [10])) := hid (by rw [HO3.out, HLN.out, ← HDG.out, ← HNM.out]; simp [bstr])
  have HP6' : Hid (PrS w6 g q6 (out ++ (Rn.line lv r i er ++ [10]))) := hid (by rw [← HOUT.out]; exact HP6.out)
  have HK66 := hid (HK3.out.tr HK6.out)
  have HR6 := hid (HR3.out.prk HK6.out)
  have hx3 : w6.cell? ⟨G, 3, none⟩ = some (.slice A ks.length cap) := HK7.out.cell 3
  clear HOUT HP6 HO3 HDG HNM HLN hns hxs1 hrs hHeld hk4 hk5 hk7 hol hb3
  go_wp2_with fail
  go_loopw [7, 30] (fun _ ix wr => ∃ (k : Nat) (qk : Option Nat), k ≤ ks.length ∧ ix = .int .i64 (k : Int) ∧ PrS wr g qk (out ++ (Rn.line lv r i er ++ [10]) ++ Rn.linesL (lv + 1) (ks.take k)) ∧ PrK w6 g q6 wr qk) (fun _ ix _ => ks.length - (RowKit.intOf ix).toNat)
  case atStart => exact ⟨0, q6, Nat.zero_le _, rfl, by simpa [Rn.linesL] using HP6'.out, PrK.refl _ _ _⟩
  case round =>
   obtain ⟨k, qk, hk, rfl, hpk, hkk⟩ := hrel
   have HPK := hid hpk
   have HKK := hid hkk
   clear hpk hkk
   by_cases hlt : k < ks.length
   ·obtain ⟨x, hx⟩ : ∃ x, ks[k]? = some x := ⟨_, List.getElem?_eq_getElem hlt⟩
    obtain ⟨b, off, cs, rfl, hok, hr, hcl, hcv⟩ := (HR6.out.prk HKK.out) k x hx
    have HLT := hid (Rn.linesL_take (lv + 1) hx)
    have hle := Rn.linesL_le (lv + 1) ks (k + 1)
    have hnk := Rn.nodes_kid hx
    have hdx := Rn.depth_kid hx
    have HTX := hid (Rn.tameL_at HTA.out hx)
    have hlx : (out ++ (Rn.line lv r i er ++ [10]) ++ Rn.linesL (lv + 1) (ks.take k)).length + (Rn.lines (lv + 1) x).length ≤ 1000000 := by
     rw [HLT.out, List.length_append] at hle
     rw [List.length_append, List.length_append, List.length_append, List.length_singleton]
     omega
    have HLX := hid hlx
    have HCV := hid hcv
    have hone := hcv.one
    have HL2 : Hid ((Tryz.prog.info? 42).map (·.size) = some cs.length) := hid (by rw [size_rea, hcl])
    have HL3 : Hid ((Tryz.prog.info? 42).map (·.size) = some cs.toArray.size) := hid (by rw [size_rea, List.size_toArray, hcl])
    have HSZ : Hid (zRn.size = cs.toArray.size) := hid (by show 4 = cs.toArray.size; rw [List.size_toArray, hcl])
    clear hx hcv hok hle hlx
    go_wp2_with (first
     | ((with_reducible refine wpList_load_mid rfl 42 _ rfl b (off + k * 4) ?_ cs _ hr Tryz.underlying42 ?_ HL2.out ?_); rfl; rfl)
     | ((with_reducible refine wpList_store_row' rfl 42 _ _ rfl wr.heap.size cs.toArray ?_ ?_ 42 _ (Blk.new wr 42 _) HL3.out ?_ hone ?_); rfl; rfl; exact HSZ.out; intro w7 hk7 hs7 hbl7)
     | (refine wpList_load_row rfl 42 _ rfl wr.heap.size rfl 42 cs.toArray (0, 0) _ hk7 Tryz.underlying42 rfl HL3.out ?_))
    have HBR : Hid (Below wr.heap.size wr w7) := hid (((Below.refl _ wr).alloc (Nat.le_refl _) (.cells zRn 42)).trans (hbl7 wr.heap.size (Nat.le_refl _)))
    refine (IH.out (lv + 1) qk _ x cs.toArray w7 (by omega) (by omega) HTX.out (HPK.out.bel HBR.out) (HCV.out.bel HBR.out) HLX.out).mono ?_
    rintro e w8 ⟨rfl, q8, hp8, hk8⟩
    have HP8 : Hid (PrS w8 g q8 (out ++ (Rn.line lv r i er ++ [10]) ++ Rn.linesL (lv + 1) (ks.take (k + 1)))) := hid (by rw [HLT.out, ← List.append_assoc]; exact hp8)
    have HK8 := hid (HKK.out.tr ((PrK.of_bel HBR.out).tr hk8))
    clear hp8 hk8
    go_wp2_with fail
    go_roundw
    case rel => exact ⟨k + 1, q8, hlt, by go_num, HP8.out, HK8.out⟩
    case measure => simp [RowKit.intOf]; omega
   ·obtain rfl : k = ks.length := by omega
    have HPE : Hid (PrS wr g qk (out ++ (Rn.line lv r i er ++ 10 :: Rn.linesL (lv + 1) ks))) := hid (by have := HPK.out; rw [List.take_length] at this; simpa using this)
    go_wp2_with fail
    go_end0
    exact ⟨rfl, qk, HPE.out, HK66.out.tr HKK.out⟩
end Go.Proofs.YtacjhbbieeliaaaGreatDoor
/- The text Eo. -/
namespace Go.Proofs.YtacjhbbieeliaaaGreatDoor
open Go.RowKit Go.Lib
set_option linter.unusedVariables false
set_option linter.unusedSimpArgs false
theorem prs_new (w : World) : PrS (w.alloc (.cells #[.pointer none, .slice none 0 0] 116)) w.heap.size none [] := ⟨.pointer none, .slice none 0 0, .inl rfl, Blk.new w _ _, own_nil _ _ _, rfl⟩
theorem ptext_any (N : Nat) (ok : Nat → Prop) (c : Rn.Tr) (V : Array Value) (w : World) (hN : Rn.nodes c ≤ N) (hN6 : N ≤ 1000) (ht : Rn.tame 100 c = true) (hlen : Rn.plain 40 c = true → (Rn.lines 0 c).length ≤ 1000000) (h : RnV w ok V c) :
  Calls Tryz.prog 27 #[.agg V] w fun e w' => e = .returned (.string (bstr (Rn.text c))) ∧ Below w.heap.size w w' := by
 have hb1 := (Below.refl w.heap.size w).alloc (Nat.le_refl _) (.cells V 42)
 have hs4 := h.size
 have HSV : Hid ((Tryz.prog.info? 42).map (·.size) = some V.size) := hid (by rw [size_rea, hs4])
 have HK1 := hid (Blk.new w 42 V)
 have HB1 := hid hb1
 have HV1 := hid (h.bel hb1)
 have hd := Rn.depth_nodes c
 generalize hw1 : w.alloc (.cells V 42) = w1 at *
 have HS1 := hid hb1.size
 have hz : w.heap.size < w1.heap.size := HK1.out.lt
 have HH := hid h
 have HLEN := hid hlen
 clear hb1 h hlen hs4
 go_enter Tryz.func27, Tryz.ntmps27
 go_wp2_with (refine wpList_load_row rfl 42 _ rfl w.heap.size rfl 42 V (0, 0) _ HK1.out Tryz.underlying42 rfl HSV.out ?_)
 refine (pplain_any N 40 1 ok c V w1 hN (by omega) rfl (by omega) ht HV1.out).mono ?_
 rintro e w2 ⟨rfl, hb2⟩
 have HB2 := hid hb2
 have HK2 := hid (HK1.out.below hb2 HK1.out.lt)
 have HV2 := hid (HV1.out.bel hb2)
 have hz2 := hb2.size
 clear hb2
 cases hp : Rn.plain 40 c with
 | false =>
  have HT : Hid (Rn.text c = []) := hid (by unfold Rn.text; rw [hp]; rfl)
  go_wp2_with fail
  go_ret
  exact ⟨by rw [HT.out]; rfl, HB1.out.trans (HB2.out.mono HS1.out)⟩
 | true =>
  have HT : Hid (Rn.text c = Rn.lines 0 c) := hid (by unfold Rn.text; rw [hp]; rfl)
  have HP3 := hid (prs_new w2)
  have HB3 := hid ((Below.refl w2.heap.size w2).alloc (Nat.le_refl _) (.cells #[.pointer none, .slice none 0 0] 116))
  have HK3 := hid (HK2.out.alloc (.cells #[.pointer none, .slice none 0 0] 116))
  have HV3 : Hid (RnV (w2.alloc (.cells #[.pointer none, .slice none 0 0] 116)) (okP w2.heap.size none) V c) := hid (HV2.out.keep fun b hb hl => ⟨⟨by omega, by simp⟩, HB3.out.block b hl⟩)
  have hlen := HLEN.out hp
  go_wp2_with (refine wpList_load_row rfl 42 _ rfl w.heap.size rfl 42 V (0, 0) _ HK3.out Tryz.underlying42 rfl HSV.out ?_)
  refine (pwrite_any N 0 w2.heap.size none [] c V _ hN (by omega) (by omega) ht HP3.out HV3.out (by simpa using hlen)).mono ?_
  rintro e w4 ⟨rfl, q4, hp4, hk4⟩
  have HP4 := hid hp4
  have HB4 : Hid (Below w2.heap.size (w2.alloc (.cells #[.pointer none, .slice none 0 0] 116)) w4) := hid (hk4.below (by simp) (fun k hk => by cases hk))
  clear hp4 hk4
  go_wp2_with fail
  refine (bstr_any w2.heap.size q4 _ w4 HP4.out).mono ?_
  rintro e w5 ⟨rfl, hb5⟩
  have HB5 := hid (HB3.out.trans (HB4.out.trans hb5))
  clear hb5
  go_wp2_with fail
  go_ret
  exact ⟨by rw [HT.out]; rfl, (HB1.out.trans (HB2.out.mono HS1.out)).trans (HB5.out.mono (by omega))⟩
end Go.Proofs.YtacjhbbieeliaaaGreatDoor
/- The text Ep. -/
namespace Go.Proofs.YtacjhbbieeliaaaGreatDoor
open Go.RowKit Go.Lib
set_option linter.unusedVariables false
set_option linter.unusedSimpArgs false
theorem blanks_snoc (k : Nat) : List.replicate (2 * k) (32 : UInt8) ++ [32, 32] = List.replicate (2 * (k + 1)) 32 := List.replicate_append_replicate (n := 2 * k) (m := 2) (a := 32)
end Go.Proofs.YtacjhbbieeliaaaGreatDoor
