/- The text Kf. -/
import Derived.Lib.SliceRun
import Derived.Test.YtacjhbbieeliaaaGreatDoorMau
set_option linter.unusedSimpArgs false
set_option maxHeartbeats 16000000
set_option maxRecDepth 100000
namespace Go.Proofs.YtacjhbbieeliaaaGreatDoor
open Go.RowKit Go.Lib
set_option linter.unusedVariables false
set_option linter.unusedSimpArgs false
def ixF {α : Type} (p : α → Bool) : Nat → List α → Int
 | _, [] => -1
 | k, x :: r => if p x then (k : Int) else ixF p (k + 1) r
theorem ix_find {α : Type} (p : α → Bool) : ∀ (l : List α) (k : Nat), (ixF p k l = -1 ∧ l.find? p = none) ∨ (∃ (i : Nat) (x : α), ixF p k l = ((k + i : Nat) : Int) ∧ l[i]? = some x ∧ l.find? p = some x)
 | [], k => .inl ⟨rfl, rfl⟩
 | x :: r, k => by
  unfold ixF
  rw [List.find?_cons]
  cases hp : p x with
  | true => exact .inr ⟨0, x, rfl, rfl, rfl⟩
  | false =>
   rcases ix_find p r (k + 1) with ⟨h1, h2⟩ | ⟨i, y, h1, h2, h3⟩
   ·exact .inl ⟨h1, h2⟩
   ·exact .inr ⟨i + 1, y, by simp only [Bool.false_eq_true, if_false]; rw [h1]; congr 1; omega, h2, h3⟩
theorem ix_drop {α : Type} (p : α → Bool) {l : List α} {k : Nat} {x : α} (h : l[k]? = some x) : ixF p k (l.drop k) = if p x then (k : Int) else ixF p (k + 1) (l.drop (k + 1)) := by
 obtain ⟨h1, h2⟩ := List.getElem?_eq_some_iff.1 h
 rw [List.drop_eq_getElem_cons h1, h2]
 rfl
def Asks (ok : Nat → Prop) (w : World) (F : FuncId) (cs : Array Value) (p : Co.Ev → Bool) : Prop := ∀ (x : Co.Ev) (X : List Value) (W : World), EvV ok W X x → Below w.heap.size w W → Calls Tryz.prog F (#[.agg X.toArray] ++ cs) W fun e w' => e = .returned (.bool (p x)) ∧ Below W.heap.size W w'
theorem ixfunc_any (ok : Nat → Prop) (l : List Co.Ev) (A : Option Addr) (cap : Nat) (F : FuncId) (cs : Array Value) (p : Co.Ev → Bool) (w : World) (h : EvRow ok w A l) (hl : l.length ≤ 1000000) (hE : Enters Tryz.prog F) (hF : Asks ok w F cs p) :
  Calls Tryz.prog 85 #[.slice A l.length cap, .func (.func F) #[] cs] w fun e w' => e = .returned (.int .i64 (ixF p 0 l)) ∧ Below w.heap.size w w' := by
 have hEN : ∀ (args : Array Value) (w : World), (callFunc F args).run Tryz.prog w = .ok (.enter F args) w := hE
 have HROW := hid h
 have HF := hid hF
 obtain ⟨R, hR⟩ : ∃ R, R = ixF p 0 l := ⟨_, rfl⟩
 have HR0 : Hid (R = ixF p 0 (l.drop 0)) := hid (by rw [hR]; rfl)
 rw [← hR]
 clear h hF hE hR
 go_enter Tryz.func85, Tryz.ntmps85
 go_wp2_with fail
 go_loopw [8] (fun ix wr => ∃ k : Nat, k ≤ l.length ∧ ix = .int .i64 (k : Int) ∧ Hid (R = ixF p k (l.drop k)) ∧ Below w.heap.size w wr) (fun ix _ => l.length - (RowKit.intOf ix).toNat)
 case atStart => exact ⟨0, Nat.zero_le _, rfl, HR0, Below.refl _ _⟩
 case round =>
  obtain ⟨k, hk, rfl, HX, hb⟩ := hrel
  have HB := hid hb
  by_cases hlt : k < l.length
  ·obtain ⟨x, b, off, X, hx, rfl, hok, hbl, hr, hv⟩ := HROW.out.at_ hlt
   have hrr : wr.rangeAt b (off + k * 29) X := range_keep hr (hb.block b hbl)
   have HL2 := hid (size_evL hv)
   have HCL := hid (HF.out x X wr (EvS.keep hv fun b hb' hlt => ⟨hb', hb.block b hlt⟩) hb)
   have HXD := hid (ix_drop p hx)
   have hcnt : k + 1 ≤ l.length := hlt
   have hws := hb.size
   clear hb hr hv hx
   cases hp : p x with
   | true =>
    rw [hp] at HXD HCL
    have HRX : Hid (R = (k : Int)) := hid (by rw [HX.out, HXD.out]; rfl)
    clear hp
    go_wp2_with ((with_reducible refine wpList_load_mid rfl 34 _ rfl b (off + k * 29) ?_ X _ hrr Tryz.underlying34 ?_ HL2.out ?_); rfl; rfl)
    refine HCL.out.mono ?_
    rintro e w2 ⟨rfl, hb2⟩
    have HB2 := hid (HB.out.trans (hb2.mono hws))
    clear hb2
    go_wp2_with fail
    go_ret
    exact ⟨by rw [HRX.out]; rfl, HB2.out⟩
   | false =>
    rw [hp] at HXD HCL
    have HRX : Hid (R = ixF p (k + 1) (l.drop (k + 1))) := hid (by rw [HX.out, HXD.out]; rfl)
    clear hp
    go_wp2_with ((with_reducible refine wpList_load_mid rfl 34 _ rfl b (off + k * 29) ?_ X _ hrr Tryz.underlying34 ?_ HL2.out ?_); rfl; rfl)
    refine HCL.out.mono ?_
    rintro e w2 ⟨rfl, hb2⟩
    have HB2 := hid (HB.out.trans (hb2.mono hws))
    clear hb2
    go_wp2_with fail
    go_roundw
    case rel => exact ⟨k + 1, hlt, by go_num, HRX, HB2.out⟩
    case measure => simp [RowKit.intOf]; omega
  ·obtain rfl : k = l.length := by omega
   have HRX : Hid (R = -1) := hid (by rw [HX.out, List.drop_length]; rfl)
   clear hb
   go_wp2_with fail
   go_ret
   exact ⟨by rw [HRX.out]; rfl, HB.out⟩
theorem first1_any (ok : Nat → Prop) (N : Nat) (kk : Int) (x : Co.Ev) (X : List Value) (w : World) (hN : w.cell? ⟨N, 0, none⟩ = some (.int .i64 kk)) (h : EvV ok w X x) :
  Calls Tryz.prog 86 #[.agg X.toArray, .pointer (some ⟨N, 0, none⟩)] w fun e w' => e = .returned (.bool (Co.isKind kk x)) ∧ Below w.heap.size w w' := by
 have hb := (Below.refl w.heap.size w).alloc (Nat.le_refl _) (.cells X.toArray 34)
 have hc3 : (w.alloc (.cells X.toArray 34)).cell? ⟨w.heap.size, 3, none⟩ = some (.int .i64 x.kind) := ((Blk.new w 34 X.toArray).cell 3).trans (by rw [List.getElem?_toArray]; exact h.c3)
 have hcn : (w.alloc (.cells X.toArray 34)).cell? ⟨N, 0, none⟩ = some (.int .i64 kk) := (Below.cell hb (block_lt hN)).trans hN
 have HB := hid hb
 clear h hN hb
 generalize hw1 : w.alloc (.cells X.toArray 34) = w1 at *
 go_enter Tryz.func86, Tryz.ntmps86
 go_wp2_with fail
 go_ret
 exact ⟨rfl, HB.out⟩
theorem lfirst_any (ok : Nat → Prop) (l : List Co.Ev) (A : Option Addr) (cap : Nat) (kk : Int) (w : World) (h : EvRow ok w A l) (hl : l.length ≤ 1000000) :
  Calls Tryz.prog 50 #[.slice A l.length cap, .int .i64 kk] w fun e w' => e = .returned (.int .i64 (ixF (Co.isKind kk) 0 l)) ∧ Below w.heap.size w w' := by
 have hb := (Below.refl w.heap.size w).alloc (Nat.le_refl _) (.cells #[.int .i64 kk] 22)
 have HB := hid hb
 have hcn : (w.alloc (.cells #[.int .i64 kk] 22)).cell? ⟨w.heap.size, 0, none⟩ = some (.int .i64 kk) := (Blk.new w 22 #[.int .i64 kk]).cell 0
 have HC := hid (ixfunc_any ok l A cap 86 #[.pointer (some ⟨w.heap.size, 0, none⟩)] (Co.isKind kk) _ (h.bel hb) hl (enters_of Tryz.func86 (by kernel_rfl) rfl) (fun x X W hX hW => first1_any ok w.heap.size kk x X W ((hW.cell (p := ⟨w.heap.size, 0, none⟩) (by show w.heap.size < (w.alloc _).heap.size; simp)).trans hcn) hX))
 clear h hcn hb
 go_enter Tryz.func50, Tryz.ntmps50
 go_wp2_with fail
 refine HC.out.mono ?_
 rintro e w2 ⟨rfl, hb2⟩
 have HB2 := hid (HB.out.trans (hb2.mono HB.out.size))
 clear hb2
 go_wp2_with fail
 go_ret
 exact ⟨rfl, HB2.out⟩
theorem rowL1 : RowU 25 49 2 24 := ⟨Tryz.underlying25, ⟨_, (by kernel_rfl : (Tryz.prog.info? 49).map (fun i => (i.zero, i.size, i.bytes)) = some (some (.agg #[.string ⟨#[]⟩, .int .i64 0]), 2, 24)), rfl⟩, by decide, by decide⟩
theorem clonel_any (ok : Nat → Prop) (A : Option Addr) (n cap : Nat) (ys : List Value) (w : World) (h : Rd w A (n * 2) ys) (h1 : ∀ u ∈ ys, u.oneCell' = true) (hn : n ≤ 1000000) :
  Calls Tryz.prog 51 #[.slice A n cap] w fun e w' => (∃ c, e = .returned c ∧ SlcOf (fun b => w.heap.size ≤ b) w' c n 2 ys) ∧ Below w.heap.size w w' := by
 have qT : ∀ (w : World) (a : Option Addr) (n c n' c' : Nat), (binOp .eql 25 (.slice a n c) (.slice none n' c')).run Tryz.prog w = .ok (.bool a.isNone) w := fun w a n c n' c' => Lib.run_eql_slice_nil w _ _ a n c n' c' Tryz.underlying25
 cases A with
 | none =>
  obtain ⟨h2, rfl⟩ := h.none_
  obtain rfl : n = 0 := by omega
  go_enter Tryz.func51, Tryz.ntmps51
  go_wp2_with fail
  go_ret
  exact ⟨⟨_, rfl, SlcOf.nil ..⟩, Below.refl _ _⟩
 | some a =>
  have hb8 := (Below.refl w.heap.size w).alloc (Nat.le_refl _) (.cells #[] 49)
  have HOX : Hid ((w.alloc (.cells #[] 49)).ownsRow w.heap.size 49 2 (.slice (some ⟨w.heap.size, 0, none⟩) 0 0) 0 []) := hid ⟨rfl, .inr ⟨w.heap.size, 0, #[], rfl, Nat.le_refl _, Blk.new w 49 #[], Nat.le_refl _, by decide, rfl, rfl⟩⟩
  have HRD := hid (h.below hb8)
  have HO1 := hid h1
  have HB8 := hid hb8
  have hbz : w.heap.size ≤ (w.alloc (.cells #[] 49)).heap.size := hb8.size
  clear h h1 hb8
  go_enter Tryz.func51, Tryz.ntmps51
  go_wp2_with ((at_builtin; refine app_row rowL1 rfl _ _ rfl (w.alloc (.cells #[] 49)) (.slice (some ⟨w.heap.size, 0, none⟩) 0 0) 0 [] ys w.heap.size rfl HOX.out (some a) n cap rfl HRD.out HO1.out hbz (by omega) ?_; intro v9 w9 ho9 hg9 hb9 hw9))
  go_ret
  rw [Nat.zero_add, List.nil_append] at ho9
  exact ⟨⟨_, rfl, SlcOf.of_own ho9⟩, HB8.out.trans ((Below.refl w.heap.size _).grown hg9 hbz (fun k hk => Nat.le_of_eq (by injection hk)))⟩
theorem rowK1 : RowU 26 93 2 16 := ⟨Tryz.underlying26, ⟨_, (by kernel_rfl : (Tryz.prog.info? 93).map (fun i => (i.zero, i.size, i.bytes)) = some (some (.agg #[.int .i64 0, .int .i64 0]), 2, 16)), rfl⟩, by decide, by decide⟩
theorem clonek_any (ok : Nat → Prop) (A : Option Addr) (n cap : Nat) (ys : List Value) (w : World) (h : Rd w A (n * 2) ys) (h1 : ∀ u ∈ ys, u.oneCell' = true) (hn : n ≤ 1000000) :
  Calls Tryz.prog 52 #[.slice A n cap] w fun e w' => (∃ c, e = .returned c ∧ SlcOf (fun b => w.heap.size ≤ b) w' c n 2 ys) ∧ Below w.heap.size w w' := by
 have qT : ∀ (w : World) (a : Option Addr) (n c n' c' : Nat), (binOp .eql 26 (.slice a n c) (.slice none n' c')).run Tryz.prog w = .ok (.bool a.isNone) w := fun w a n c n' c' => Lib.run_eql_slice_nil w _ _ a n c n' c' Tryz.underlying26
 cases A with
 | none =>
  obtain ⟨h2, rfl⟩ := h.none_
  obtain rfl : n = 0 := by omega
  go_enter Tryz.func52, Tryz.ntmps52
  go_wp2_with fail
  go_ret
  exact ⟨⟨_, rfl, SlcOf.nil ..⟩, Below.refl _ _⟩
 | some a =>
  have hb8 := (Below.refl w.heap.size w).alloc (Nat.le_refl _) (.cells #[] 93)
  have HOX : Hid ((w.alloc (.cells #[] 93)).ownsRow w.heap.size 93 2 (.slice (some ⟨w.heap.size, 0, none⟩) 0 0) 0 []) := hid ⟨rfl, .inr ⟨w.heap.size, 0, #[], rfl, Nat.le_refl _, Blk.new w 93 #[], Nat.le_refl _, by decide, rfl, rfl⟩⟩
  have HRD := hid (h.below hb8)
  have HO1 := hid h1
  have HB8 := hid hb8
  have hbz : w.heap.size ≤ (w.alloc (.cells #[] 93)).heap.size := hb8.size
  clear h h1 hb8
  go_enter Tryz.func52, Tryz.ntmps52
  go_wp2_with ((at_builtin; refine app_row rowK1 rfl _ _ rfl (w.alloc (.cells #[] 93)) (.slice (some ⟨w.heap.size, 0, none⟩) 0 0) 0 [] ys w.heap.size rfl HOX.out (some a) n cap rfl HRD.out HO1.out hbz (by omega) ?_; intro v9 w9 ho9 hg9 hb9 hw9))
  go_ret
  rw [Nat.zero_add, List.nil_append] at ho9
  exact ⟨⟨_, rfl, SlcOf.of_own ho9⟩, HB8.out.trans ((Below.refl w.heap.size _).grown hg9 hbz (fun k hk => Nat.le_of_eq (by injection hk)))⟩
end Go.Proofs.YtacjhbbieeliaaaGreatDoor
