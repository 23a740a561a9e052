/- The texts Kd, Ke of this proof, one behind the other. -/
import Derived.Recover
import Derived.Shelf.Abstract
import Derived.WalkLawsBesides
import Derived.Test.YtacjhbbieeliaaaGreatDoorMat
set_option linter.unusedSimpArgs false
set_option maxHeartbeats 16000000
set_option maxRecDepth 100000
/- The text Kd. -/
namespace Go.Proofs.YtacjhbbieeliaaaGreatDoor
open Go.RowKit Go.Lib
set_option linter.unusedVariables false
set_option linter.unusedSimpArgs false
abbrev verd (x : Int) : List PanicEntry := [{ v := .iface 128 (.agg #[.int .i64 x]), recovered := false }]
theorem decide_pan (x : Int) (w : World) : Calls Tryz.prog 39 #[.int .i64 x] w fun e w' => e = .panicked (verd x) ∧ w = w' := by
 go_enter Tryz.func39, Tryz.ntmps39
 go_wp2_with fail
 exact ⟨rfl, rfl, rfl⟩
theorem need_yes (x : Int) (w : World) : Calls Tryz.prog 38 #[.bool true, .int .i64 x] w fun e w' => e = .returned (.tuple #[]) ∧ w = w' := by
 go_enter Tryz.func38, Tryz.ntmps38
 go_wp2_with fail
 go_end0
 exact ⟨rfl, rfl⟩
theorem need_no (x : Int) (w : World) : Calls Tryz.prog 38 #[.bool false, .int .i64 x] w fun e w' => e = .panicked (verd x) ∧ w = w' := by
 go_enter Tryz.func38, Tryz.ntmps38
 go_wp2_with fail
 refine (decide_pan x w).mono ?_
 rintro e w2 ⟨rfl, rfl⟩
 exact ⟨rfl, rfl, rfl⟩
theorem dec_pan (N : Nat) (v : Value) (x : Int) (older : List PanicEntry) (w : World) (h : Blk w N 39 #[v]) :
  CallsD Tryz.prog 78 #[.pointer (some ⟨N, 0, none⟩)] (.panicking ({ v := .iface 128 (.agg #[.int .i64 x]), recovered := false } :: older)) w fun e u' w' => e = .returned (.tuple #[]) ∧ u' = .panicking ({ v := .iface 128 (.agg #[.int .i64 x]), recovered := true } :: older) ∧ Blk w' N 39 #[.int .i64 x] ∧ ∀ B, B ≤ N → Below B w w' := by
 refine callsD_of_wpS Tryz.func78 rfl fun c₀ cs hu => ?_
 apply wpS_seq
 apply wpS_region
 simp [wpOpsS, go_sem, recoverD, hu, Tryz.ntmps78, Exit.thenS]
 refine wpS_of_wp ?_
 rw [show (#[.pointer (some ⟨N, 0, none⟩)] ++ ((Array.replicate 16 undef).setIfInBounds 3 (.iface 128 (.agg #[.int .i64 x]))).setIfInBounds 0 (.iface 128 (.agg #[.int .i64 x])) : Array Value) = #[.pointer (some ⟨N, 0, none⟩), .iface 128 (.agg #[.int .i64 x]), undef, undef, .iface 128 (.agg #[.int .i64 x]), undef, undef, undef, undef, undef, undef, undef, undef, undef, undef, undef, undef] from rfl]
 have hta : ∀ w : World, (Instr.typeAssert (.iface 128 (.agg #[.int .i64 x])) 20 128 true).run Tryz.prog w = .ok (.tuple #[.agg #[.int .i64 x], .bool true]) w := fun _ => by kernel_rfl
 have hz := h.alloc (.cells #[.int .i64 x] 128)
 have HC : Hid (Blk ((w.alloc (.cells #[.int .i64 x] 128)).setCell ⟨N, 0, none⟩ (.int .i64 x)) N 39 #[.int .i64 x] ∧ ∀ B, B ≤ N → Below B w ((w.alloc (.cells #[.int .i64 x] 128)).setCell ⟨N, 0, none⟩ (.int .i64 x))) := hid ⟨hz.set_ 0 _, fun B hB => ((Below.refl B w).alloc (by have := h.lt; omega) _).setCell hB _⟩
 have hcn := hz.cell 0
 have hfn := hz.frozen 0
 clear h hz
 go_wp2_with fail
 simp only [bodyPostS]
 refine ⟨trivial, _, rfl, .tuple #[], ?_, rfl, rfl, HC.out⟩
 simp [results, Tryz.results78]
theorem dec_idle (N : Nat) (w : World) :
  CallsD Tryz.prog 78 #[.pointer (some ⟨N, 0, none⟩)] .returning w fun e u' w' => e = .returned (.tuple #[]) ∧ u' = .returning ∧ w' = w := by
 refine callsD_of_wpS Tryz.func78 rfl fun c₀ cs hu => ?_
 apply wpS_seq
 apply wpS_region
 simp [wpOpsS, go_sem, recoverD, hu, Tryz.ntmps78, Exit.thenS]
 apply wpS_seq
 apply wpS_region
 simp [wpOpsS, go_sem, recoverD, hu, Tryz.ntmps78, Exit.thenS]
 refine wpS_cond (t := false) (by simp [Act.eval, Array.replicate]) ?_
 simp only [Bool.false_eq_true, if_false]
 refine wpS_of_wp (wp_skip ?_)
 cases c₀
 simp_all [bodyPostS, results, Tryz.results78]
theorem dec_res {tmps : Array Value} {w : World} {N : Nat} {x : Value} (hp : tmps.getD 2 undef = .pointer (some ⟨N, 0, none⟩)) (hk : Blk w N 39 #[x]) : (results Tryz.f35 tmps).run Tryz.prog w = .ok x w := by
 have h : Tryz.f35.results = #[.cell 2 39] := by kernel_rfl
 have hc : w.cell? ⟨N, 0, none⟩ = some x := hk.cell 0
 have h1 : (loadVar 39 ⟨N, 0, none⟩).run Tryz.prog w = .ok x w := by simp [go_sem, hc]
 have hp' : (tmps[2]?).getD undef = .pointer (some ⟨N, 0, none⟩) := by rw [← Array.getD_eq_getD_getElem?]; exact hp
 simp [results, h, hp', asAddr, h1]
def DecA (x : Int) (e : Ending) : Prop := e = .panicked (verd x) ∨ (e = .returned (.tuple #[]) ∧ x = 0)
theorem decided_any (F : FuncId) (cs : Array Value) (x : Int) (w : World) (hE : Enters Tryz.prog F) (h : ∀ W : World, Below w.heap.size w W → w.heap.size < W.heap.size → Calls Tryz.prog F cs W fun e w' => DecA x e ∧ Below W.heap.size W w') :
  Calls Tryz.prog 35 #[.func (.func F) #[] cs] w fun e w' => e = .returned (.int .i64 x) ∧ Below w.heap.size w w' := by
 have hEN : ∀ (args : Array Value) (w : World), (callFunc F args).run Tryz.prog w = .ok (.enter F args) w := hE
 have hb0 := (Below.refl w.heap.size w).alloc (Nat.le_refl _) (.cells #[.int .i64 0] 39)
 have hs0 : w.heap.size < (w.alloc (.cells #[.int .i64 0] 39)).heap.size := by simp
 have HC := hid (h _ hb0 hs0)
 have HK := hid (Blk.new w 39 #[.int .i64 0])
 have HB := hid hb0
 have HS := hid hs0
 clear h hE hb0 hs0
 go_enter_defers Tryz.func35, Tryz.ntmps35
 go_wp2_with fail
 refine HC.out.mono ?_
 rintro e w2 ⟨hx, hb2⟩
 have HK2 := hid (HK.out.below hb2 HS.out)
 have HB2 := hid (HB.out.trans (hb2.mono HB.out.size))
 clear hb2
 rcases hx with rfl | ⟨rfl, rfl⟩
 ·show Leaves _ _ _ _ _ _ _
  refine leaves_cons (f := 78) (args := #[.pointer (some ⟨w.heap.size, 0, none⟩)]) (by simp) (by simp [go_sem]) ?_
  refine (dec_pan w.heap.size _ x [] w2 HK2.out).mono ?_
  rintro e u' w' ⟨rfl, rfl, hk, hb⟩
  show ∃ v, (results Tryz.f35 #[.func (.func F) #[] cs, undef, .pointer (some ⟨w.heap.size, 0, none⟩), .func (.func 78) #[] #[.pointer (some ⟨w.heap.size, 0, none⟩)], .func (.func F) #[] cs, undef]).run Tryz.prog w' = .ok v w' ∧ _
  exact ⟨.int .i64 x, dec_res rfl hk, rfl, HB2.out.trans (hb _ (Nat.le_refl _))⟩
 ·have hc := HK2.out.cell 0
  have hf := HK2.out.frozen 0
  have HK3 := hid (HK2.out.set_ 0 (.int .i64 0))
  have HB3 := hid (HB2.out.setCell (p := ⟨w.heap.size, 0, none⟩) (Nat.le_refl _) (.int .i64 0))
  go_wp2_with fail
  show Leaves _ _ _ _ _ _ _
  refine leaves_cons (f := 78) (args := #[.pointer (some ⟨w.heap.size, 0, none⟩)]) (by simp) (by simp [go_sem]) ?_
  refine (dec_idle w.heap.size _).mono ?_
  rintro e u' w' ⟨rfl, rfl, rfl⟩
  show ∃ v, (results Tryz.f35 #[.func (.func F) #[] cs, undef, .pointer (some ⟨w.heap.size, 0, none⟩), .func (.func 78) #[] #[.pointer (some ⟨w.heap.size, 0, none⟩)], .func (.func F) #[] cs, .tuple #[]]).run Tryz.prog _ = .ok v _ ∧ _
  exact ⟨.int .i64 0, dec_res rfl HK3.out, rfl, HB3.out⟩
end Go.Proofs.YtacjhbbieeliaaaGreatDoor
/- The text Ke. -/
namespace Go.Proofs.YtacjhbbieeliaaaGreatDoor
open Go.RowKit Go.Lib
set_option linter.unusedVariables false
set_option linter.unusedSimpArgs false
def lvC (v : Co.Lv) (cu ck : Value) : List Value := [cu, ck, .int .i64 v.lu, .int .i64 v.lm, .int .i64 v.ls, .int .i64 v.li, .int .i64 v.lk, .int .i64 v.lb, .int .i64 v.lr]
def LvV (ok : Nat → Prop) (w : World) (X : List Value) (v : Co.Lv) : Prop := ∃ cu ck, X = lvC v cu ck ∧ SlcOf ok w cu v.users.length 2 (usrL v.users) ∧ SlcOf ok w ck v.kinds.length 2 (kndL v.kinds)
theorem LvV.keep {ok ok' : Nat → Prop} {w w' : World} {X : List Value} {v : Co.Lv} (h : LvV ok w X v) (hk : ∀ b, ok b → b < w.heap.size → ok' b ∧ w'.heap[b]? = w.heap[b]?) : LvV ok' w' X v := by
 obtain ⟨cu, ck, e, h1, h2⟩ := h
 exact ⟨cu, ck, e, h1.keep (by decide) hk, h2.keep (by decide) hk⟩
theorem LvV.bel {ok : Nat → Prop} {w w' : World} {X : List Value} {v : Co.Lv} (h : LvV ok w X v) (hb : Below w.heap.size w w') : LvV ok w' X v := h.keep fun b ho hlt => ⟨ho, hb.block b hlt⟩
theorem LvV.len {ok : Nat → Prop} {w : World} {X : List Value} {v : Co.Lv} (h : LvV ok w X v) : X.length = 9 := by obtain ⟨_, _, rfl, _⟩ := h; rfl
theorem LvV.one {ok : Nat → Prop} {w : World} {X : List Value} {v : Co.Lv} (h : LvV ok w X v) : ∀ u ∈ X, u.oneCell' = true := by
 obtain ⟨cu, ck, rfl, ⟨_, _, rfl, _⟩, ⟨_, _, rfl, _⟩⟩ := h
 intro u hu
 unfold lvC at hu
 simp only [List.mem_cons, List.not_mem_nil, or_false] at hu
 rcases hu with rfl | rfl | rfl | rfl | rfl | rfl | rfl | rfl | rfl <;> rfl
theorem size_lv : (Tryz.prog.info? 28).map (·.size) = some 9 := by kernel_rfl
theorem usrL_at {l : List (List UInt8 × Int)} {k j : Nat} {x : List UInt8 × Int} (hk : l[k]? = some x) (hj : j < 2) : (usrL l)[k * 2 + j]? = ([Value.string (bstr x.1), .int .i64 x.2])[j]? := pair_at (f := fun p : List UInt8 × Int => [Value.string (bstr p.1), .int .i64 p.2]) (fun _ => rfl) hk hj
theorem kndL_at {l : List (Int × Int)} {k j : Nat} {x : Int × Int} (hk : l[k]? = some x) (hj : j < 2) : (kndL l)[k * 2 + j]? = ([Value.int .i64 x.1, .int .i64 x.2])[j]? := pair_at (f := fun p : Int × Int => [Value.int .i64 p.1, .int .i64 p.2]) (fun _ => rfl) hk hj
def endOf {α : Type} (r : Option (α × Int)) (d : Int) : Int := match r with
 | some p => p.2
 | none => d
theorem state_any (k : Int) (w : World) : Calls Tryz.prog 54 #[.int .i64 k] w fun e w' => e = .returned (.bool (Co.stateK k)) ∧ w = w' := by
 by_cases h1 : 1 ≤ k
 ·by_cases h2 : k ≤ 10
  ·have HE : Hid (Co.stateK k = true) := hid (by simp [Co.stateK, h1, h2])
   have hd1 : decide (1 ≤ k) = true := decide_eq_true h1
   have hd2 : decide (k ≤ 10) = true := decide_eq_true h2
   go_enter Tryz.func54, Tryz.ntmps54
   go_wp2_with fail
   go_ret
   exact ⟨by rw [HE.out]; rfl, rfl⟩
  ·have HE : Hid (Co.stateK k = false) := hid (by simp [Co.stateK, h2])
   have hd1 : decide (1 ≤ k) = true := decide_eq_true h1
   have hd2 : decide (k ≤ 10) = false := decide_eq_false h2
   go_enter Tryz.func54, Tryz.ntmps54
   go_wp2_with fail
   go_ret
   exact ⟨by rw [HE.out]; rfl, rfl⟩
 ·have HE : Hid (Co.stateK k = false) := hid (by simp [Co.stateK, h1])
  have hd1 : decide (1 ≤ k) = false := decide_eq_false h1
  go_enter Tryz.func54, Tryz.ntmps54
  go_wp2_with fail
  go_ret
  exact ⟨by rw [HE.out]; rfl, rfl⟩
theorem lvuser_any (ok : Nat → Prop) (v : Co.Lv) (X : List Value) (u : List UInt8) (w : World) (h : LvV ok w X v) (hl : v.users.length ≤ 1000000) :
  Calls Tryz.prog 20 #[.agg X.toArray, .string (bstr u)] w fun e w' => e = .returned (.int .i64 (Co.userLv v u)) ∧ Below w.heap.size w w' := by
 obtain ⟨cu, ck, rfl, hu, hk⟩ := h
 have hb0 := (Below.refl w.heap.size w).alloc (Nat.le_refl _) (.cells (lvC v cu ck).toArray 28)
 have HU := hid (hu.keep (by decide) (fun b hb hlt => ⟨hb, hb0.block b hlt⟩))
 have HB0 := hid hb0
 have HKB := hid (Blk.new w 28 (lvC v cu ck).toArray)
 clear hu hk hb0
 obtain ⟨A, c, rfl, hrd, -⟩ := HU.out
 have HRD := hid hrd
 obtain ⟨R, hR⟩ : ∃ R, R = Co.userLv v u := ⟨_, rfl⟩
 have HR0 : Hid (R = endOf ((v.users.drop 0).find? (fun p : List UInt8 × Int => p.1 == u)) v.lu) := hid (by rw [hR, List.drop_zero]; unfold Co.userLv endOf; cases List.find? (fun p : List UInt8 × Int => p.1 == u) v.users <;> rfl)
 rw [← hR]
 clear hrd hR
 generalize hw1 : w.alloc (.cells (lvC v (.slice A v.users.length c) ck).toArray 28) = w1 at *
 have hc0 : w1.cell? ⟨w.heap.size, 0, none⟩ = some (.slice A v.users.length c) := HKB.out.cell 0
 go_enter Tryz.func20, Tryz.ntmps20
 go_wp2_with fail
 go_loopw [10] (fun ix wr => ∃ k : Nat, k ≤ v.users.length ∧ ix = .int .i64 (k : Int) ∧ Hid (R = endOf ((v.users.drop k).find? (fun p : List UInt8 × Int => p.1 == u)) v.lu) ∧ Below w1.heap.size w1 wr) (fun ix _ => v.users.length - (RowKit.intOf ix).toNat)
 case atStart => exact ⟨0, Nat.zero_le _, rfl, HR0, Below.refl _ _⟩
 case round =>
  obtain ⟨k, hk, rfl, HF, hb⟩ := hrel
  have HB := hid hb
  by_cases hlt : k < v.users.length
  ·obtain ⟨x, hx⟩ : ∃ x, v.users[k]? = some x := ⟨_, List.getElem?_eq_getElem hlt⟩
   have hrd := HRD.out.below hb
   have e0 := usrL_at hx (j := 0) (by decide)
   have e1 := usrL_at hx (j := 1) (by decide)
   obtain ⟨b, off, rfl, hx0⟩ := hrd.2 _ _ e0
   have hx1 : wr.cell? ⟨b, off + k * 2 + 1, none⟩ = some (.int .i64 x.2) := by
    obtain ⟨b', off', e, hx1⟩ := hrd.2 _ _ e1
    injection e with e
    injection e with e2 e3
    subst e2 e3
    exact hx1
   have hx0 : wr.cell? ⟨b, off + k * 2, none⟩ = some (.string (bstr x.1)) := hx0
   have HFD := hid (Co.find_drop (fun p : List UInt8 × Int => p.1 == u) v.users k x hx)
   have hwz := hb.size
   clear hb hrd e0 e1 hx
   by_cases hkx : x.1 = u
   ·have HRX : Hid (R = x.2) := hid (by rw [HF.out, HFD.out]; simp [hkx, endOf])
    have hse := str_dec x.1 (bstr u)
    rw [show (bstr u).data.toList = u from rfl, decide_eq_true hkx] at hse
    clear hkx
    go_wp2_with fail
    go_ret
    exact ⟨by rw [HRX.out]; rfl, HB0.out.trans ((HB.out.alloc HB.out.size _).mono HB0.out.size)⟩
   ·have HRX : Hid (R = endOf ((v.users.drop (k + 1)).find? (fun p : List UInt8 × Int => p.1 == u)) v.lu) := hid (by rw [HF.out, HFD.out]; simp [hkx])
    have hse := str_dec x.1 (bstr u)
    rw [show (bstr u).data.toList = u from rfl, decide_eq_false hkx] at hse
    clear hkx
    go_wp2_with fail
    go_roundw
    case rel => exact ⟨k + 1, hlt, by go_num, HRX, HB.out.alloc HB.out.size _⟩
    case measure => simp [RowKit.intOf]; omega
  ·obtain rfl : k = v.users.length := by omega
   have HRX : Hid (R = v.lu) := hid (by rw [HF.out, List.drop_length]; rfl)
   have hc2 : wr.cell? ⟨w.heap.size, 2, none⟩ = some (.int .i64 v.lu) := (hb.cell (p := ⟨w.heap.size, 2, none⟩) HKB.out.lt).trans (HKB.out.cell 2)
   clear hb
   go_wp2_with fail
   go_ret
   exact ⟨by rw [HRX.out]; rfl, HB0.out.trans (HB.out.mono HB0.out.size)⟩
theorem needs_any (ok : Nat → Prop) (v : Co.Lv) (X : List Value) (kk : Int) (w : World) (h : LvV ok w X v) (hl : v.kinds.length ≤ 1000000) :
  Calls Tryz.prog 21 #[.agg X.toArray, .int .i64 kk] w fun e w' => e = .returned (.int .i64 (Co.needs v kk)) ∧ Below w.heap.size w w' := by
 obtain ⟨cu, ck, rfl, hu, hk⟩ := h
 have hb0 := (Below.refl w.heap.size w).alloc (Nat.le_refl _) (.cells (lvC v cu ck).toArray 28)
 have HU := hid (hk.keep (by decide) (fun b hb hlt => ⟨hb, hb0.block b hlt⟩))
 have HB0 := hid hb0
 have HKB := hid (Blk.new w 28 (lvC v cu ck).toArray)
 clear hu hk hb0
 obtain ⟨A, c, rfl, hrd, -⟩ := HU.out
 have HRD := hid hrd
 obtain ⟨R, hR⟩ : ∃ R, R = Co.needs v kk := ⟨_, rfl⟩
 have HR0 : Hid (R = endOf ((v.kinds.drop 0).find? (fun p : Int × Int => p.1 == kk)) (if Co.stateK kk then v.ls else v.lm)) := hid (by rw [hR, List.drop_zero]; unfold Co.needs endOf; cases List.find? (fun p : Int × Int => p.1 == kk) v.kinds <;> rfl)
 rw [← hR]
 clear hrd hR
 generalize hw1 : w.alloc (.cells (lvC v cu (.slice A v.kinds.length c)).toArray 28) = w1 at *
 have hc0 : w1.cell? ⟨w.heap.size, 1, none⟩ = some (.slice A v.kinds.length c) := HKB.out.cell 1
 go_enter Tryz.func21, Tryz.ntmps21
 go_wp2_with fail
 go_loopw [10] (fun ix wr => ∃ k : Nat, k ≤ v.kinds.length ∧ ix = .int .i64 (k : Int) ∧ Hid (R = endOf ((v.kinds.drop k).find? (fun p : Int × Int => p.1 == kk)) (if Co.stateK kk then v.ls else v.lm)) ∧ Below w1.heap.size w1 wr) (fun ix _ => v.kinds.length - (RowKit.intOf ix).toNat)
 case atStart => exact ⟨0, Nat.zero_le _, rfl, HR0, Below.refl _ _⟩
 case round =>
  obtain ⟨k, hk, rfl, HF, hb⟩ := hrel
  have HB := hid hb
  by_cases hlt : k < v.kinds.length
  ·obtain ⟨x, hx⟩ : ∃ x, v.kinds[k]? = some x := ⟨_, List.getElem?_eq_getElem hlt⟩
   have hrd := HRD.out.below hb
   have e0 := kndL_at hx (j := 0) (by decide)
   have e1 := kndL_at hx (j := 1) (by decide)
   obtain ⟨b, off, rfl, hx0⟩ := hrd.2 _ _ e0
   have hx1 : wr.cell? ⟨b, off + k * 2 + 1, none⟩ = some (.int .i64 x.2) := by
    obtain ⟨b', off', e, hx1⟩ := hrd.2 _ _ e1
    injection e with e
    injection e with e2 e3
    subst e2 e3
    exact hx1
   have hx0 : wr.cell? ⟨b, off + k * 2, none⟩ = some (.int .i64 x.1) := hx0
   have HFD := hid (Co.find_drop (fun p : Int × Int => p.1 == kk) v.kinds k x hx)
   have hwz := hb.size
   clear hb hrd e0 e1 hx
   by_cases hkx : x.1 = kk
   ·have HRX : Hid (R = x.2) := hid (by rw [HF.out, HFD.out]; simp [hkx, endOf])
    have hkb : (x.1 == kk) = true := by rw [beq_iff_eq]; exact hkx
    clear hkx
    go_wp2_with fail
    go_ret
    exact ⟨by rw [HRX.out]; rfl, HB0.out.trans ((HB.out.alloc HB.out.size _).mono HB0.out.size)⟩
   ·have HRX : Hid (R = endOf ((v.kinds.drop (k + 1)).find? (fun p : Int × Int => p.1 == kk)) (if Co.stateK kk then v.ls else v.lm)) := hid (by rw [HF.out, HFD.out]; simp [hkx])
    have hkb : (x.1 == kk) = false := by rw [beq_eq_false_iff_ne]; exact hkx
    clear hkx
    go_wp2_with fail
    go_roundw
    case rel => exact ⟨k + 1, hlt, by go_num, HRX, HB.out.alloc HB.out.size _⟩
    case measure => simp [RowKit.intOf]; omega
  ·obtain rfl : k = v.kinds.length := by omega
   have HRX : Hid (R = (if Co.stateK kk then v.ls else v.lm)) := hid (by rw [HF.out, List.drop_length]; rfl)
   have HKBr := hid (HKB.out.below hb HKB.out.lt)
   have hc3 := HKBr.out.cell 3
   have hc4 := HKBr.out.cell 4
   simp only [lvC, List.getElem?_toArray, List.getElem?_cons_succ, List.getElem?_cons_zero] at hc3 hc4
   clear hb
   go_wp2_with fail
   refine (state_any kk _).mono ?_
   rintro e w2 ⟨rfl, rfl⟩
   cases hst : Co.stateK kk with
   | true =>
    rw [hst] at HRX
    go_wp2_with fail
    go_ret
    exact ⟨by rw [HRX.out]; rfl, HB0.out.trans (HB.out.mono HB0.out.size)⟩
   | false =>
    rw [hst] at HRX
    go_wp2_with fail
    go_ret
    exact ⟨by rw [HRX.out]; rfl, HB0.out.trans (HB.out.mono HB0.out.size)⟩
end Go.Proofs.YtacjhbbieeliaaaGreatDoor
