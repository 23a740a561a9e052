/- The texts Qa, Qb, Qc of this proof, one behind the other. -/
import Derived.Test.YtacjhbbieeliaaaGreatDoorMax
import Derived.Test.YtacjhbbieeliaaaGreatDoorMay
set_option linter.unusedSimpArgs false
set_option maxHeartbeats 16000000
set_option maxRecDepth 100000
/- The text Qa. -/
namespace Go.Proofs.YtacjhbbieeliaaaGreatDoor
open Go.RowKit Go.Lib
set_option linter.unusedVariables false
set_option linter.unusedSimpArgs false
theorem rfirst_any (ok : Nat → Prop) (l : List Co.Ev) (A : Option Addr) (cap : Nat) (kk : Int) (w : World) (h : EvRow ok w A l) (hl : l.length ≤ 1000000) :
  Calls Tryz.prog 57 #[.slice A l.length cap, .int .i64 kk] w fun e w' => e = .returned (.int .i64 (Co.idK l kk)) ∧ w = w' := by
 have HROW := hid h
 obtain ⟨R, hR⟩ : ∃ R, R = l.find? (Co.isKind kk) := ⟨_, rfl⟩
 have HR0 : Hid ((l.drop 0).find? (Co.isKind kk) = R) := hid (by rw [hR]; rfl)
 have HM : Hid (Co.idK l kk = (R.getD default).id) := hid (by rw [hR]; unfold Co.idK; cases l.find? (Co.isKind kk) <;> rfl)
 generalize Co.idK l kk = M at *
 clear h hR
 go_enter Tryz.func57, Tryz.ntmps57
 go_wp2_with fail
 go_loop [5] (fun ix => ∃ k : Nat, k ≤ l.length ∧ ix = .int .i64 (k : Int) ∧ Hid ((l.drop k).find? (Co.isKind kk) = R)) (fun ix => l.length - (RowKit.intOf ix).toNat)
 case atStart => exact ⟨0, Nat.zero_le _, rfl, HR0⟩
 case round =>
  obtain ⟨k, hk, rfl, HF⟩ := hrel
  by_cases hlt : k < l.length
  ·obtain ⟨x, b, off, X, hx, rfl, hok, hbl, hr, hv⟩ := HROW.out.at_ hlt
   have hrr : w.rangeAt b (off + k * 29) X := hr
   have hc0 : w.cell? ⟨b, off + k * 29, none⟩ = some (.int .i64 x.id) := by have := hrr 0 _ hv.c0; rwa [Nat.add_zero] at this
   have hc3 := hrr 3 _ hv.c3
   have HFD := hid (Co.find_drop (Co.isKind kk) l k x hx)
   have hcnt : k + 1 ≤ l.length := hlt
   clear hr hv hx hrr
   by_cases hkd : x.kind = kk
   ·have hkb : (x.kind == kk) = true := by rw [beq_iff_eq]; exact hkd
    have HRX : Hid (M = x.id) := hid (by rw [HM.out, ← HF.out, HFD.out]; simp [Co.isKind, hkd])
    clear hkd
    go_wp2_with fail
    go_ret
    exact ⟨ret_int HRX.out.symm, rfl⟩
   ·have hkb : (x.kind == kk) = false := by rw [beq_eq_false_iff_ne]; exact hkd
    have HRX : Hid ((l.drop (k + 1)).find? (Co.isKind kk) = R) := hid (by rw [← HF.out, HFD.out]; simp [Co.isKind, hkd])
    clear hkd
    go_wp2_with fail
    go_round
    case rel => exact ⟨k + 1, hlt, by go_num, HRX⟩
    case measure => simp [RowKit.intOf]; omega
  ·obtain rfl : k = l.length := by omega
   have HNIL : Hid (M = 0) := hid (by rw [HM.out, ← HF.out, List.drop_length]; rfl)
   go_wp2_with fail
   go_ret
   exact ⟨ret_int HNIL.out.symm, rfl⟩
theorem rmemid_any (ok : Nat → Prop) (l : List Co.Ev) (A : Option Addr) (cap : Nat) (u : List UInt8) (w : World) (h : EvRow ok w A l) (hl : l.length ≤ 1000000) :
  Calls Tryz.prog 63 #[.slice A l.length cap, .string (bstr u)] w fun e w' => e = .returned (.int .i64 (Co.idM l u)) ∧ w = w' := by
 have HROW := hid h
 obtain ⟨R, hR⟩ : ∃ R, R = l.find? (Co.isMem u) := ⟨_, rfl⟩
 have HR0 : Hid ((l.drop 0).find? (Co.isMem u) = R) := hid (by rw [hR]; rfl)
 have HM : Hid (Co.idM l u = (R.getD default).id) := hid (by rw [hR]; unfold Co.idM; cases l.find? (Co.isMem u) <;> rfl)
 generalize Co.idM l u = M at *
 clear h hR
 go_enter Tryz.func63, Tryz.ntmps63
 go_wp2_with fail
 go_loop [5] (fun ix => ∃ k : Nat, k ≤ l.length ∧ ix = .int .i64 (k : Int) ∧ Hid ((l.drop k).find? (Co.isMem u) = R)) (fun ix => l.length - (RowKit.intOf ix).toNat)
 case atStart => exact ⟨0, Nat.zero_le _, rfl, HR0⟩
 case round =>
  obtain ⟨k, hk, rfl, HF⟩ := hrel
  by_cases hlt : k < l.length
  ·obtain ⟨x, b, off, X, hx, rfl, hok, hbl, hr, hv⟩ := HROW.out.at_ hlt
   have hrr : w.rangeAt b (off + k * 29) X := hr
   have hc0 : w.cell? ⟨b, off + k * 29, none⟩ = some (.int .i64 x.id) := by have := hrr 0 _ hv.c0; rwa [Nat.add_zero] at this
   have hc3 := hrr 3 _ hv.c3
   have hc5 := hrr 5 _ hv.c5
   have HFD := hid (Co.find_drop (Co.isMem u) l k x hx)
   have hcnt : k + 1 ≤ l.length := hlt
   clear hr hv hx hrr
   by_cases hkd : x.kind = 2
   ·have hkb : (x.kind == 2) = true := by rw [beq_iff_eq]; exact hkd
    have hse := str_dec x.key (bstr u)
    by_cases hkx : x.key = u
    ·rw [show (bstr u).data.toList = u from rfl, decide_eq_true hkx] at hse
     have HRX : Hid (M = x.id) := hid (by rw [HM.out, ← HF.out, HFD.out]; simp [Co.isMem, hkd, hkx])
     clear hkd hkx
     go_wp2_with fail
     go_ret
     exact ⟨ret_int HRX.out.symm, rfl⟩
    ·rw [show (bstr u).data.toList = u from rfl, decide_eq_false hkx] at hse
     have HRX : Hid ((l.drop (k + 1)).find? (Co.isMem u) = R) := hid (by rw [← HF.out, HFD.out]; simp [Co.isMem, hkd, hkx])
     clear hkd hkx
     go_wp2_with fail
     go_round
     case rel => exact ⟨k + 1, hlt, by go_num, HRX⟩
     case measure => simp [RowKit.intOf]; omega
   ·have hkb : (x.kind == 2) = false := by rw [beq_eq_false_iff_ne]; exact hkd
    have HRX : Hid ((l.drop (k + 1)).find? (Co.isMem u) = R) := hid (by rw [← HF.out, HFD.out]; simp [Co.isMem, hkd])
    clear hkd
    go_wp2_with fail
    go_round
    case rel => exact ⟨k + 1, hlt, by go_num, HRX⟩
    case measure => simp [RowKit.intOf]; omega
  ·obtain rfl : k = l.length := by omega
   have HNIL : Hid (M = 0) := hid (by rw [HM.out, ← HF.out, List.drop_length]; rfl)
   go_wp2_with fail
   go_ret
   exact ⟨ret_int HNIL.out.symm, rfl⟩
end Go.Proofs.YtacjhbbieeliaaaGreatDoor
/- The text Qb. -/
namespace Go.Proofs.YtacjhbbieeliaaaGreatDoor
open Go.RowKit Go.Lib
set_option linter.unusedVariables false
set_option linter.unusedSimpArgs false
theorem nOf_eq (r : Option Co.Ev) : nOf r = match r with | some e => e.n | none => 0 := by cases r <;> rfl
theorem rmemof_any (ok : Nat → Prop) (l : List Co.Ev) (A : Option Addr) (cap : Nat) (u : List UInt8) (w : World) (h : EvRow ok w A l) (hl : l.length ≤ 1000000) :
  Calls Tryz.prog 64 #[.slice A l.length cap, .string (bstr u)] w fun e w' => e = .returned (.int .i64 (Co.memOf l u)) ∧ w = w' := by
 have HROW := hid h
 obtain ⟨R, hR⟩ : ∃ R, R = l.find? (Co.isMem u) := ⟨_, rfl⟩
 have HR0 : Hid ((l.drop 0).find? (Co.isMem u) = R) := hid (by rw [hR]; rfl)
 have HM : Hid (Co.memOf l u = nOf R) := hid (by rw [hR]; unfold Co.memOf; cases l.find? (Co.isMem u) <;> rfl)
 generalize Co.memOf l u = M at *
 clear h hR
 go_enter Tryz.func64, Tryz.ntmps64
 go_wp2_with fail
 go_loop [5] (fun ix => ∃ k : Nat, k ≤ l.length ∧ ix = .int .i64 (k : Int) ∧ Hid ((l.drop k).find? (Co.isMem u) = R)) (fun ix => l.length - (RowKit.intOf ix).toNat)
 case atStart => exact ⟨0, Nat.zero_le _, rfl, HR0⟩
 case round =>
  obtain ⟨k, hk, rfl, HF⟩ := hrel
  by_cases hlt : k < l.length
  ·obtain ⟨x, b, off, X, hx, rfl, hok, hbl, hr, hv⟩ := HROW.out.at_ hlt
   have hrr : w.rangeAt b (off + k * 29) X := hr
   have hc3 := hrr 3 _ hv.c3
   have hc5 := hrr 5 _ hv.c5
   have hc11 := hrr 11 _ hv.c11
   have HFD := hid (Co.find_drop (Co.isMem u) l k x hx)
   have hcnt : k + 1 ≤ l.length := hlt
   clear hr hv hx hrr
   by_cases hkd : x.kind = 2
   ·have hkb : (x.kind == 2) = true := by rw [beq_iff_eq]; exact hkd
    have hse := str_dec x.key (bstr u)
    by_cases hkx : x.key = u
    ·rw [show (bstr u).data.toList = u from rfl, decide_eq_true hkx] at hse
     have HRX : Hid (M = x.n) := hid (by rw [HM.out, ← HF.out, HFD.out]; simp [Co.isMem, hkd, hkx, nOf])
     clear hkd hkx
     go_wp2_with fail
     go_ret
     exact ⟨ret_int HRX.out.symm, rfl⟩
    ·rw [show (bstr u).data.toList = u from rfl, decide_eq_false hkx] at hse
     have HRX : Hid ((l.drop (k + 1)).find? (Co.isMem u) = R) := hid (by rw [← HF.out, HFD.out]; simp [Co.isMem, hkd, hkx, nOf])
     clear hkd hkx
     go_wp2_with fail
     go_round
     case rel => exact ⟨k + 1, hlt, by go_num, HRX⟩
     case measure => simp [RowKit.intOf]; omega
   ·have hkb : (x.kind == 2) = false := by rw [beq_eq_false_iff_ne]; exact hkd
    have HRX : Hid ((l.drop (k + 1)).find? (Co.isMem u) = R) := hid (by rw [← HF.out, HFD.out]; simp [Co.isMem, hkd])
    clear hkd
    go_wp2_with fail
    go_round
    case rel => exact ⟨k + 1, hlt, by go_num, HRX⟩
    case measure => simp [RowKit.intOf]; omega
  ·obtain rfl : k = l.length := by omega
   have HNIL : Hid (M = 0) := hid (by rw [HM.out, ← HF.out, List.drop_length]; rfl)
   go_wp2_with fail
   go_ret
   exact ⟨ret_int HNIL.out.symm, rfl⟩
theorem rhas_any (ok : Nat → Prop) (l : List Co.Ev) (A : Option Addr) (cap : Nat) (u : List UInt8) (w : World) (h : EvRow ok w A l) (hl : l.length ≤ 1000000) :
  Calls Tryz.prog 123 #[.slice A l.length cap, .string (bstr u)] w fun e w' => e = .returned (.bool (l.find? (Co.isMem u)).isSome) ∧ w = w' := by
 have HROW := hid h
 obtain ⟨R, hR⟩ : ∃ R, R = l.find? (Co.isMem u) := ⟨_, rfl⟩
 have HR0 : Hid ((l.drop 0).find? (Co.isMem u) = R) := hid (by rw [hR]; rfl)
 rw [← hR]
 clear h hR
 go_enter Tryz.func123, Tryz.ntmps123
 go_wp2_with fail
 go_loop [5] (fun ix => ∃ k : Nat, k ≤ l.length ∧ ix = .int .i64 (k : Int) ∧ Hid ((l.drop k).find? (Co.isMem u) = R)) (fun ix => l.length - (RowKit.intOf ix).toNat)
 case atStart => exact ⟨0, Nat.zero_le _, rfl, HR0⟩
 case round =>
  obtain ⟨k, hk, rfl, HF⟩ := hrel
  by_cases hlt : k < l.length
  ·obtain ⟨x, b, off, X, hx, rfl, hok, hbl, hr, hv⟩ := HROW.out.at_ hlt
   have hrr : w.rangeAt b (off + k * 29) X := hr
   have hc0 : w.cell? ⟨b, off + k * 29, none⟩ = some (.int .i64 x.id) := by have := hrr 0 _ hv.c0; rwa [Nat.add_zero] at this
   have hc3 := hrr 3 _ hv.c3
   have hc5 := hrr 5 _ hv.c5
   have HFD := hid (Co.find_drop (Co.isMem u) l k x hx)
   have hcnt : k + 1 ≤ l.length := hlt
   clear hr hv hx hrr
   by_cases hkd : x.kind = 2
   ·have hkb : (x.kind == 2) = true := by rw [beq_iff_eq]; exact hkd
    have hse := str_dec x.key (bstr u)
    by_cases hkx : x.key = u
    ·rw [show (bstr u).data.toList = u from rfl, decide_eq_true hkx] at hse
     have HRX : Hid (R.isSome = true) := hid (by rw [← HF.out, HFD.out]; simp [Co.isMem, hkd, hkx])
     clear hkd hkx
     go_wp2_with fail
     go_ret
     exact ⟨ret_bool HRX.out.symm, rfl⟩
    ·rw [show (bstr u).data.toList = u from rfl, decide_eq_false hkx] at hse
     have HRX : Hid ((l.drop (k + 1)).find? (Co.isMem u) = R) := hid (by rw [← HF.out, HFD.out]; simp [Co.isMem, hkd, hkx])
     clear hkd hkx
     go_wp2_with fail
     go_round
     case rel => exact ⟨k + 1, hlt, by go_num, HRX⟩
     case measure => simp [RowKit.intOf]; omega
   ·have hkb : (x.kind == 2) = false := by rw [beq_eq_false_iff_ne]; exact hkd
    have HRX : Hid ((l.drop (k + 1)).find? (Co.isMem u) = R) := hid (by rw [← HF.out, HFD.out]; simp [Co.isMem, hkd])
    clear hkd
    go_wp2_with fail
    go_round
    case rel => exact ⟨k + 1, hlt, by go_num, HRX⟩
    case measure => simp [RowKit.intOf]; omega
  ·obtain rfl : k = l.length := by omega
   have HNIL : Hid (R.isSome = false) := hid (by rw [← HF.out, List.drop_length]; rfl)
   go_wp2_with fail
   go_ret
   exact ⟨ret_bool HNIL.out.symm, rfl⟩
theorem rcreation_any (ok : Nat → Prop) (l : List Co.Ev) (A : Option Addr) (cap : Nat) (w : World) (h : EvRow ok w A l) (hl : l.length ≤ 1000000) :
  Calls Tryz.prog 58 #[.slice A l.length cap] w fun e w' => FoundA ok (Co.createOf l) e w' ∧ Below w.heap.size w w' := by
 have hb0 := (Below.refl w.heap.size w).alloc (Nat.le_refl _) (.cells zEv 34)
 have HROW := hid h
 have HB0 := hid hb0
 have HKZ := hid (Blk.new w 34 zEv)
 obtain ⟨R, hR⟩ : ∃ R, R = l.find? (Co.isKind 1) := ⟨_, rfl⟩
 have HR0 : Hid ((l.drop 0).find? (Co.isKind 1) = R) := hid (by rw [hR]; rfl)
 rw [show Co.createOf l = R from hR.symm]
 clear h hR hb0
 generalize hw1 : w.alloc (.cells zEv 34) = w1 at *
 go_enter Tryz.func58, Tryz.ntmps58
 go_wp2_with fail
 go_loop [4] (fun ix => ∃ k : Nat, k ≤ l.length ∧ ix = .int .i64 (k : Int) ∧ Hid ((l.drop k).find? (Co.isKind 1) = R)) (fun ix => l.length - (RowKit.intOf ix).toNat)
 case atStart => exact ⟨0, Nat.zero_le _, rfl, HR0⟩
 case round =>
  obtain ⟨k, hk, rfl, HF⟩ := hrel
  by_cases hlt : k < l.length
  ·obtain ⟨x, b, off, X, hx, rfl, hok, hbl, hr, hv⟩ := HROW.out.at_ hlt
   have hrr : w1.rangeAt b (off + k * 29) X := range_keep hr (HB0.out.block b hbl)
   have HV := hid hv
   have hone := EvS.all hv
   have HL2 := hid (size_evL hv)
   have HL3 := hid (size_evA hv)
   have HSZ : Hid (zEv.size = X.toArray.size) := hid (by show 29 = X.toArray.size; rw [List.size_toArray, hv.len])
   have hc3 := hrr 3 _ hv.c3
   have HFD := hid (Co.find_drop (Co.isKind 1) l k x hx)
   have hcnt : k + 1 ≤ l.length := hlt
   clear hr hv hx
   by_cases hkd : x.kind = 1
   ·have HRX : Hid (R = some x) := hid (by rw [← HF.out, HFD.out]; simp [Co.isKind, hkd])
    have hkb : (x.kind == 1) = true := by rw [beq_iff_eq]; exact hkd
    clear hkd
    go_wp2_with (first
      | ((with_reducible refine wpList_load_mid rfl 34 _ rfl b (off + k * 29) ?_ X _ hrr Tryz.underlying34 ?_ HL2.out ?_); rfl; rfl)
      | ((with_reducible refine store_rowe rfl 34 _ _ rfl w.heap.size X.toArray ?_ ?_ 34 zEv HKZ.out HL3.out ?_ hone ?_); rfl; rfl; exact HSZ.out))
    have hbf := below_setRow HB0.out (Nat.le_refl _) X.toArray
    refine bodyPost_ret (results_row_tmp rfl _ _ w.heap.size _ _ _ rfl (setRow_heap _ _ _ _ _ _ HKZ.out) Tryz.underlying34 rfl HL3.out) rfl ⟨⟨X.toArray, by rw [HRX.out]; rfl, by rw [HRX.out]; exact HV.out.bel hbf⟩, hbf⟩
   ·have HRX : Hid ((l.drop (k + 1)).find? (Co.isKind 1) = R) := hid (by rw [← HF.out, HFD.out]; simp [Co.isKind, hkd])
    have hkb : (x.kind == 1) = false := by rw [beq_eq_false_iff_ne]; exact hkd
    clear hkd
    go_wp2_with fail
    go_round
    case rel => exact ⟨k + 1, hlt, by go_num, HRX⟩
    case measure => simp [RowKit.intOf]; omega
  ·obtain rfl : k = l.length := by omega
   have HNIL : Hid (R = none) := hid (by rw [← HF.out, List.drop_length]; rfl)
   go_wp2_with ((with_reducible refine store_rowe rfl 34 _ _ rfl w.heap.size zEv ?_ ?_ 34 zEv HKZ.out size_zev ?_ (by kernel_rfl) ?_); rfl; rfl; rfl)
   refine bodyPost_ret (results_row_tmp rfl _ _ w.heap.size _ _ _ rfl (setRow_heap _ _ _ _ _ _ HKZ.out) Tryz.underlying34 rfl size_zev) rfl ⟨⟨zEv, by rw [HNIL.out]; rfl, by rw [HNIL.out]; exact zev_evV⟩, below_setRow HB0.out (Nat.le_refl _) _⟩
theorem rstate_any (k : Int) (w : World) : Calls Tryz.prog 95 #[.int .i64 k] w fun e w' => e = .returned (.bool (Co.stateK k)) ∧ w = w' := by
 by_cases h1 : 1 ≤ k
 ·by_cases h2 : k ≤ 10
  ·have HE : Hid (Co.stateK k = true) := hid (by simp [Co.stateK, h1, h2])
   have hd1 : decide (1 ≤ k) = true := decide_eq_true h1
   have hd2 : decide (k ≤ 10) = true := decide_eq_true h2
   go_enter Tryz.func95, Tryz.ntmps95
   go_wp2_with fail
   go_ret
   exact ⟨by rw [HE.out]; rfl, rfl⟩
  ·have HE : Hid (Co.stateK k = false) := hid (by simp [Co.stateK, h2])
   have hd1 : decide (1 ≤ k) = true := decide_eq_true h1
   have hd2 : decide (k ≤ 10) = false := decide_eq_false h2
   go_enter Tryz.func95, Tryz.ntmps95
   go_wp2_with fail
   go_ret
   exact ⟨by rw [HE.out]; rfl, rfl⟩
 ·have HE : Hid (Co.stateK k = false) := hid (by simp [Co.stateK, h1])
  have hd1 : decide (1 ≤ k) = false := decide_eq_false h1
  go_enter Tryz.func95, Tryz.ntmps95
  go_wp2_with fail
  go_ret
  exact ⟨by rw [HE.out]; rfl, rfl⟩
theorem rdefault_any (c : List UInt8) (w : World) : Calls Tryz.prog 94 #[.string (bstr c)] w fun e w' => DefA c w.heap.size e w' ∧ Below w.heap.size w w' := by
 have HD : Hid ((bstr c).toList = c) := hid (Lib.toList_data _)
 have hr := (Blk.new w 28 zLv).alloc (.cells #[.slice none 0 0, .slice none 0 0, .int .i64 0, .int .i64 0, .int .i64 0, .int .i64 0, .int .i64 50, .int .i64 50, .int .i64 50] 28)
 have hk := Blk.new (w.alloc (.cells zLv 28)) 28 #[.slice none 0 0, .slice none 0 0, .int .i64 0, .int .i64 0, .int .i64 0, .int .i64 0, .int .i64 50, .int .i64 50, .int .i64 50]
 rw [World.size_alloc] at hk
 have hb := ((Below.refl w.heap.size w).alloc (Nat.le_refl _) (.cells zLv 28)).alloc (by rw [World.size_alloc]; omega) (.cells #[.slice none 0 0, .slice none 0 0, .int .i64 0, .int .i64 0, .int .i64 0, .int .i64 0, .int .i64 50, .int .i64 50, .int .i64 50] 28)
 have HR := hid hr
 have HK := hid hk
 have HB := hid hb
 clear hr hk hb
 cases hc : c with
 | nil =>
  have he : (bstr ([] : List UInt8)).toList.isEmpty = true := by rw [Lib.toList_data]; rfl
  clear hc
  go_enter Tryz.func94, Tryz.ntmps94
  go_wp2_with (first
   | (refine wpList_load_row rfl 28 _ rfl (w.heap.size + 1) rfl 28 #[.slice none 0 0, .slice none 0 0, .int .i64 0, .int .i64 0, .int .i64 0, .int .i64 0, .int .i64 50, .int .i64 50, .int .i64 50] (0, 0) _ HK.out Tryz.underlying28 rfl size_lvA ?_)
   | ((with_reducible refine store_rowe rfl 28 _ _ rfl w.heap.size #[.slice none 0 0, .slice none 0 0, .int .i64 0, .int .i64 0, .int .i64 0, .int .i64 0, .int .i64 50, .int .i64 50, .int .i64 50] ?_ ?_ 28 zLv HR.out size_lvA ?_ (by simp [Value.oneCell']) ?_); rfl; rfl; rfl))
  exact bodyPost_ret (results_cell_row rfl _ _ w.heap.size 28 _ (0, 0) _ rfl (setRow_heap _ _ _ _ _ _ HR.out) Tryz.underlying28 rfl size_lvA) rfl ⟨⟨lvC (Co.lvDefault []) (.slice none 0 0) (.slice none 0 0), rfl, ⟨_, _, rfl, SlcOf.nil .., SlcOf.nil ..⟩⟩, below_setRow HB.out (Nat.le_refl _) _⟩
 | cons x r =>
  have he : (bstr (x :: r)).toList.isEmpty = false := by rw [Lib.toList_data]; rfl
  rw [hc] at HD
  clear hc
  generalize hbs : bstr (x :: r) = S at *
  have HBS := hid hbs
  clear hbs
  have hk2 := HK.out.cell 0
  have hf2 := HK.out.frozen 0
  go_enter Tryz.func94, Tryz.ntmps94
  go_wp2_with fail
  have hk3 := ((Blk.new w 28 #[.slice (some ⟨w.heap.size + 1 + 1, 0, none⟩) 1 1, .slice none 0 0, .int .i64 0, .int .i64 0, .int .i64 0, .int .i64 0, .int .i64 50, .int .i64 50, .int .i64 50]).alloc (.cells #[.slice (some ⟨w.heap.size + 1 + 1, 0, none⟩) 1 1, .slice none 0 0, .int .i64 0, .int .i64 0, .int .i64 0, .int .i64 0, .int .i64 50, .int .i64 50, .int .i64 50] 28)).alloc (.cells #[.string S, .int .i64 100] 49)
  have hk5 := Blk.new ((w.alloc (.cells #[.slice (some ⟨w.heap.size + 1 + 1, 0, none⟩) 1 1, .slice none 0 0, .int .i64 0, .int .i64 0, .int .i64 0, .int .i64 0, .int .i64 50, .int .i64 50, .int .i64 50] 28)).alloc (.cells #[.slice (some ⟨w.heap.size + 1 + 1, 0, none⟩) 1 1, .slice none 0 0, .int .i64 0, .int .i64 0, .int .i64 0, .int .i64 0, .int .i64 50, .int .i64 50, .int .i64 50] 28)) 49 #[.string S, .int .i64 100]
  rw [World.size_alloc, World.size_alloc] at hk5
  have hb3 := (((Below.refl w.heap.size w).alloc (Nat.le_refl _) (.cells #[.slice (some ⟨w.heap.size + 1 + 1, 0, none⟩) 1 1, .slice none 0 0, .int .i64 0, .int .i64 0, .int .i64 0, .int .i64 0, .int .i64 50, .int .i64 50, .int .i64 50] 28)).alloc (by rw [World.size_alloc]; omega) (.cells #[.slice (some ⟨w.heap.size + 1 + 1, 0, none⟩) 1 1, .slice none 0 0, .int .i64 0, .int .i64 0, .int .i64 0, .int .i64 0, .int .i64 50, .int .i64 50, .int .i64 50] 28)).alloc (by rw [World.size_alloc, World.size_alloc]; omega) (.cells #[.string S, .int .i64 100] 49)
  refine bodyPost_ret (results_cell_row rfl _ _ w.heap.size 28 _ (0, 0) _ rfl hk3 Tryz.underlying28 rfl size_lvA) rfl ⟨⟨lvC (Co.lvDefault (x :: r)) (.slice (some ⟨w.heap.size + 1 + 1, 0, none⟩) 1 1) (.slice none 0 0), rfl, ⟨_, _, rfl, ⟨_, _, rfl, ?_, fun _ a ha => ?_⟩, SlcOf.nil ..⟩⟩, hb3⟩
  ·show Rd _ _ (1 * 2) [.string (bstr (x :: r)), .int .i64 100]
   rw [HBS.out]
   exact Rd.of_blk (vs := [.string S, .int .i64 100]) hk5
  ·injection ha with ha
   subst ha
   show w.heap.size ≤ w.heap.size + 1 + 1
   omega
theorem rjoin_any (a b : Int) (w : World) : Calls Tryz.prog 92 #[.int .i64 a, .int .i64 b] w fun e w' => e = .returned (.int .i64 (Co.joinE a b)) ∧ w' = w := by
 obtain ⟨R, hR⟩ : ∃ R, R = Co.joinE a b := ⟨_, rfl⟩
 have HR : Hid (R = if b = 3 ∨ a = 1 ∨ (b = 1 ∧ (a = 0 ∨ a = 2 ∨ a = 3)) then 0 else 21) := hid hR
 rw [← hR]
 clear hR
 by_cases h3 : b = 3
 ·have e3 := eqb_true h3
  have HE : Hid (R = 0) := hid (by rw [HR.out, if_pos (.inl h3)])
  clear h3
  go_enter Tryz.func92, Tryz.ntmps92
  go_wp2_with fail
  go_ret
  exact ⟨ret_int HE.out.symm, rfl⟩
 have e3 := eqb_false h3
 by_cases a1 : a = 1
 ·have f1 := eqb_true a1
  have HE : Hid (R = 0) := hid (by rw [HR.out, if_pos (.inr (.inl a1))])
  subst a1
  clear h3
  go_enter Tryz.func92, Tryz.ntmps92
  go_wp2_with fail
  go_ret
  exact ⟨ret_int HE.out.symm, rfl⟩
 by_cases b1 : b = 1
 ·have e1 := eqb_true b1
  by_cases ha : a = 0 ∨ a = 2 ∨ a = 3
  ·have HE : Hid (R = 0) := hid (by rw [HR.out, if_pos (.inr (.inr ⟨b1, ha⟩))])
   clear h3 a1
   subst b1
   rcases ha with rfl | rfl | rfl
   all_goals
    go_enter Tryz.func92, Tryz.ntmps92
    go_wp2_with fail
    go_ret
    exact ⟨ret_int HE.out.symm, rfl⟩
  ·have HE : Hid (R = 21) := hid (by rw [HR.out, if_neg (by rintro (h | h | ⟨_, h⟩); exact h3 h; exact a1 h; exact ha h)])
   have f0 := eqb_false (a := a) (b := 0) (fun h => ha (.inl h))
   have f1 := eqb_false (a := a) (b := 1) a1
   have f2 := eqb_false (a := a) (b := 2) (fun h => ha (.inr (.inl h)))
   have f3 := eqb_false (a := a) (b := 3) (fun h => ha (.inr (.inr h)))
   clear h3 a1 ha b1
   go_enter Tryz.func92, Tryz.ntmps92
   go_wp2_with fail
   go_ret
   exact ⟨ret_int HE.out.symm, rfl⟩
 ·have e1 := eqb_false b1
  have HE : Hid (R = 21) := hid (by rw [HR.out, if_neg (by rintro (h | h | ⟨h, _⟩); exact h3 h; exact a1 h; exact b1 h)])
  by_cases ha : a = 0 ∨ a = 2 ∨ a = 3
  ·clear h3 a1 b1
   rcases ha with rfl | rfl | rfl
   all_goals
    go_enter Tryz.func92, Tryz.ntmps92
    go_wp2_with fail
    go_ret
    exact ⟨ret_int HE.out.symm, rfl⟩
  ·have f0 := eqb_false (a := a) (b := 0) (fun h => ha (.inl h))
   have f1 := eqb_false (a := a) (b := 1) a1
   have f2 := eqb_false (a := a) (b := 2) (fun h => ha (.inr (.inl h)))
   have f3 := eqb_false (a := a) (b := 3) (fun h => ha (.inr (.inr h)))
   clear h3 a1 ha b1
   go_enter Tryz.func92, Tryz.ntmps92
   go_wp2_with fail
   go_ret
   exact ⟨ret_int HE.out.symm, rfl⟩
theorem rknock_any (a b : Int) (w : World) : Calls Tryz.prog 93 #[.int .i64 a, .int .i64 b] w fun e w' => e = .returned (.int .i64 (Co.knockE a b)) ∧ w' = w := by
 obtain ⟨R, hR⟩ : ∃ R, R = Co.knockE a b := ⟨_, rfl⟩
 have HR : Hid (R = if a = 2 ∧ (b = 0 ∨ b = 2) then 0 else 21) := hid hR
 rw [← hR]
 clear hR
 by_cases a2 : a = 2
 ·subst a2
  by_cases hb : b = 0 ∨ b = 2
  ·have HE : Hid (R = 0) := hid (by rw [HR.out, if_pos ⟨rfl, hb⟩])
   rcases hb with rfl | rfl
   all_goals
    go_enter Tryz.func93, Tryz.ntmps93
    go_wp2_with fail
    go_ret
    exact ⟨ret_int HE.out.symm, rfl⟩
  ·have HE : Hid (R = 21) := hid (by rw [HR.out, if_neg (fun h => hb h.2)])
   have f0 := eqb_false (a := b) (b := 0) (fun h => hb (.inl h))
   have f2 := eqb_false (a := b) (b := 2) (fun h => hb (.inr h))
   clear hb
   go_enter Tryz.func93, Tryz.ntmps93
   go_wp2_with fail
   go_ret
   exact ⟨ret_int HE.out.symm, rfl⟩
 ·have HE : Hid (R = 21) := hid (by rw [HR.out, if_neg (fun h => a2 h.1)])
  have f2 : (a == 2) = false := eqb_false a2
  clear a2
  go_enter Tryz.func93, Tryz.ntmps93
  go_wp2_with fail
  go_ret
  exact ⟨ret_int HE.out.symm, rfl⟩
theorem rmay_any (was is own : Int) (w : World) : Calls Tryz.prog 97 #[.int .i64 was, .int .i64 is, .int .i64 own] w fun e w' => e = .returned (.bool (!(Co.barred own was is))) ∧ w' = w := by
 obtain ⟨R, hR⟩ : ∃ R, R = !(Co.barred own was is) := ⟨_, rfl⟩
 have HR : Hid (R = !(was != is && (decide (own < was) || decide (own < is)))) := hid hR
 rw [← hR]
 clear hR
 by_cases h0 : was = is
 ·have HE : Hid (R = true) := hid (by rw [HR.out, h0]; simp)
  subst h0
  have e0 : (was == was) = true := by simp
  go_enter Tryz.func97, Tryz.ntmps97
  go_wp2_with fail
  go_ret
  exact ⟨ret_bool HE.out.symm, rfl⟩
 ·have e0 := eqb_false h0
  by_cases h1 : was ≤ own
  ·have d1 : decide (was ≤ own) = true := decide_eq_true h1
   by_cases h2 : is ≤ own
   ·have d2 : decide (is ≤ own) = true := decide_eq_true h2
    have HE : Hid (R = true) := hid (by rw [HR.out, show decide (own < was) = false from decide_eq_false (by omega), show decide (own < is) = false from decide_eq_false (by omega)]; simp)
    clear h0
    go_enter Tryz.func97, Tryz.ntmps97
    go_wp2_with fail
    go_ret
    exact ⟨ret_bool HE.out.symm, rfl⟩
   ·have d2 : decide (is ≤ own) = false := decide_eq_false h2
    have HE : Hid (R = false) := hid (by rw [HR.out, show decide (own < is) = true from decide_eq_true (by omega), show (was != is) = true from neb_true h0]; simp)
    clear h0
    go_enter Tryz.func97, Tryz.ntmps97
    go_wp2_with fail
    go_ret
    exact ⟨ret_bool HE.out.symm, rfl⟩
  ·have d1 : decide (was ≤ own) = false := decide_eq_false h1
   have HE : Hid (R = false) := hid (by rw [HR.out, show decide (own < was) = true from decide_eq_true (by omega), show (was != is) = true from neb_true h0]; simp)
   clear h0
   go_enter Tryz.func97, Tryz.ntmps97
   go_wp2_with fail
   go_ret
   exact ⟨ret_bool HE.out.symm, rfl⟩
theorem rask_any (s : ByteArray) (id : Int) (broken : Bool) (err : Int) (w : World) : Calls Tryz.prog 59 #[.string s, .int .i64 id, .bool broken, .int .i64 err] w fun e w' => e = .returned (.agg #[.string s, .int .i64 id, .int .i64 (if broken then err else 0), .slice none 0 0]) ∧ Below w.heap.size w w' := by
 have HK := hid (Blk.new w 42 zRn)
 have HB := hid ((Below.refl w.heap.size w).alloc (Nat.le_refl _) (.cells zRn 42))
 cases broken
 ·go_enter Tryz.func59, Tryz.ntmps59
  go_wp2_with ((with_reducible refine store_rowb rfl 42 _ _ rfl w.heap.size #[.string s, .int .i64 id, .int .i64 0, .slice none 0 0] ?_ ?_ 42 zRn HK.out size_rn ?_ (by simp [Value.oneCell']) ?_); rfl; rfl; rfl)
  exact bodyPost_ret (results_cell_row rfl _ _ w.heap.size 42 _ (0, 0) _ rfl (setRow_heap _ _ _ _ _ _ HK.out) Tryz.underlying42 rfl size_rn) rfl ⟨rfl, below_setRow HB.out (Nat.le_refl _) _⟩
 ·go_enter Tryz.func59, Tryz.ntmps59
  go_wp2_with ((with_reducible refine store_rowb rfl 42 _ _ rfl w.heap.size #[.string s, .int .i64 id, .int .i64 err, .slice none 0 0] ?_ ?_ 42 zRn HK.out size_rn ?_ (by simp [Value.oneCell']) ?_); rfl; rfl; rfl)
  exact bodyPost_ret (results_cell_row rfl _ _ w.heap.size 42 _ (0, 0) _ rfl (setRow_heap _ _ _ _ _ _ HK.out) Tryz.underlying42 rfl size_rn) rfl ⟨rfl, below_setRow HB.out (Nat.le_refl _) _⟩
theorem rmove_0 (b : Int) (self : Bool) (w : World) (h : b = 0 ∨ b = 1 ∨ b = 2 ∨ b = 3 ∨ b = 4) : Calls Tryz.prog 90 #[.int .i64 0, .int .i64 b, .bool self] w fun e w' => e = .returned (.bool (Co.move 0 b self)) ∧ w' = w := by
 rcases h with rfl | rfl | rfl | rfl | rfl
 all_goals
  cases self
 all_goals
  go_enter Tryz.func90, Tryz.ntmps90
  go_wp2_with fail
  go_ret
  exact ⟨ret_bool (by kernel_rfl), rfl⟩
theorem rmove_1 (b : Int) (self : Bool) (w : World) (h : b = 0 ∨ b = 1 ∨ b = 2 ∨ b = 3 ∨ b = 4) : Calls Tryz.prog 90 #[.int .i64 1, .int .i64 b, .bool self] w fun e w' => e = .returned (.bool (Co.move 1 b self)) ∧ w' = w := by
 rcases h with rfl | rfl | rfl | rfl | rfl
 all_goals
  cases self
 all_goals
  go_enter Tryz.func90, Tryz.ntmps90
  go_wp2_with fail
  go_ret
  exact ⟨ret_bool (by kernel_rfl), rfl⟩
theorem rmove_2 (b : Int) (self : Bool) (w : World) (h : b = 0 ∨ b = 1 ∨ b = 2 ∨ b = 3 ∨ b = 4) : Calls Tryz.prog 90 #[.int .i64 2, .int .i64 b, .bool self] w fun e w' => e = .returned (.bool (Co.move 2 b self)) ∧ w' = w := by
 rcases h with rfl | rfl | rfl | rfl | rfl
 all_goals
  cases self
 all_goals
  go_enter Tryz.func90, Tryz.ntmps90
  go_wp2_with fail
  go_ret
  exact ⟨ret_bool (by kernel_rfl), rfl⟩
theorem rmove_3 (b : Int) (self : Bool) (w : World) (h : b = 0 ∨ b = 1 ∨ b = 2 ∨ b = 3 ∨ b = 4) : Calls Tryz.prog 90 #[.int .i64 3, .int .i64 b, .bool self] w fun e w' => e = .returned (.bool (Co.move 3 b self)) ∧ w' = w := by
 rcases h with rfl | rfl | rfl | rfl | rfl
 all_goals
  cases self
 all_goals
  go_enter Tryz.func90, Tryz.ntmps90
  go_wp2_with fail
  go_ret
  exact ⟨ret_bool (by kernel_rfl), rfl⟩
theorem rmove_4 (b : Int) (self : Bool) (w : World) (h : b = 0 ∨ b = 1 ∨ b = 2 ∨ b = 3 ∨ b = 4) : Calls Tryz.prog 90 #[.int .i64 4, .int .i64 b, .bool self] w fun e w' => e = .returned (.bool (Co.move 4 b self)) ∧ w' = w := by
 rcases h with rfl | rfl | rfl | rfl | rfl
 all_goals
  cases self
 all_goals
  go_enter Tryz.func90, Tryz.ntmps90
  go_wp2_with fail
  go_ret
  exact ⟨ret_bool (by kernel_rfl), rfl⟩
theorem rmove_out (a b : Int) (self : Bool) (w : World) (h : a < 0 ∨ 4 < a ∨ b < 0 ∨ 4 < b) : Calls Tryz.prog 90 #[.int .i64 a, .int .i64 b, .bool self] w fun e w' => e = .returned (.bool false) ∧ w' = w := by
 by_cases h1 : a < 0
 ·go_enter Tryz.func90, Tryz.ntmps90
  go_wp2_with fail
  go_ret
  exact ⟨rfl, rfl⟩
 by_cases h2 : 4 < a
 ·go_enter Tryz.func90, Tryz.ntmps90
  go_wp2_with fail
  go_ret
  exact ⟨rfl, rfl⟩
 by_cases h3 : b < 0
 ·go_enter Tryz.func90, Tryz.ntmps90
  go_wp2_with fail
  go_ret
  exact ⟨rfl, rfl⟩
 have h4 : 4 < b := by omega
 go_enter Tryz.func90, Tryz.ntmps90
 go_wp2_with fail
 go_ret
 exact ⟨rfl, rfl⟩
theorem rmove_any (a b : Int) (self : Bool) (w : World) : Calls Tryz.prog 90 #[.int .i64 a, .int .i64 b, .bool self] w fun e w' => e = .returned (.bool (Co.move a b self)) ∧ w' = w := by
 by_cases h : a < 0 ∨ 4 < a ∨ b < 0 ∨ 4 < b
 ·have e : Co.move a b self = false := by
   unfold Co.move
   by_cases h1 : a < 0 ∨ 4 < a
   ·rw [if_pos h1]
   ·rw [if_neg h1, if_neg (by omega), if_neg (by omega), if_neg (by omega), if_neg (by omega), if_neg (by omega)]
  rw [e]
  exact rmove_out a b self w h
 ·have hb : b = 0 ∨ b = 1 ∨ b = 2 ∨ b = 3 ∨ b = 4 := by omega
  rcases (show a = 0 ∨ a = 1 ∨ a = 2 ∨ a = 3 ∨ a = 4 by omega) with rfl | rfl | rfl | rfl | rfl
  ·exact rmove_0 b self w hb
  ·exact rmove_1 b self w hb
  ·exact rmove_2 b self w hb
  ·exact rmove_3 b self w hb
  ·exact rmove_4 b self w hb
end Go.Proofs.YtacjhbbieeliaaaGreatDoor
/- The text Qc. -/
namespace Go.Proofs.YtacjhbbieeliaaaGreatDoor
open Go.RowKit Go.Lib
set_option linter.unusedVariables false
set_option linter.unusedSimpArgs false
theorem rlvuser_any (ok : Nat → Prop) (v : Co.Lv) (X : List Value) (u : List UInt8) (w : World) (h : LvV ok w X v) (hl : v.users.length ≤ 1000000) :
  Calls Tryz.prog 65 #[.agg X.toArray, .string (bstr u)] w fun e w' => e = .returned (.int .i64 (Co.userLv v u)) ∧ Below w.heap.size w w' := by
 obtain ⟨cu, ck, rfl, hu, hk⟩ := h
 have hb0 := (Below.refl w.heap.size w).alloc (Nat.le_refl _) (.cells (lvC v cu ck).toArray 28)
 have HU := hid (hu.keep (by decide) (fun b hb hlt => ⟨hb, hb0.block b hlt⟩))
 have HB0 := hid hb0
 have HKB := hid (Blk.new w 28 (lvC v cu ck).toArray)
 clear hu hk hb0
 obtain ⟨A, c, rfl, hrd, -⟩ := HU.out
 have HRD := hid hrd
 obtain ⟨R, hR⟩ : ∃ R, R = Co.userLv v u := ⟨_, rfl⟩
 have HR0 : Hid (R = endOf ((v.users.drop 0).find? (fun p : List UInt8 × Int => p.1 == u)) v.lu) := hid (by rw [hR, List.drop_zero]; unfold Co.userLv endOf; cases List.find? (fun p : List UInt8 × Int => p.1 == u) v.users <;> rfl)
 rw [← hR]
 clear hrd hR
 generalize hw1 : w.alloc (.cells (lvC v (.slice A v.users.length c) ck).toArray 28) = w1 at *
 have hc0 : w1.cell? ⟨w.heap.size, 0, none⟩ = some (.slice A v.users.length c) := HKB.out.cell 0
 have hc2 : w1.cell? ⟨w.heap.size, 2, none⟩ = some (.int .i64 v.lu) := HKB.out.cell 2
 go_enter Tryz.func65, Tryz.ntmps65
 go_wp2_with fail
 go_loop [5] (fun ix => ∃ k : Nat, k ≤ v.users.length ∧ ix = .int .i64 (k : Int) ∧ Hid (R = endOf ((v.users.drop k).find? (fun p : List UInt8 × Int => p.1 == u)) v.lu)) (fun ix => v.users.length - (RowKit.intOf ix).toNat)
 case atStart => exact ⟨0, Nat.zero_le _, rfl, HR0⟩
 case round =>
  obtain ⟨k, hk, rfl, HF⟩ := hrel
  by_cases hlt : k < v.users.length
  ·obtain ⟨x, hx⟩ : ∃ x, v.users[k]? = some x := ⟨_, List.getElem?_eq_getElem hlt⟩
   have e0 := usrL_at hx (j := 0) (by decide)
   have e1 := usrL_at hx (j := 1) (by decide)
   obtain ⟨b, off, rfl, hx0⟩ := HRD.out.2 _ _ e0
   have hx1 : w1.cell? ⟨b, off + k * 2 + 1, none⟩ = some (.int .i64 x.2) := by
    obtain ⟨b', off', e, hx1⟩ := HRD.out.2 _ _ e1
    injection e with e
    injection e with e2 e3
    subst e2 e3
    exact hx1
   have hx0 : w1.cell? ⟨b, off + k * 2, none⟩ = some (.string (bstr x.1)) := hx0
   have HFD := hid (Co.find_drop (fun p : List UInt8 × Int => p.1 == u) v.users k x hx)
   have hcnt : k + 1 ≤ v.users.length := hlt
   clear e0 e1 hx
   by_cases hkx : x.1 = u
   ·have HRX : Hid (R = x.2) := hid (by rw [HF.out, HFD.out]; simp [hkx, endOf])
    have hse := str_dec x.1 (bstr u)
    rw [show (bstr u).data.toList = u from rfl, decide_eq_true hkx] at hse
    clear hkx
    go_wp2_with fail
    go_ret
    exact ⟨ret_int HRX.out.symm, HB0.out⟩
   ·have HRX : Hid (R = endOf ((v.users.drop (k + 1)).find? (fun p : List UInt8 × Int => p.1 == u)) v.lu) := hid (by rw [HF.out, HFD.out]; simp [hkx])
    have hse := str_dec x.1 (bstr u)
    rw [show (bstr u).data.toList = u from rfl, decide_eq_false hkx] at hse
    clear hkx
    go_wp2_with fail
    go_round
    case rel => exact ⟨k + 1, hlt, by go_num, HRX⟩
    case measure => simp [RowKit.intOf]; omega
  ·obtain rfl : k = v.users.length := by omega
   have HRX : Hid (R = v.lu) := hid (by rw [HF.out, List.drop_length]; rfl)
   go_wp2_with fail
   go_ret
   exact ⟨ret_int HRX.out.symm, HB0.out⟩
theorem rneeds_any (ok : Nat → Prop) (v : Co.Lv) (X : List Value) (kk : Int) (w : World) (h : LvV ok w X v) (hl : v.kinds.length ≤ 1000000) :
  Calls Tryz.prog 66 #[.agg X.toArray, .int .i64 kk] w fun e w' => e = .returned (.int .i64 (Co.needs v kk)) ∧ Below w.heap.size w w' := by
 obtain ⟨cu, ck, rfl, hu, hk⟩ := h
 have hb0 := (Below.refl w.heap.size w).alloc (Nat.le_refl _) (.cells (lvC v cu ck).toArray 28)
 have HU := hid (hk.keep (by decide) (fun b hb hlt => ⟨hb, hb0.block b hlt⟩))
 have HB0 := hid hb0
 have HKB := hid (Blk.new w 28 (lvC v cu ck).toArray)
 clear hu hk hb0
 obtain ⟨A, c, rfl, hrd, -⟩ := HU.out
 have HRD := hid hrd
 obtain ⟨R, hR⟩ : ∃ R, R = Co.needs v kk := ⟨_, rfl⟩
 have HR0 : Hid (R = endOf ((v.kinds.drop 0).find? (fun p : Int × Int => p.1 == kk)) (if Co.stateK kk then v.ls else v.lm)) := hid (by rw [hR, List.drop_zero]; unfold Co.needs endOf; cases List.find? (fun p : Int × Int => p.1 == kk) v.kinds <;> rfl)
 rw [← hR]
 clear hrd hR
 generalize hw1 : w.alloc (.cells (lvC v cu (.slice A v.kinds.length c)).toArray 28) = w1 at *
 have hc0 : w1.cell? ⟨w.heap.size, 1, none⟩ = some (.slice A v.kinds.length c) := HKB.out.cell 1
 have hc3 : w1.cell? ⟨w.heap.size, 3, none⟩ = some (.int .i64 v.lm) := HKB.out.cell 3
 have hc4 : w1.cell? ⟨w.heap.size, 4, none⟩ = some (.int .i64 v.ls) := HKB.out.cell 4
 go_enter Tryz.func66, Tryz.ntmps66
 go_wp2_with fail
 go_loop [5] (fun ix => ∃ k : Nat, k ≤ v.kinds.length ∧ ix = .int .i64 (k : Int) ∧ Hid (R = endOf ((v.kinds.drop k).find? (fun p : Int × Int => p.1 == kk)) (if Co.stateK kk then v.ls else v.lm))) (fun ix => v.kinds.length - (RowKit.intOf ix).toNat)
 case atStart => exact ⟨0, Nat.zero_le _, rfl, HR0⟩
 case round =>
  obtain ⟨k, hk, rfl, HF⟩ := hrel
  by_cases hlt : k < v.kinds.length
  ·obtain ⟨x, hx⟩ : ∃ x, v.kinds[k]? = some x := ⟨_, List.getElem?_eq_getElem hlt⟩
   have e0 := kndL_at hx (j := 0) (by decide)
   have e1 := kndL_at hx (j := 1) (by decide)
   obtain ⟨b, off, rfl, hx0⟩ := HRD.out.2 _ _ e0
   have hx1 : w1.cell? ⟨b, off + k * 2 + 1, none⟩ = some (.int .i64 x.2) := by
    obtain ⟨b', off', e, hx1⟩ := HRD.out.2 _ _ e1
    injection e with e
    injection e with e2 e3
    subst e2 e3
    exact hx1
   have hx0 : w1.cell? ⟨b, off + k * 2, none⟩ = some (.int .i64 x.1) := hx0
   have HFD := hid (Co.find_drop (fun p : Int × Int => p.1 == kk) v.kinds k x hx)
   have hcnt : k + 1 ≤ v.kinds.length := hlt
   clear e0 e1 hx
   by_cases hkx : x.1 = kk
   ·have HRX : Hid (R = x.2) := hid (by rw [HF.out, HFD.out]; simp [hkx, endOf])
    have hkb : (x.1 == kk) = true := eqb_true hkx
    clear hkx
    go_wp2_with fail
    go_ret
    exact ⟨ret_int HRX.out.symm, HB0.out⟩
   ·have HRX : Hid (R = endOf ((v.kinds.drop (k + 1)).find? (fun p : Int × Int => p.1 == kk)) (if Co.stateK kk then v.ls else v.lm)) := hid (by rw [HF.out, HFD.out]; simp [hkx])
    have hkb : (x.1 == kk) = false := eqb_false hkx
    clear hkx
    go_wp2_with fail
    go_round
    case rel => exact ⟨k + 1, hlt, by go_num, HRX⟩
    case measure => simp [RowKit.intOf]; omega
  ·obtain rfl : k = v.kinds.length := by omega
   have HRX : Hid (R = (if Co.stateK kk then v.ls else v.lm)) := hid (by rw [HF.out, List.drop_length]; rfl)
   go_wp2_with fail
   refine (rstate_any kk _).mono ?_
   rintro e w2 ⟨rfl, rfl⟩
   cases hst : Co.stateK kk with
   | true =>
    rw [hst] at HRX
    go_wp2_with fail
    go_ret
    exact ⟨ret_int HRX.out.symm, HB0.out⟩
   | false =>
    rw [hst] at HRX
    go_wp2_with fail
    go_ret
    exact ⟨ret_int HRX.out.symm, HB0.out⟩
def Num7 (v : Co.Lv) (e : Ending) (w' : World) : Prop := ∃ A, e = .returned (.slice A 7 7) ∧ Rd w' A 7 (intL (numL v))
theorem rnumbers_any (ok : Nat → Prop) (v : Co.Lv) (X : List Value) (w : World) (h : LvV ok w X v) :
  Calls Tryz.prog 96 #[.agg X.toArray] w fun e w' => Num7 v e w' ∧ Below w.heap.size w w' := by
 obtain ⟨cu, ck, rfl, -, -⟩ := h
 have HK := hid (Blk.new w 28 (lvC v cu ck).toArray)
 have HB := hid ((Below.refl w.heap.size w).alloc (Nat.le_refl _) (.cells (lvC v cu ck).toArray 28))
 have h2 : (w.alloc (.cells (lvC v cu ck).toArray 28)).cell? ⟨w.heap.size, 2, none⟩ = some (.int .i64 v.lu) := HK.out.cell 2
 have h3 : (w.alloc (.cells (lvC v cu ck).toArray 28)).cell? ⟨w.heap.size, 3, none⟩ = some (.int .i64 v.lm) := HK.out.cell 3
 have h4 : (w.alloc (.cells (lvC v cu ck).toArray 28)).cell? ⟨w.heap.size, 4, none⟩ = some (.int .i64 v.ls) := HK.out.cell 4
 have h5 : (w.alloc (.cells (lvC v cu ck).toArray 28)).cell? ⟨w.heap.size, 5, none⟩ = some (.int .i64 v.li) := HK.out.cell 5
 have h6 : (w.alloc (.cells (lvC v cu ck).toArray 28)).cell? ⟨w.heap.size, 6, none⟩ = some (.int .i64 v.lk) := HK.out.cell 6
 have h7 : (w.alloc (.cells (lvC v cu ck).toArray 28)).cell? ⟨w.heap.size, 7, none⟩ = some (.int .i64 v.lb) := HK.out.cell 7
 have h8 : (w.alloc (.cells (lvC v cu ck).toArray 28)).cell? ⟨w.heap.size, 8, none⟩ = some (.int .i64 v.lr) := HK.out.cell 8
 generalize hw1 : w.alloc (.cells (lvC v cu ck).toArray 28) = w1 at *
 go_enter Tryz.func96, Tryz.ntmps96
 go_wp2_with fail
 go_ret
 exact ⟨⟨some ⟨w1.heap.size, 0, none⟩, rfl, Rd.of_blk (vs := intL (numL v)) (Blk.new w1 3 _)⟩, HB.out.alloc HB.out.size _⟩
theorem rmayuser_any (ok : Nat → Prop) (v u : Co.Lv) (XV XU : List Value) (u1 user : List UInt8) (w : World) (hv : LvV ok w XV v) (hu : LvV ok w XU u) (hvs : v.users.length ≤ 1000000) (hus : u.users.length ≤ 1000000) :
  Calls Tryz.prog 98 #[.agg XV.toArray, .agg XU.toArray, .string (bstr u1), .string (bstr user)] w fun e w' => e = .returned (.bool (!(Co.barred (Co.userLv v user) (Co.userLv v u1) (Co.userLv u u1) || (Co.userLv v u1 != Co.userLv u u1 && (!(u1 == user) && decide (Co.userLv v user ≤ Co.userLv v u1)))))) ∧ Below w.heap.size w w' := by
 have hb1 := (Below.refl w.heap.size w).alloc (Nat.le_refl _) (.cells XV.toArray 28)
 have hb2 := hb1.alloc (by rw [World.size_alloc]; omega) (.cells XU.toArray 28)
 have hk1 := (Blk.new w 28 XV.toArray).alloc (.cells XU.toArray 28)
 have hk2 := Blk.new (w.alloc (.cells XV.toArray 28)) 28 XU.toArray
 rw [World.size_alloc] at hk2
 have HB02 := hid hb2
 have HK1 := hid hk1
 have HK2 := hid hk2
 have HV2 := hid (hv.bel hb2)
 have HU2 := hid (hu.bel hb2)
 have HSV : Hid ((Tryz.prog.info? 28).map (·.size) = some XV.toArray.size) := hid (by rw [size_lv, List.size_toArray, hv.len])
 have HSU : Hid ((Tryz.prog.info? 28).map (·.size) = some XU.toArray.size) := hid (by rw [size_lv, List.size_toArray, hu.len])
 have HVS := hid hvs
 have HUS := hid hus
 have hsd := str_dec u1 (bstr user)
 rw [show (bstr user).data.toList = user from rfl] at hsd
 obtain ⟨su, hsu⟩ : ∃ su, su = decide (u1 = user) := ⟨_, rfl⟩
 rw [← hsu] at hsd
 have HSU1 : Hid ((u1 == user) = su) := hid (by rw [hsu, Bool.eq_iff_iff]; simp)
 rw [HSU1.out]
 obtain ⟨R, hR⟩ : ∃ R, R = !(Co.barred (Co.userLv v user) (Co.userLv v u1) (Co.userLv u u1) || (Co.userLv v u1 != Co.userLv u u1 && (!su && decide (Co.userLv v user ≤ Co.userLv v u1)))) := ⟨_, rfl⟩
 have HR := hid hR
 rw [← hR]
 clear hsu hb1 hb2 hk1 hk2 hv hu hvs hus hR
 generalize hw2 : (w.alloc (.cells XV.toArray 28)).alloc (.cells XU.toArray 28) = w2 at *
 go_enter Tryz.func98, Tryz.ntmps98
 go_wp2_with fail
 go_upto_region 1 with fail
 refine wp_region_noPanic ?_
 refine wp_region_held_drew (S := fun W => Below w2.heap.size w2 W) (by kernel_rfl) ((Below.refl _ _).drew) (fun hHeld => ?_)
 generalize hwd : w2.drew = wd at *
 have HBd := hid hHeld
 clear hwd
 refine wpAnyH_take (i := 0) (oi := _) (v := _) rfl (by kernel_rfl) (by kernel_rfl) (by kernel_rfl) (fun _ _ _ h => h) (row_yields_u (X := XV.toArray) rfl Tryz.underlying28 HSV.out (fun W h => HK1.out.below h HK1.out.lt) (by kernel_rfl) _ rfl rfl) hHeld ?_
 (try simp only [Act.put, pk1, pk2, pk3, pk4, pk5, pk6])
 refine wpAnyH_take (i := 1) (oi := _) (v := ?_) rfl (by kernel_rfl) (by kernel_rfl) (by kernel_rfl) (fun _ _ _ h => h) (Or.inl ⟨by kernel_rfl, ?_⟩) hHeld ?_
 rotate_left
 ·intro wq hSw
  go_simp
  (try with_reducible rfl)
 (try simp only [Act.put, pk1, pk2, pk3, pk4, pk5, pk6])
 refine wpAnyH_take (i := 3) (oi := _) (v := _) rfl (by kernel_rfl) (by kernel_rfl) (by kernel_rfl) (fun _ _ _ h => h) (row_yields_u (X := XV.toArray) rfl Tryz.underlying28 HSV.out (fun W h => HK1.out.below h HK1.out.lt) (by kernel_rfl) _ rfl rfl) hHeld ?_
 (try simp only [Act.put, pk1, pk2, pk3, pk4, pk5, pk6])
 refine wpAnyH_take (i := 4) (oi := _) (v := ?_) rfl (by kernel_rfl) (by kernel_rfl) (by kernel_rfl) (fun _ _ _ h => h) (Or.inl ⟨by kernel_rfl, ?_⟩) hHeld ?_
 rotate_left
 ·intro wq hSw
  go_simp
  (try with_reducible rfl)
 (try simp only [Act.put, pk1, pk2, pk3, pk4, pk5, pk6])
 refine wpAnyH_take (i := 6) (oi := _) (v := _) rfl (by kernel_rfl) (by kernel_rfl) (by kernel_rfl) (fun _ _ _ h => h) (row_yields_u (X := XU.toArray) rfl Tryz.underlying28 HSU.out (fun W h => HK2.out.below h HK2.out.lt) (by kernel_rfl) _ rfl rfl) hHeld ?_
 (try simp only [Act.put, pk1, pk2, pk3, pk4, pk5, pk6])
 refine wpAnyH_take (i := 7) (oi := _) (v := ?_) rfl (by kernel_rfl) (by kernel_rfl) (by kernel_rfl) (fun _ _ _ h => h) (Or.inl ⟨by kernel_rfl, ?_⟩) hHeld ?_
 rotate_left
 ·intro wq hSw
  go_simp
  (try with_reducible rfl)
 (try simp only [Act.put, pk1, pk2, pk3, pk4, pk5, pk6])
 refine wpAnyH_ready (rs := [2]) (by kernel_rfl) (by simp) ?_
 refine AllReadyH.cons (o := _) rfl (fun K hK => ?_) AllReadyH.nil
 go_simp
 go_at_call 65
 refine (rlvuser_any ok v XV user wd (HV2.out.bel HBd.out) HVS.out).mono ?_
 rintro e wa ⟨rfl, hba⟩
 have HBa := hid (HBd.out.trans (hba.mono HBd.out.size))
 clear hba
 refine hK.out _ _ (HBa.out) (fun hHeld2 => ?_)
 clear hK K hHeld
 have hHeld := hHeld2
 clear hHeld2
 (try simp only [Act.put, pk1, pk2, pk3, pk4, pk5, pk6])
 refine wpAnyH_ready (rs := [5]) (by kernel_rfl) (by simp) ?_
 refine AllReadyH.cons (o := _) rfl (fun K hK => ?_) AllReadyH.nil
 go_simp
 go_at_call 65
 refine (rlvuser_any ok v XV u1 wa (HV2.out.bel HBa.out) HVS.out).mono ?_
 rintro e wb ⟨rfl, hbb⟩
 have HBb := hid (HBa.out.trans (hbb.mono HBa.out.size))
 clear hbb
 refine hK.out _ _ (HBb.out) (fun hHeld2 => ?_)
 clear hK K hHeld
 have hHeld := hHeld2
 clear hHeld2
 (try simp only [Act.put, pk1, pk2, pk3, pk4, pk5, pk6])
 refine wpAnyH_ready (rs := [8]) (by kernel_rfl) (by simp) ?_
 refine AllReadyH.cons (o := _) rfl (fun K hK => ?_) AllReadyH.nil
 go_simp
 go_at_call 65
 refine (rlvuser_any ok u XU u1 wb (HU2.out.bel HBb.out) HUS.out).mono ?_
 rintro e wc ⟨rfl, hbc⟩
 have HBc := hid (HBb.out.trans (hbc.mono HBb.out.size))
 clear hbc
 refine hK.out _ _ (HBc.out) (fun hHeld2 => ?_)
 clear hK K hHeld
 have hHeld := hHeld2
 clear hHeld2
 (try simp only [Act.put, pk1, pk2, pk3, pk4, pk5, pk6])
 refine wpAnyH_take (i := 9) (oi := _) (v := ?_) rfl (by kernel_rfl) (by kernel_rfl) (by kernel_rfl) (fun _ _ _ h => h) (Or.inl ⟨by kernel_rfl, ?_⟩) hHeld ?_
 rotate_left
 ·intro wq hSw
  go_simp
  (try with_reducible rfl)
 (try simp only [Act.put, pk1, pk2, pk3, pk4, pk5, pk6])
 refine wpAnyH_take (i := 10) (oi := _) (v := ?_) rfl (by kernel_rfl) (by kernel_rfl) (by kernel_rfl) (fun _ _ _ h => h) (Or.inl ⟨by kernel_rfl, ?_⟩) hHeld ?_
 rotate_left
 ·intro wq hSw
  go_simp
  (try with_reducible rfl)
 (try simp only [Act.put, pk1, pk2, pk3, pk4, pk5, pk6])
 refine wpAnyH_take (i := 11) (oi := _) (v := ?_) rfl (by kernel_rfl) (by kernel_rfl) (by kernel_rfl) (fun _ _ _ h => h) (Or.inl ⟨by kernel_rfl, ?_⟩) hHeld ?_
 rotate_left
 ·intro wq hSw
  go_simp
  (try with_reducible rfl)
 (try simp only [Act.put, pk1, pk2, pk3, pk4, pk5, pk6])
 refine wpAnyH_done (by kernel_rfl) ?_ _
 refine NoPanic.normal ?_
 have HBX := hid (HB02.out.trans (HBc.out.mono HB02.out.size))
 generalize Co.userLv v user = own at *
 generalize Co.userLv v u1 = was at *
 generalize Co.userLv u u1 = is_ at *
 have HMY := hid (rmay_any was is_ own wc)
 go_wp2_with fail
 refine HMY.out.mono ?_
 rintro e wf ⟨rfl, rfl⟩
 cases hbr : Co.barred own was is_ with
 | true =>
  have HE : Hid (R = false) := hid (by rw [HR.out, hbr]; rfl)
  rw [Bool.not_true]
  go_wp2_with fail
  go_ret
  exact ⟨ret_bool HE.out.symm, HBX.out⟩
 | false =>
  have HR2 : Hid (R = !(was != is_ && (!su && decide (own ≤ was)))) := hid (by rw [HR.out, hbr]; rfl)
  rw [Bool.not_false]
  clear hbr HR
  by_cases hwi : was = is_
  ·subst hwi
   have e0 : (was == was) = true := by simp
   have HE : Hid (R = true) := hid (by rw [HR2.out]; simp)
   go_wp2_with fail
   go_ret
   exact ⟨ret_bool HE.out.symm, HBX.out⟩
  ·have e0 := eqb_false hwi
   have HNE := hid (neb_true hwi)
   clear hwi
   cases su with
   | true =>
    have HE : Hid (R = true) := hid (by rw [HR2.out]; simp)
    go_wp2_with fail
    go_ret
    exact ⟨ret_bool HE.out.symm, HBX.out⟩
   | false =>
    by_cases hlw : was < own
    ·have d1 : decide (was < own) = true := decide_eq_true hlw
     have HE : Hid (R = true) := hid (by rw [HR2.out, show decide (own ≤ was) = false from decide_eq_false (by omega)]; simp)
     go_wp2_with fail
     go_ret
     exact ⟨ret_bool HE.out.symm, HBX.out⟩
    ·have d1 : decide (was < own) = false := decide_eq_false hlw
     have HE : Hid (R = false) := hid (by rw [HR2.out, HNE.out, show decide (own ≤ was) = true from decide_eq_true (by omega)]; rfl)
     go_wp2_with fail
     go_ret
     exact ⟨ret_bool HE.out.symm, HBX.out⟩
def ROfA (l : List Co.Ev) (ok : Nat → Prop) (e : Ending) (w' : World) : Prop := ∃ Y : List Value, e = .returned (.tuple #[.agg Y.toArray, .string (bstr (Co.creatorOf l))]) ∧ LvV ok w' Y (Co.levelsOf l)
theorem creator_find (l : List Co.Ev) : Co.creatorOf l = match l.find? (Co.isKind 1) with | some e => e.sender | none => [] := rfl
theorem levels_find (l : List Co.Ev) : Co.levelsOf l = match l.find? (Co.isKind 3) with | some e => Co.lvOf e | none => Co.lvDefault (Co.creatorOf l) := rfl
theorem rlof_any (ok : Nat → Prop) (l : List Co.Ev) (A : Option Addr) (cap : Nat) (w : World) (h : EvRow ok w A l) (hl : l.length ≤ 1000000) :
  Calls Tryz.prog 62 #[.slice A l.length cap] w fun e w' => ROfA l (fun b => ok b ∨ w.heap.size ≤ b) e w' ∧ Below w.heap.size w w' := by
 have hb0 := (Below.refl w.heap.size w).alloc (Nat.le_refl _) (.cells zLv 28)
 have HB0 := hid hb0
 have HKZ := hid (Blk.new w 28 zLv)
 have HROW := hid h
 obtain ⟨CR, hCR⟩ : ∃ C, C = Co.creatorOf l := ⟨_, rfl⟩
 have HCR := hid hCR
 have HF1 : Hid (CR = match (l.drop 0).find? (Co.isKind 1) with | some e => e.sender | none => []) := hid (by rw [hCR]; rfl)
 have HLF : Hid (Co.levelsOf l = match l.find? (Co.isKind 3) with | some e => Co.lvOf e | none => Co.lvDefault (Co.creatorOf l)) := hid rfl
 obtain ⟨R3, hR3⟩ : ∃ R, R = l.find? (Co.isKind 3) := ⟨_, rfl⟩
 have HR3 : Hid ((l.drop 0).find? (Co.isKind 3) = R3) := hid (by rw [hR3]; rfl)
 rw [← hR3] at HLF
 clear h hb0 hCR hR3
 generalize hw1 : w.alloc (.cells zLv 28) = w1 at *
 go_enter Tryz.func62, Tryz.ntmps62
 go_wp2_with fail
 go_loop [4, 5, 6] (fun cx fx ix => ∃ (k : Nat) (fd : Bool) (c : List UInt8), k ≤ l.length ∧ cx = .string (bstr c) ∧ fx = .bool fd ∧ ix = .int .i64 (k : Int) ∧ Hid (if fd then CR = c else c = [] ∧ CR = match (l.drop k).find? (Co.isKind 1) with | some e => e.sender | none => [])) (fun _ _ ix => l.length - (RowKit.intOf ix).toNat)
 case atStart => exact ⟨0, false, [], Nat.zero_le _, rfl, rfl, rfl, hid ⟨rfl, HF1.out⟩⟩
 case round =>
  obtain ⟨k, fd, c, hk, rfl, rfl, rfl, HF⟩ := hrel
  cases fd with
  | true =>
   have HC : Hid (CR = c) := HF
   by_cases hlt : k < l.length
   ·clear HF
    go_wp2_with fail
    go_loop [7] (fun ix => ∃ k : Nat, k ≤ l.length ∧ ix = .int .i64 (k : Int) ∧ Hid ((l.drop k).find? (Co.isKind 3) = R3)) (fun ix => l.length - (RowKit.intOf ix).toNat)
    case atStart => exact ⟨0, Nat.zero_le _, rfl, HR3⟩
    case round =>
     clear hk
     obtain ⟨k, hk, rfl, HF⟩ := hrel
     by_cases hlt : k < l.length
     ·obtain ⟨x, b, off, X, hx, rfl, hok, hbl, hr, hv⟩ := HROW.out.at_ hlt
      have hrr : w1.rangeAt b (off + k * 29) X := range_keep hr (HB0.out.block b hbl)
      have hc3 := hrr 3 _ hv.c3
      have HFD := hid (Co.find_drop (Co.isKind 3) l k x hx)
      have hcnt : k + 1 ≤ l.length := hlt
      by_cases hkd : x.kind = 3
      ·have HRX : Hid (Co.levelsOf l = Co.lvOf x) := hid (by rw [HLF.out, ← HF.out, HFD.out]; simp [Co.isKind, hkd])
       have hkb : (x.kind == 3) = true := eqb_true hkd
       obtain ⟨Y, hry, hy⟩ := ev_lv hv hr
       have hry' : w1.rangeAt b (off + k * 29 + 10 + 7) Y := range_keep hry (HB0.out.block b hbl)
       have HLX : Hid ((Tryz.prog.info? 28).map (·.size) = some Y.length) := hid (by rw [size_lv, hy.len])
       have HSX : Hid ((Tryz.prog.info? 28).map (·.size) = some Y.toArray.size) := hid (by rw [size_lv, List.size_toArray, hy.len])
       have HSZ : Hid (zLv.size = Y.toArray.size) := hid (by show 9 = Y.toArray.size; rw [List.size_toArray, hy.len])
       have HOV : Hid (Y.toArray.all (·.oneCell') = true) := hid (all_oneCell_toArray hy.one)
       have HY := hid hy
       clear hkd hr hv hx hrr hry hy
       go_wp2_with (first
        | ((with_reducible refine wpList_load_mid rfl 28 _ rfl b (off + k * 29 + 10 + 7) ?_ Y _ hry' Tryz.underlying28 ?_ HLX.out ?_); rfl; rfl)
        | ((with_reducible refine store_rowe rfl 28 _ _ rfl w.heap.size Y.toArray ?_ ?_ 28 zLv HKZ.out HSX.out HSZ.out HOV.out ?_); rfl; rfl))
       have hbf := below_setRow HB0.out (Nat.le_refl _) Y.toArray
       exact bodyPost_ret (results_row_tmp rfl _ _ w.heap.size _ _ _ rfl (setRow_heap _ _ _ _ _ _ HKZ.out) Tryz.underlying28 rfl HSX.out) rfl ⟨⟨Y, by rw [← HCR.out, HC.out]; rfl, by rw [HRX.out]; exact HY.out.keep fun b hb hlt => ⟨.inl hb, hbf.block b hlt⟩⟩, hbf⟩
      ·have HRX : Hid ((l.drop (k + 1)).find? (Co.isKind 3) = R3) := hid (by rw [← HF.out, HFD.out]; simp [Co.isKind, hkd])
       have hkb : (x.kind == 3) = false := eqb_false hkd
       clear hkd hr hv hx hrr
       go_wp2_with fail
       go_round
       case rel => exact ⟨k + 1, hlt, by go_num, HRX⟩
       case measure => simp [RowKit.intOf]; omega
     ·obtain rfl : k = l.length := by omega
      have HRX : Hid (Co.levelsOf l = Co.lvDefault c) := hid (by rw [HLF.out, ← HF.out, List.drop_length, ← HC.out, HCR.out]; rfl)
      go_wp2_with fail
      refine (rdefault_any c w1).mono ?_
      rintro e w4 ⟨⟨X, rfl, hX⟩, hb4⟩
      have HB4 := hid (HB0.out.trans (hb4.mono HB0.out.size))
      have HKR4 := hid (HKZ.out.below hb4 HKZ.out.lt)
      have HSX : Hid ((Tryz.prog.info? 28).map (·.size) = some X.toArray.size) := hid (by rw [size_lv, List.size_toArray, hX.len])
      have HSZ : Hid (zLv.size = X.toArray.size) := hid (by show 9 = X.toArray.size; rw [List.size_toArray, hX.len])
      have HOV : Hid (X.toArray.all (·.oneCell') = true) := hid (all_oneCell_toArray hX.one)
      have HX := hid hX
      have HW1 : Hid (w.heap.size < w1.heap.size) := hid HKZ.out.lt
      clear hb4 hX
      go_wp2_with ((with_reducible refine store_rowe rfl 28 _ _ rfl w.heap.size X.toArray ?_ ?_ 28 zLv HKR4.out HSX.out HSZ.out HOV.out ?_); rfl; rfl)
      exact bodyPost_ret (results_row_tmp rfl _ _ w.heap.size _ _ _ rfl (setRow_heap _ _ _ _ _ _ HKR4.out) Tryz.underlying28 rfl HSX.out) rfl ⟨⟨X, by rw [← HCR.out, HC.out]; rfl, by rw [HRX.out]; exact HX.out.keep fun b hb _ => ⟨.inr (Nat.le_of_lt (Nat.lt_of_lt_of_le HW1.out hb)), setRow_other _ _ _ _ (by have := HW1.out; omega)⟩⟩, below_setRow HB4.out (Nat.le_refl _) _⟩
   ·clear HF
    go_wp2_with fail
    go_loop [7] (fun ix => ∃ k : Nat, k ≤ l.length ∧ ix = .int .i64 (k : Int) ∧ Hid ((l.drop k).find? (Co.isKind 3) = R3)) (fun ix => l.length - (RowKit.intOf ix).toNat)
    case atStart => exact ⟨0, Nat.zero_le _, rfl, HR3⟩
    case round =>
     clear hk
     obtain ⟨k, hk, rfl, HF⟩ := hrel
     by_cases hlt : k < l.length
     ·obtain ⟨x, b, off, X, hx, rfl, hok, hbl, hr, hv⟩ := HROW.out.at_ hlt
      have hrr : w1.rangeAt b (off + k * 29) X := range_keep hr (HB0.out.block b hbl)
      have hc3 := hrr 3 _ hv.c3
      have HFD := hid (Co.find_drop (Co.isKind 3) l k x hx)
      have hcnt : k + 1 ≤ l.length := hlt
      by_cases hkd : x.kind = 3
      ·have HRX : Hid (Co.levelsOf l = Co.lvOf x) := hid (by rw [HLF.out, ← HF.out, HFD.out]; simp [Co.isKind, hkd])
       have hkb : (x.kind == 3) = true := eqb_true hkd
       obtain ⟨Y, hry, hy⟩ := ev_lv hv hr
       have hry' : w1.rangeAt b (off + k * 29 + 10 + 7) Y := range_keep hry (HB0.out.block b hbl)
       have HLX : Hid ((Tryz.prog.info? 28).map (·.size) = some Y.length) := hid (by rw [size_lv, hy.len])
       have HSX : Hid ((Tryz.prog.info? 28).map (·.size) = some Y.toArray.size) := hid (by rw [size_lv, List.size_toArray, hy.len])
       have HSZ : Hid (zLv.size = Y.toArray.size) := hid (by show 9 = Y.toArray.size; rw [List.size_toArray, hy.len])
       have HOV : Hid (Y.toArray.all (·.oneCell') = true) := hid (all_oneCell_toArray hy.one)
       have HY := hid hy
       clear hkd hr hv hx hrr hry hy
       go_wp2_with (first
        | ((with_reducible refine wpList_load_mid rfl 28 _ rfl b (off + k * 29 + 10 + 7) ?_ Y _ hry' Tryz.underlying28 ?_ HLX.out ?_); rfl; rfl)
        | ((with_reducible refine store_rowe rfl 28 _ _ rfl w.heap.size Y.toArray ?_ ?_ 28 zLv HKZ.out HSX.out HSZ.out HOV.out ?_); rfl; rfl))
       have hbf := below_setRow HB0.out (Nat.le_refl _) Y.toArray
       exact bodyPost_ret (results_row_tmp rfl _ _ w.heap.size _ _ _ rfl (setRow_heap _ _ _ _ _ _ HKZ.out) Tryz.underlying28 rfl HSX.out) rfl ⟨⟨Y, by rw [← HCR.out, HC.out]; rfl, by rw [HRX.out]; exact HY.out.keep fun b hb hlt => ⟨.inl hb, hbf.block b hlt⟩⟩, hbf⟩
      ·have HRX : Hid ((l.drop (k + 1)).find? (Co.isKind 3) = R3) := hid (by rw [← HF.out, HFD.out]; simp [Co.isKind, hkd])
       have hkb : (x.kind == 3) = false := eqb_false hkd
       clear hkd hr hv hx hrr
       go_wp2_with fail
       go_round
       case rel => exact ⟨k + 1, hlt, by go_num, HRX⟩
       case measure => simp [RowKit.intOf]; omega
     ·obtain rfl : k = l.length := by omega
      have HRX : Hid (Co.levelsOf l = Co.lvDefault c) := hid (by rw [HLF.out, ← HF.out, List.drop_length, ← HC.out, HCR.out]; rfl)
      go_wp2_with fail
      refine (rdefault_any c w1).mono ?_
      rintro e w4 ⟨⟨X, rfl, hX⟩, hb4⟩
      have HB4 := hid (HB0.out.trans (hb4.mono HB0.out.size))
      have HKR4 := hid (HKZ.out.below hb4 HKZ.out.lt)
      have HSX : Hid ((Tryz.prog.info? 28).map (·.size) = some X.toArray.size) := hid (by rw [size_lv, List.size_toArray, hX.len])
      have HSZ : Hid (zLv.size = X.toArray.size) := hid (by show 9 = X.toArray.size; rw [List.size_toArray, hX.len])
      have HOV : Hid (X.toArray.all (·.oneCell') = true) := hid (all_oneCell_toArray hX.one)
      have HX := hid hX
      have HW1 : Hid (w.heap.size < w1.heap.size) := hid HKZ.out.lt
      clear hb4 hX
      go_wp2_with ((with_reducible refine store_rowe rfl 28 _ _ rfl w.heap.size X.toArray ?_ ?_ 28 zLv HKR4.out HSX.out HSZ.out HOV.out ?_); rfl; rfl)
      exact bodyPost_ret (results_row_tmp rfl _ _ w.heap.size _ _ _ rfl (setRow_heap _ _ _ _ _ _ HKR4.out) Tryz.underlying28 rfl HSX.out) rfl ⟨⟨X, by rw [← HCR.out, HC.out]; rfl, by rw [HRX.out]; exact HX.out.keep fun b hb _ => ⟨.inr (Nat.le_of_lt (Nat.lt_of_lt_of_le HW1.out hb)), setRow_other _ _ _ _ (by have := HW1.out; omega)⟩⟩, below_setRow HB4.out (Nat.le_refl _) _⟩
  | false =>
   by_cases hlt : k < l.length
   ·obtain ⟨x, b, off, X, hx, rfl, hok, hbl, hr, hv⟩ := HROW.out.at_ hlt
    have hrr : w1.rangeAt b (off + k * 29) X := range_keep hr (HB0.out.block b hbl)
    have hc3 := hrr 3 _ hv.c3
    have hc2 := hrr 2 _ hv.c2
    have HFD := hid (Co.find_drop (Co.isKind 1) l k x hx)
    have hcnt : k + 1 ≤ l.length := hlt
    clear hr hv hx hrr
    by_cases hkd : x.kind = 1
    ·have HRX : Hid (CR = x.sender) := hid (by rw [HF.out.2, HFD.out]; simp [Co.isKind, hkd])
     have hkb : (x.kind == 1) = true := eqb_true hkd
     clear hkd
     go_wp2_with fail
     go_round
     case rel => exact ⟨k + 1, true, x.sender, hlt, rfl, rfl, by go_num, HRX⟩
     case measure => simp [RowKit.intOf]; omega
    ·have HRX : Hid (c = [] ∧ CR = match (l.drop (k + 1)).find? (Co.isKind 1) with | some e => e.sender | none => []) := hid (by refine ⟨HF.out.1, ?_⟩; rw [HF.out.2, HFD.out]; simp [Co.isKind, hkd])
     have hkb : (x.kind == 1) = false := eqb_false hkd
     clear hkd
     go_wp2_with fail
     go_round
     case rel => exact ⟨k + 1, false, c, hlt, rfl, rfl, by go_num, HRX⟩
     case measure => simp [RowKit.intOf]; omega
   ·obtain rfl : k = l.length := by omega
    have HC : Hid (CR = c) := hid (by rw [HF.out.2, HF.out.1, List.drop_length]; rfl)
    clear HF
    go_wp2_with fail
    go_loop [7] (fun ix => ∃ k : Nat, k ≤ l.length ∧ ix = .int .i64 (k : Int) ∧ Hid ((l.drop k).find? (Co.isKind 3) = R3)) (fun ix => l.length - (RowKit.intOf ix).toNat)
    case atStart => exact ⟨0, Nat.zero_le _, rfl, HR3⟩
    case round =>
     clear hk
     obtain ⟨k, hk, rfl, HF⟩ := hrel
     by_cases hlt : k < l.length
     ·obtain ⟨x, b, off, X, hx, rfl, hok, hbl, hr, hv⟩ := HROW.out.at_ hlt
      have hrr : w1.rangeAt b (off + k * 29) X := range_keep hr (HB0.out.block b hbl)
      have hc3 := hrr 3 _ hv.c3
      have HFD := hid (Co.find_drop (Co.isKind 3) l k x hx)
      have hcnt : k + 1 ≤ l.length := hlt
      by_cases hkd : x.kind = 3
      ·have HRX : Hid (Co.levelsOf l = Co.lvOf x) := hid (by rw [HLF.out, ← HF.out, HFD.out]; simp [Co.isKind, hkd])
       have hkb : (x.kind == 3) = true := eqb_true hkd
       obtain ⟨Y, hry, hy⟩ := ev_lv hv hr
       have hry' : w1.rangeAt b (off + k * 29 + 10 + 7) Y := range_keep hry (HB0.out.block b hbl)
       have HLX : Hid ((Tryz.prog.info? 28).map (·.size) = some Y.length) := hid (by rw [size_lv, hy.len])
       have HSX : Hid ((Tryz.prog.info? 28).map (·.size) = some Y.toArray.size) := hid (by rw [size_lv, List.size_toArray, hy.len])
       have HSZ : Hid (zLv.size = Y.toArray.size) := hid (by show 9 = Y.toArray.size; rw [List.size_toArray, hy.len])
       have HOV : Hid (Y.toArray.all (·.oneCell') = true) := hid (all_oneCell_toArray hy.one)
       have HY := hid hy
       clear hkd hr hv hx hrr hry hy
       go_wp2_with (first
        | ((with_reducible refine wpList_load_mid rfl 28 _ rfl b (off + k * 29 + 10 + 7) ?_ Y _ hry' Tryz.underlying28 ?_ HLX.out ?_); rfl; rfl)
        | ((with_reducible refine store_rowe rfl 28 _ _ rfl w.heap.size Y.toArray ?_ ?_ 28 zLv HKZ.out HSX.out HSZ.out HOV.out ?_); rfl; rfl))
       have hbf := below_setRow HB0.out (Nat.le_refl _) Y.toArray
       exact bodyPost_ret (results_row_tmp rfl _ _ w.heap.size _ _ _ rfl (setRow_heap _ _ _ _ _ _ HKZ.out) Tryz.underlying28 rfl HSX.out) rfl ⟨⟨Y, by rw [← HCR.out, HC.out]; rfl, by rw [HRX.out]; exact HY.out.keep fun b hb hlt => ⟨.inl hb, hbf.block b hlt⟩⟩, hbf⟩
      ·have HRX : Hid ((l.drop (k + 1)).find? (Co.isKind 3) = R3) := hid (by rw [← HF.out, HFD.out]; simp [Co.isKind, hkd])
       have hkb : (x.kind == 3) = false := eqb_false hkd
       clear hkd hr hv hx hrr
       go_wp2_with fail
       go_round
       case rel => exact ⟨k + 1, hlt, by go_num, HRX⟩
       case measure => simp [RowKit.intOf]; omega
     ·obtain rfl : k = l.length := by omega
      have HRX : Hid (Co.levelsOf l = Co.lvDefault c) := hid (by rw [HLF.out, ← HF.out, List.drop_length, ← HC.out, HCR.out]; rfl)
      go_wp2_with fail
      refine (rdefault_any c w1).mono ?_
      rintro e w4 ⟨⟨X, rfl, hX⟩, hb4⟩
      have HB4 := hid (HB0.out.trans (hb4.mono HB0.out.size))
      have HKR4 := hid (HKZ.out.below hb4 HKZ.out.lt)
      have HSX : Hid ((Tryz.prog.info? 28).map (·.size) = some X.toArray.size) := hid (by rw [size_lv, List.size_toArray, hX.len])
      have HSZ : Hid (zLv.size = X.toArray.size) := hid (by show 9 = X.toArray.size; rw [List.size_toArray, hX.len])
      have HOV : Hid (X.toArray.all (·.oneCell') = true) := hid (all_oneCell_toArray hX.one)
      have HX := hid hX
      have HW1 : Hid (w.heap.size < w1.heap.size) := hid HKZ.out.lt
      clear hb4 hX
      go_wp2_with ((with_reducible refine store_rowe rfl 28 _ _ rfl w.heap.size X.toArray ?_ ?_ 28 zLv HKR4.out HSX.out HSZ.out HOV.out ?_); rfl; rfl)
      exact bodyPost_ret (results_row_tmp rfl _ _ w.heap.size _ _ _ rfl (setRow_heap _ _ _ _ _ _ HKR4.out) Tryz.underlying28 rfl HSX.out) rfl ⟨⟨X, by rw [← HCR.out, HC.out]; rfl, by rw [HRX.out]; exact HX.out.keep fun b hb _ => ⟨.inr (Nat.le_of_lt (Nat.lt_of_lt_of_le HW1.out hb)), setRow_other _ _ _ _ (by have := HW1.out; omega)⟩⟩, below_setRow HB4.out (Nat.le_refl _) _⟩
end Go.Proofs.YtacjhbbieeliaaaGreatDoor
