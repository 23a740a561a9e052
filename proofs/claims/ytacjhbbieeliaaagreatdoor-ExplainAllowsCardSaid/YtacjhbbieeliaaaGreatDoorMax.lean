/- The texts Na, Nb, Nc, Nd of this proof, one behind the other. -/
import Derived.BigQuiet
import Derived.Test.YtacjhbbieeliaaaGreatDoorMaw
set_option linter.unusedSimpArgs false
set_option maxHeartbeats 16000000
set_option maxRecDepth 100000
/- The text Na. -/
namespace Go.Proofs.YtacjhbbieeliaaaGreatDoor
open Go.RowKit Go.Lib
set_option linter.unusedVariables false
set_option linter.unusedSimpArgs false
theorem eqb_true {a b : Int} (h : a = b) : (a == b) = true := by rw [beq_iff_eq]; exact h
theorem eqb_false {a b : Int} (h : a ≠ b) : (a == b) = false := by rw [beq_eq_false_iff_ne]; exact h
theorem join_any (a b : Int) (w : World) : Calls Tryz.prog 48 #[.int .i64 a, .int .i64 b] w fun e w' => e = .returned (.int .i64 (Co.joinE a b)) ∧ w' = w := by
 obtain ⟨R, hR⟩ : ∃ R, R = Co.joinE a b := ⟨_, rfl⟩
 have HR : Hid (R = if b = 3 ∨ a = 1 ∨ (b = 1 ∧ (a = 0 ∨ a = 2 ∨ a = 3)) then 0 else 21) := hid hR
 rw [← hR]
 clear hR
 by_cases h3 : b = 3
 ·have e3 := eqb_true h3
  have HE : Hid (R = 0) := hid (by rw [HR.out, if_pos (.inl h3)])
  clear h3
  go_enter Tryz.func48, Tryz.ntmps48
  go_wp2_with fail
  go_ret
  exact ⟨ret_int HE.out.symm, rfl⟩
 have e3 := eqb_false h3
 by_cases a1 : a = 1
 ·have f1 := eqb_true a1
  have HE : Hid (R = 0) := hid (by rw [HR.out, if_pos (.inr (.inl a1))])
  subst a1
  clear h3
  go_enter Tryz.func48, Tryz.ntmps48
  go_wp2_with fail
  go_ret
  exact ⟨ret_int HE.out.symm, rfl⟩
 by_cases b1 : b = 1
 ·have e1 := eqb_true b1
  by_cases ha : a = 0 ∨ a = 2 ∨ a = 3
  ·have HE : Hid (R = 0) := hid (by rw [HR.out, if_pos (.inr (.inr ⟨b1, ha⟩))])
   clear h3 a1
   subst b1
   rcases ha with rfl | rfl | rfl
   all_goals
    go_enter Tryz.func48, Tryz.ntmps48
    go_wp2_with fail
    go_ret
    exact ⟨ret_int HE.out.symm, rfl⟩
  ·have HE : Hid (R = 21) := hid (by rw [HR.out, if_neg (by rintro (h | h | ⟨_, h⟩); exact h3 h; exact a1 h; exact ha h)])
   have f0 := eqb_false (a := a) (b := 0) (fun h => ha (.inl h))
   have f1 := eqb_false (a := a) (b := 1) a1
   have f2 := eqb_false (a := a) (b := 2) (fun h => ha (.inr (.inl h)))
   have f3 := eqb_false (a := a) (b := 3) (fun h => ha (.inr (.inr h)))
   clear h3 a1 ha b1
   go_enter Tryz.func48, Tryz.ntmps48
   go_wp2_with fail
   go_ret
   exact ⟨ret_int HE.out.symm, rfl⟩
 ·have e1 := eqb_false b1
  have HE : Hid (R = 21) := hid (by rw [HR.out, if_neg (by rintro (h | h | ⟨h, _⟩); exact h3 h; exact a1 h; exact b1 h)])
  by_cases ha : a = 0 ∨ a = 2 ∨ a = 3
  ·clear h3 a1 b1
   rcases ha with rfl | rfl | rfl
   all_goals
    go_enter Tryz.func48, Tryz.ntmps48
    go_wp2_with fail
    go_ret
    exact ⟨ret_int HE.out.symm, rfl⟩
  ·have f0 := eqb_false (a := a) (b := 0) (fun h => ha (.inl h))
   have f1 := eqb_false (a := a) (b := 1) a1
   have f2 := eqb_false (a := a) (b := 2) (fun h => ha (.inr (.inl h)))
   have f3 := eqb_false (a := a) (b := 3) (fun h => ha (.inr (.inr h)))
   clear h3 a1 ha b1
   go_enter Tryz.func48, Tryz.ntmps48
   go_wp2_with fail
   go_ret
   exact ⟨ret_int HE.out.symm, rfl⟩
theorem knock_any (a b : Int) (w : World) : Calls Tryz.prog 49 #[.int .i64 a, .int .i64 b] w fun e w' => e = .returned (.int .i64 (Co.knockE a b)) ∧ w' = w := by
 obtain ⟨R, hR⟩ : ∃ R, R = Co.knockE a b := ⟨_, rfl⟩
 have HR : Hid (R = if a = 2 ∧ (b = 0 ∨ b = 2) then 0 else 21) := hid hR
 rw [← hR]
 clear hR
 by_cases a2 : a = 2
 ·subst a2
  by_cases hb : b = 0 ∨ b = 2
  ·have HE : Hid (R = 0) := hid (by rw [HR.out, if_pos ⟨rfl, hb⟩])
   rcases hb with rfl | rfl
   all_goals
    go_enter Tryz.func49, Tryz.ntmps49
    go_wp2_with fail
    go_ret
    exact ⟨ret_int HE.out.symm, rfl⟩
  ·have HE : Hid (R = 21) := hid (by rw [HR.out, if_neg (fun h => hb h.2)])
   have f0 := eqb_false (a := b) (b := 0) (fun h => hb (.inl h))
   have f2 := eqb_false (a := b) (b := 2) (fun h => hb (.inr h))
   clear hb
   go_enter Tryz.func49, Tryz.ntmps49
   go_wp2_with fail
   go_ret
   exact ⟨ret_int HE.out.symm, rfl⟩
 ·have HE : Hid (R = 21) := hid (by rw [HR.out, if_neg (fun h => a2 h.1)])
  have f2 : (a != 2) = true := by rw [bne_iff_ne]; exact a2
  clear a2
  go_enter Tryz.func49, Tryz.ntmps49
  go_wp2_with fail
  go_ret
  exact ⟨ret_int HE.out.symm, rfl⟩
theorem move_out (a b : Int) (self : Bool) (w : World) (h : a < 0 ∨ 4 < a ∨ b < 0 ∨ 4 < b) : Calls Tryz.prog 45 #[.int .i64 a, .int .i64 b, .bool self] w fun e w' => e = .returned (.bool false) ∧ Below w.heap.size w w' := by
 by_cases h1 : a < 0
 ·go_enter Tryz.func45, Tryz.ntmps45
  go_wp2_with fail
  go_ret
  exact ⟨rfl, Below.refl _ _⟩
 by_cases h2 : 4 < a
 ·go_enter Tryz.func45, Tryz.ntmps45
  go_wp2_with fail
  go_ret
  exact ⟨rfl, Below.refl _ _⟩
 by_cases h3 : b < 0
 ·go_enter Tryz.func45, Tryz.ntmps45
  go_wp2_with fail
  go_ret
  exact ⟨rfl, Below.refl _ _⟩
 have h4 : 4 < b := by omega
 go_enter Tryz.func45, Tryz.ntmps45
 go_wp2_with fail
 go_ret
 exact ⟨rfl, Below.refl _ _⟩
theorem below3 (w : World) (a b c : Obj) (n : Nat) : Below w.heap.size w ((((w.alloc a).alloc b).alloc c).drewN n) :=
 below_drewN ((((Below.refl w.heap.size w).alloc (Nat.le_refl _) a).alloc (by simp) b).alloc (by rw [World.size_alloc, World.size_alloc]; omega) c) n
theorem move_0 (b : Int) (self : Bool) (w : World) (h : b = 0 ∨ b = 1 ∨ b = 2 ∨ b = 3 ∨ b = 4) : Calls Tryz.prog 45 #[.int .i64 0, .int .i64 b, .bool self] w fun e w' => e = .returned (.bool (Co.move 0 b self)) ∧ Below w.heap.size w w' := by
 rcases h with rfl | rfl | rfl | rfl | rfl
 all_goals
  cases self
 all_goals
  go_enter Tryz.func45, Tryz.ntmps45
  go_wp2_with fail
  go_quiet (fail)
  go_wp2_with fail
  go_ret
  exact ⟨ret_bool (by kernel_rfl), below3 ..⟩
theorem move_1 (b : Int) (self : Bool) (w : World) (h : b = 0 ∨ b = 1 ∨ b = 2 ∨ b = 3 ∨ b = 4) : Calls Tryz.prog 45 #[.int .i64 1, .int .i64 b, .bool self] w fun e w' => e = .returned (.bool (Co.move 1 b self)) ∧ Below w.heap.size w w' := by
 rcases h with rfl | rfl | rfl | rfl | rfl
 all_goals
  cases self
 all_goals
  go_enter Tryz.func45, Tryz.ntmps45
  go_wp2_with fail
  go_quiet (fail)
  go_wp2_with fail
  go_ret
  exact ⟨ret_bool (by kernel_rfl), below3 ..⟩
theorem move_2 (b : Int) (self : Bool) (w : World) (h : b = 0 ∨ b = 1 ∨ b = 2 ∨ b = 3 ∨ b = 4) : Calls Tryz.prog 45 #[.int .i64 2, .int .i64 b, .bool self] w fun e w' => e = .returned (.bool (Co.move 2 b self)) ∧ Below w.heap.size w w' := by
 rcases h with rfl | rfl | rfl | rfl | rfl
 all_goals
  cases self
 all_goals
  go_enter Tryz.func45, Tryz.ntmps45
  go_wp2_with fail
  go_quiet (fail)
  go_wp2_with fail
  go_ret
  exact ⟨ret_bool (by kernel_rfl), below3 ..⟩
theorem move_3 (b : Int) (self : Bool) (w : World) (h : b = 0 ∨ b = 1 ∨ b = 2 ∨ b = 3 ∨ b = 4) : Calls Tryz.prog 45 #[.int .i64 3, .int .i64 b, .bool self] w fun e w' => e = .returned (.bool (Co.move 3 b self)) ∧ Below w.heap.size w w' := by
 rcases h with rfl | rfl | rfl | rfl | rfl
 all_goals
  cases self
 all_goals
  go_enter Tryz.func45, Tryz.ntmps45
  go_wp2_with fail
  go_quiet (fail)
  go_wp2_with fail
  go_ret
  exact ⟨ret_bool (by kernel_rfl), below3 ..⟩
theorem move_4 (b : Int) (self : Bool) (w : World) (h : b = 0 ∨ b = 1 ∨ b = 2 ∨ b = 3 ∨ b = 4) : Calls Tryz.prog 45 #[.int .i64 4, .int .i64 b, .bool self] w fun e w' => e = .returned (.bool (Co.move 4 b self)) ∧ Below w.heap.size w w' := by
 rcases h with rfl | rfl | rfl | rfl | rfl
 all_goals
  cases self
 all_goals
  go_enter Tryz.func45, Tryz.ntmps45
  go_wp2_with fail
  go_quiet (fail)
  go_wp2_with fail
  go_ret
  exact ⟨ret_bool (by kernel_rfl), below3 ..⟩
theorem move_any (a b : Int) (self : Bool) (w : World) : Calls Tryz.prog 45 #[.int .i64 a, .int .i64 b, .bool self] w fun e w' => e = .returned (.bool (Co.move a b self)) ∧ Below w.heap.size w w' := by
 by_cases h : a < 0 ∨ 4 < a ∨ b < 0 ∨ 4 < b
 ·have e : Co.move a b self = false := by
   unfold Co.move
   by_cases h1 : a < 0 ∨ 4 < a
   ·rw [if_pos h1]
   ·rw [if_neg h1, if_neg (by omega), if_neg (by omega), if_neg (by omega), if_neg (by omega), if_neg (by omega)]
  rw [e]
  exact move_out a b self w h
 ·have hb : b = 0 ∨ b = 1 ∨ b = 2 ∨ b = 3 ∨ b = 4 := by omega
  rcases (show a = 0 ∨ a = 1 ∨ a = 2 ∨ a = 3 ∨ a = 4 by omega) with rfl | rfl | rfl | rfl | rfl
  ·exact move_0 b self w hb
  ·exact move_1 b self w hb
  ·exact move_2 b self w hb
  ·exact move_3 b self w hb
  ·exact move_4 b self w hb
end Go.Proofs.YtacjhbbieeliaaaGreatDoor
/- The text Nb. -/
namespace Go.Proofs.YtacjhbbieeliaaaGreatDoor
open Go.RowKit Go.Lib
set_option linter.unusedVariables false
set_option linter.unusedSimpArgs false
def RulA (r : Int) (e : Ending) : Prop := ∃ c, e = .returned (.tuple #[.int .i64 r, c])
theorem rowS1 : RowU 24 9 1 16 := ⟨Tryz.underlying24, ⟨_, (by kernel_rfl : (Tryz.prog.info? 9).map (fun i => (i.zero, i.size, i.bytes)) = some (some (.string ⟨#[]⟩), 1, 16)), rfl⟩, by decide, by decide⟩
theorem rof_any (ok : Nat → Prop) (l : List Co.Ev) (A : Option Addr) (cap : Nat) (w : World) (h : EvRow ok w A l) (hl : l.length ≤ 1000000) (hs : ∀ e ∈ l, e.allow.length ≤ 1000000) :
  Calls Tryz.prog 47 #[.slice A l.length cap] w fun e w' => RulA (Co.rulesOf l) e ∧ Below w.heap.size w w' := by
 have HROW := hid h
 have HS := hid hs
 obtain ⟨R, hR⟩ : ∃ R, R = Co.rulesOf l := ⟨_, rfl⟩
 have HR0 : Hid ((match (l.drop 0).find? (Co.isKind 4) with | some e => e.n | none => 0) = R) := hid (by rw [hR]; rfl)
 rw [← hR]
 clear h hR hs
 go_enter Tryz.func47, Tryz.ntmps47
 go_wp2_with fail
 go_loopw [8] (fun ix wr => ∃ k : Nat, k ≤ l.length ∧ ix = .int .i64 (k : Int) ∧ Hid ((match (l.drop k).find? (Co.isKind 4) with | some e => e.n | none => 0) = R) ∧ Below w.heap.size w wr) (fun ix _ => l.length - (RowKit.intOf ix).toNat)
 case atStart => exact ⟨0, Nat.zero_le _, rfl, HR0, Below.refl _ _⟩
 case round =>
  obtain ⟨k, hk, rfl, HF, hb⟩ := hrel
  have HB := hid hb
  by_cases hlt : k < l.length
  ·obtain ⟨x, b, off, X, hx, rfl, hok, hbl, hr, hv⟩ := HROW.out.at_ hlt
   have hrr : wr.rangeAt b (off + k * 29) X := range_keep hr (hb.block b hbl)
   have HV := hid (hv.bel hb)
   have hone := EvS.all hv
   have HL2 := hid (size_evL hv)
   have HL3 := hid (size_evA hv)
   have HSZ : Hid (zEv.size = X.toArray.size) := hid (by show 29 = X.toArray.size; rw [List.size_toArray, hv.len])
   have HXX : Hid (X.toArray.toList = X) := hid rfl
   have HFD := hid (Co.find_drop (Co.isKind 4) l k x hx)
   have HXS := hid (HS.out x (List.mem_of_getElem? hx))
   have hcnt : k + 1 ≤ l.length := hlt
   clear hb hr hv hx
   by_cases hkd : x.kind = 4
   ·have HRX : Hid (R = x.n) := hid (by rw [← HF.out, HFD.out]; simp [Co.isKind, hkd])
    have hkb : (x.kind == 4) = true := by rw [beq_iff_eq]; exact hkd
    clear hkd
    go_upto_region 5 with (first
      | ((with_reducible refine wpList_load_mid rfl 34 _ rfl b (off + k * 29) ?_ X _ hrr Tryz.underlying34 ?_ HL2.out ?_); rfl; rfl)
      | ((with_reducible refine wpList_store_row' rfl 34 _ _ rfl wr.heap.size X.toArray ?_ ?_ 34 _ (Blk.new wr 34 _) HL3.out ?_ hone ?_); rfl; rfl; exact HSZ.out; intro w2 hk2 hs2 hbl2; have hc3 : w2.cell? ⟨wr.heap.size, 3, none⟩ = some (.int .i64 x.kind) := (hk2.cell 3).trans (by rw [List.getElem?_toArray]; exact HV.out.c3)))
    have HB2 : Hid (Below wr.heap.size wr w2) := hid (((Below.refl wr.heap.size wr).alloc (Nat.le_refl _) (.cells zEv 34)).trans (hbl2 _ (Nat.le_refl _)))
    have HEB : Hid (Below w.heap.size w w2) := hid (HB.out.trans (HB2.out.mono HB.out.size))
    have HK2 := hid hk2
    have hc11 : w2.drew.cell? ⟨wr.heap.size, 11, none⟩ = some (.int .i64 x.n) := (hk2.cell 11).trans (by rw [List.getElem?_toArray]; exact HV.out.c11)
    obtain ⟨_, _, cl, _, _, _, hX, hL⟩ := HV.out
    obtain ⟨Al, capl, rfl, hra, -⟩ := hL.allow
    have hc15 : w2.drew.cell? ⟨wr.heap.size, 15, none⟩ = some (.slice Al x.allow.length capl) := (hk2.cell 15).trans (by rw [List.getElem?_toArray, hX]; rfl)
    have HRA : Hid (Rd w2.drew Al (x.allow.length * 1) (strL x.allow)) := hid (Rd.drew (hra.below HB2.out))
    have HN2 := hid hk2.lt
    clear hk2 hs2 hbl2 hX hL hra hrr hone hc3
    generalize x.n = xn at *
    refine wp_region_noPanic ?_
    refine wp_region_held_drew (S := fun W => W.cell? ⟨wr.heap.size, 11, none⟩ = some (.int .i64 xn) ∧ W.cell? ⟨wr.heap.size, 15, none⟩ = some (.slice Al x.allow.length capl)) (by kernel_rfl) (⟨hc11, hc15⟩) (fun hHeld => ?_)
    refine wpAnyH_take (i := 0) (oi := _) (v := ?_) rfl (by kernel_rfl) (by kernel_rfl) (by kernel_rfl) (fun _ _ _ h => h) (Or.inl ⟨by kernel_rfl, ?_⟩) hHeld ?_
    rotate_left
    ·intro wq hSw
     go_simp
     (try with_reducible rfl)
    (try simp only [Act.put, pk1, pk2, pk3, pk4, pk5, pk6])
    refine wpAnyH_take (i := 1) (oi := _) (v := ?_) rfl (by kernel_rfl) (by kernel_rfl) (by kernel_rfl) (fun _ _ _ h => h) (Or.inl ⟨by kernel_rfl, ?_⟩) hHeld ?_
    rotate_left
    ·intro wq hSw
     go_simp
     (try with_reducible rfl)
    (try simp only [Act.put, pk1, pk2, pk3, pk4, pk5, pk6])
    refine wpAnyH_take (i := 2) (oi := _) (v := ?_) rfl (by kernel_rfl) (by kernel_rfl) (by kernel_rfl) (fun _ _ _ h => h) (Or.inl ⟨by kernel_rfl, ?_⟩) hHeld ?_
    rotate_left
    ·intro wq hSw
     have hSw1 := hSw.1
     go_simp
     (try with_reducible rfl)
    (try simp only [Act.put, pk1, pk2, pk3, pk4, pk5, pk6])
    refine wpAnyH_take (i := 4) (oi := _) (v := ?_) rfl (by kernel_rfl) (by kernel_rfl) (by kernel_rfl) (fun _ _ _ h => h) (Or.inl ⟨by kernel_rfl, ?_⟩) hHeld ?_
    rotate_left
    ·intro wq hSw
     go_simp
     (try with_reducible rfl)
    (try simp only [Act.put, pk1, pk2, pk3, pk4, pk5, pk6])
    refine wpAnyH_take (i := 5) (oi := _) (v := ?_) rfl (by kernel_rfl) (by kernel_rfl) (by kernel_rfl) (fun _ _ _ h => h) (Or.inl ⟨by kernel_rfl, ?_⟩) hHeld ?_
    rotate_left
    ·intro wq hSw
     go_simp
     (try with_reducible rfl)
    (try simp only [Act.put, pk1, pk2, pk3, pk4, pk5, pk6])
    refine wpAnyH_take (i := 6) (oi := _) (v := ?_) rfl (by kernel_rfl) (by kernel_rfl) (by kernel_rfl) (fun _ _ _ h => h) (Or.inl ⟨by kernel_rfl, ?_⟩) hHeld ?_
    rotate_left
    ·intro wq hSw
     have hSw2 := hSw.2
     go_simp
     (try with_reducible rfl)
    (try simp only [Act.put, pk1, pk2, pk3, pk4, pk5, pk6])
    refine wpAnyH_ready (rs := [3]) (by kernel_rfl) (by simp) ?_
    refine AllReadyH.cons (o := _) rfl (fun K hK => ?_) AllReadyH.nil
    go_simp
    have hba := (Below.refl w2.heap.size w2.drew).alloc (Nat.le_refl _) (.cells #[] 9)
    have HB3 := hid (HEB.out.drew.trans (hba.mono HEB.out.size))
    have HRA3 := hid (HRA.out.below hba)
    have hc113 : (w2.drew.alloc (.cells #[] 9)).cell? ⟨wr.heap.size, 11, none⟩ = some (.int .i64 xn) := (Below.cell hba (p := ⟨wr.heap.size, 11, none⟩) HN2.out).trans hc11
    have hc153 : (w2.drew.alloc (.cells #[] 9)).cell? ⟨wr.heap.size, 15, none⟩ = some (.slice Al x.allow.length capl) := (Below.cell hba (p := ⟨wr.heap.size, 15, none⟩) HN2.out).trans hc15
    have HO3 : Hid ((w2.drew.alloc (.cells #[] 9)).ownsRow w.heap.size 9 1 (.slice (some ⟨w2.heap.size, 0, none⟩) 0 0) 0 []) := hid ⟨rfl, .inr ⟨w2.heap.size, 0, #[], rfl, HEB.out.size, Blk.new w2.drew 9 #[], Nat.le_refl _, by decide, rfl, rfl⟩⟩
    have HS3 := hid HB3.out.size
    clear hba hc11 hc15
    refine hK.out _ _ ⟨hc113, hc153⟩ (fun hHeld2 => ?_)
    clear hK K hHeld
    have hHeld := hHeld2
    clear hHeld2
    (try simp only [Act.put, pk1, pk2, pk3, pk4, pk5, pk6])
    refine wpAnyH_ready (rs := [7]) (by kernel_rfl) (by simp) ?_
    refine AllReadyH.cons (o := _) rfl (fun K hK => ?_) AllReadyH.nil
    refine step_row rowS1 rfl _ _ rfl (w2.drew.alloc (.cells #[] 9)) (.slice (some ⟨w2.heap.size, 0, none⟩) 0 0) 0 [] (strL x.allow) w.heap.size ?_ HO3.out Al x.allow.length capl ?_ HRA3.out (one_strs _) HS3.out (by have := HXS.out; omega) ?_
    ·kernel_rfl
    ·kernel_rfl
    intro v4 w4 ho4 hg4 hb4 hw4
    have HB4 := hid (hb4 w HB3.out)
    have hne : some wr.heap.size ≠ (Value.slice (some ⟨w2.heap.size, 0, none⟩) 0 0).ownBlock := fun e => by
     have h1 : wr.heap.size = w2.heap.size := by simpa [Value.ownBlock] using e
     have h2 := HN2.out
     omega
    have hlt3 : wr.heap.size < (w2.drew.alloc (.cells #[] 9)).heap.size := by rw [World.size_alloc]; have := HN2.out; show wr.heap.size < w2.heap.size + 1; omega
    have hq11 : w4.cell? ⟨wr.heap.size, 11, none⟩ = some (.int .i64 xn) := (World.cell?_of_block (w := w2.drew.alloc (.cells #[] 9)) (hg4.block wr.heap.size hlt3 hne)).trans hc113
    have hq15 : w4.cell? ⟨wr.heap.size, 15, none⟩ = some (.slice Al x.allow.length capl) := (World.cell?_of_block (w := w2.drew.alloc (.cells #[] 9)) (hg4.block wr.heap.size hlt3 hne)).trans hc153
    clear ho4 hg4 hb4 hw4 hne hlt3 hc113 hc153
    refine hK.out _ _ ⟨hq11, hq15⟩ (fun hHeld2 => ?_)
    clear hK K hHeld
    have hHeld := hHeld2
    clear hHeld2
    (try simp only [Act.put, pk1, pk2, pk3, pk4, pk5, pk6])
    refine wpAnyH_take (i := 8) (oi := _) (v := ?_) rfl (by kernel_rfl) (by kernel_rfl) (by kernel_rfl) (fun _ _ _ h => h) (Or.inl ⟨by kernel_rfl, ?_⟩) hHeld ?_
    rotate_left
    ·intro wq hSw
     go_simp
     (try with_reducible rfl)
    (try simp only [Act.put, pk1, pk2, pk3, pk4, pk5, pk6])
    refine wpAnyH_take (i := 9) (oi := _) (v := ?_) rfl (by kernel_rfl) (by kernel_rfl) (by kernel_rfl) (fun _ _ _ h => h) (Or.inl ⟨by kernel_rfl, ?_⟩) hHeld ?_
    rotate_left
    ·intro wq hSw
     go_simp
     (try with_reducible rfl)
    (try simp only [Act.put, pk1, pk2, pk3, pk4, pk5, pk6])
    refine wpAnyH_done (by kernel_rfl) ?_ _
    refine NoPanic.normal ?_
    go_wp2_with fail
    go_ret2
    exact ⟨⟨_, by rw [HRX.out]; rfl⟩, HB4.out⟩
   ·have HRX : Hid ((match (l.drop (k + 1)).find? (Co.isKind 4) with | some e => e.n | none => 0) = R) := hid (by rw [← HF.out, HFD.out]; simp [Co.isKind, hkd])
    have hkb : (x.kind == 4) = false := by rw [beq_eq_false_iff_ne]; exact hkd
    clear hkd
    go_wp2_with (first
      | ((with_reducible refine wpList_load_mid rfl 34 _ rfl b (off + k * 29) ?_ X _ hrr Tryz.underlying34 ?_ HL2.out ?_); rfl; rfl)
      | ((with_reducible refine wpList_store_row' rfl 34 _ _ rfl wr.heap.size X.toArray ?_ ?_ 34 _ (Blk.new wr 34 _) HL3.out ?_ hone ?_); rfl; rfl; exact HSZ.out; intro w2 hk2 hs2 hbl2; have hc3 : w2.cell? ⟨wr.heap.size, 3, none⟩ = some (.int .i64 x.kind) := (hk2.cell 3).trans (by rw [List.getElem?_toArray]; exact HV.out.c3)))
    have HEB : Hid (Below w.heap.size w w2) := hid (HB.out.trans (((Below.refl wr.heap.size wr).alloc (Nat.le_refl _) (.cells zEv 34)).trans (hbl2 _ (Nat.le_refl _)) |>.mono HB.out.size))
    go_roundw
    case rel => exact ⟨k + 1, hlt, by go_num, HRX, HEB.out⟩
    case measure => simp [RowKit.intOf]; omega
  ·obtain rfl : k = l.length := by omega
   have HFN : Hid (R = 0) := hid (by rw [← HF.out, List.drop_length]; rfl)
   clear hb
   go_wp2_with fail
   go_ret2
   exact ⟨⟨_, by rw [HFN.out]; rfl⟩, HB.out⟩
def ownE (m now : Int) (l : List Co.Ev) : Int := if m = 3 then Co.joinE (Co.rulesOf l) now else if m = 2 then Co.knockE (Co.rulesOf l) now else 0
theorem aown_any (ok : Nat → Prop) (l : List Co.Ev) (A : Option Addr) (cap : Nat) (m now : Int) (w : World) (h : EvRow ok w A l) (hl : l.length ≤ 1000000) (hs : ∀ e ∈ l, e.allow.length ≤ 1000000) :
  Calls Tryz.prog 81 #[.int .i64 m, .int .i64 now, .slice A l.length cap] w fun e w' => e = .returned (.int .i64 (ownE m now l)) ∧ Below w.heap.size w w' := by
 have HRO := hid (rof_any ok l A cap w h hl hs)
 obtain ⟨R, hR⟩ : ∃ R, R = ownE m now l := ⟨_, rfl⟩
 have HR : Hid (R = if m = 3 then Co.joinE (Co.rulesOf l) now else if m = 2 then Co.knockE (Co.rulesOf l) now else 0) := hid hR
 rw [← hR]
 clear h hR hs
 generalize Co.rulesOf l = ru at *
 by_cases h3 : m = 3
 ·have HE : Hid (Co.joinE ru now = R) := hid (by rw [HR.out, if_pos h3])
  subst h3
  clear HR
  go_enter Tryz.func81, Tryz.ntmps81
  go_wp2_with fail
  refine HRO.out.mono ?_
  rintro e w2 ⟨⟨c, rfl⟩, hb2⟩
  go_wp2_with fail
  refine (join_any ru now w2).mono ?_
  rintro e w3 ⟨rfl, rfl⟩
  rw [HE.out]
  go_wp2_with fail
  go_ret
  exact ⟨rfl, hb2⟩
 have e3 := eqb_false h3
 by_cases h2 : m = 2
 ·have HE : Hid (Co.knockE ru now = R) := hid (by rw [HR.out, if_neg h3, if_pos h2])
  subst h2
  clear HR h3
  go_enter Tryz.func81, Tryz.ntmps81
  go_wp2_with fail
  refine HRO.out.mono ?_
  rintro e w2 ⟨⟨c, rfl⟩, hb2⟩
  go_wp2_with fail
  refine (knock_any ru now w2).mono ?_
  rintro e w3 ⟨rfl, rfl⟩
  rw [HE.out]
  go_wp2_with fail
  go_ret
  exact ⟨rfl, hb2⟩
 have e2 := eqb_false h2
 have HE : Hid (R = 0) := hid (by rw [HR.out, if_neg h3, if_neg h2])
 clear HR h3 h2
 go_enter Tryz.func81, Tryz.ntmps81
 go_wp2_with fail
 refine HRO.out.mono ?_
 rintro e w2 ⟨⟨c, rfl⟩, hb2⟩
 go_wp2_with fail
 go_ret
 exact ⟨ret_int HE.out.symm, hb2⟩
end Go.Proofs.YtacjhbbieeliaaaGreatDoor
/- The text Nc. -/
namespace Go.Proofs.YtacjhbbieeliaaaGreatDoor
open Go.RowKit Go.Lib
set_option linter.unusedVariables false
set_option linter.unusedSimpArgs false
theorem neb_true {a b : Int} (h : a ≠ b) : (a != b) = true := by rw [bne_iff_ne]; exact h
theorem neb_false {a b : Int} (h : a = b) : (a != b) = false := by rw [bne_eq_false_iff_eq]; exact h
theorem bstr_inj {a b : List UInt8} (h : bstr a = bstr b) : a = b := by
 have := congrArg (fun s : ByteArray => s.data.toList) h
 exact this
theorem afirst_any (ok : Nat → Prop) (e : Co.Ev) (X0 : List Value) (l : List Co.Ev) (A : Option Addr) (cap : Nat) (w : World) (hX : EvV ok w X0 e) (h : EvRow ok w A l) (hl : l.length ≤ 1000000) (hp : e.prev.length ≤ 1000000) :
  Calls Tryz.prog 79 #[.agg X0.toArray, .slice A l.length cap] w fun r w' => r = .returned (.bool (Co.firstB e l)) ∧ Below w.heap.size w w' := by
 have hb1 := (Below.refl w.heap.size w).alloc (Nat.le_refl _) (.cells X0.toArray 34)
 have HB1 := hid hb1
 have HK1 := hid (Blk.new w 34 X0.toArray)
 have HX := hid (hX.bel hb1)
 have HROW := hid (h.bel hb1)
 have HC : Hid (Calls Tryz.prog 37 #[.slice A l.length cap] (w.alloc (.cells X0.toArray 34)) fun e w' => FoundA ok (Co.createOf l) e w' ∧ Below (w.alloc (.cells X0.toArray 34)).heap.size (w.alloc (.cells X0.toArray 34)) w') := hid (create_any ok l A cap _ (h.bel hb1) hl)
 have HWS1 : Hid (w.heap.size < (w.alloc (.cells X0.toArray 34)).heap.size) := hid (by simp)
 obtain ⟨R, hR⟩ : ∃ R, R = Co.firstB e l := ⟨_, rfl⟩
 have HR : Hid (R = match Co.createOf l with | none => false | some c => e.prev == [c.id] && (e.sender == c.sender && (e.key == c.sender && (e.n == 3 && (l.find? (Co.isMem e.key)).isNone)))) := hid hR
 rw [← hR]
 clear hX h hR hb1
 generalize hw1 : w.alloc (.cells X0.toArray 34) = w1 at *
 go_enter Tryz.func79, Tryz.ntmps79
 go_wp2_with fail
 refine HC.out.mono ?_
 rintro r w3 ⟨⟨V, rfl, hv⟩, hb3⟩
 have hvl := hv.len
 rw [Array.length_toList] at hvl
 have HSX : Hid ((Tryz.prog.info? 34).map (·.size) = some V.size) := hid (by rw [size_ev, hvl])
 have HSZ : Hid (zEv.size = V.size) := hid hvl.symm
 have HOV : Hid (V.all (·.oneCell') = true) := hid (by have := EvS.all hv; rwa [Array.toArray_toList] at this)
 have HNEW := hid (Blk.new w3 34 zEv)
 have hb4 := below_setRow (g := w3.heap.size) ((Below.refl w3.heap.size w3).alloc (Nat.le_refl _) (.cells zEv 34)) (Nat.le_refl _) V
 have HK4 : Hid (Blk ((w3.alloc (.cells zEv 34)).setRow w3.heap.size V) w3.heap.size 34 V) := hid (setRow_heap _ _ _ _ _ _ HNEW.out)
 have HB14 := hid (hb3.trans (hb4.mono hb3.size))
 have HB4 := hid (HB1.out.trans (HB14.out.mono HB1.out.size))
 have HKE := hid (HK1.out.below HB14.out HWS1.out)
 have HV0 : Hid (V[0]? = some (.int .i64 ((Co.createOf l).getD default).id)) := hid (by rw [← Array.getElem?_toList]; exact hv.c0)
 have HV2 : Hid (V[2]? = some (.string (bstr ((Co.createOf l).getD default).sender))) := hid (by rw [← Array.getElem?_toList]; exact hv.c2)
 have HX4 := hid (HX.out.bel HB14.out)
 have HROW4 := hid (HROW.out.bel HB14.out)
 clear hv hb3 hb4 hvl
 generalize hw4 : (w3.alloc (.cells zEv 34)).setRow w3.heap.size V = w4 at *
 have HWS4 := hid HKE.out.lt
 go_upto_region 2 with ((with_reducible refine store_rowe rfl 34 _ _ rfl w3.heap.size V ?_ ?_ 34 zEv HNEW.out HSX.out HSZ.out HOV.out ?_); rfl; rfl; rw [hw4])
 obtain ⟨cp, _, _, _, _, _, hX0, hL⟩ := HX4.out
 obtain ⟨Ap, capp, rfl, hrp, -⟩ := hL.prev
 have hc8 : w4.cell? ⟨w.heap.size, 8, none⟩ = some (.slice Ap e.prev.length capp) := (HKE.out.cell 8).trans (by rw [List.getElem?_toArray, hX0]; rfl)
 have hc2 : w4.cell? ⟨w.heap.size, 2, none⟩ = some (.string (bstr e.sender)) := (HKE.out.cell 2).trans (by rw [List.getElem?_toArray]; exact HX4.out.c2)
 have hc5 : w4.cell? ⟨w.heap.size, 5, none⟩ = some (.string (bstr e.key)) := (HKE.out.cell 5).trans (by rw [List.getElem?_toArray]; exact HX4.out.c5)
 have hc11 : w4.cell? ⟨w.heap.size, 11, none⟩ = some (.int .i64 e.n) := (HKE.out.cell 11).trans (by rw [List.getElem?_toArray]; exact HX4.out.c11)
 have HE5 := hid hc5
 have HRP : Hid (Rd w4 Ap e.prev.length (intL e.prev)) := hid (by have := hrp; rw [Nat.mul_one] at this; exact this)
 clear hX0 hL hrp
 cases hcr : Co.createOf l with
 | none =>
  have HRF : Hid (R = false) := hid (by rw [HR.out, hcr])
  rw [show (none : Option Co.Ev).isSome = false from rfl]
  clear hcr
  go_quiet (fail)
  go_wp2_with fail
  go_ret
  exact ⟨ret_bool HRF.out.symm, below_drewN HB4.out _⟩
 | some c =>
  rw [hcr] at HR HV0 HV2
  have HR : Hid (R = (e.prev == [c.id] && (e.sender == c.sender && (e.key == c.sender && (e.n == 3 && (l.find? (Co.isMem e.key)).isNone))))) := HR
  have hd0 : w4.cell? ⟨w3.heap.size, 0, none⟩ = some (.int .i64 c.id) := (HK4.out.cell 0).trans HV0.out
  have hd2 : w4.cell? ⟨w3.heap.size, 2, none⟩ = some (.string (bstr c.sender)) := (HK4.out.cell 2).trans HV2.out
  rw [show (some c).isSome = true from rfl]
  clear hcr
  generalize c.id = cid at *
  generalize c.sender = csd at *
  by_cases hlen : e.prev.length = 1
  ·obtain ⟨pv, hpv⟩ : ∃ pv, e.prev = [pv] := by
    match hq : e.prev, hlen with
    | [a], _ => exact ⟨a, rfl⟩
   rw [hpv] at HR HRP hc8
   rw [show [pv].length = 1 from rfl] at HRP hc8
   obtain ⟨gp, op, rfl, hcp⟩ := HRP.out.2 0 _ (intL_at (l := [pv]) (k := 0) rfl)
   rw [Nat.add_zero] at hcp
   clear hlen hpv HRP
   by_cases hpc : pv = cid
   ·subst hpc
    have hn0 : (pv != pv) = false := by simp
    have HR : Hid (R = (e.sender == csd && (e.key == csd && (e.n == 3 && (l.find? (Co.isMem e.key)).isNone)))) := hid (by rw [HR.out]; simp)
    have hs0 := str_dec e.sender (bstr csd)
    by_cases hsn : e.sender = csd
    ·rw [show (bstr csd).data.toList = csd from rfl, decide_eq_true hsn] at hs0
     have HR : Hid (R = (e.key == csd && (e.n == 3 && (l.find? (Co.isMem e.key)).isNone))) := hid (by rw [HR.out, hsn]; simp)
     have hs1 := str_dec e.key (bstr csd)
     clear hsn
     by_cases hkc : e.key = csd
     ·rw [show (bstr csd).data.toList = csd from rfl, decide_eq_true hkc] at hs1
      have HR : Hid (R = (e.n == 3 && (l.find? (Co.isMem e.key)).isNone)) := hid (by rw [HR.out, hkc]; simp)
      clear hkc
      by_cases hn3 : e.n = 3
      ·have HR : Hid (R = (l.find? (Co.isMem e.key)).isNone) := hid (by rw [HR.out, hn3]; simp)
       have hn1 : (e.n != 3) = false := neb_false hn3
       clear hn3
       go_quiet (fail)
       go_wp2_with fail
       go_loopw [53] (fun ix wr => ∃ k : Nat, k ≤ l.length ∧ ix = .int .i64 (k : Int) ∧ Hid (((l.drop k).find? (Co.isMem e.key)).isNone = R) ∧ Below w4.heap.size w4 wr) (fun ix _ => l.length - (RowKit.intOf ix).toNat)
       case atStart => exact ⟨0, Nat.zero_le _, rfl, hid HR.out.symm, below_drewN (Below.refl _ _) _⟩
       case round =>
        obtain ⟨k, hk, rfl, HF, hb⟩ := hrel
        have HB := hid hb
        have HBW := hid (HB4.out.trans (HB.out.mono HB4.out.size))
        by_cases hlt : k < l.length
        ·obtain ⟨x, b, off, X, hx, rfl, hok, hbl, hr, hv⟩ := HROW4.out.at_ hlt
         have hrr : wr.rangeAt b (off + k * 29) X := range_keep hr (hb.block b hbl)
         have HV := hid (hv.bel hb)
         have hone := EvS.all hv
         have HL2 := hid (size_evL hv)
         have HL3 := hid (size_evA hv)
         have HSZ : Hid (zEv.size = X.toArray.size) := hid (by show 29 = X.toArray.size; rw [List.size_toArray, hv.len])
         have HXX : Hid (X.toArray.toList = X) := hid rfl
         have HFD := hid (Co.find_drop (Co.isMem e.key) l k x hx)
         have HE5 : Hid (wr.cell? ⟨w.heap.size, 5, none⟩ = some (.string (bstr e.key))) := hid ((Below.cell hb (p := ⟨w.heap.size, 5, none⟩) HWS4.out).trans HE5.out)
         have HWS : Hid (w.heap.size < wr.heap.size) := hid (Nat.lt_of_lt_of_le HWS4.out hb.size)
         have hcnt : k + 1 ≤ l.length := hlt
         clear hb hr hv hx
         by_cases hkd : x.kind = 2
         ·have hkb : (x.kind == 2) = true := eqb_true hkd
          have hse := str_dec x.key (bstr e.key)
          by_cases hkx : x.key = e.key
          ·have HRF : Hid (R = false) := hid (by rw [← HF.out, HFD.out]; simp [Co.isMem, hkd, hkx])
           rw [show (bstr e.key).data.toList = e.key from rfl, decide_eq_true hkx] at hse
           clear hkd hkx
           go_wp2_with (first
            | ((with_reducible refine wpList_load_mid rfl 34 _ rfl b (off + k * 29) ?_ X _ hrr Tryz.underlying34 ?_ HL2.out ?_); rfl; rfl) | ((with_reducible refine wpList_store_row' rfl 34 _ _ rfl wr.heap.size X.toArray ?_ ?_ 34 _ (Blk.new wr 34 _) HL3.out ?_ hone ?_); rfl; rfl; exact HSZ.out; intro w6 hk6 hs6 hbl6; have hc3 : w6.cell? ⟨wr.heap.size, 3, none⟩ = some (.int .i64 x.kind) := (hk6.cell 3).trans (by rw [List.getElem?_toArray]; exact HV.out.c3); have hc5 : w6.cell? ⟨wr.heap.size, 5, none⟩ = some (.string (bstr x.key)) := (hk6.cell 5).trans (by rw [List.getElem?_toArray]; exact HV.out.c5); have he5 : w6.cell? ⟨w.heap.size, 5, none⟩ = some (.string (bstr e.key)) := (Below.cell (hbl6 wr.heap.size (Nat.le_refl _)) (p := ⟨w.heap.size, 5, none⟩) (by show w.heap.size < wr.heap.size; exact HWS.out)).trans ((Below.cell ((Below.refl wr.heap.size wr).alloc (Nat.le_refl _) (.cells zEv 34)) (p := ⟨w.heap.size, 5, none⟩) (by show w.heap.size < wr.heap.size; exact HWS.out)).trans HE5.out)))
           go_ret
           exact ⟨ret_bool HRF.out.symm, HBW.out.trans ((((Below.refl wr.heap.size wr).alloc (Nat.le_refl _) (.cells zEv 34)).trans (hbl6 _ (Nat.le_refl _))).mono HBW.out.size)⟩
          ·have HRX : Hid (((l.drop (k + 1)).find? (Co.isMem e.key)).isNone = R) := hid (by rw [← HF.out, HFD.out]; simp [Co.isMem, hkd, hkx])
           rw [show (bstr e.key).data.toList = e.key from rfl, decide_eq_false hkx] at hse
           clear hkd hkx
           go_wp2_with (first
            | ((with_reducible refine wpList_load_mid rfl 34 _ rfl b (off + k * 29) ?_ X _ hrr Tryz.underlying34 ?_ HL2.out ?_); rfl; rfl) | ((with_reducible refine wpList_store_row' rfl 34 _ _ rfl wr.heap.size X.toArray ?_ ?_ 34 _ (Blk.new wr 34 _) HL3.out ?_ hone ?_); rfl; rfl; exact HSZ.out; intro w6 hk6 hs6 hbl6; have hc3 : w6.cell? ⟨wr.heap.size, 3, none⟩ = some (.int .i64 x.kind) := (hk6.cell 3).trans (by rw [List.getElem?_toArray]; exact HV.out.c3); have hc5 : w6.cell? ⟨wr.heap.size, 5, none⟩ = some (.string (bstr x.key)) := (hk6.cell 5).trans (by rw [List.getElem?_toArray]; exact HV.out.c5); have he5 : w6.cell? ⟨w.heap.size, 5, none⟩ = some (.string (bstr e.key)) := (Below.cell (hbl6 wr.heap.size (Nat.le_refl _)) (p := ⟨w.heap.size, 5, none⟩) (by show w.heap.size < wr.heap.size; exact HWS.out)).trans ((Below.cell ((Below.refl wr.heap.size wr).alloc (Nat.le_refl _) (.cells zEv 34)) (p := ⟨w.heap.size, 5, none⟩) (by show w.heap.size < wr.heap.size; exact HWS.out)).trans HE5.out)))
           have HEB : Hid (Below w4.heap.size w4 w6) := hid (HB.out.trans ((((Below.refl wr.heap.size wr).alloc (Nat.le_refl _) (.cells zEv 34)).trans (hbl6 _ (Nat.le_refl _))).mono HB.out.size))
           go_roundw
           case rel => exact ⟨k + 1, hlt, by go_num, HRX, HEB.out⟩
           case measure => simp [RowKit.intOf]; omega
         ·have HRX : Hid (((l.drop (k + 1)).find? (Co.isMem e.key)).isNone = R) := hid (by rw [← HF.out, HFD.out]; simp [Co.isMem, hkd])
          have hkb : (x.kind == 2) = false := eqb_false hkd
          clear hkd
          go_wp2_with (first
           | ((with_reducible refine wpList_load_mid rfl 34 _ rfl b (off + k * 29) ?_ X _ hrr Tryz.underlying34 ?_ HL2.out ?_); rfl; rfl) | ((with_reducible refine wpList_store_row' rfl 34 _ _ rfl wr.heap.size X.toArray ?_ ?_ 34 _ (Blk.new wr 34 _) HL3.out ?_ hone ?_); rfl; rfl; exact HSZ.out; intro w6 hk6 hs6 hbl6; have hc3 : w6.cell? ⟨wr.heap.size, 3, none⟩ = some (.int .i64 x.kind) := (hk6.cell 3).trans (by rw [List.getElem?_toArray]; exact HV.out.c3); have hc5 : w6.cell? ⟨wr.heap.size, 5, none⟩ = some (.string (bstr x.key)) := (hk6.cell 5).trans (by rw [List.getElem?_toArray]; exact HV.out.c5); have he5 : w6.cell? ⟨w.heap.size, 5, none⟩ = some (.string (bstr e.key)) := (Below.cell (hbl6 wr.heap.size (Nat.le_refl _)) (p := ⟨w.heap.size, 5, none⟩) (by show w.heap.size < wr.heap.size; exact HWS.out)).trans ((Below.cell ((Below.refl wr.heap.size wr).alloc (Nat.le_refl _) (.cells zEv 34)) (p := ⟨w.heap.size, 5, none⟩) (by show w.heap.size < wr.heap.size; exact HWS.out)).trans HE5.out)))
          have HEB : Hid (Below w4.heap.size w4 w6) := hid (HB.out.trans ((((Below.refl wr.heap.size wr).alloc (Nat.le_refl _) (.cells zEv 34)).trans (hbl6 _ (Nat.le_refl _))).mono HB.out.size))
          go_roundw
          case rel => exact ⟨k + 1, hlt, by go_num, HRX, HEB.out⟩
          case measure => simp [RowKit.intOf]; omega
        ·obtain rfl : k = l.length := by omega
         have HRF : Hid (R = true) := hid (by rw [← HF.out, List.drop_length]; rfl)
         clear hb
         go_wp2_with fail
         go_ret
         exact ⟨ret_bool HRF.out.symm, HBW.out⟩
      ·have HRF : Hid (R = false) := hid (by rw [HR.out]; simp [hn3])
       have hn1 : (e.n != 3) = true := neb_true hn3
       clear hn3
       go_quiet (fail)
       go_wp2_with fail
       go_ret
       exact ⟨ret_bool HRF.out.symm, below_drewN HB4.out _⟩
     ·have HRF : Hid (R = false) := hid (by rw [HR.out]; simp [hkc])
      rw [show (bstr csd).data.toList = csd from rfl, decide_eq_false hkc] at hs1
      clear hkc
      go_quiet (fail)
      go_wp2_with fail
      go_ret
      exact ⟨ret_bool HRF.out.symm, below_drewN HB4.out _⟩
    ·have HRF : Hid (R = false) := hid (by rw [HR.out]; simp [hsn])
     rw [show (bstr csd).data.toList = csd from rfl, decide_eq_false hsn] at hs0
     clear hsn
     go_quiet (fail)
     go_wp2_with fail
     go_ret
     exact ⟨ret_bool HRF.out.symm, below_drewN HB4.out _⟩
   ·have HRF : Hid (R = false) := hid (by rw [HR.out]; simp [hpc])
    have hn0 : (pv != cid) = true := neb_true hpc
    clear hpc
    go_quiet (fail)
    go_wp2_with fail
    go_ret
    exact ⟨ret_bool HRF.out.symm, below_drewN HB4.out _⟩
  ·have HRF : Hid (R = false) := hid (by
    have : (e.prev == [cid]) = false := by rw [beq_eq_false_iff_ne]; intro h; exact hlen (by rw [h]; rfl)
    rw [HR.out, this]; rfl)
   have hb1 : ((e.prev.length : Int) != 1) = true := by rw [bne_iff_ne]; omega
   have hb2 : (e.prev.length != 1) = true := by rw [bne_iff_ne]; exact hlen
   clear hlen
   go_quiet (fail)
   go_wp2_with fail
   go_ret
   exact ⟨ret_bool HRF.out.symm, below_drewN HB4.out _⟩
end Go.Proofs.YtacjhbbieeliaaaGreatDoor
/- The text Nd. -/
namespace Go.Proofs.YtacjhbbieeliaaaGreatDoor
open Go.RowKit Go.Lib
set_option linter.unusedVariables false
set_option linter.unusedSimpArgs false
def nums7 (v : Co.Lv) : Array Value := #[.int .i64 v.lu, .int .i64 v.lm, .int .i64 v.ls, .int .i64 v.li, .int .i64 v.lk, .int .i64 v.lb, .int .i64 v.lr]
theorem numbers_any (ok : Nat → Prop) (v : Co.Lv) (X : List Value) (w : World) (h : LvV ok w X v) :
  Calls Tryz.prog 56 #[.agg X.toArray] w fun e w' => e = .returned (.agg (nums7 v)) ∧ Below w.heap.size w w' := by
 obtain ⟨cu, ck, rfl, -, -⟩ := h
 have HK := hid (Blk.new w 28 (lvC v cu ck).toArray)
 have HB := hid ((Below.refl w.heap.size w).alloc (Nat.le_refl _) (.cells (lvC v cu ck).toArray 28))
 have hz : w.heap.size < (w.alloc (.cells (lvC v cu ck).toArray 28)).heap.size := by simp
 have hs1 : (w.alloc (.cells (lvC v cu ck).toArray 28)).heap.size = w.heap.size + 1 := by simp
 have h2 : (w.alloc (.cells (lvC v cu ck).toArray 28)).cell? ⟨w.heap.size, 2, none⟩ = some (.int .i64 v.lu) := HK.out.cell 2
 have h3 : (w.alloc (.cells (lvC v cu ck).toArray 28)).cell? ⟨w.heap.size, 3, none⟩ = some (.int .i64 v.lm) := HK.out.cell 3
 have h4 : (w.alloc (.cells (lvC v cu ck).toArray 28)).cell? ⟨w.heap.size, 4, none⟩ = some (.int .i64 v.ls) := HK.out.cell 4
 have h5 : (w.alloc (.cells (lvC v cu ck).toArray 28)).cell? ⟨w.heap.size, 5, none⟩ = some (.int .i64 v.li) := HK.out.cell 5
 have h6 : (w.alloc (.cells (lvC v cu ck).toArray 28)).cell? ⟨w.heap.size, 6, none⟩ = some (.int .i64 v.lk) := HK.out.cell 6
 have h7 : (w.alloc (.cells (lvC v cu ck).toArray 28)).cell? ⟨w.heap.size, 7, none⟩ = some (.int .i64 v.lb) := HK.out.cell 7
 have h8 : (w.alloc (.cells (lvC v cu ck).toArray 28)).cell? ⟨w.heap.size, 8, none⟩ = some (.int .i64 v.lr) := HK.out.cell 8
 generalize (lvC v cu ck).toArray = X at *
 generalize hw1 : w.alloc (.cells X 28) = w1 at *
 unfold nums7
 go_enter Tryz.func56, Tryz.ntmps56
 go_wp2_with fail
 have hk7 : Blk (w1.alloc (.cells #[.int .i64 v.lu, .int .i64 v.lm, .int .i64 v.ls, .int .i64 v.li, .int .i64 v.lk, .int .i64 v.lb, .int .i64 v.lr] 100)) (w.heap.size + 1) 100 #[.int .i64 v.lu, .int .i64 v.lm, .int .i64 v.ls, .int .i64 v.li, .int .i64 v.lk, .int .i64 v.lb, .int .i64 v.lr] := by rw [← hs1]; exact Blk.new w1 _ _
 refine bodyPost_ret (v := .agg #[.int .i64 v.lu, .int .i64 v.lm, .int .i64 v.ls, .int .i64 v.li, .int .i64 v.lk, .int .i64 v.lb, .int .i64 v.lr]) (results_cell_row rfl _ _ (w.heap.size + 1) _ _ (0, 0) _ rfl hk7 Tryz.underlying100 rfl (by kernel_rfl)) rfl ⟨rfl, HB.out.alloc HB.out.size _⟩
theorem barred_any (B : Nat) (own was is : Int) (w : World) (h : w.cell? ⟨B, 0, none⟩ = some (.int .i64 own)) :
  Calls Tryz.prog 55 #[.int .i64 was, .int .i64 is, .pointer (some ⟨B, 0, none⟩)] w fun e w' => e = .returned (.bool (Co.barred own was is)) ∧ w' = w := by
 obtain ⟨R, hR⟩ : ∃ R, R = Co.barred own was is := ⟨_, rfl⟩
 have HR : Hid (R = (was != is && (decide (own < was) || decide (own < is)))) := hid hR
 rw [← hR]
 clear hR
 by_cases h1 : was = is
 ·have e1 := neb_false h1
  have HRF : Hid (R = false) := hid (by rw [HR.out, e1]; rfl)
  clear h1
  go_enter Tryz.func55, Tryz.ntmps55
  go_wp2_with fail
  go_ret
  exact ⟨ret_bool HRF.out.symm, rfl⟩
 have e1 := neb_true h1
 by_cases h2 : own < was
 ·have HRF : Hid (R = true) := hid (by rw [HR.out, e1, decide_eq_true h2]; rfl)
  clear h1
  go_enter Tryz.func55, Tryz.ntmps55
  go_wp2_with fail
  go_ret
  exact ⟨ret_bool HRF.out.symm, rfl⟩
 by_cases h3 : own < is
 ·have HRF : Hid (R = true) := hid (by rw [HR.out, e1, decide_eq_true h3, Bool.or_true]; rfl)
  clear h1
  go_enter Tryz.func55, Tryz.ntmps55
  go_wp2_with fail
  go_ret
  exact ⟨ret_bool HRF.out.symm, rfl⟩
 ·have HRF : Hid (R = false) := hid (by rw [HR.out, e1, decide_eq_false h2, decide_eq_false h3]; rfl)
  clear h1
  go_enter Tryz.func55, Tryz.ntmps55
  go_wp2_with fail
  go_ret
  exact ⟨ret_bool HRF.out.symm, rfl⟩
end Go.Proofs.YtacjhbbieeliaaaGreatDoor
