/- The texts Eg, Eh of this proof, one behind the other. -/
import Derived.Deep.Cut
import Derived.Test.YtacjhbbieeliaaaGreatDoorMaj
set_option linter.unusedSimpArgs false
set_option maxHeartbeats 16000000
set_option maxRecDepth 100000
/- The text Eg. -/
namespace Go.Proofs.YtacjhbbieeliaaaGreatDoor
open Go.RowKit Go.Lib
set_option linter.unusedVariables false
set_option linter.unusedSimpArgs false
def nmV : Array Value := #[.string ⟨#[111, 107]⟩, .string ⟨#[97, 114, 103]⟩, .string ⟨#[114, 97, 110, 103, 101]⟩, .string ⟨#[110, 97, 109, 101]⟩, .string ⟨#[116, 119, 105, 99, 101]⟩, .string ⟨#[110, 111, 110, 101]⟩, .string ⟨#[102, 111, 114, 109]⟩, .string ⟨#[108, 111, 110, 103]⟩, .string ⟨#[111, 114, 100, 101, 114]⟩, .string ⟨#[115, 104, 111, 114, 116]⟩, .string ⟨#[116, 101, 120, 116]⟩, .string ⟨#[115, 117, 109]⟩, .string ⟨#[115, 105, 103, 110]⟩, .string ⟨#[114, 111, 111, 109]⟩, .string ⟨#[103, 97, 112]⟩, .string ⟨#[99, 121, 99, 108, 101]⟩, .string ⟨#[97, 117, 116, 104]⟩, .string ⟨#[99, 114, 101, 97, 116, 101]⟩, .string ⟨#[109, 101, 109, 98, 101, 114]⟩, .string ⟨#[98, 97, 110, 110, 101, 100]⟩, .string ⟨#[108, 101, 118, 101, 108]⟩, .string ⟨#[114, 117, 108, 101]⟩, .string ⟨#[97, 99, 99, 101, 115, 115]⟩, .string ⟨#[104, 105, 100, 100, 101, 110]⟩, .string ⟨#[115, 111, 102, 116]⟩, .string ⟨#[114, 97, 116, 101]⟩, .string ⟨#[115, 116, 97, 116, 101]⟩, .string ⟨#[103, 111, 110, 101]⟩, .string ⟨#[116, 114, 117, 115, 116]⟩, .string ⟨#[102, 117, 108, 108]⟩, .string ⟨#[100, 111, 119, 110]⟩]
theorem nmV_is : nmV = (Rn.names.map fun s => Value.string (bstr s)).toArray := rfl
theorem nmV_at {n : Nat} (h : n < 31) : nmV[n]? = some (.string (bstr (Rn.nameOf (n : Int)))) := by
 have : Rn.nameOf (n : Int) = Rn.names.getD n [] := by unfold Rn.nameOf; rw [if_pos (by omega), Int.toNat_natCast]
 rw [this, nmV_is, List.getElem?_toArray, List.getElem?_map, List.getElem?_eq_getElem (by rw [Rn.names_len]; exact h), List.getD_eq_getElem?_getD, List.getElem?_eq_getElem (by rw [Rn.names_len]; exact h)]
 rfl
theorem name_unknown {e : Int} (h : ¬ (0 ≤ e ∧ e < 31)) : Rn.nameOf e = [117, 110, 107, 110, 111, 119, 110] := by unfold Rn.nameOf; rw [if_neg h]
theorem build_to {P : Program} {ops : Array Oper} {rest : List Oper} {o : Oper} {a : Act} {w : World} {Q : Exit → Act → World → Prop} (hg : o.guard = none) (t : TypeId) (parts : Array (Nat × Operand)) (ho : o.op = .build t parts)
  (d : Option Tmp) (hd : o.dst = d) (cells : Array Value) (hf : P.built t (parts.map fun (i, x) => (i, a.eval x)).toList = some cells)
  (h : wpList P ops Q rest (a.put d (.agg cells)) w) : wpList P ops Q (o :: rest) a w := by
 subst hd
 refine wpList_build hg t parts ho (by rw [hf]; rfl) ?_
 rw [hf]
 exact h
theorem size_31 : (Tryz.prog.info? 123).map (·.size) = some 31 := by kernel_rfl
theorem errno_any (e : Int) (w : World) : Calls Tryz.prog 33 #[.int .i64 e] w fun r w' => r = .returned (.string (bstr (Rn.nameOf e))) ∧ Below w.heap.size w w' := by
 obtain ⟨nm, hnm⟩ : ∃ nm, nm = nmV := ⟨_, rfl⟩
 have HSZ : Hid ((Tryz.prog.info? 123).map (·.size) = some nm.size) := hid (by rw [hnm]; kernel_rfl)
 have HS31 : Hid ((Array.replicate 31 (Value.string ByteArray.empty)).size = nm.size) := hid (by rw [hnm]; rfl)
 have HONE : Hid (nm.all (·.oneCell') = true) := hid (by rw [hnm]; simp [nmV, Value.oneCell'])
 have HAT : Hid (∀ n : Nat, n < 31 → nm[n]? = some (.string (bstr (Rn.nameOf (n : Int))))) := hid (by rw [hnm]; exact fun n h => nmV_at h)
 have HNM := hid hnm
 clear hnm
 have HRET : Hid (∀ w2 : World, (∀ B, B ≤ w.heap.size → Below B (w.alloc (.cells (Array.replicate 31 (Value.string ByteArray.empty)) 123)) w2) → Below w.heap.size w w2) := hid fun w2 h => ((Below.refl _ w).alloc (Nat.le_refl _) _).trans (h _ (Nat.le_refl _))
 by_cases h0 : e < 0
 ·rw [name_unknown (by omega)]
  have g1 : decide (e < 0) = true := decide_eq_true h0
  go_enter Tryz.func33, Tryz.ntmps33; go_upto_region 1 with (fail); refine wp_region_list ?_; refine build_to rfl 123 _ rfl (some 4) rfl nm (by rw [HNM.out]; kernel_rfl) ?_; clear HNM
  go_wp2_with (((with_reducible refine wpList_store_row' rfl 123 _ _ rfl w.heap.size nm ?_ ?_ 123 _ (Blk.new w 123 _) HSZ.out ?_ HONE.out ?_); rfl; rfl; exact HS31.out; intro w2 hk2 hs2 hbl2))
  go_ret
  exact ⟨rfl, HRET.out _ hbl2⟩
 ·have g1 : decide (e < 0) = false := decide_eq_false h0
  by_cases h1 : 31 ≤ e
  ·rw [name_unknown (by omega)]
   have g2 : decide (31 ≤ e) = true := decide_eq_true h1
   go_enter Tryz.func33, Tryz.ntmps33; go_upto_region 1 with (fail); refine wp_region_list ?_; refine build_to rfl 123 _ rfl (some 4) rfl nm (by rw [HNM.out]; kernel_rfl) ?_; clear HNM
   go_wp2_with (((with_reducible refine wpList_store_row' rfl 123 _ _ rfl w.heap.size nm ?_ ?_ 123 _ (Blk.new w 123 _) HSZ.out ?_ HONE.out ?_); rfl; rfl; exact HS31.out; intro w2 hk2 hs2 hbl2))
   go_ret
   exact ⟨rfl, HRET.out _ hbl2⟩
  ·have g2 : decide (31 ≤ e) = false := decide_eq_false h1
   obtain ⟨n, rfl⟩ := Int.eq_ofNat_of_zero_le (by omega : 0 ≤ e)
   have hn : n < 31 := by omega
   have HN := hid (HAT.out n hn)
   clear HAT
   generalize Rn.nameOf (n : Int) = nn at *
   have hnI : ((n : Nat) : Int) < 31 := by omega
   go_enter Tryz.func33, Tryz.ntmps33; go_upto_region 1 with (fail); refine wp_region_list ?_; refine build_to rfl 123 _ rfl (some 4) rfl nm (by rw [HNM.out]; kernel_rfl) ?_; clear HNM
   go_wp2_with (((with_reducible refine wpList_store_row' rfl 123 _ _ rfl w.heap.size nm ?_ ?_ 123 _ (Blk.new w 123 _) HSZ.out ?_ HONE.out ?_); rfl; rfl; exact HS31.out; intro w2 hk2 hs2 hbl2); have hc2 := (hk2.cell n).trans HN.out)
   go_ret
   exact ⟨rfl, HRET.out _ hbl2⟩
theorem str_dec (x : List UInt8) (S : ByteArray) : ((bstr x).toList == S.toList) = decide (x = S.data.toList) := by
 rw [Lib.toList_data, Lib.toList_data]
 show (x == S.data.toList) = _
 rw [Bool.eq_iff_iff, beq_iff_eq, decide_eq_true_eq]
theorem code_step {k : Nat} (hk : k < 31) (s : Rn.Str) : Rn.codeF k (Rn.names.drop k) s = if Rn.nameOf (k : Int) = s then some (k : Int) else Rn.codeF (k + 1) (Rn.names.drop (k + 1)) s := by
 have hl : k < Rn.names.length := by rw [Rn.names_len]; exact hk
 have : Rn.nameOf (k : Int) = Rn.names[k] := by unfold Rn.nameOf; rw [if_pos (by omega), Int.toNat_natCast, List.getD_eq_getElem?_getD, List.getElem?_eq_getElem hl]; rfl
 rw [this, List.drop_eq_getElem_cons hl]
 rfl
theorem code_any (S : ByteArray) (w : World) : Calls Tryz.prog 104 #[.string S] w fun r w' => r = .returned (.tuple #[.int .i64 ((Rn.code S.data.toList).getD 0), .bool (Rn.code S.data.toList).isSome]) ∧ Below w.heap.size w w' := by
 have HE := hid errno_any
 obtain ⟨C, hC⟩ : ∃ C, C = Rn.code S.data.toList := ⟨_, rfl⟩
 have HC : Hid (Rn.codeF 0 (Rn.names.drop 0) S.data.toList = C) := hid (by rw [hC]; rfl)
 rw [← hC]
 clear hC
 go_enter Tryz.func104, Tryz.ntmps104
 go_wp2_with fail
 go_loopw [4] (fun i wr => ∃ k : Nat, k ≤ 31 ∧ i = .int .i64 (k : Int) ∧ Rn.codeF k (Rn.names.drop k) S.data.toList = C ∧ Below w.heap.size w wr) (fun i _ => 31 - (RowKit.intOf i).toNat)
 case atStart => exact ⟨0, by omega, rfl, HC.out, Below.refl _ _⟩
 case round =>
  obtain ⟨k, hk, rfl, hc, hb⟩ := hrel
  have HCC := hid hc
  have HB := hid hb
  clear hc hb
  by_cases hlt : k < 31
  ·have HS := hid (code_step hlt S.data.toList)
   have hle : ((k : Nat) : Int) ≤ 30 := by omega
   go_wp2_with fail
   refine (HE.out _ _).mono ?_
   rintro e w2 ⟨rfl, hb2⟩
   have HB2 := hid (HB.out.trans (hb2.mono HB.out.size))
   clear hb2
   have hse := str_dec (Rn.nameOf (k : Int)) S
   by_cases he : Rn.nameOf (k : Int) = S.data.toList
   ·have HR : Hid (C = some (k : Int)) := hid (by rw [← HCC.out, HS.out, if_pos he])
    rw [decide_eq_true he] at hse
    clear he
    generalize Rn.nameOf (k : Int) = nn at *
    go_wp2_with fail
    go_ret2
    exact ⟨by rw [HR.out]; rfl, HB2.out⟩
   ·have HR : Hid (Rn.codeF (k + 1) (Rn.names.drop (k + 1)) S.data.toList = C) := hid (by rw [← HCC.out, HS.out, if_neg he])
    rw [decide_eq_false he] at hse
    clear he
    generalize Rn.nameOf (k : Int) = nn at *
    go_wp2_with fail
    go_roundw
    case rel => exact ⟨k + 1, by omega, by go_num, HR.out, HB2.out⟩
    case measure => simp [RowKit.intOf]; omega
  ·obtain rfl : k = 31 := by omega
   have HR : Hid (C = none) := hid (by rw [← HCC.out]; rfl)
   go_wp2_with fail
   go_ret2
   exact ⟨by rw [HR.out]; rfl, HB.out⟩
theorem names_at {n : Nat} (h : n < 31) : (strL Rn.names)[n]? = some (.string (bstr (Rn.nameOf (n : Int)))) := by
 have := nmV_at h
 rw [nmV_is, List.getElem?_toArray] at this
 exact this
end Go.Proofs.YtacjhbbieeliaaaGreatDoor
/- The text Eh. -/
namespace Rn
mutual
def tame (b : Nat) : Tr → Bool
 | .mk r _ _ ks => tameL b ks && decide (r.length ≤ b)
def tameL (b : Nat) : List Tr → Bool
 | [] => true
 | c :: r => tame b c && tameL b r
end
theorem tame_eq (b : Nat) (c : Tr) : tame b c = (tameL b c.kids && decide (c.rule.length ≤ b)) := by cases c; rfl
theorem tameL_at {b : Nat} : ∀ {ks : List Tr} {i : Nat} {c : Tr}, tameL b ks = true → ks[i]? = some c → tame b c = true
 | [], _, _, _, h => by cases h
 | k :: r, i, c, ht, h => by
  unfold tameL at ht
  rw [Bool.and_eq_true] at ht
  cases i with
  | zero => injection h with h; subst h; exact ht.1
  | succ i => exact tameL_at ht.2 h
theorem plain_eq (m : Nat) (c : Tr) : plain (m + 1) c = (fit c.rule c.id c.err && plainL m c.kids) := by cases c; rfl
theorem plainL_drop {m : Nat} {ks : List Tr} {i : Nat} {c : Tr} (h : ks[i]? = some c) : plainL m (ks.drop i) = (plain m c && plainL m (ks.drop (i + 1))) := by
 obtain ⟨h1, h2⟩ := List.getElem?_eq_some_iff.1 h
 rw [List.drop_eq_getElem_cons h1, h2]
 rfl
theorem fit_ways (r : Str) (i e : Int) : (fit r i e = false ∧ ruled r = false) ∨ (fit r i e = false ∧ ruled r = true ∧ i < 0) ∨ (fit r i e = false ∧ ruled r = true ∧ ¬ i < 0 ∧ 4611686018427387904 ≤ i) ∨ (fit r i e = false ∧ ruled r = true ∧ ¬ i < 0 ∧ ¬ 4611686018427387904 ≤ i ∧ e < 0) ∨
  (fit r i e = false ∧ ruled r = true ∧ ¬ i < 0 ∧ ¬ 4611686018427387904 ≤ i ∧ ¬ e < 0 ∧ 30 < e) ∨ (fit r i e = true ∧ ruled r = true ∧ ¬ i < 0 ∧ ¬ 4611686018427387904 ≤ i ∧ ¬ e < 0 ∧ ¬ 30 < e) := by
 unfold fit
 cases ruled r with
 | false => exact .inl ⟨rfl, rfl⟩
 | true =>
  by_cases h1 : i < 0
  ·exact .inr (.inl ⟨by rw [decide_eq_false (p := 0 ≤ i) (by omega)]; rfl, rfl, h1⟩)
  ·by_cases h2 : 4611686018427387904 ≤ i
   ·exact .inr (.inr (.inl ⟨by rw [decide_eq_false (p := i < 4611686018427387904) (by omega)]; simp, rfl, h1, h2⟩))
   ·by_cases h3 : e < 0
    ·exact .inr (.inr (.inr (.inl ⟨by rw [decide_eq_false (p := 0 ≤ e) (by omega)]; simp, rfl, h1, h2, h3⟩)))
    ·by_cases h4 : 30 < e
     ·exact .inr (.inr (.inr (.inr (.inl ⟨by rw [decide_eq_false (p := e ≤ 30) (by omega)]; simp, rfl, h1, h2, h3, h4⟩))))
     ·refine .inr (.inr (.inr (.inr (.inr ⟨?_, rfl, h1, h2, h3, h4⟩))))
      rw [decide_eq_true (p := 0 ≤ i) (by omega), decide_eq_true (p := i < 4611686018427387904) (by omega), decide_eq_true (p := 0 ≤ e) (by omega), decide_eq_true (p := e ≤ 30) (by omega)]
      rfl
end Rn
namespace Go.Proofs.YtacjhbbieeliaaaGreatDoor
open Go.RowKit Go.Lib
set_option linter.unusedVariables false
set_option linter.unusedSimpArgs false
theorem pplain_any : ∀ (N m lv : Nat) (ok : Nat → Prop) (c : Rn.Tr) (V : Array Value) (w : World), Rn.nodes c ≤ N → N ≤ 1000000 → lv + m = 41 → m ≤ 40 → Rn.tame 100 c = true → RnV w ok V c → Calls Tryz.prog 71 #[.agg V, .int .i64 (lv : Int)] w fun e w' => e = .returned (.bool (Rn.plain m c)) ∧ Below w.heap.size w w'
 | 0, m, lv, ok, c, V, w, hm, _, _, _, _, h => absurd hm (by have := Rn.nodes_pos c; omega)
 | N + 1, m, lv, ok, c, V, w, hm, hm6, hlv, hm40, ht, h => by
  have hb1 := (Below.refl w.heap.size w).alloc (Nat.le_refl _) (.cells V 42)
  have HV := h.bel hb1
  obtain ⟨A, cap, rfl, hrow⟩ := HV.open
  have hk1 := Blk.new w 42 #[.string (bstr c.rule), .int .i64 c.id, .int .i64 c.err, .slice A c.kids.length cap]
  have hx0 := hk1.cell 0
  have hx1 := hk1.cell 1
  have hx2 := hk1.cell 2
  have hx3 := hk1.cell 3
  simp only [List.getElem?_toArray, List.getElem?_cons_zero, List.getElem?_cons_succ] at hx0 hx1 hx2 hx3
  have HB1 := hid hb1
  have HR1 := hid hrow
  generalize hw1 : w.alloc (.cells #[.string (bstr c.rule), .int .i64 c.id, .int .i64 c.err, .slice A c.kids.length cap] 42) = w1 at *
  rw [Rn.tame_eq, Bool.and_eq_true, decide_eq_true_eq] at ht
  have hne := Rn.nodes_eq c
  have hkm : Rn.nodesL c.kids ≤ N := by omega
  have hks := Rn.kids_nodes c.kids
  have HTA := hid ht.1
  have hrl := ht.2
  have HPE := hid (fun m => Rn.plain_eq m c)
  have HP0 : Hid (Rn.plain 0 c = false) := hid (by unfold Rn.plain; rfl)
  have IH := hid (fun (m lv : Nat) (x : Rn.Tr) X W (hx : Rn.nodes x ≤ N) (hlv : lv + m = 41) (hm : m ≤ 40) (ht : Rn.tame 100 x = true) (hX : RnV W ok X x) => pplain_any N m lv ok x X W hx (by omega) hlv hm ht hX)
  have hnk6 : c.kids.length ≤ 1000000 := by omega
  clear hrow h HV hb1 hk1 ht hne
  generalize c.kids = ks at *
  generalize c.rule = r at *
  generalize c.id = i at *
  generalize c.err = er at *
  have HW := hid (fun W => ruled_any (bstr r) W (by rw [bstr_size]; omega))
  have hrs : (bstr r).data.toList = r := bstr_list r
  rw [hrs] at HW
  clear hrs
  cases m with
  | zero =>
   rw [HP0.out]
   have gl : decide (40 < ((lv : Nat) : Int)) = true := decide_eq_true (by omega)
   clear HPE HP0 IH HW HR1
   go_enter Tryz.func71, Tryz.ntmps71
   go_wp2_with fail
   go_ret
   exact ⟨rfl, HB1.out⟩
  | succ m =>
   rw [HPE.out m]
   have gl : decide (40 < ((lv : Nat) : Int)) = false := decide_eq_false (by omega)
   rcases Rn.fit_ways r i er with ⟨hf, hr⟩ | ⟨hf, hr, h1⟩ | ⟨hf, hr, h1, h2⟩ | ⟨hf, hr, h1, h2, h3⟩ | ⟨hf, hr, h1, h2, h3, h4⟩ | ⟨hf, hr, h1, h2, h3, h4⟩
   ·rw [hf]
    rw [hr] at HW
    clear hf hr  HPE HP0
    clear IH HR1
    go_enter Tryz.func71, Tryz.ntmps71
    go_wp2_with fail; refine (HW.out _).mono ?_; rintro e w2 ⟨rfl, rfl⟩
    go_wp2_with fail
    go_ret
    exact ⟨rfl, HB1.out⟩
   ·rw [hf]
    rw [hr] at HW
    have g1 : decide (i < 0) = true := decide_eq_true (by omega)
    clear hf hr h1 HPE HP0
    clear IH HR1
    go_enter Tryz.func71, Tryz.ntmps71
    go_wp2_with fail; refine (HW.out _).mono ?_; rintro e w2 ⟨rfl, rfl⟩
    go_wp2_with fail
    go_ret
    exact ⟨rfl, HB1.out⟩
   ·rw [hf]
    rw [hr] at HW
    have g1 : decide (i < 0) = false := decide_eq_false (by omega)
    have g2 : decide (4611686018427387903 < i) = true := decide_eq_true (by omega)
    clear hf hr h1 h2 HPE HP0
    clear IH HR1
    go_enter Tryz.func71, Tryz.ntmps71
    go_wp2_with fail; refine (HW.out _).mono ?_; rintro e w2 ⟨rfl, rfl⟩
    go_wp2_with fail
    go_ret
    exact ⟨rfl, HB1.out⟩
   ·rw [hf]
    rw [hr] at HW
    have g1 : decide (i < 0) = false := decide_eq_false (by omega)
    have g2 : decide (4611686018427387903 < i) = false := decide_eq_false (by omega)
    have g3 : decide (er < 0) = true := decide_eq_true (by omega)
    clear hf hr h1 h2 h3 HPE HP0
    clear IH HR1
    go_enter Tryz.func71, Tryz.ntmps71
    go_wp2_with fail; refine (HW.out _).mono ?_; rintro e w2 ⟨rfl, rfl⟩
    go_wp2_with fail
    go_ret
    exact ⟨rfl, HB1.out⟩
   ·rw [hf]
    rw [hr] at HW
    have g1 : decide (i < 0) = false := decide_eq_false (by omega)
    have g2 : decide (4611686018427387903 < i) = false := decide_eq_false (by omega)
    have g3 : decide (er < 0) = false := decide_eq_false (by omega)
    have g4 : decide (30 < er) = true := decide_eq_true (by omega)
    clear hf hr h1 h2 h3 h4 HPE HP0
    clear IH HR1
    go_enter Tryz.func71, Tryz.ntmps71
    go_wp2_with fail; refine (HW.out _).mono ?_; rintro e w2 ⟨rfl, rfl⟩
    go_wp2_with fail
    go_ret
    exact ⟨rfl, HB1.out⟩
   ·rw [hf]
    rw [hr] at HW
    have g1 : decide (i < 0) = false := decide_eq_false (by omega)
    have g2 : decide (4611686018427387903 < i) = false := decide_eq_false (by omega)
    have g3 : decide (er < 0) = false := decide_eq_false (by omega)
    have g4 : decide (30 < er) = false := decide_eq_false (by omega)
    clear hf hr h1 h2 h3 h4 HPE HP0
    rw [Bool.true_and]
    obtain ⟨P, hP⟩ : ∃ P, Rn.plainL m ks = P := ⟨_, rfl⟩
    rw [hP]
    have HP := hid hP
    clear hP
    go_enter Tryz.func71, Tryz.ntmps71
    go_wp2_with fail; refine (HW.out _).mono ?_; rintro e w2 ⟨rfl, rfl⟩
    go_wp2_with fail
    go_loopw [6, 38] (fun _ ix wr => ∃ k : Nat, k ≤ ks.length ∧ ix = .int .i64 (k : Int) ∧ Rn.plainL m (ks.drop k) = P ∧ Below w1.heap.size w1 wr) (fun _ ix _ => ks.length - (RowKit.intOf ix).toNat)
    case atStart => exact ⟨0, Nat.zero_le _, rfl, HP.out, Below.refl _ _⟩
    case round =>
     obtain ⟨k, hk, rfl, hp, hb⟩ := hrel
     have HPK := hid hp
     have HB := hid hb
     have hws := hb.size
     have hcw := (Below.cell hb (block_lt hx3)).trans hx3
     clear hb hp
     by_cases hlt : k < ks.length
     ·obtain ⟨x, hx⟩ : ∃ x, ks[k]? = some x := ⟨_, List.getElem?_eq_getElem hlt⟩
      obtain ⟨b, off, cs, rfl, hok, hr, hcl, hcv⟩ := (HR1.out.below HB.out) k x hx
      have HD := hid (Rn.plainL_drop (m := m) hx)
      have hnk := Rn.nodes_kid hx
      have HTX := hid (Rn.tameL_at HTA.out hx)
      have HCV := hid hcv
      have hone := hcv.one
      have HL2 : Hid ((Tryz.prog.info? 42).map (·.size) = some cs.length) := hid (by rw [size_rea, hcl])
      have HL3 : Hid ((Tryz.prog.info? 42).map (·.size) = some cs.toArray.size) := hid (by rw [size_rea, List.size_toArray, hcl])
      have HSZ : Hid (zRn.size = cs.toArray.size) := hid (by show 4 = cs.toArray.size; rw [List.size_toArray, hcl])
      clear hx hcv
      go_wp2_with (first
       | ((with_reducible refine wpList_load_mid rfl 42 _ rfl b (off + k * 4) ?_ cs _ hr Tryz.underlying42 ?_ HL2.out ?_); rfl; rfl)
       | ((with_reducible refine wpList_store_row' rfl 42 _ _ rfl wr.heap.size cs.toArray ?_ ?_ 42 _ (Blk.new wr 42 _) HL3.out ?_ hone ?_); rfl; rfl; exact HSZ.out; intro w2 hk2 hs2 hbl2)
       | (refine wpList_load_row rfl 42 _ rfl wr.heap.size rfl 42 cs.toArray (0, 0) _ hk2 Tryz.underlying42 rfl HL3.out ?_))
      have HBR2 : Hid (Below wr.heap.size wr w2) := hid (((Below.refl _ wr).alloc (Nat.le_refl _) (.cells zRn 42)).trans (hbl2 wr.heap.size (Nat.le_refl _)))
      have HCV2 := hid (HCV.out.bel HBR2.out)
      refine (IH.out m (lv + 1) x cs.toArray w2 (by omega) (by omega) (by omega) HTX.out HCV2.out).mono ?_
      rintro e w3 ⟨rfl, hb3⟩
      have HB3 := hid (HB.out.trans ((HBR2.out.trans (hb3.mono HBR2.out.size)).mono hws))
      clear hb3
      cases hpx : Rn.plain m x with
      | true =>
       have HR : Hid (Rn.plainL m (ks.drop (k + 1)) = P) := hid (by rw [← HPK.out, HD.out, hpx]; rfl)
       go_wp2_with fail
       go_roundw
       case rel => exact ⟨k + 1, hlt, by go_num, HR.out, HB3.out⟩
       case measure => simp [RowKit.intOf]; omega
      | false =>
       have HR : Hid (P = false) := hid (by rw [← HPK.out, HD.out, hpx]; rfl)
       go_wp2_with fail
       go_ret
       exact ⟨congrArg (fun b => Ending.returned (.bool b)) HR.out.symm, HB1.out.trans (HB3.out.mono HB1.out.size)⟩
     ·obtain rfl : k = ks.length := by omega
      have HR : Hid (P = true) := hid (by rw [← HPK.out, List.drop_length]; rfl)
      go_wp2_with fail
      go_ret
      exact ⟨congrArg (fun b => Ending.returned (.bool b)) HR.out.symm, HB1.out.trans (HB.out.mono HB1.out.size)⟩
end Go.Proofs.YtacjhbbieeliaaaGreatDoor
