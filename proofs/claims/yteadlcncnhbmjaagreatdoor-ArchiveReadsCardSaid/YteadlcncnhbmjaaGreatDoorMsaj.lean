/- The texts An4, An5, An6, An7 of this proof, one behind the other. -/
import Derived.Deep.RegionHeld3
import Derived.Test.YteadlcncnhbmjaaGreatDoorMsai
set_option linter.unusedSimpArgs false
set_option maxHeartbeats 16000000
set_option maxRecDepth 100000
set_option linter.unusedVariables false
namespace Go.Proofs.YteadlcncnhbmjaaGreatDoor
open Go.RowKit Go.Lib
theorem Ai {w w' : World} {a : Addr} {v : Value} (h : w.cell? a = some v) (hb : Below w.heap.size w w') : w'.cell? a = some v := (hb.cell (AV h)).trans h
theorem AA {w : World} {a : Addr} {v : Value} (h : w.cell? a = some v) : w.drew.cell? a = some v := h
theorem Cc (n : Int) (hn : Ar.inInt n) : (Ar.itoa n).length ≤ 20 := by
 obtain ⟨h1, h2⟩ := hn;have h := DP 18 n.natAbs (by omega);unfold Ar.itoa;split
 ·rw [List.length_cons]; omega
 ·omega
theorem MX (s : List UInt8) (n : Int) : (bstr (Ar.quote s) ++ (⟨#[58]⟩ : ByteArray)) ++ bstr (Ar.itoa n) = bstr (Ar.usrT (s, n)) := Bg (by simp [Ar.usrT, bstr])
theorem MR (m n : Int) : (bstr (Ar.itoa m) ++ (⟨#[58]⟩ : ByteArray)) ++ bstr (Ar.itoa n) = bstr (Ar.kndT (m, n)) := Bg (by simp [Ar.kndT, bstr])
theorem O3 (s : List UInt8) (n : Int) (w : World) (hs : s.length ≤ 1000000) (hn : Ar.inInt n) :
  Calls Tryz.prog 220 #[.agg #[.string (bstr s), .int .i64 n]] w fun e w' => e = .returned (.string (bstr (Ar.usrT (s, n)))) ∧ Below w.heap.size w w' := by
 have hk := Blk.new w 77 #[.string (bstr s), .int .i64 n];have hc0 := hk.cell 0;have hc1 := hk.cell 1;rw [show (#[.string (bstr s), .int .i64 n] : Array Value)[0]? = some (.string (bstr s)) from rfl] at hc0;rw [show (#[.string (bstr s), .int .i64 n] : Array Value)[1]? = some (.int .i64 n) from rfl] at hc1;have HB := hid ((Below.refl w.heap.size w).alloc (Nat.le_refl _) (.cells #[.string (bstr s), .int .i64 n] 77));have HQ := hid (fun w => C5 (bstr s) w (by rw [Ab]; exact hs));have HT := hid (fun w => Bp n w hn);have hql : (bstr (Ar.quote s)).size ≤ 4000002 := by rw [Ab]; have := Ar.Eg s; omega
 have hil : (bstr (Ar.itoa n)).size ≤ 20 := by rw [Ab]; exact Cc n hn
 have HE := hid (MX s n);rw [show (bstr s).data.toList = s from rfl] at HQ;clear hk hs hn;generalize Ar.usrT (s, n) = R at *;generalize bstr (Ar.quote s) = Q at *;generalize bstr (Ar.itoa n) = T at *;generalize bstr s = S at *;have hz0 : (⟨#[58]⟩ : ByteArray).size = 1 := rfl;have hp1 : ¬ 9223372036854775807 < Q.size + 1 := by omega
 have hp2 : ¬ 9223372036854775807 < Q.size + 1 + T.size := by omega
 generalize hw1 : w.alloc (.cells #[.string S, .int .i64 n] 77) = w1 at *;go_enter Tryz.func220, Tryz.ntmps220;go_wp2_with fail
 go_region_held3 (fun W => W.cell? ⟨w.heap.size, 0, none⟩ = some (.string S) ∧ W.cell? ⟨w.heap.size, 1, none⟩ = some (.int .i64 n)) (first | with_reducible exact ⟨hc0, hc1⟩ | with_reducible exact ⟨AA hc0, AA hc1⟩ | with_reducible exact ⟨Ai (AA hc0) hbA, Ai (AA hc1) hbA⟩ | with_reducible exact ⟨Ai (AA hc0) hbB, Ai (AA hc1) hbB⟩ | with_reducible exact ⟨Ai (Ai (AA hc0) hbA) hbB, Ai (Ai (AA hc1) hbA) hbB⟩ | with_reducible exact ⟨Ai (Ai (AA hc0) hbB) hbA, Ai (Ai (AA hc1) hbB) hbA⟩) (first | (go_at_call 14; refine (HQ.out _).mono ?_; rintro e wA ⟨rfl, hbA⟩) | (go_at_call 89; refine (HT.out _).mono ?_; rintro e wB ⟨rfl, hbB⟩))
 all_goals
  go_wp2_with fail;go_ret;have h1 := HB.out.drew.trans (hbA.mono HB.out.drew.size);exact ⟨AM HE.out, h1.trans (hbB.mono h1.size)⟩
theorem Qi (m n : Int) (w : World) (hm : Ar.inInt m) (hn : Ar.inInt n) :
  Calls Tryz.prog 226 #[.agg #[.int .i64 m, .int .i64 n]] w fun e w' => e = .returned (.string (bstr (Ar.kndT (m, n)))) ∧ Below w.heap.size w w' := by
 have hk := Blk.new w 211 #[.int .i64 m, .int .i64 n];have hc0 := hk.cell 0;have hc1 := hk.cell 1;rw [show (#[.int .i64 m, .int .i64 n] : Array Value)[0]? = some (.int .i64 m) from rfl] at hc0;rw [show (#[.int .i64 m, .int .i64 n] : Array Value)[1]? = some (.int .i64 n) from rfl] at hc1;have HB := hid ((Below.refl w.heap.size w).alloc (Nat.le_refl _) (.cells #[.int .i64 m, .int .i64 n] 211));have HQ := hid (fun w => Bp m w hm);have HT := hid (fun w => Bp n w hn);have hql : (bstr (Ar.itoa m)).size ≤ 20 := by rw [Ab]; exact Cc m hm
 have hil : (bstr (Ar.itoa n)).size ≤ 20 := by rw [Ab]; exact Cc n hn
 have HE := hid (MR m n);clear hk hm hn;generalize Ar.kndT (m, n) = R at *;generalize bstr (Ar.itoa m) = Q at *;generalize bstr (Ar.itoa n) = T at *;have hz0 : (⟨#[58]⟩ : ByteArray).size = 1 := rfl;have hp1 : ¬ 9223372036854775807 < Q.size + 1 := by omega
 have hp2 : ¬ 9223372036854775807 < Q.size + 1 + T.size := by omega
 generalize hw1 : w.alloc (.cells #[.int .i64 m, .int .i64 n] 211) = w1 at *;go_enter Tryz.func226, Tryz.ntmps226;go_wp2_with fail
 go_region_held3 (fun W => W.cell? ⟨w.heap.size, 0, none⟩ = some (.int .i64 m) ∧ W.cell? ⟨w.heap.size, 1, none⟩ = some (.int .i64 n)) (first | with_reducible exact ⟨hc0, hc1⟩ | with_reducible exact ⟨AA hc0, AA hc1⟩ | with_reducible exact ⟨Ai (AA hc0) hbA, Ai (AA hc1) hbA⟩ | with_reducible exact ⟨Ai (AA hc0) hbB, Ai (AA hc1) hbB⟩ | with_reducible exact ⟨Ai (Ai (AA hc0) hbA) hbB, Ai (Ai (AA hc1) hbA) hbB⟩ | with_reducible exact ⟨Ai (Ai (AA hc0) hbB) hbA, Ai (Ai (AA hc1) hbB) hbA⟩) (first | (go_at_call_of 89 (Value.int .i64 m); refine (HQ.out _).mono ?_; rintro e wA ⟨rfl, hbA⟩) | (go_at_call_of 89 (Value.int .i64 n); refine (HT.out _).mono ?_; rintro e wB ⟨rfl, hbB⟩))
 all_goals
  go_wp2_with fail;go_ret;have h1 := HB.out.drew.trans (hbA.mono HB.out.drew.size);exact ⟨AM HE.out, h1.trans (hbB.mono h1.size)⟩
theorem Do (w : World) (base : Nat) (v : Value) (ys : List (List UInt8)) (sep : ByteArray) (h : OwnS base w v ys) (hl : ys.length ≤ 10000000) (hj : (Ar.join sep.data.toList ys).length ≤ 100000000) :
  Calls Tryz.prog 48 #[v, .string sep] w fun e w' => e = .returned (.string (bstr (Ar.join sep.data.toList ys))) ∧ Below w.heap.size w w' := by
 have hr := h;obtain ⟨_, h2⟩ := h;rcases h2 with ⟨rfl, h0⟩ | ⟨g, cap, cur, rfl, hg, hh, hn, hcap, hsz, ht⟩
 ·have h0' : ys.length = 0 := by simpa using h0
  obtain rfl : ys = [] := List.eq_nil_of_length_eq_zero h0';refine (Tryz.strings_Join_none none 0 sep w).mono ?_;rintro e w' ⟨rfl, rfl⟩;exact ⟨rfl, Below.refl _ _⟩
 ·have hlt : g < w.heap.size := (Array.getElem?_eq_some_iff.1 hh).1;have hRd := Rd.of_own hr;have e1 : (ys.map bstr).map (fun x : ByteArray => x.data.toList) = ys := by
   rw [List.map_map]
   conv => rhs; rw [← List.map_id ys]
   rfl
  have hJ := Tryz.strings_Join g 0 cap (ys.map bstr) sep w (fun j x hx => by
   have hR := hRd.2 j (.string x) (by
    unfold strL;rw [List.getElem?_map] at hx ⊢
    cases hy : ys[j]? with
    | none => rw [hy] at hx; cases hx
    | some y => rw [hy] at hx; injection hx with hx; rw [← hx]; rfl)
   obtain ⟨g', o', e, hc⟩ := hR;injection e with e;injection e with e1 e2 e3;subst e1 e2
   exact hc) hlt (by rw [List.length_map]; omega) (by rw [List.length_map]; omega) (by rw [e1, Ar.I6]; omega)
  rw [List.length_map, e1, Ar.I6] at hJ;refine hJ.mono ?_;rintro e w' ⟨rfl, hb⟩;exact ⟨rfl, hb⟩
theorem Ee {α : Type} (el : α → List Value) (sz : Nat) (hsz : ∀ x, (el x).length = sz) : ∀ (l : List α) (k j : Nat) (x : α), j < sz → l[k]? = some x → (l.flatMap el)[k * sz + j]? = (el x)[j]?
 | [], k, j, x, _, h => by simp at h
 | a :: l, 0, j, x, hj, h => by
  simp at h;subst h;rw [List.flatMap_cons, Nat.zero_mul, Nat.zero_add, List.getElem?_append_left (by rw [hsz]; exact hj)]
 | a :: l, k + 1, j, x, hj, h => by
  rw [List.flatMap_cons, List.getElem?_append_right (by rw [hsz, Nat.add_mul]; omega), hsz, show (k + 1) * sz + j - sz = k * sz + j from by rw [Nat.add_mul]; omega];exact Ee el sz hsz l k j x hj (by simpa using h)
theorem Rd.int_at {w : World} {A : Option Addr} {xs : List Int} (h : Rd w A xs.length (intL xs)) {k : Nat} (hk : k < xs.length) : ∃ b off x, A = some ⟨b, off, none⟩ ∧ xs[k]? = some x ∧ w.cell? ⟨b, off + k, none⟩ = some (.int .i64 x) := by
 obtain ⟨b, off, e, h2⟩ := h.2 k (.int .i64 xs[k]) (by unfold intL; rw [List.getElem?_map, List.getElem?_eq_getElem hk]; rfl);exact ⟨b, off, xs[k], e, List.getElem?_eq_getElem hk, h2⟩
theorem Rd.str_at {w : World} {A : Option Addr} {xs : List (List UInt8)} (h : Rd w A xs.length (strL xs)) {k : Nat} (hk : k < xs.length) : ∃ b off x, A = some ⟨b, off, none⟩ ∧ xs[k]? = some x ∧ w.cell? ⟨b, off + k, none⟩ = some (.string (bstr x)) := by
 obtain ⟨b, off, e, h2⟩ := h.2 k (.string (bstr xs[k])) (by unfold strL; rw [List.getElem?_map, List.getElem?_eq_getElem hk]; rfl);exact ⟨b, off, xs[k], e, List.getElem?_eq_getElem hk, h2⟩
theorem Rd.usr_at {w : World} {A : Option Addr} {xs : List (List UInt8 × Int)} (h : Rd w A (xs.length * 2) (usrL xs)) {k : Nat} (hk : k < xs.length) : ∃ b off x, A = some ⟨b, off, none⟩ ∧ xs[k]? = some x ∧ w.cell? ⟨b, off + k * 2, none⟩ = some (.string (bstr x.1)) ∧ w.cell? ⟨b, off + k * 2 + 1, none⟩ = some (.int .i64 x.2) := by
 have hx := List.getElem?_eq_getElem hk;have h0 := Ee (fun p : List UInt8 × Int => [Value.string (bstr p.1), .int .i64 p.2]) 2 (fun _ => rfl) xs k 0 xs[k] (by omega) hx;have h1 := Ee (fun p : List UInt8 × Int => [Value.string (bstr p.1), .int .i64 p.2]) 2 (fun _ => rfl) xs k 1 xs[k] (by omega) hx;obtain ⟨b, off, e, h2⟩ := h.2 _ _ h0;obtain ⟨b', off', e', h3⟩ := h.2 _ _ h1;rw [e] at e';injection e' with e';injection e' with e1 e2 e3;subst e1 e2;exact ⟨b, off, xs[k], e, hx, h2, h3⟩
theorem Rd.knd_at {w : World} {A : Option Addr} {xs : List (Int × Int)} (h : Rd w A (xs.length * 2) (kndL xs)) {k : Nat} (hk : k < xs.length) : ∃ b off x, A = some ⟨b, off, none⟩ ∧ xs[k]? = some x ∧ w.cell? ⟨b, off + k * 2, none⟩ = some (.int .i64 x.1) ∧ w.cell? ⟨b, off + k * 2 + 1, none⟩ = some (.int .i64 x.2) := by
 have hx := List.getElem?_eq_getElem hk;have h0 := Ee (fun p : Int × Int => [Value.int .i64 p.1, .int .i64 p.2]) 2 (fun _ => rfl) xs k 0 xs[k] (by omega) hx;have h1 := Ee (fun p : Int × Int => [Value.int .i64 p.1, .int .i64 p.2]) 2 (fun _ => rfl) xs k 1 xs[k] (by omega) hx;obtain ⟨b, off, e, h2⟩ := h.2 _ _ h0;obtain ⟨b', off', e', h3⟩ := h.2 _ _ h1;rw [e] at e';injection e' with e';injection e' with e1 e2 e3;subst e1 e2;exact ⟨b, off, xs[k], e, hx, h2, h3⟩
theorem AZ {α β : Type} {f : α → β} {l : List α} {k : Nat} {x : α} (h : l[k]? = some x) : (l.take (k + 1)).map f = (l.take k).map f ++ [f x] := by rw [BF h, List.map_append]; rfl
theorem I5 (A : Option Addr) (cap : Nat) (xs : List Int) (w : World) (hR : Rd w A xs.length (intL xs)) (hx : ∀ x ∈ xs, Ar.inInt x) (hl : xs.length ≤ 1000000) (hj : (Ar.join [44] (xs.map Ar.itoa)).length ≤ 100000000) :
  Calls Tryz.prog 132 #[.slice A xs.length cap, .func (.func 89) #[] #[]] w fun e w' => e = .returned (.string (bstr (Ar.join [44] (xs.map Ar.itoa)))) ∧ Below w.heap.size w w' := by
 have HR := hid hR;have HX := hid hx;have HJ := hid hj;clear hR hx hj;go_enter Tryz.func132, Tryz.ntmps132;go_wp2_with fail
 go_loopw [5, 10] (fun out ix wr => ∃ k : Nat, k ≤ xs.length ∧ ix = .int .i64 k ∧ OwnS w.heap.size wr out ((xs.take k).map Ar.itoa) ∧ Below w.heap.size w wr) (fun _ ix _ => xs.length - (RowKit.intOf ix).toNat)
 case atStart => exact ⟨0, by omega, rfl, World.ownsRow_nil w _ _ _, Below.refl _ _⟩
 case round =>
  obtain ⟨k, hk, rfl, ho, hb⟩ := hrel;have HO := hid ho;have HB := hid hb;have hbs := hb.size;clear ho hb;by_cases hlt : k < xs.length
  ·obtain ⟨ba, oa, x, rfl, hx, hc0⟩ := (HR.out.below HB.out).int_at hlt;have HXK := hid hx;have HXO := hid (HX.out x (List.mem_of_getElem? hx));have HLEN : Hid (((xs.take k).map Ar.itoa).length = k) := hid (by rw [List.length_map, List.length_take]; omega);clear hx;go_wp2_with fail;refine (Bp x _ HXO.out).mono ?_;rintro e w2 ⟨rfl, hb2⟩;have HB2 := hid (HB.out.trans (hb2.mono hbs));have hbs2 := HB2.out.size;have HO2 : Hid (OwnS w.heap.size w2 u5 ((xs.take k).map Ar.itoa)) := hid (AQ HO.out hb2 (Nat.le_refl _));clear hb2;go_wp2_with (at_builtin; refine Bt CD rfl _ _ rfl w2 (strL [Ar.itoa x]) 1 rfl (Bx [Ar.itoa x]) u5 k (strL ((xs.take k).map Ar.itoa)) w.heap.size rfl (by have := HO2.out; unfold OwnS at this; rw [HLEN.out] at this; exact this) rfl (by omega) (by omega) ?_; intro v4 w4 ho4 hg4 hb4)
   go_roundw
   case rel =>
    refine ⟨k + 1, by omega, by go_num, ?_, hb4 w HB2.out⟩;unfold OwnS;rw [AZ HXK.out, List.length_append, HLEN.out, AJ];exact ho4
   case measure => simp [RowKit.intOf]; omega
  ·obtain rfl : k = xs.length := by omega
   have HOE : Hid (OwnS w.heap.size wr u5 (xs.map Ar.itoa)) := hid (by have := HO.out; rwa [List.take_length] at this);go_wp2_with fail;refine (Do wr w.heap.size u5 (xs.map Ar.itoa) ⟨#[44]⟩ HOE.out (by rw [List.length_map]; omega) HJ.out).mono ?_;rintro e w2 ⟨rfl, hb2⟩;have HB2 := hid (HB.out.trans (hb2.mono hbs));clear hb2;go_wp2_with fail;go_ret;exact ⟨AM rfl, HB2.out⟩
theorem LV (A : Option Addr) (cap : Nat) (xs : List (List UInt8)) (w : World) (hR : Rd w A xs.length (strL xs)) (hx : ∀ x ∈ xs, x.length ≤ 1000000) (hl : xs.length ≤ 1000000) (hj : (Ar.join [44] (xs.map Ar.quote)).length ≤ 100000000) :
  Calls Tryz.prog 215 #[.slice A xs.length cap, .func (.func 14) #[] #[]] w fun e w' => e = .returned (.string (bstr (Ar.join [44] (xs.map Ar.quote)))) ∧ Below w.heap.size w w' := by
 have HR := hid hR;have HX := hid hx;have HJ := hid hj;clear hR hx hj;go_enter Tryz.func215, Tryz.ntmps215;go_wp2_with fail
 go_loopw [5, 10] (fun out ix wr => ∃ k : Nat, k ≤ xs.length ∧ ix = .int .i64 k ∧ OwnS w.heap.size wr out ((xs.take k).map Ar.quote) ∧ Below w.heap.size w wr) (fun _ ix _ => xs.length - (RowKit.intOf ix).toNat)
 case atStart => exact ⟨0, by omega, rfl, World.ownsRow_nil w _ _ _, Below.refl _ _⟩
 case round =>
  obtain ⟨k, hk, rfl, ho, hb⟩ := hrel;have HO := hid ho;have HB := hid hb;have hbs := hb.size;clear ho hb;by_cases hlt : k < xs.length
  ·obtain ⟨ba, oa, x, rfl, hx, hc0⟩ := (HR.out.below HB.out).str_at hlt;have HXK := hid hx;have HXO := hid (HX.out x (List.mem_of_getElem? hx));have HLEN : Hid (((xs.take k).map Ar.quote).length = k) := hid (by rw [List.length_map, List.length_take]; omega);clear hx;go_wp2_with fail;refine (C5 (bstr x) _ (by rw [Ab]; exact HXO.out)).mono ?_;rintro e w2 ⟨rfl, hb2⟩;have HB2 := hid (HB.out.trans (hb2.mono hbs));have hbs2 := HB2.out.size;have HO2 : Hid (OwnS w.heap.size w2 u5 ((xs.take k).map Ar.quote)) := hid (AQ HO.out hb2 (Nat.le_refl _));clear hb2;go_wp2_with (at_builtin; refine Bt CD rfl _ _ rfl w2 (strL [Ar.quote x]) 1 rfl (Bx [Ar.quote x]) u5 k (strL ((xs.take k).map Ar.quote)) w.heap.size rfl (by have := HO2.out; unfold OwnS at this; rw [HLEN.out] at this; exact this) rfl (by omega) (by omega) ?_; intro v4 w4 ho4 hg4 hb4)
   go_roundw
   case rel =>
    refine ⟨k + 1, by omega, by go_num, ?_, hb4 w HB2.out⟩;unfold OwnS;rw [AZ HXK.out, List.length_append, HLEN.out, AJ];exact ho4
   case measure => simp [RowKit.intOf]; omega
  ·obtain rfl : k = xs.length := by omega
   have HOE : Hid (OwnS w.heap.size wr u5 (xs.map Ar.quote)) := hid (by have := HO.out; rwa [List.take_length] at this);go_wp2_with fail;refine (Do wr w.heap.size u5 (xs.map Ar.quote) ⟨#[44]⟩ HOE.out (by rw [List.length_map]; omega) HJ.out).mono ?_;rintro e w2 ⟨rfl, hb2⟩;have HB2 := hid (HB.out.trans (hb2.mono hbs));clear hb2;go_wp2_with fail;go_ret;exact ⟨AM rfl, HB2.out⟩
theorem Mi (A : Option Addr) (cap : Nat) (xs : List (List UInt8 × Int)) (w : World) (hR : Rd w A (xs.length * 2) (usrL xs)) (hx : ∀ x ∈ xs, x.1.length ≤ 1000000 ∧ Ar.inInt x.2) (hl : xs.length ≤ 1000000) (hj : (Ar.join [44] (xs.map Ar.usrT)).length ≤ 100000000) :
  Calls Tryz.prog 219 #[.slice A xs.length cap, .func (.func 220) #[] #[]] w fun e w' => e = .returned (.string (bstr (Ar.join [44] (xs.map Ar.usrT)))) ∧ Below w.heap.size w w' := by
 have HR := hid hR;have HX := hid hx;have HJ := hid hj;clear hR hx hj;go_enter Tryz.func219, Tryz.ntmps219;go_wp2_with fail
 go_loopw [5, 10] (fun out ix wr => ∃ k : Nat, k ≤ xs.length ∧ ix = .int .i64 k ∧ OwnS w.heap.size wr out ((xs.take k).map Ar.usrT) ∧ Below w.heap.size w wr) (fun _ ix _ => xs.length - (RowKit.intOf ix).toNat)
 case atStart => exact ⟨0, by omega, rfl, World.ownsRow_nil w _ _ _, Below.refl _ _⟩
 case round =>
  obtain ⟨k, hk, rfl, ho, hb⟩ := hrel;have HO := hid ho;have HB := hid hb;have hbs := hb.size;clear ho hb;by_cases hlt : k < xs.length
  ·obtain ⟨ba, oa, x, rfl, hx, hc0, hc1⟩ := (HR.out.below HB.out).usr_at hlt;have HXK := hid hx;have HXO := hid (HX.out x (List.mem_of_getElem? hx));have HLEN : Hid (((xs.take k).map Ar.usrT).length = k) := hid (by rw [List.length_map, List.length_take]; omega);clear hx;go_wp2_with fail;refine (O3 x.1 x.2 _ HXO.out.1 HXO.out.2).mono ?_;rintro e w2 ⟨rfl, hb2⟩;have HB2 := hid ((HB.out.alloc hbs _).trans (hb2.mono (by simp; omega)));have hbs2 := HB2.out.size;have HO2 : Hid (OwnS w.heap.size w2 u5 ((xs.take k).map Ar.usrT)) := hid (AQ (HO.out.alloc _) hb2 (Nat.le_refl _));clear hb2;go_wp2_with (at_builtin; refine Bt CD rfl _ _ rfl w2 (strL [Ar.usrT x]) 1 rfl (Bx [Ar.usrT x]) u5 k (strL ((xs.take k).map Ar.usrT)) w.heap.size rfl (by have := HO2.out; unfold OwnS at this; rw [HLEN.out] at this; exact this) rfl (by omega) (by omega) ?_; intro v4 w4 ho4 hg4 hb4)
   go_roundw
   case rel =>
    refine ⟨k + 1, by omega, by go_num, ?_, hb4 w HB2.out⟩;unfold OwnS;rw [AZ HXK.out, List.length_append, HLEN.out, AJ];exact ho4
   case measure => simp [RowKit.intOf]; omega
  ·obtain rfl : k = xs.length := by omega
   have HOE : Hid (OwnS w.heap.size wr u5 (xs.map Ar.usrT)) := hid (by have := HO.out; rwa [List.take_length] at this);go_wp2_with fail;refine (Do wr w.heap.size u5 (xs.map Ar.usrT) ⟨#[44]⟩ HOE.out (by rw [List.length_map]; omega) HJ.out).mono ?_;rintro e w2 ⟨rfl, hb2⟩;have HB2 := hid (HB.out.trans (hb2.mono hbs));clear hb2;go_wp2_with fail;go_ret;exact ⟨AM rfl, HB2.out⟩
theorem Mu (A : Option Addr) (cap : Nat) (xs : List (Int × Int)) (w : World) (hR : Rd w A (xs.length * 2) (kndL xs)) (hx : ∀ x ∈ xs, Ar.inInt x.1 ∧ Ar.inInt x.2) (hl : xs.length ≤ 1000000) (hj : (Ar.join [44] (xs.map Ar.kndT)).length ≤ 100000000) :
  Calls Tryz.prog 225 #[.slice A xs.length cap, .func (.func 226) #[] #[]] w fun e w' => e = .returned (.string (bstr (Ar.join [44] (xs.map Ar.kndT)))) ∧ Below w.heap.size w w' := by
 have HR := hid hR;have HX := hid hx;have HJ := hid hj;clear hR hx hj;go_enter Tryz.func225, Tryz.ntmps225;go_wp2_with fail
 go_loopw [5, 10] (fun out ix wr => ∃ k : Nat, k ≤ xs.length ∧ ix = .int .i64 k ∧ OwnS w.heap.size wr out ((xs.take k).map Ar.kndT) ∧ Below w.heap.size w wr) (fun _ ix _ => xs.length - (RowKit.intOf ix).toNat)
 case atStart => exact ⟨0, by omega, rfl, World.ownsRow_nil w _ _ _, Below.refl _ _⟩
 case round =>
  obtain ⟨k, hk, rfl, ho, hb⟩ := hrel;have HO := hid ho;have HB := hid hb;have hbs := hb.size;clear ho hb;by_cases hlt : k < xs.length
  ·obtain ⟨ba, oa, x, rfl, hx, hc0, hc1⟩ := (HR.out.below HB.out).knd_at hlt;have HXK := hid hx;have HXO := hid (HX.out x (List.mem_of_getElem? hx));have HLEN : Hid (((xs.take k).map Ar.kndT).length = k) := hid (by rw [List.length_map, List.length_take]; omega);clear hx;go_wp2_with fail;refine (Qi x.1 x.2 _ HXO.out.1 HXO.out.2).mono ?_;rintro e w2 ⟨rfl, hb2⟩;have HB2 := hid ((HB.out.alloc hbs _).trans (hb2.mono (by simp; omega)));have hbs2 := HB2.out.size;have HO2 : Hid (OwnS w.heap.size w2 u5 ((xs.take k).map Ar.kndT)) := hid (AQ (HO.out.alloc _) hb2 (Nat.le_refl _));clear hb2;go_wp2_with (at_builtin; refine Bt CD rfl _ _ rfl w2 (strL [Ar.kndT x]) 1 rfl (Bx [Ar.kndT x]) u5 k (strL ((xs.take k).map Ar.kndT)) w.heap.size rfl (by have := HO2.out; unfold OwnS at this; rw [HLEN.out] at this; exact this) rfl (by omega) (by omega) ?_; intro v4 w4 ho4 hg4 hb4)
   go_roundw
   case rel =>
    refine ⟨k + 1, by omega, by go_num, ?_, hb4 w HB2.out⟩;unfold OwnS;rw [AZ HXK.out, List.length_append, HLEN.out, AJ];exact ho4
   case measure => simp [RowKit.intOf]; omega
  ·obtain rfl : k = xs.length := by omega
   have HOE : Hid (OwnS w.heap.size wr u5 (xs.map Ar.kndT)) := hid (by have := HO.out; rwa [List.take_length] at this);go_wp2_with fail;refine (Do wr w.heap.size u5 (xs.map Ar.kndT) ⟨#[44]⟩ HOE.out (by rw [List.length_map]; omega) HJ.out).mono ?_;rintro e w2 ⟨rfl, hb2⟩;have HB2 := hid (HB.out.trans (hb2.mono hbs));clear hb2;go_wp2_with fail;go_ret;exact ⟨AM rfl, HB2.out⟩
theorem Ob (acc : FuncId) (i bx : Nat) (cells : Array Value) (A : Option Addr) (cap : Nat) (xs : List Int) (w : World) (ha : Acc acc i) (hbx : w.cell? ⟨bx, 0, none⟩ = some (.func (.func acc) #[] #[])) (hc : cells[i]? = some (.slice A xs.length cap)) (hR : Rd w A xs.length (intL xs)) (hx : ∀ x ∈ xs, Ar.inInt x) (hl : xs.length ≤ 1000000) (hj : (Ar.FV.nums xs).text.length ≤ 100000000) :
  Calls Tryz.prog 212 #[.agg cells, .pointer (some ⟨bx, 0, none⟩)] w fun e w' => e = .returned (.string (bstr (Ar.FV.nums xs).text)) ∧ Below w.heap.size w w' := by
 have hEN : ∀ (args : Array Value) (w : World), (callFunc acc args).run Tryz.prog w = .ok (.enter acc args) w := ha.enters;have HA := hid ha;have hlt : bx < w.heap.size := AV hbx;have hbx2 := (World.grownBy_alloc w (.cells cells 40) none).cell hbx (by simp);have hk := (Blk.new w 40 cells).cell i;rw [hc] at hk;have HB := hid ((Below.refl w.heap.size w).alloc (Nat.le_refl _) (.cells cells 40));have HR := hid (hR.below ((Below.refl w.heap.size w).alloc (Nat.le_refl _) (.cells cells 40)));have HX := hid hx;have HJ := hid hj;clear hc hR hx hj ha hbx;go_enter Tryz.func212, Tryz.ntmps212;go_wp2_with (go_at_fn acc; refine (HA.out.calls _ _).mono ?_; rintro e w1 ⟨rfl, rfl⟩);refine (I5 A cap xs _ HR.out HX.out hl HJ.out).mono ?_;rintro e w2 ⟨rfl, hb⟩;have HB2 := hid (HB.out.trans (hb.mono (by simp)));clear hb;go_wp2_with fail;go_ret;exact ⟨AM rfl, HB2.out⟩
theorem NY (acc : FuncId) (i bx : Nat) (cells : Array Value) (A : Option Addr) (cap : Nat) (xs : List (List UInt8)) (w : World) (ha : Acc acc i) (hbx : w.cell? ⟨bx, 0, none⟩ = some (.func (.func acc) #[] #[])) (hc : cells[i]? = some (.slice A xs.length cap)) (hR : Rd w A xs.length (strL xs)) (hx : ∀ x ∈ xs, x.length ≤ 1000000) (hl : xs.length ≤ 1000000) (hj : (Ar.FV.txts xs).text.length ≤ 100000000) :
  Calls Tryz.prog 214 #[.agg cells, .pointer (some ⟨bx, 0, none⟩)] w fun e w' => e = .returned (.string (bstr (Ar.FV.txts xs).text)) ∧ Below w.heap.size w w' := by
 have hEN : ∀ (args : Array Value) (w : World), (callFunc acc args).run Tryz.prog w = .ok (.enter acc args) w := ha.enters;have HA := hid ha;have hlt : bx < w.heap.size := AV hbx;have hbx2 := (World.grownBy_alloc w (.cells cells 40) none).cell hbx (by simp);have hk := (Blk.new w 40 cells).cell i;rw [hc] at hk;have HB := hid ((Below.refl w.heap.size w).alloc (Nat.le_refl _) (.cells cells 40));have HR := hid (hR.below ((Below.refl w.heap.size w).alloc (Nat.le_refl _) (.cells cells 40)));have HX := hid hx;have HJ := hid hj;clear hc hR hx hj ha hbx;go_enter Tryz.func214, Tryz.ntmps214;go_wp2_with (go_at_fn acc; refine (HA.out.calls _ _).mono ?_; rintro e w1 ⟨rfl, rfl⟩);refine (LV A cap xs _ HR.out HX.out hl HJ.out).mono ?_;rintro e w2 ⟨rfl, hb⟩;have HB2 := hid (HB.out.trans (hb.mono (by simp)));clear hb;go_wp2_with fail;go_ret;exact ⟨AM rfl, HB2.out⟩
theorem NW (cells : Array Value) (A : Option Addr) (cap : Nat) (xs : List (List UInt8 × Int)) (w : World) (hc : cells[17]? = some (.slice A xs.length cap)) (hR : Rd w A (xs.length * 2) (usrL xs)) (hx : ∀ x ∈ xs, x.1.length ≤ 1000000 ∧ Ar.inInt x.2) (hl : xs.length ≤ 1000000) (hj : (Ar.FV.usrs xs).text.length ≤ 100000000) :
  Calls Tryz.prog 218 #[.agg cells] w fun e w' => e = .returned (.string (bstr (Ar.FV.usrs xs).text)) ∧ Below w.heap.size w w' := by
 have hk := (Blk.new w 40 cells).cell 17;rw [hc] at hk;have HB := hid ((Below.refl w.heap.size w).alloc (Nat.le_refl _) (.cells cells 40));have HR := hid (hR.below ((Below.refl w.heap.size w).alloc (Nat.le_refl _) (.cells cells 40)));have HX := hid hx;have HJ := hid hj;clear hc hR hx hj;go_enter Tryz.func218, Tryz.ntmps218;go_wp2_with fail;refine (Mi A cap xs _ HR.out HX.out hl HJ.out).mono ?_;rintro e w2 ⟨rfl, hb⟩;have HB2 := hid (HB.out.trans (hb.mono (by simp)));clear hb;go_wp2_with fail;go_ret;exact ⟨AM rfl, HB2.out⟩
theorem Nj (cells : Array Value) (A : Option Addr) (cap : Nat) (xs : List (Int × Int)) (w : World) (hc : cells[18]? = some (.slice A xs.length cap)) (hR : Rd w A (xs.length * 2) (kndL xs)) (hx : ∀ x ∈ xs, Ar.inInt x.1 ∧ Ar.inInt x.2) (hl : xs.length ≤ 1000000) (hj : (Ar.FV.knds xs).text.length ≤ 100000000) :
  Calls Tryz.prog 224 #[.agg cells] w fun e w' => e = .returned (.string (bstr (Ar.FV.knds xs).text)) ∧ Below w.heap.size w w' := by
 have hk := (Blk.new w 40 cells).cell 18;rw [hc] at hk;have HB := hid ((Below.refl w.heap.size w).alloc (Nat.le_refl _) (.cells cells 40));have HR := hid (hR.below ((Below.refl w.heap.size w).alloc (Nat.le_refl _) (.cells cells 40)));have HX := hid hx;have HJ := hid hj;clear hc hR hx hj;go_enter Tryz.func224, Tryz.ntmps224;go_wp2_with fail;refine (Mu A cap xs _ HR.out HX.out hl HJ.out).mono ?_;rintro e w2 ⟨rfl, hb⟩;have HB2 := hid (HB.out.trans (hb.mono (by simp)));clear hb;go_wp2_with fail;go_ret;exact ⟨AM rfl, HB2.out⟩
theorem Ax {w : World} {base n size : Nat} {e : TypeId} {v : Value} {xs : List Value} (h : w.ownsRow base e size v n xs) : ∃ A cap, v = .slice A n cap := by
 rcases h.2 with ⟨rfl, rfl⟩ | ⟨g, cap, _, rfl, _⟩
 ·exact ⟨_, _, rfl⟩
 ·exact ⟨_, _, rfl⟩
def Reads (w w' : World) (g ge i : Nat) (r' : Ar.RS) (C : World → Value → Prop) : Prop :=
 ∃ (w2 : World) (c : Value), w.grownBy w2 (some g) ∧ w' = w2.setCell ⟨ge, i, none⟩ c ∧ RdS w2 g r' ∧ C w2 c
theorem PZ (acc : FuncId) (i bx : Nat) (g ge : Nat) (r : Ar.RS) (cells : Array Value) (w : World) (ha : Acc acc i) (hbx : w.cell? ⟨bx, 0, none⟩ = some (.func (.func acc) #[] #[])) (h : RdS w g r) (hl : r.1.length ≤ 1000000) (hRd : Ready w) (hg3 : 3 ≤ g) (hge : Blk w ge 40 cells) (hne : ge ≠ g) (hi : i < cells.size) :
  Calls Tryz.prog 190 #[.pointer (some ⟨g, 0, none⟩), .pointer (some ⟨ge, 0, none⟩), .pointer (some ⟨bx, 0, none⟩)] w fun e w' => e = .returned (.tuple #[]) ∧ Reads w w' g ge i (Ar.rnum r).2 (fun W c => c = .int .i64 (Ar.rnum r).1) := by
 have hEN : ∀ (args : Array Value) (w : World), (callFunc acc args).run Tryz.prog w = .ok (.enter acc args) w := ha.enters;have HA := hid ha;have hlt3 : bx < w.heap.size := AV hbx;have HR := hid h;have hlt := h.lt;have hlt2 := hge.lt;have HRY := hid hRd;have HK := hid hge;have HNE := hid hne;obtain ⟨c0, hc0⟩ : ∃ c0, cells[i]? = some c0 := ⟨_, Array.getElem?_eq_getElem hi⟩;have HI := hid hc0;clear h hRd hge hne ha hi hc0;go_enter Tryz.func190, Tryz.ntmps190;go_wp2_with (go_at_fn acc; refine (HA.out.calls _ _).mono ?_; rintro e w1 ⟨rfl, rfl⟩);refine (Be g r _ HR.out hl HRY.out).mono ?_;rintro e w2 ⟨rfl, hr2, hg2⟩;have hk2 := HK.out.grown hg2 (by have := HNE.out; simpa using this);have hc2 := hk2.cell i;rw [HI.out] at hc2;have hf2 := hk2.frozen i;have HR2 := hid hr2;have HG2 := hid hg2;clear hr2 hg2 hk2;go_wp2_with fail
 go_end0
 exact ⟨rfl, w2, _, HG2.out, rfl, HR2.out, rfl⟩
theorem O4 (acc : FuncId) (i bx : Nat) (g ge : Nat) (r : Ar.RS) (cells : Array Value) (w : World) (ha : Acc acc i) (hbx : w.cell? ⟨bx, 0, none⟩ = some (.func (.func acc) #[] #[])) (h : RdS w g r) (hl : r.1.length ≤ 1000000) (hRd : Ready w) (hg3 : 3 ≤ g) (hge : Blk w ge 40 cells) (hne : ge ≠ g) (hi : i < cells.size) :
  Calls Tryz.prog 192 #[.pointer (some ⟨g, 0, none⟩), .pointer (some ⟨ge, 0, none⟩), .pointer (some ⟨bx, 0, none⟩)] w fun e w' => e = .returned (.tuple #[]) ∧ Reads w w' g ge i (Ar.rtext r).2 (fun W c => c = .string (bstr (Ar.rtext r).1)) := by
 have hEN : ∀ (args : Array Value) (w : World), (callFunc acc args).run Tryz.prog w = .ok (.enter acc args) w := ha.enters;have HA := hid ha;have hlt3 : bx < w.heap.size := AV hbx;have HR := hid h;have hlt := h.lt;have hlt2 := hge.lt;have HRY := hid hRd;have HK := hid hge;have HNE := hid hne;obtain ⟨c0, hc0⟩ : ∃ c0, cells[i]? = some c0 := ⟨_, Array.getElem?_eq_getElem hi⟩;have HI := hid hc0;clear h hRd hge hne ha hi hc0;go_enter Tryz.func192, Tryz.ntmps192;go_wp2_with (go_at_fn acc; refine (HA.out.calls _ _).mono ?_; rintro e w1 ⟨rfl, rfl⟩);refine (Dp g r _ HR.out hl).mono ?_;rintro e w2 ⟨rfl, hr2, hg2⟩;have hk2 := HK.out.grown hg2 (by have := HNE.out; simpa using this);have hc2 := hk2.cell i;rw [HI.out] at hc2;have hf2 := hk2.frozen i;have HR2 := hid hr2;have HG2 := hid hg2;clear hr2 hg2 hk2;go_wp2_with fail
 go_end0
 exact ⟨rfl, w2, _, HG2.out, rfl, HR2.out, rfl⟩
theorem Oq (g ge : Nat) (r : Ar.RS) (cells : Array Value) (w : World) (h : RdS w g r) (hl : r.1.length ≤ 1000000) (hRd : Ready w) (hg3 : 3 ≤ g) (hge : Blk w ge 40 cells) (hne : ge ≠ g) (hi : 3 < cells.size) :
  Calls Tryz.prog 209 #[.pointer (some ⟨g, 0, none⟩), .pointer (some ⟨ge, 0, none⟩)] w fun e w' => e = .returned (.tuple #[]) ∧ Reads w w' g ge 3 (Ar.rnum r).2 (fun W c => c = .int .i64 (Ar.rnum r).1) := by
 have HR := hid h;have hlt := h.lt;have hlt2 := hge.lt;have HRY := hid hRd;have HK := hid hge;have HNE := hid hne;obtain ⟨c0, hc0⟩ : ∃ c0, cells[3]? = some c0 := ⟨_, Array.getElem?_eq_getElem hi⟩;have HI := hid hc0;clear h hRd hge hne hi hc0;go_enter Tryz.func209, Tryz.ntmps209;go_wp2_with fail;refine (Be g r _ HR.out hl HRY.out).mono ?_;rintro e w2 ⟨rfl, hr2, hg2⟩;have hk2 := HK.out.grown hg2 (by have := HNE.out; simpa using this);have hc2 := hk2.cell 3;rw [HI.out] at hc2;have hf2 := hk2.frozen 3;have HR2 := hid hr2;have HG2 := hid hg2;clear hr2 hg2 hk2;go_wp2_with fail
 go_end0
 exact ⟨rfl, w2, _, HG2.out, rfl, HR2.out, rfl⟩
theorem Ni (acc : FuncId) (i bx : Nat) (g ge : Nat) (r : Ar.RS) (cells : Array Value) (w : World) (ha : Acc acc i) (hbx : w.cell? ⟨bx, 0, none⟩ = some (.func (.func acc) #[] #[])) (h : RdS w g r) (hl : r.1.length ≤ 1000000) (hRd : Ready w) (hg3 : 3 ≤ g) (hge : Blk w ge 40 cells) (hne : ge ≠ g) (hi : i < cells.size) :
  Calls Tryz.prog 213 #[.pointer (some ⟨g, 0, none⟩), .pointer (some ⟨ge, 0, none⟩), .pointer (some ⟨bx, 0, none⟩)] w fun e w' => e = .returned (.tuple #[]) ∧ Reads w w' g ge i (Ar.Au Ar.rnum (r.1.length + 1) r).2 (fun W c => W.ownsRow w.heap.size 3 1 c (Ar.Au Ar.rnum (r.1.length + 1) r).1.length (intL (Ar.Au Ar.rnum (r.1.length + 1) r).1)) := by
 have hEN : ∀ (args : Array Value) (w : World), (callFunc acc args).run Tryz.prog w = .ok (.enter acc args) w := ha.enters;have HA := hid ha;have hlt3 : bx < w.heap.size := AV hbx;have HR := hid h;have hlt := h.lt;have hlt2 := hge.lt;have HRY := hid hRd;have HK := hid hge;have HNE := hid hne;obtain ⟨c0, hc0⟩ : ∃ c0, cells[i]? = some c0 := ⟨_, Array.getElem?_eq_getElem hi⟩;have HI := hid hc0;clear h hRd hge hne ha hi hc0;go_enter Tryz.func213, Tryz.ntmps213;go_wp2_with (go_at_fn acc; refine (HA.out.calls _ _).mono ?_; rintro e w1 ⟨rfl, rfl⟩);refine (Ku g r _ HR.out hl HRY.out hg3).mono ?_;rintro e w2 ⟨⟨v, rfl, ho⟩, hr2, hg2⟩;have hk2 := HK.out.grown hg2 (by have := HNE.out; simpa using this);have hc2 := hk2.cell i;rw [HI.out] at hc2;have hf2 := hk2.frozen i;have HR2 := hid hr2;have HG2 := hid hg2;have HO := hid ho;obtain ⟨Av, cv, rfl⟩ := Ax ho;clear ho;clear hr2 hg2 hk2;go_wp2_with fail
 go_end0
 exact ⟨rfl, w2, _, HG2.out, rfl, HR2.out, HO.out⟩
theorem Nc (acc : FuncId) (i bx : Nat) (g ge : Nat) (r : Ar.RS) (cells : Array Value) (w : World) (ha : Acc acc i) (hbx : w.cell? ⟨bx, 0, none⟩ = some (.func (.func acc) #[] #[])) (h : RdS w g r) (hl : r.1.length ≤ 1000000) (hRd : Ready w) (hg3 : 3 ≤ g) (hge : Blk w ge 40 cells) (hne : ge ≠ g) (hi : i < cells.size) :
  Calls Tryz.prog 216 #[.pointer (some ⟨g, 0, none⟩), .pointer (some ⟨ge, 0, none⟩), .pointer (some ⟨bx, 0, none⟩)] w fun e w' => e = .returned (.tuple #[]) ∧ Reads w w' g ge i (Ar.Au Ar.rtext (r.1.length + 1) r).2 (fun W c => W.ownsRow w.heap.size 9 1 c (Ar.Au Ar.rtext (r.1.length + 1) r).1.length (strL (Ar.Au Ar.rtext (r.1.length + 1) r).1)) := by
 have hEN : ∀ (args : Array Value) (w : World), (callFunc acc args).run Tryz.prog w = .ok (.enter acc args) w := ha.enters;have HA := hid ha;have hlt3 : bx < w.heap.size := AV hbx;have HR := hid h;have hlt := h.lt;have hlt2 := hge.lt;have HRY := hid hRd;have HK := hid hge;have HNE := hid hne;obtain ⟨c0, hc0⟩ : ∃ c0, cells[i]? = some c0 := ⟨_, Array.getElem?_eq_getElem hi⟩;have HI := hid hc0;clear h hRd hge hne ha hi hc0;go_enter Tryz.func216, Tryz.ntmps216;go_wp2_with (go_at_fn acc; refine (HA.out.calls _ _).mono ?_; rintro e w1 ⟨rfl, rfl⟩);refine (O8 g r _ HR.out hl HRY.out hg3).mono ?_;rintro e w2 ⟨⟨v, rfl, ho⟩, hr2, hg2⟩;have hk2 := HK.out.grown hg2 (by have := HNE.out; simpa using this);have hc2 := hk2.cell i;rw [HI.out] at hc2;have hf2 := hk2.frozen i;have HR2 := hid hr2;have HG2 := hid hg2;have HO := hid ho;obtain ⟨Av, cv, rfl⟩ := Ax ho;clear ho;clear hr2 hg2 hk2;go_wp2_with fail
 go_end0
 exact ⟨rfl, w2, _, HG2.out, rfl, HR2.out, HO.out⟩
theorem Oy (g ge : Nat) (r : Ar.RS) (cells : Array Value) (w : World) (h : RdS w g r) (hl : r.1.length ≤ 1000000) (hRd : Ready w) (hg3 : 3 ≤ g) (hge : Blk w ge 40 cells) (hne : ge ≠ g) (hi : 17 < cells.size) :
  Calls Tryz.prog 221 #[.pointer (some ⟨g, 0, none⟩), .pointer (some ⟨ge, 0, none⟩)] w fun e w' => e = .returned (.tuple #[]) ∧ Reads w w' g ge 17 (Ar.Au Ar.rusr (r.1.length + 1) r).2 (fun W c => W.ownsRow w.heap.size 77 2 c (Ar.Au Ar.rusr (r.1.length + 1) r).1.length (usrL (Ar.Au Ar.rusr (r.1.length + 1) r).1)) := by
 have HR := hid h;have hlt := h.lt;have hlt2 := hge.lt;have HRY := hid hRd;have HK := hid hge;have HNE := hid hne;obtain ⟨c0, hc0⟩ : ∃ c0, cells[17]? = some c0 := ⟨_, Array.getElem?_eq_getElem hi⟩;have HI := hid hc0;clear h hRd hge hne hi hc0;go_enter Tryz.func221, Tryz.ntmps221;go_wp2_with fail;have hga := World.grownBy_alloc w (.cells #[.pointer (some ⟨g, 0, none⟩)] 85) none;have hbxc := (Blk.new w 85 #[.pointer (some ⟨g, 0, none⟩)]).cell 0;have HK1 := hid (HK.out.grown hga (by simp));have HGA := hid hga;refine (OH g r _ (HR.out.keep HGA.out (by simp)) hl (HRY.out.grown HGA.out (fun j e => by cases e)) hg3 w.heap.size hbxc (by omega)).mono ?_;rintro e w2 ⟨⟨v, rfl, ho⟩, hr2, hg2⟩;have hk2 := HK1.out.grown hg2 (by have := HNE.out; simpa using this);have hc2 := hk2.cell 17;rw [HI.out] at hc2;have hf2 := hk2.frozen 17;have HR2 := hid hr2;have HG2 := hid hg2;have HO := hid (FL (base' := w.heap.size) ho (by simp));obtain ⟨Av, cv, rfl⟩ := Ax ho;clear ho;clear hr2 hg2 hk2;go_wp2_with fail
 go_end0
 exact ⟨rfl, w2, _, (World.grownBy.trans (World.grownBy_alloc w (.cells #[.pointer (some ⟨g, 0, none⟩)] 85) (some g)) HG2.out), rfl, HR2.out, HO.out⟩
theorem NI (g ge : Nat) (r : Ar.RS) (cells : Array Value) (w : World) (h : RdS w g r) (hl : r.1.length ≤ 1000000) (hRd : Ready w) (hg3 : 3 ≤ g) (hge : Blk w ge 40 cells) (hne : ge ≠ g) (hi : 18 < cells.size) :
  Calls Tryz.prog 227 #[.pointer (some ⟨g, 0, none⟩), .pointer (some ⟨ge, 0, none⟩)] w fun e w' => e = .returned (.tuple #[]) ∧ Reads w w' g ge 18 (Ar.Au Ar.rknd (r.1.length + 1) r).2 (fun W c => W.ownsRow w.heap.size 211 2 c (Ar.Au Ar.rknd (r.1.length + 1) r).1.length (kndL (Ar.Au Ar.rknd (r.1.length + 1) r).1)) := by
 have HR := hid h;have hlt := h.lt;have hlt2 := hge.lt;have HRY := hid hRd;have HK := hid hge;have HNE := hid hne;obtain ⟨c0, hc0⟩ : ∃ c0, cells[18]? = some c0 := ⟨_, Array.getElem?_eq_getElem hi⟩;have HI := hid hc0;clear h hRd hge hne hi hc0;go_enter Tryz.func227, Tryz.ntmps227;go_wp2_with fail;have hga := World.grownBy_alloc w (.cells #[.pointer (some ⟨g, 0, none⟩)] 85) none;have hbxc := (Blk.new w 85 #[.pointer (some ⟨g, 0, none⟩)]).cell 0;have HK1 := hid (HK.out.grown hga (by simp));have HGA := hid hga;refine (PJ g r _ (HR.out.keep HGA.out (by simp)) hl (HRY.out.grown HGA.out (fun j e => by cases e)) hg3 w.heap.size hbxc (by omega)).mono ?_;rintro e w2 ⟨⟨v, rfl, ho⟩, hr2, hg2⟩;have hk2 := HK1.out.grown hg2 (by have := HNE.out; simpa using this);have hc2 := hk2.cell 18;rw [HI.out] at hc2;have hf2 := hk2.frozen 18;have HR2 := hid hr2;have HG2 := hid hg2;have HO := hid (FL (base' := w.heap.size) ho (by simp));obtain ⟨Av, cv, rfl⟩ := Ax ho;clear ho;clear hr2 hg2 hk2;go_wp2_with fail
 go_end0
 exact ⟨rfl, w2, _, (World.grownBy.trans (World.grownBy_alloc w (.cells #[.pointer (some ⟨g, 0, none⟩)] 85) (some g)) HG2.out), rfl, HR2.out, HO.out⟩
theorem N3 (acc : FuncId) (i bx : Nat) (g ge : Nat) (r : Ar.RS) (cells : Array Value) (w : World) (ha : Acc acc i) (hbx : w.cell? ⟨bx, 0, none⟩ = some (.func (.func acc) #[] #[])) (h : RdS w g r) (hge : Blk w ge 40 cells) (hi : i < cells.size) :
  Calls Tryz.prog 211 #[.pointer (some ⟨g, 0, none⟩), .pointer (some ⟨ge, 0, none⟩), .pointer (some ⟨bx, 0, none⟩)] w fun e w' => e = .returned (.tuple #[]) ∧ Reads w w' g ge i r (fun W c => c = .bool true) := by
 have hEN : ∀ (args : Array Value) (w : World), (callFunc acc args).run Tryz.prog w = .ok (.enter acc args) w := ha.enters;have HA := hid ha;have hlt3 : bx < w.heap.size := AV hbx;have hlt2 := hge.lt;have hc2 := hge.cell i;have hf2 := hge.frozen i;obtain ⟨c0, hc0⟩ : ∃ c0, cells[i]? = some c0 := ⟨_, Array.getElem?_eq_getElem hi⟩;rw [hc0] at hc2;have HR := hid h;clear h ha hge hi hc0;go_enter Tryz.func211, Tryz.ntmps211;go_wp2_with (go_at_fn acc; refine (HA.out.calls _ _).mono ?_; rintro e w1 ⟨rfl, rfl⟩)
 go_end0
 exact ⟨rfl, _, _, ⟨rfl, rfl, rfl, Nat.le_refl _, fun _ _ _ => rfl⟩, rfl, HR.out, rfl⟩
end Go.Proofs.YteadlcncnhbmjaaGreatDoor
