/- The texts Ro2, Re1, Rf0, Rd1, Rd2, Rd3, Rd4 of this proof, one behind the other. -/
import Derived.Test.YteadlcncnhbmjaaGreatDoorHBx1
import Derived.Test.YteadlcncnhbmjaaGreatDoorHBx2
import Derived.Test.YteadlcncnhbmjaaGreatDoorMda
import Derived.Test.YteadlcncnhbmjaaGreatDoorMas
import Derived.Test.YteadlcncnhbmjaaGreatDoorMap
set_option linter.unusedSimpArgs false
set_option maxHeartbeats 16000000
set_option maxRecDepth 100000
set_option linter.unusedVariables false
/- The text Ro2. -/
namespace Go.Proofs.YteadlcncnhbmjaaGreatDoor
open Go.RowKit Go.Lib
set_option linter.unusedVariables false
theorem ev_both (ok : Nat → Prop) (X : Array Value) (e : List Ar.FV) (w : World) (hx : EvOf ok w X e) : (Calls Tryz.prog 46 #[.agg X] w fun r w' => (∃ b, r = .returned (.bool b)) ∧ Below w.heap.size w w') ∧ Calls Tryz.prog 18 #[.agg X] w fun r w' => (∃ b, r = .returned (.bool b) ∧ (b = true → (∀ v ∈ e, v.WOk) ∧ (Ar.line e).length ≤ 90000)) ∧ Below w.heap.size w w' := by
 obtain ⟨e0, e1, e2, e3, e4, e5, e6, e7, pv, au, t0, n1, n2, f3, t4, al, dn, us, ks, l1, l2, l3, l4, l5, l6, l7, hs, sv, sm, rfl⟩ := ev29 hx.fits
 obtain ⟨_, gx0, rfl⟩ := hx.cell 0 _ rfl
 obtain ⟨_, gx1, rfl⟩ := hx.cell 1 _ rfl
 obtain ⟨_, gx2, rfl⟩ := hx.cell 2 _ rfl
 obtain ⟨_, gx3, rfl⟩ := hx.cell 3 _ rfl
 obtain ⟨_, gx4, rfl⟩ := hx.cell 4 _ rfl
 obtain ⟨_, gx5, rfl⟩ := hx.cell 5 _ rfl
 obtain ⟨_, gx6, rfl⟩ := hx.cell 6 _ rfl
 obtain ⟨_, gx7, rfl⟩ := hx.cell 7 _ rfl
 obtain ⟨_, gx8, Axpv, cxpv, rfl, hxpv, -⟩ := hx.cell 8 _ rfl
 obtain ⟨_, gx9, Axau, cxau, rfl, hxau, -⟩ := hx.cell 9 _ rfl
 obtain ⟨_, gx10, rfl⟩ := hx.cell 10 _ rfl
 obtain ⟨_, gx11, rfl⟩ := hx.cell 11 _ rfl
 obtain ⟨_, gx12, rfl⟩ := hx.cell 12 _ rfl
 obtain ⟨_, gx13, rfl⟩ := hx.cell 13 _ rfl
 obtain ⟨_, gx14, rfl⟩ := hx.cell 14 _ rfl
 obtain ⟨_, gx15, Axal, cxal, rfl, hxal, -⟩ := hx.cell 15 _ rfl
 obtain ⟨_, gx16, Axdn, cxdn, rfl, hxdn, -⟩ := hx.cell 16 _ rfl
 obtain ⟨_, gx17, Axus, cxus, rfl, hxus, -⟩ := hx.cell 17 _ rfl
 obtain ⟨_, gx18, Axks, cxks, rfl, hxks, -⟩ := hx.cell 18 _ rfl
 obtain ⟨_, gx19, rfl⟩ := hx.cell 19 _ rfl
 obtain ⟨_, gx20, rfl⟩ := hx.cell 20 _ rfl
 obtain ⟨_, gx21, rfl⟩ := hx.cell 21 _ rfl
 obtain ⟨_, gx22, rfl⟩ := hx.cell 22 _ rfl
 obtain ⟨_, gx23, rfl⟩ := hx.cell 23 _ rfl
 obtain ⟨_, gx24, rfl⟩ := hx.cell 24 _ rfl
 obtain ⟨_, gx25, rfl⟩ := hx.cell 25 _ rfl
 obtain ⟨_, gx26, rfl⟩ := hx.cell 26 _ rfl
 obtain ⟨_, gx27, rfl⟩ := hx.cell 27 _ rfl
 obtain ⟨_, gx28, rfl⟩ := hx.cell 28 _ rfl
 have EX : X = #[.int .i64 e0, .string (bstr e1), .string (bstr e2), .int .i64 e3, .bool e4, .string (bstr e5), .int .i64 e6, .int .i64 e7, .slice Axpv pv.length cxpv, .slice Axau au.length cxau, .string (bstr t0), .int .i64 n1, .int .i64 n2, .bool f3, .string (bstr t4), .slice Axal al.length cxal, .slice Axdn dn.length cxdn, .slice Axus us.length cxus, .slice Axks ks.length cxks, .int .i64 l1, .int .i64 l2, .int .i64 l3, .int .i64 l4, .int .i64 l5, .int .i64 l6, .int .i64 l7, .int .i64 hs, .string (bstr sv), .int .i64 sm] := by
  apply Array.ext_getElem?
  intro i
  by_cases hi : i < 29
  ·match i, hi with
   | 0, _ => exact gx0
   | 1, _ => exact gx1
   | 2, _ => exact gx2
   | 3, _ => exact gx3
   | 4, _ => exact gx4
   | 5, _ => exact gx5
   | 6, _ => exact gx6
   | 7, _ => exact gx7
   | 8, _ => exact gx8
   | 9, _ => exact gx9
   | 10, _ => exact gx10
   | 11, _ => exact gx11
   | 12, _ => exact gx12
   | 13, _ => exact gx13
   | 14, _ => exact gx14
   | 15, _ => exact gx15
   | 16, _ => exact gx16
   | 17, _ => exact gx17
   | 18, _ => exact gx18
   | 19, _ => exact gx19
   | 20, _ => exact gx20
   | 21, _ => exact gx21
   | 22, _ => exact gx22
   | 23, _ => exact gx23
   | 24, _ => exact gx24
   | 25, _ => exact gx25
   | 26, _ => exact gx26
   | 27, _ => exact gx27
   | 28, _ => exact gx28
   | n + 29, hi => exact absurd hi (by omega)
  ·rw [Array.getElem?_eq_none (by have := hx.size; omega), Array.getElem?_eq_none (by simp; omega)]
 have k0 := (hx.fits.2 0 _ (.num e0) rfl rfl).2
 have k1 := (hx.fits.2 1 _ (.txt e1) rfl rfl).2
 have k2 := (hx.fits.2 2 _ (.txt e2) rfl rfl).2
 have k3 := (hx.fits.2 3 _ (.num e3) rfl rfl).2
 have k4 := (hx.fits.2 4 _ (.flg e4) rfl rfl).2
 have k5 := (hx.fits.2 5 _ (.txt e5) rfl rfl).2
 have k6 := (hx.fits.2 6 _ (.num e6) rfl rfl).2
 have k7 := (hx.fits.2 7 _ (.num e7) rfl rfl).2
 have k8 := (hx.fits.2 8 _ (.nums pv) rfl rfl).2
 have k9 := (hx.fits.2 9 _ (.nums au) rfl rfl).2
 have k10 := (hx.fits.2 10 _ (.txt t0) rfl rfl).2
 have k11 := (hx.fits.2 11 _ (.num n1) rfl rfl).2
 have k12 := (hx.fits.2 12 _ (.num n2) rfl rfl).2
 have k13 := (hx.fits.2 13 _ (.flg f3) rfl rfl).2
 have k14 := (hx.fits.2 14 _ (.txt t4) rfl rfl).2
 have k15 := (hx.fits.2 15 _ (.txts al) rfl rfl).2
 have k16 := (hx.fits.2 16 _ (.txts dn) rfl rfl).2
 have k17 := (hx.fits.2 17 _ (.usrs us) rfl rfl).2
 have k18 := (hx.fits.2 18 _ (.knds ks) rfl rfl).2
 have k19 := (hx.fits.2 19 _ (.num l1) rfl rfl).2
 have k20 := (hx.fits.2 20 _ (.num l2) rfl rfl).2
 have k21 := (hx.fits.2 21 _ (.num l3) rfl rfl).2
 have k22 := (hx.fits.2 22 _ (.num l4) rfl rfl).2
 have k23 := (hx.fits.2 23 _ (.num l5) rfl rfl).2
 have k24 := (hx.fits.2 24 _ (.num l6) rfl rfl).2
 have k25 := (hx.fits.2 25 _ (.num l7) rfl rfl).2
 have k26 := (hx.fits.2 26 _ (.num hs) rfl rfl).2
 have k27 := (hx.fits.2 27 _ (.txt sv) rfl rfl).2
 have k28 := (hx.fits.2 28 _ (.num sm) rfl rfl).2
 subst EX
 have hv : EvX w #[.int .i64 e0, .string (bstr e1), .string (bstr e2), .int .i64 e3, .bool e4, .string (bstr e5), .int .i64 e6, .int .i64 e7, .slice Axpv pv.length cxpv, .slice Axau au.length cxau, .string (bstr t0), .int .i64 n1, .int .i64 n2, .bool f3, .string (bstr t4), .slice Axal al.length cxal, .slice Axdn dn.length cxdn, .slice Axus us.length cxus, .slice Axks ks.length cxks, .int .i64 l1, .int .i64 l2, .int .i64 l3, .int .i64 l4, .int .i64 l5, .int .i64 l6, .int .i64 l7, .int .i64 hs, .string (bstr sv), .int .i64 sm] [.string (bstr t0), .int .i64 n1, .int .i64 n2, .bool f3, .string (bstr t4), .slice Axal al.length cxal, .slice Axdn dn.length cxdn, .slice Axus us.length cxus, .slice Axks ks.length cxks, .int .i64 l1, .int .i64 l2, .int .i64 l3, .int .i64 l4, .int .i64 l5, .int .i64 l6, .int .i64 l7] (bstr e1) (bstr e2) (bstr e5) (bstr sv) (bstr t0) (bstr t4) Axpv Axau Axal Axdn Axus Axks pv au al dn us ks cxpv cxau cxal cxdn cxus cxks :=
  ⟨rfl, rfl, by simp [Value.oneCell'], fun j v hj => (by
   rcases j with _ | _ | _ | _ | _ | _ | _ | _ | _ | _ | _ | _ | _ | _ | _ | _ | j
   all_goals first | exact hj | (simp at hj)), rfl, rfl, rfl, rfl, rfl, rfl, rfl, rfl, rfl, rfl, rfl, rfl, (by have h := hxal; rw [Nat.mul_one] at h; exact h), (by have h := hxdn; rw [Nat.mul_one] at h; exact h), hxus⟩
 refine ⟨(long_any _ _ _ _ _ _ _ _ _ _ _ _ _ _ _ _ _ _ _ _ _ _ _ _ _ _ w hv).mono fun r w' h => ⟨h.1.imp fun b hb => hb.1, h.2⟩, ?_⟩
 refine (brief_any _ _ _ _ _ _ _ _ _ _ _ _ _ _ _ _ _ _ _ _ _ _ _ _ _ _ w hv).mono ?_
 rintro r w' ⟨⟨b, rfl, hb⟩, hbel⟩
 refine ⟨⟨b, rfl, fun h => ?_⟩, hbel⟩
 obtain ⟨a1, a2, a5, a27, a10, a14, a8, a9, a15, a16, a17, a18, b15, b16, b17⟩ := hb h
 rw [bstr_size] at a1 a2 a5 a27 a10 a14
 exact brief_plain9 e0 e1 e2 e3 e4 e5 e6 e7 pv au t0 n1 n2 f3 t4 al dn us ks l1 l2 l3 l4 l5 l6 l7 hs sv sm k0 k3 k6 k7 k8 k9 k11 k12 k17 k18 k19 k20 k21 k22 k23 k24 k25 k26 k28 a1 a2 a5 a27 a10 a14 a8 a9 a15 a16 a17 a18 b15 b16 b17
theorem great_evs (A : Option Addr) (c : Nat) (L : List (List Ar.FV)) (w : World) (h : EvRow w w.heap.size A L) : Calls Tryz.prog 59 #[.slice A L.length c, .int .i64 14] w fun e w' => (∃ b, e = .returned (.bool b) ∧ (b = false → L.length ≤ 14)) ∧ Below w.heap.size w w' := by
 have HE := hid h
 clear h
 by_cases hn : L.length ≤ 14
 ·go_enter Tryz.func59, Tryz.ntmps59
  go_wp2_with fail
  go_loopw [5] (fun i wr => ∃ k : Nat, k ≤ L.length ∧ i = .int .i64 (k : Int) ∧ Below w.heap.size w wr) (fun i _ => L.length - (RowKit.intOf i).toNat)
  case atStart => exact ⟨0, Nat.zero_le _, rfl, Below.refl _ _⟩
  case round =>
   obtain ⟨k, hk, rfl, hb⟩ := hrel
   have HB := hid hb
   by_cases hlt : k < L.length
   ·obtain ⟨b, off, cs, rfl, hbl, hr, hlen, hev⟩ := (HE.out.keep hb) k _ (List.getElem?_eq_getElem hlt)
    have HL2 : Hid ((Tryz.prog.info? 40).map (·.size) = some cs.length) := hid (by rw [size_event, hlen])
    have HEV := hid hev
    clear hev hb
    go_wp2_with ((with_reducible refine wpList_load_mid rfl 40 _ rfl b (off + k * 29) ?_ cs _ hr Tryz.underlying40 ?_ HL2.out ?_); rfl; rfl)
    refine (ev_both _ _ _ _ HEV.out).1.mono ?_
    rintro e w2 ⟨⟨bb, rfl⟩, hb2⟩
    have hb3 := HB.out.trans (hb2.mono HB.out.size)
    cases bb
    ·go_wp2_with fail
     go_roundw
     case rel => exact ⟨k + 1, by omega, by go_num, hb3⟩
     case measure => simp [RowKit.intOf]; omega
    ·go_wp2_with fail
     go_ret
     exact ⟨⟨_, rfl, fun _ => hn⟩, hb3⟩
   ·obtain rfl : k = L.length := by omega
    go_wp2_with fail
    go_ret
    exact ⟨⟨_, rfl, fun _ => hn⟩, HB.out⟩
 ·go_enter Tryz.func59, Tryz.ntmps59
  go_wp2_with fail
  go_ret
  exact ⟨⟨_, rfl, fun h => by cases h⟩, Below.refl _ _⟩
end Go.Proofs.YteadlcncnhbmjaaGreatDoor
/- The text Re1. -/
namespace Go.Proofs.YteadlcncnhbmjaaGreatDoor
open Go.RowKit Go.Lib
set_option linter.unusedVariables false
set_option linter.unusedSimpArgs false
def figT (l : List Int) : List UInt8 := l.flatMap fun n => 32 :: Ar.itoa n
theorem figT_snoc {l : List Int} {k : Nat} {x : Int} (h : l[k]? = some x) : figT (l.take (k + 1)) = figT (l.take k) ++ 32 :: Ar.itoa x := by
 unfold figT
 rw [take_snoc h, List.flatMap_append]
 simp
theorem figT_len : ∀ (l : List Int), (∀ x ∈ l, Ar.inInt x) → (figT l).length ≤ l.length * 21
 | [], _ => Nat.le_refl _
 | x :: l, h => by
  have ih := figT_len l (fun y hy => h y (List.mem_cons_of_mem _ hy))
  have h1 := itoa_len x (h x (by simp))
  show (32 :: Ar.itoa x ++ figT l).length ≤ (l.length + 1) * 21
  rw [List.length_append, List.length_cons]
  omega
theorem fig_str (x y : List UInt8) : bstr x ++ (⟨#[32]⟩ : ByteArray) ++ bstr y = bstr (x ++ 32 :: y) := str_eq (by simp [bstr])
theorem with_str0 (a : List UInt8) : bstr a ++ (⟨#[10]⟩ : ByteArray) = bstr (Ar.after a [] ++ [10]) := str_eq (by simp [bstr, Ar.after])
theorem with_str (a b : List UInt8) (h : b ≠ []) : bstr a ++ (⟨#[32]⟩ : ByteArray) ++ bstr b ++ (⟨#[10]⟩ : ByteArray) = bstr (Ar.after a b ++ [10]) := str_eq (by unfold Ar.after; rw [if_neg h]; simp [bstr])
theorem rwith_any (a b : List UInt8) (w : World) (ha : a.length ≤ 1000000) (hb : b.length ≤ 100000000) :
  Calls Tryz.prog 133 #[.string (bstr a), .string (bstr b)] w fun e w' => e = .returned (.string (bstr (Ar.after a b ++ [10]))) ∧ w = w' := by
 by_cases h : b = []
 ·subst h
  have HE := hid (with_str0 a)
  have h0 : (bstr []).toList.isEmpty = true := by rw [Lib.toList_data]; rfl
  have hsa : (bstr a).size ≤ 1000000 := by rw [bstr_size]; exact ha
  have h1 : (⟨#[10]⟩ : ByteArray).size = 1 := rfl
  generalize bstr (Ar.after a [] ++ [10]) = R at *
  generalize bstr a = sa at *
  generalize bstr [] = sb at *
  go_enter Tryz.func133, Tryz.ntmps133
  go_wp2_with fail
  go_ret
  exact ⟨ret_str HE.out, rfl⟩
 ·have HE := hid (with_str a b h)
  have h0 : (bstr b).toList.isEmpty = false := by
   rw [Lib.toList_data]
   show b.isEmpty = false
   cases b with
   | nil => exact absurd rfl h
   | cons c b => rfl
  have hsa : (bstr a).size ≤ 1000000 := by rw [bstr_size]; exact ha
  have hsb : (bstr b).size ≤ 100000000 := by rw [bstr_size]; exact hb
  have h1 : (⟨#[32]⟩ : ByteArray).size = 1 := rfl
  have h2 : (⟨#[10]⟩ : ByteArray).size = 1 := rfl
  have hp1 : ¬ 9223372036854775807 < (bstr a).size + 1 := by omega
  have hp2 : ¬ 9223372036854775807 < (bstr a).size + 1 + (bstr b).size := by omega
  have hp3 : ¬ 9223372036854775807 < (bstr a).size + 1 + (bstr b).size + 1 := by omega
  generalize bstr (Ar.after a b ++ [10]) = R at *
  generalize bstr a = sa at *
  generalize bstr b = sb at *
  go_enter Tryz.func133, Tryz.ntmps133
  go_wp2_with fail
  go_ret
  exact ⟨ret_str HE.out, rfl⟩
theorem rfigures_any (A : Option Addr) (cap : Nat) (xs : List Int) (w : World) (hR : Rd w A xs.length (intL xs)) (hx : ∀ x ∈ xs, Ar.inInt x) (hl : xs.length ≤ 1000000) :
  Calls Tryz.prog 134 #[.slice A xs.length cap] w fun e w' => e = .returned (.string (bstr (figT xs))) ∧ Below w.heap.size w w' := by
 have HR := hid hR
 have HX := hid hx
 clear hR hx
 go_enter Tryz.func134, Tryz.ntmps134
 go_wp2_with fail
 go_loopw [3, 4] (fun out ix wr => ∃ k : Nat, k ≤ xs.length ∧ ix = .int .i64 k ∧ out = .string (bstr (figT (xs.take k))) ∧ Below w.heap.size w wr) (fun _ ix _ => xs.length - (RowKit.intOf ix).toNat)
 case atStart => exact ⟨0, by omega, rfl, rfl, Below.refl _ _⟩
 case round =>
  obtain ⟨k, hk, rfl, rfl, hb⟩ := hrel
  have HB := hid hb
  have hbs := hb.size
  clear hb
  by_cases hlt : k < xs.length
  ·obtain ⟨ba, oa, x, rfl, hx, hc0⟩ := (HR.out.below HB.out).int_at hlt
   have HXO := hid (HX.out x (List.mem_of_getElem? hx))
   have hq0 : (bstr (figT (xs.take k))).size ≤ 100000000 := by
    rw [bstr_size]
    have h1 := figT_len (xs.take k) (fun y hy => HX.out y (List.mem_of_mem_take hy))
    rw [List.length_take] at h1
    omega
   have hp1 : (bstr (Ar.itoa x)).size ≤ 20 := by rw [bstr_size]; exact itoa_len x HXO.out
   have HN := hid (figT_snoc hx)
   have HS := hid (fig_str (figT (xs.take k)) (Ar.itoa x))
   have hs1 : ¬ 9223372036854775807 < (bstr (figT (xs.take k))).size + 1 := by omega
   have hs2 : ¬ 9223372036854775807 < (bstr (figT (xs.take k))).size + 1 + (bstr (Ar.itoa x)).size := by omega
   have HC1 := hid (fun W => rtext_any x W HXO.out)
   clear hx
   generalize hJK : bstr (figT (xs.take k)) = JK at *
   generalize hP1 : bstr (Ar.itoa x) = P1 at *
   go_wp2_with fail
   refine (HC1.out _).mono ?_
   rintro e w2 ⟨rfl, hb2⟩
   have HB2 := hid (HB.out.trans (hb2.mono hbs))
   clear hb2
   go_wp2_with fail
   go_roundw
   case rel => exact ⟨k + 1, by omega, by go_num, by rw [HN.out, ← HS.out], HB2.out⟩
   case measure => simp [RowKit.intOf]; omega
  ·obtain rfl : k = xs.length := by omega
   have HE : Hid (xs.take xs.length = xs) := hid List.take_length
   rw [HE.out]
   go_wp2_with fail
   go_ret
   exact ⟨rfl, HB.out⟩
end Go.Proofs.YteadlcncnhbmjaaGreatDoor
/- The text Rf0. -/
namespace Go.Proofs.YteadlcncnhbmjaaGreatDoor
open Go.RowKit Go.Lib
set_option linter.unusedVariables false
set_option linter.unusedSimpArgs false
def Apart (L : List (Option Nat)) : Prop := L.Pairwise fun a b => a = b → a = none
def Fresh (n : Nat) (o o' : Option Nat) : Prop := o' = o ∨ ∃ k, n ≤ k ∧ o' = some k
theorem apart_set {n : Nat} {o' : Option Nat} : ∀ {L : List (Option Nat)} (i : Nat), Apart L → (∀ o ∈ L, ∀ k, o = some k → k < n) → (∀ o, L[i]? = some o → Fresh n o o') → Apart (L.set i o')
 | [], i, h, _, _ => h
 | a :: L, 0, h, hl, hf => by
  obtain ⟨h1, h2⟩ := List.pairwise_cons.1 h
  refine List.pairwise_cons.2 ⟨fun b hb e => ?_, h2⟩
  rcases hf a rfl with e1 | ⟨k, hk, e1⟩
  ·rw [e1] at e ⊢
   exact h1 b hb e
  ·have := hl b (List.mem_cons_of_mem _ hb) k (e.symm.trans e1)
   omega
 | a :: L, i + 1, h, hl, hf => by
  obtain ⟨h1, h2⟩ := List.pairwise_cons.1 h
  refine List.pairwise_cons.2 ⟨fun b hb e => ?_, apart_set i h2 (fun o ho => hl o (List.mem_cons_of_mem _ ho)) hf⟩
  rcases List.mem_or_eq_of_mem_set hb with hb' | hb'
  ·exact h1 b hb' e
  ·by_cases hi : i < L.length
   ·rcases hf L[i] (List.getElem?_eq_getElem hi) with e1 | ⟨k, hk, e1⟩
    ·exact h1 L[i] (List.getElem_mem hi) (e.trans (hb'.trans e1))
    ·have := hl a (List.mem_cons_self ..) k (e.trans (hb'.trans e1))
     omega
   ·rw [List.set_eq_of_length_le (by omega)] at hb
    exact h1 b hb e
theorem Apart.ne {L : List (Option Nat)} (h : Apart L) (i j : Nat) (hij : i ≠ j) {a b : Option Nat} (hi : L[i]? = some a) (hj : L[j]? = some b) : a = b → a = none := by
 intro e
 obtain ⟨h1, e1⟩ := List.getElem?_eq_some_iff.1 hi
 obtain ⟨h2, e2⟩ := List.getElem?_eq_some_iff.1 hj
 have hp := List.pairwise_iff_getElem.1 h
 rcases Nat.lt_or_gt_of_ne hij with hlt | hgt
 ·have := hp i j h1 h2 hlt
  rw [e1, e2] at this
  exact this e
 ·have := hp j i h2 h1 hgt
  rw [e1, e2] at this
  rw [e]
  exact this e.symm
def ownL (cE cR cW cS cC cT : Value) : List (Option Nat) := [cE.ownBlock, cR.ownBlock, cW.ownBlock, cS.ownBlock, cC.ownBlock, cT.ownBlock]
def far (g : Nat) (O : List (Option Nat)) (b : Nat) : Prop := g < b ∧ some b ∉ O
def EvO (w : World) (g : Nat) (O : List (Option Nat)) (v : Value) (L : List (List Ar.FV)) : Prop :=
 ∃ xs, w.ownsRow (g + 1) 40 29 v L.length xs ∧ ∀ (i : Nat) (e : List Ar.FV), L[i]? = some e → ∃ cs : List Value, cs.length = 29 ∧ (∀ j u, cs[j]? = some u → xs[i * 29 + j]? = some u) ∧ EvOf (far g O) w cs.toArray e
structure RmO (w : World) (g : Nat) (r : Ar.Rm) (cE cR cW cH cS cC cT : Value) : Prop where
 blk : Blk w g 55 #[.string (bstr r.id), cE, cR, cW, cH, cS, .int .i64 r.next, cC, cT]
 apart : Apart (ownL cE cR cW cS cC cT)
 ev : EvO w g (ownL cE cR cW cS cC cT) cE r.events
 row : w.ownsRow (g + 1) 114 4 cR r.rows.length (r.rows.flatMap rowC)
 wait : EvO w g (ownL cE cR cW cS cC cT) cW r.waiting
 heads : SlcOf (far g (ownL cE cR cW cS cC cT)) w cH r.heads.length 1 (intL r.heads)
 state : w.ownsRow (g + 1) 103 3 cS r.state.length (r.state.flatMap entC)
 rcp : w.ownsRow (g + 1) 105 4 cC r.receipts.length (r.receipts.flatMap recC)
 typ : w.ownsRow (g + 1) 107 2 cT r.typing.length (r.typing.flatMap typC)
theorem RmO.lt {w : World} {g : Nat} {r : Ar.Rm} {cE cR cW cH cS cC cT : Value} (h : RmO w g r cE cR cW cH cS cC cT) : ∀ o ∈ ownL cE cR cW cS cC cT, ∀ k, o = some k → k < w.heap.size := by
 intro o ho k hk
 obtain ⟨x1, h1, _⟩ := h.ev
 obtain ⟨x2, h2, _⟩ := h.wait
 unfold ownL at ho
 simp only [List.mem_cons, List.not_mem_nil, or_false] at ho
 rcases ho with rfl | rfl | rfl | rfl | rfl | rfl
 ·exact (h1.lt k hk).2
 ·exact (h.row.lt k hk).2
 ·exact (h2.lt k hk).2
 ·exact (h.state.lt k hk).2
 ·exact (h.rcp.lt k hk).2
 ·exact (h.typ.lt k hk).2
theorem own_ch {w w' : World} {g size n : Nat} {row : Option Nat} {e : TypeId} {v : Value} {xs : List Value} (h : Ch w w' g row) (ho : w.ownsRow (g + 1) e size v n xs) (hne : v.ownBlock = row → v.ownBlock = none) : w'.ownsRow (g + 1) e size v n xs := by
 obtain ⟨h1, h2⟩ := ho
 refine ⟨h1, ?_⟩
 rcases h2 with h2 | ⟨k, cap, cur, rfl, hk, hh, hn, hcap, hsz, ht⟩
 ·exact .inl h2
 ·have hlt : k < w.heap.size := (Array.getElem?_eq_some_iff.1 hh).1
  refine .inr ⟨k, cap, cur, rfl, hk, (h.block k hlt (by omega) (fun e => ?_)).trans hh, hn, hcap, hsz, ht⟩
  have := hne e
  cases this
theorem far_ch {w w' : World} {g : Nat} {row : Option Nat} {O O' : List (Option Nat)} (h : Ch w w' g row) (hr : row ∈ O ∨ row = none) (ho : ∀ o ∈ O', o ∈ O ∨ ∃ k, w.heap.size ≤ k ∧ o = some k) : ∀ b, far g O b → b < w.heap.size → far g O' b ∧ w'.heap[b]? = w.heap[b]? := by
 intro b hb hlt
 refine ⟨⟨hb.1, fun hm => ?_⟩, h.block b hlt (by have := hb.1; omega) (fun e => ?_)⟩
 ·rcases ho _ hm with h1 | ⟨k, hk, e⟩
  ·exact hb.2 h1
  ·injection e with e; omega
 ·rcases hr with hr | hr
  ·exact hb.2 (e ▸ hr)
  ·rw [hr] at e; cases e
theorem mem_set {n i : Nat} {O : List (Option Nat)} {o' o : Option Nat} (hi : O[i]? = some o) (hf : Fresh n o o') : ∀ x ∈ O.set i o', x ∈ O ∨ ∃ k, n ≤ k ∧ x = some k := by
 intro x hx
 rcases List.mem_or_eq_of_mem_set hx with h | rfl
 ·exact .inl h
 ·rcases hf with rfl | ⟨k, hk, e⟩
  ·exact .inl (List.mem_of_getElem? hi)
  ·exact .inr ⟨k, hk, e⟩
theorem EvO.ch {w w' : World} {g : Nat} {row : Option Nat} {O O' : List (Option Nat)} {v : Value} {L : List (List Ar.FV)} (h : EvO w g O v L) (hc : Ch w w' g row) (hne : v.ownBlock = row → v.ownBlock = none) (hr : row ∈ O ∨ row = none) (ho : ∀ o ∈ O', o ∈ O ∨ ∃ k, w.heap.size ≤ k ∧ o = some k) : EvO w' g O' v L := by
 obtain ⟨xs, h1, h2⟩ := h
 refine ⟨xs, own_ch hc h1 hne, fun i e hi => ?_⟩
 obtain ⟨cs, a, b, c⟩ := h2 i e hi
 exact ⟨cs, a, b, c.keep (far_ch hc hr ho)⟩
theorem EvO.snoc {w w' : World} {g : Nat} {O O' : List (Option Nat)} {v v' : Value} {L : List (List Ar.FV)} {xs : List Value} {cells : Array Value} {e : List Ar.FV} (h0 : w.ownsRow (g + 1) 40 29 v L.length xs)
  (h : ∀ (i : Nat) (e : List Ar.FV), L[i]? = some e → ∃ cs : List Value, cs.length = 29 ∧ (∀ j u, cs[j]? = some u → xs[i * 29 + j]? = some u) ∧ EvOf (far g O) w cs.toArray e)
  (hk : ∀ b, far g O b → b < w.heap.size → far g O' b ∧ w'.heap[b]? = w.heap[b]?) (ho : w'.ownsRow (g + 1) 40 29 v' (L.length + 1) (xs ++ cells.toList)) (he : EvOf (far g O') w' cells e) : EvO w' g O' v' (L ++ [e]) := by
 refine ⟨xs ++ cells.toList, by rw [List.length_append]; exact ho, fun i e' hi => ?_⟩
 have hlen : xs.length = L.length * 29 := h0.1
 rcases Nat.lt_or_ge i L.length with hlt | hge
 ·rw [List.getElem?_append_left hlt] at hi
  obtain ⟨cs, a, b, c⟩ := h i e' hi
  refine ⟨cs, a, fun j u hj => ?_, c.keep hk⟩
  have hj2 := b j u hj
  have hl2 := (List.getElem?_eq_some_iff.1 hj2).1
  rw [List.getElem?_append_left hl2]
  exact hj2
 ·rw [List.getElem?_append_right hge] at hi
  have hi0 : i - L.length = 0 := by
   have := (List.getElem?_eq_some_iff.1 hi).1
   simp only [List.length_cons, List.length_nil] at this
   omega
  rw [hi0] at hi
  injection hi with hi
  subst hi
  refine ⟨cells.toList, by rw [Array.length_toList]; exact he.size, fun j u hj => ?_, by rw [Array.toArray_toList]; exact he⟩
  have hii : i = L.length := by omega
  rw [hii, ← hlen, List.getElem?_append_right (Nat.le_add_right _ _), Nat.add_sub_cancel_left]
  exact hj
theorem ch_below {w w' : World} {g : Nat} (hb : Below w.heap.size w w') : Ch w w' g none := ⟨hb.os, hb.tape, hb.output, hb.size, fun k hk _ _ => hb.block k hk⟩
theorem RmO.ch0 {w w' : World} {g : Nat} {r : Ar.Rm} {cE cR cW cH cS cC cT : Value} (h : RmO w g r cE cR cW cH cS cC cT) (hc : Ch w w' g none) (hb : Blk w' g 55 #[.string (bstr r.id), cE, cR, cW, cH, cS, .int .i64 r.next, cC, cT]) : RmO w' g r cE cR cW cH cS cC cT where
 blk := hb
 apart := h.apart
 ev := h.ev.ch hc (fun e => e) (.inr rfl) (fun o ho => .inl ho)
 row := own_ch hc h.row (fun e => e)
 wait := h.wait.ch hc (fun e => e) (.inr rfl) (fun o ho => .inl ho)
 heads := h.heads.keep (by decide) (far_ch hc (.inr rfl) (fun o ho => .inl ho))
 state := own_ch hc h.state (fun e => e)
 rcp := own_ch hc h.rcp (fun e => e)
 typ := own_ch hc h.typ (fun e => e)
theorem RmO.below {w w' : World} {g : Nat} {r : Ar.Rm} {cE cR cW cH cS cC cT : Value} (h : RmO w g r cE cR cW cH cS cC cT) (hb : Below w.heap.size w w') : RmO w' g r cE cR cW cH cS cC cT := h.ch0 (ch_below hb) (h.blk.below hb h.blk.lt)
theorem RmO.drewN {w : World} {g : Nat} {r : Ar.Rm} {cE cR cW cH cS cC cT : Value} (h : RmO w g r cE cR cW cH cS cC cT) (q : Nat) : RmO (w.drewN q) g r cE cR cW cH cS cC cT := h.below (below_drewN (Below.refl _ _) q)
theorem RmO.head {w w' : World} {g : Nat} {r : Ar.Rm} {cE cR cW cH cS cC cT : Value} (h : RmO w g r cE cR cW cH cS cC cT) {id : List UInt8} {next : Int} (hg : w.grownBy w' (some g)) (hb : Blk w' g 55 #[.string (bstr id), cE, cR, cW, cH, cS, .int .i64 next, cC, cT]) : RmO w' g { r with id := id, next := next } cE cR cW cH cS cC cT := by
 have hc : Ch w w' g none := Ch.of_grown hg
 exact { blk := hb, apart := h.apart, ev := h.ev.ch hc (fun e => e) (.inr rfl) (fun o ho => .inl ho), row := own_ch hc h.row (fun e => e), wait := h.wait.ch hc (fun e => e) (.inr rfl) (fun o ho => .inl ho), heads := h.heads.keep (by decide) (far_ch hc (.inr rfl) (fun o ho => .inl ho)), state := own_ch hc h.state (fun e => e), rcp := own_ch hc h.rcp (fun e => e), typ := own_ch hc h.typ (fun e => e) }
theorem RmO.rowStep {w w' : World} {g : Nat} {r : Ar.Rm} {cE cR cW cH cS cC cT : Value} (h : RmO w g r cE cR cW cH cS cC cT) {cR' : Value} {x : Int × Int × Int × Bool} (hb : Blk w' g 55 #[.string (bstr r.id), cE, cR', cW, cH, cS, .int .i64 r.next, cC, cT]) (ho : w'.ownsRow (g + 1) 114 4 cR' (r.rows.length + 1) (r.rows.flatMap rowC ++ rowC x)) (hc : Ch w w' g cR.ownBlock) (hf : Fresh w.heap.size cR.ownBlock cR'.ownBlock) : RmO w' g (Ar.upR r x) cE cR' cW cH cS cC cT where
 blk := hb
 apart := apart_set 1 h.apart h.lt (fun o e => by injection e with e; subst e; exact hf)
 ev := h.ev.ch hc (h.apart.ne 0 1 (by decide) rfl rfl) (.inl (by unfold ownL; simp)) (mem_set (O := ownL cE cR cW cS cC cT) (i := 1) rfl hf)
 row := by
  show World.ownsRow w' (g + 1) 114 4 cR' (r.rows ++ [x]).length ((r.rows ++ [x]).flatMap rowC)
  rw [List.length_append, List.flatMap_append, show [x].flatMap rowC = rowC x from by simp]
  exact ho
 wait := h.wait.ch hc (h.apart.ne 2 1 (by decide) rfl rfl) (.inl (by unfold ownL; simp)) (mem_set (O := ownL cE cR cW cS cC cT) (i := 1) rfl hf)
 heads := h.heads.keep (by decide) (far_ch hc (.inl (by unfold ownL; simp)) (mem_set (O := ownL cE cR cW cS cC cT) (i := 1) rfl hf))
 state := own_ch hc h.state (h.apart.ne 3 1 (by decide) rfl rfl)
 rcp := own_ch hc h.rcp (h.apart.ne 4 1 (by decide) rfl rfl)
 typ := own_ch hc h.typ (h.apart.ne 5 1 (by decide) rfl rfl)
theorem RmO.stateStep {w w' : World} {g : Nat} {r : Ar.Rm} {cE cR cW cH cS cC cT : Value} (h : RmO w g r cE cR cW cH cS cC cT) {cS' : Value} {x : Int × List UInt8 × Int} (hb : Blk w' g 55 #[.string (bstr r.id), cE, cR, cW, cH, cS', .int .i64 r.next, cC, cT]) (ho : w'.ownsRow (g + 1) 103 3 cS' (r.state.length + 1) (r.state.flatMap entC ++ entC x)) (hc : Ch w w' g cS.ownBlock) (hf : Fresh w.heap.size cS.ownBlock cS'.ownBlock) : RmO w' g (Ar.upS r x) cE cR cW cH cS' cC cT where
 blk := hb
 apart := apart_set 3 h.apart h.lt (fun o e => by injection e with e; subst e; exact hf)
 ev := h.ev.ch hc (h.apart.ne 0 3 (by decide) rfl rfl) (.inl (by unfold ownL; simp)) (mem_set (O := ownL cE cR cW cS cC cT) (i := 3) rfl hf)
 row := own_ch hc h.row (h.apart.ne 1 3 (by decide) rfl rfl)
 wait := h.wait.ch hc (h.apart.ne 2 3 (by decide) rfl rfl) (.inl (by unfold ownL; simp)) (mem_set (O := ownL cE cR cW cS cC cT) (i := 3) rfl hf)
 heads := h.heads.keep (by decide) (far_ch hc (.inl (by unfold ownL; simp)) (mem_set (O := ownL cE cR cW cS cC cT) (i := 3) rfl hf))
 state := by
  show World.ownsRow w' (g + 1) 103 3 cS' (r.state ++ [x]).length ((r.state ++ [x]).flatMap entC)
  rw [List.length_append, List.flatMap_append, show [x].flatMap entC = entC x from by simp]
  exact ho
 rcp := own_ch hc h.rcp (h.apart.ne 4 3 (by decide) rfl rfl)
 typ := own_ch hc h.typ (h.apart.ne 5 3 (by decide) rfl rfl)
theorem RmO.rcpStep {w w' : World} {g : Nat} {r : Ar.Rm} {cE cR cW cH cS cC cT : Value} (h : RmO w g r cE cR cW cH cS cC cT) {cC' : Value} {x : List UInt8 × Int × Int × Int} (hb : Blk w' g 55 #[.string (bstr r.id), cE, cR, cW, cH, cS, .int .i64 r.next, cC', cT]) (ho : w'.ownsRow (g + 1) 105 4 cC' (r.receipts.length + 1) (r.receipts.flatMap recC ++ recC x)) (hc : Ch w w' g cC.ownBlock) (hf : Fresh w.heap.size cC.ownBlock cC'.ownBlock) : RmO w' g (Ar.upC r x) cE cR cW cH cS cC' cT where
 blk := hb
 apart := apart_set 4 h.apart h.lt (fun o e => by injection e with e; subst e; exact hf)
 ev := h.ev.ch hc (h.apart.ne 0 4 (by decide) rfl rfl) (.inl (by unfold ownL; simp)) (mem_set (O := ownL cE cR cW cS cC cT) (i := 4) rfl hf)
 row := own_ch hc h.row (h.apart.ne 1 4 (by decide) rfl rfl)
 wait := h.wait.ch hc (h.apart.ne 2 4 (by decide) rfl rfl) (.inl (by unfold ownL; simp)) (mem_set (O := ownL cE cR cW cS cC cT) (i := 4) rfl hf)
 heads := h.heads.keep (by decide) (far_ch hc (.inl (by unfold ownL; simp)) (mem_set (O := ownL cE cR cW cS cC cT) (i := 4) rfl hf))
 state := own_ch hc h.state (h.apart.ne 3 4 (by decide) rfl rfl)
 rcp := by
  show World.ownsRow w' (g + 1) 105 4 cC' (r.receipts ++ [x]).length ((r.receipts ++ [x]).flatMap recC)
  rw [List.length_append, List.flatMap_append, show [x].flatMap recC = recC x from by simp]
  exact ho
 typ := own_ch hc h.typ (h.apart.ne 5 4 (by decide) rfl rfl)
theorem RmO.typStep {w w' : World} {g : Nat} {r : Ar.Rm} {cE cR cW cH cS cC cT : Value} (h : RmO w g r cE cR cW cH cS cC cT) {cT' : Value} {x : List UInt8 × Int} (hb : Blk w' g 55 #[.string (bstr r.id), cE, cR, cW, cH, cS, .int .i64 r.next, cC, cT']) (ho : w'.ownsRow (g + 1) 107 2 cT' (r.typing.length + 1) (r.typing.flatMap typC ++ typC x)) (hc : Ch w w' g cT.ownBlock) (hf : Fresh w.heap.size cT.ownBlock cT'.ownBlock) : RmO w' g (Ar.upT r x) cE cR cW cH cS cC cT' where
 blk := hb
 apart := apart_set 5 h.apart h.lt (fun o e => by injection e with e; subst e; exact hf)
 ev := h.ev.ch hc (h.apart.ne 0 5 (by decide) rfl rfl) (.inl (by unfold ownL; simp)) (mem_set (O := ownL cE cR cW cS cC cT) (i := 5) rfl hf)
 row := own_ch hc h.row (h.apart.ne 1 5 (by decide) rfl rfl)
 wait := h.wait.ch hc (h.apart.ne 2 5 (by decide) rfl rfl) (.inl (by unfold ownL; simp)) (mem_set (O := ownL cE cR cW cS cC cT) (i := 5) rfl hf)
 heads := h.heads.keep (by decide) (far_ch hc (.inl (by unfold ownL; simp)) (mem_set (O := ownL cE cR cW cS cC cT) (i := 5) rfl hf))
 state := own_ch hc h.state (h.apart.ne 3 5 (by decide) rfl rfl)
 rcp := own_ch hc h.rcp (h.apart.ne 4 5 (by decide) rfl rfl)
 typ := by
  show World.ownsRow w' (g + 1) 107 2 cT' (r.typing ++ [x]).length ((r.typing ++ [x]).flatMap typC)
  rw [List.length_append, List.flatMap_append, show [x].flatMap typC = typC x from by simp]
  exact ho
theorem RmO.evStep {w w' : World} {g : Nat} {r : Ar.Rm} {cE cR cW cH cS cC cT : Value} (h : RmO w g r cE cR cW cH cS cC cT) {cE' : Value} {e : List Ar.FV} {ys : Array Value} (hb : Blk w' g 55 #[.string (bstr r.id), cE', cR, cW, cH, cS, .int .i64 r.next, cC, cT]) (hc : Ch w w' g cE.ownBlock) (hf : Fresh w.heap.size cE.ownBlock cE'.ownBlock)
  (ho : ∀ xs, w.ownsRow (g + 1) 40 29 cE r.events.length xs → w'.ownsRow (g + 1) 40 29 cE' (r.events.length + 1) (xs ++ ys.toList)) (he : EvOf (far g (ownL cE' cR cW cS cC cT)) w' ys e) : RmO w' g (Ar.upE r e) cE' cR cW cH cS cC cT where
 blk := hb
 apart := apart_set 0 h.apart h.lt (fun o e => by injection e with e; subst e; exact hf)
 ev := by
  obtain ⟨xs, h1, h2⟩ := h.ev
  exact EvO.snoc h1 h2 (far_ch hc (.inl (by unfold ownL; simp)) (mem_set (O := ownL cE cR cW cS cC cT) (i := 0) rfl hf)) (ho xs h1) he
 row := own_ch hc h.row (h.apart.ne 1 0 (by decide) rfl rfl)
 wait := h.wait.ch hc (h.apart.ne 2 0 (by decide) rfl rfl) (.inl (by unfold ownL; simp)) (mem_set (O := ownL cE cR cW cS cC cT) (i := 0) rfl hf)
 heads := h.heads.keep (by decide) (far_ch hc (.inl (by unfold ownL; simp)) (mem_set (O := ownL cE cR cW cS cC cT) (i := 0) rfl hf))
 state := own_ch hc h.state (h.apart.ne 3 0 (by decide) rfl rfl)
 rcp := own_ch hc h.rcp (h.apart.ne 4 0 (by decide) rfl rfl)
 typ := own_ch hc h.typ (h.apart.ne 5 0 (by decide) rfl rfl)
theorem RmO.waitStep {w w' : World} {g : Nat} {r : Ar.Rm} {cE cR cW cH cS cC cT : Value} (h : RmO w g r cE cR cW cH cS cC cT) {cW' : Value} {e : List Ar.FV} {ys : Array Value} (hb : Blk w' g 55 #[.string (bstr r.id), cE, cR, cW', cH, cS, .int .i64 r.next, cC, cT]) (hc : Ch w w' g cW.ownBlock) (hf : Fresh w.heap.size cW.ownBlock cW'.ownBlock)
  (ho : ∀ xs, w.ownsRow (g + 1) 40 29 cW r.waiting.length xs → w'.ownsRow (g + 1) 40 29 cW' (r.waiting.length + 1) (xs ++ ys.toList)) (he : EvOf (far g (ownL cE cR cW' cS cC cT)) w' ys e) : RmO w' g (Ar.upW r e) cE cR cW' cH cS cC cT where
 blk := hb
 apart := apart_set 2 h.apart h.lt (fun o e => by injection e with e; subst e; exact hf)
 ev := h.ev.ch hc (h.apart.ne 0 2 (by decide) rfl rfl) (.inl (by unfold ownL; simp)) (mem_set (O := ownL cE cR cW cS cC cT) (i := 2) rfl hf)
 row := own_ch hc h.row (h.apart.ne 1 2 (by decide) rfl rfl)
 wait := by
  obtain ⟨xs, h1, h2⟩ := h.wait
  exact EvO.snoc h1 h2 (far_ch hc (.inl (by unfold ownL; simp)) (mem_set (O := ownL cE cR cW cS cC cT) (i := 2) rfl hf)) (ho xs h1) he
 heads := h.heads.keep (by decide) (far_ch hc (.inl (by unfold ownL; simp)) (mem_set (O := ownL cE cR cW cS cC cT) (i := 2) rfl hf))
 state := own_ch hc h.state (h.apart.ne 3 2 (by decide) rfl rfl)
 rcp := own_ch hc h.rcp (h.apart.ne 4 2 (by decide) rfl rfl)
 typ := own_ch hc h.typ (h.apart.ne 5 2 (by decide) rfl rfl)
theorem RmO.headsStep {w w' : World} {g : Nat} {r : Ar.Rm} {cE cR cW cH cS cC cT : Value} (h : RmO w g r cE cR cW cH cS cC cT) {cH' : Value} {l : List Int} (hb : Blk w' g 55 #[.string (bstr r.id), cE, cR, cW, cH', cS, .int .i64 r.next, cC, cT]) (hc : Ch w w' g none) (hl : SlcOf (fun b => w.heap.size ≤ b) w' cH' l.length 1 (intL l)) : RmO w' g { r with heads := l } cE cR cW cH' cS cC cT where
 blk := hb
 apart := h.apart
 ev := h.ev.ch hc (fun e => e) (.inr rfl) (fun o ho => .inl ho)
 row := own_ch hc h.row (fun e => e)
 wait := h.wait.ch hc (fun e => e) (.inr rfl) (fun o ho => .inl ho)
 heads := hl.keep (by decide) (fun b hb _ => ⟨⟨by have := h.blk.lt; omega, fun hm => by have := h.lt _ hm b rfl; omega⟩, rfl⟩)
 state := own_ch hc h.state (fun e => e)
 rcp := own_ch hc h.rcp (fun e => e)
 typ := own_ch hc h.typ (fun e => e)
theorem RmO.zero {w : World} {g : Nat} (hb : Blk w g 55 #[.string ⟨#[]⟩, .slice none 0 0, .slice none 0 0, .slice none 0 0, .slice none 0 0, .slice none 0 0, .int .i64 0, .slice none 0 0, .slice none 0 0]) : RmO w g Ar.Rm.zero (.slice none 0 0) (.slice none 0 0) (.slice none 0 0) (.slice none 0 0) (.slice none 0 0) (.slice none 0 0) (.slice none 0 0) where
 blk := hb
 apart := by unfold Apart ownL; simp [Value.ownBlock]
 ev := ⟨[], World.ownsRow_nil _ _ _ _, fun i e hi => by cases hi⟩
 row := World.ownsRow_nil _ _ _ _
 wait := ⟨[], World.ownsRow_nil _ _ _ _, fun i e hi => by cases hi⟩
 heads := ⟨none, 0, rfl, ⟨rfl, fun j v hj => by cases hj⟩, fun h => absurd h (by decide)⟩
 state := World.ownsRow_nil _ _ _ _
 rcp := World.ownsRow_nil _ _ _ _
 typ := World.ownsRow_nil _ _ _ _
theorem SlB.of_slc {ok : Nat → Prop} {w : World} {c : Value} {n sz : Nat} {vs : List Value} (h : SlcOf ok w c n sz vs) (hsz : 0 < sz) : SlB w w.heap.size c n sz vs := by
 obtain ⟨A, cap, e, h1, h2⟩ := h
 exact ⟨A, cap, e, h1, fun hn a ha => h1.block ha (Nat.mul_pos hn hsz)⟩
theorem SlB.of_own {w : World} {base : Nat} {e : TypeId} {c : Value} {n sz : Nat} {vs : List Value} (h : w.ownsRow base e sz c n vs) (hsz : 0 < sz) : SlB w w.heap.size c n sz vs := SlB.of_slc (SlcOf.of_own h) hsz
theorem EvOf.low {ok : Nat → Prop} {w : World} {cells : Array Value} {e : List Ar.FV} (h : EvOf ok w cells e) : EvOf (fun b => b < w.heap.size) w cells e := h.keep fun b _ hlt => ⟨hlt, rfl⟩
theorem EvO.row {w : World} {g : Nat} {O : List (Option Nat)} {v : Value} {L : List (List Ar.FV)} (h : EvO w g O v L) : ∃ A c, v = .slice A L.length c ∧ EvRow w w.heap.size A L := by
 obtain ⟨xs, h1, h2⟩ := h
 obtain ⟨A, c, e, h3, h4⟩ := SlcOf.of_own h1
 refine ⟨A, c, e, fun i ev hi => ?_⟩
 obtain ⟨cs, a, b, d⟩ := h2 i ev hi
 have h0 : ∃ u, cs[0]? = some u := ⟨_, List.getElem?_eq_getElem (by omega)⟩
 obtain ⟨u, hu⟩ := h0
 obtain ⟨bl, off, e1, hc⟩ := h3.2 _ _ (b 0 u hu)
 refine ⟨bl, off, cs, e1, block_lt hc, fun j y hj => ?_, a, d.low⟩
 obtain ⟨bl', off', e2, hc2⟩ := h3.2 _ _ (b j y hj)
 rw [e1] at e2
 injection e2 with e2
 injection e2 with e3 e4
 subst e3 e4
 rw [Nat.add_assoc]
 exact hc2
theorem RmO.room {w : World} {g : Nat} {r : Ar.Rm} {cE cR cW cH cS cC cT : Value} (h : RmO w g r cE cR cW cH cS cC cT) : RoomV w w.heap.size r cE cR cW cH cS cC cT where
 ev := h.ev.row
 row := SlB.of_own h.row (by decide)
 wait := h.wait.row
 heads := by have := SlB.of_slc h.heads (by decide); exact this
 state := SlB.of_own h.state (by decide)
 rcp := SlB.of_own h.rcp (by decide)
 typ := SlB.of_own h.typ (by decide)
end Go.Proofs.YteadlcncnhbmjaaGreatDoor
/- The text Rd1. -/
namespace Go.Proofs.YteadlcncnhbmjaaGreatDoor
open Go.RowKit Go.Lib
set_option linter.unusedVariables false
set_option linter.unusedSimpArgs false
theorem inforowEnt : (Tryz.prog.info? 103).map (fun i => (i.zero, i.size, i.bytes)) = some (some (.agg #[.int .i64 0, .string ⟨#[]⟩, .int .i64 0]), 3, 32) := by kernel_rfl
theorem rowEnt : RowT 51 103 3 32 := ⟨Tryz.underlying51, ⟨_, inforowEnt, rfl⟩, by decide, by decide⟩
def enA (s : List UInt8) : Int × Ar.RS := Ar.rnum (Ar.eat Ar.entryW (s, false))
def enB (s : List UInt8) : List UInt8 × Ar.RS := Ar.rtext (Ar.eat [32] (enA s).2)
def enC (s : List UInt8) : Int × Ar.RS := Ar.rnum (Ar.eat [32] (enB s).2)
def enX (s : List UInt8) : (Int) × (List UInt8) × (Int) := ((enA s).1, (enB s).1, (enC s).1)
def enOk (s : List UInt8) : Bool := decide ((enC s).2.2 = false ∧ Ar.entryLine (enX s) = s)
theorem readentry_any (s : ByteArray) (g : Nat) (c0 c1 c2 c3 c4 c6 c7 c8 vv : Value) (m : Nat) (xs : List Value) (w : World) (hs : s.size ≤ 100000) (hRd : Ready w) (hg : Blk w g 55 #[c0, c1, c2, c3, c4, vv, c6, c7, c8]) (hg3 : 3 ≤ g) (ho : w.ownsRow (g + 1) 103 3 vv m xs) (hm : m ≤ 1000000) :
  Calls Tryz.prog 141 #[.string s, .pointer (some ⟨g, 0, none⟩)] w fun e w' => e = .returned (.bool (enOk s.data.toList)) ∧ ∃ vv', Blk w' g 55 #[c0, c1, c2, c3, c4, vv', c6, c7, c8] ∧ w'.ownsRow (g + 1) 103 3 vv' (m + 1) (xs ++ entC (enX s.data.toList)) ∧ Ch w w' g vv.ownBlock ∧ (vv'.ownBlock = vv.ownBlock ∨ ∃ k, w.heap.size ≤ k ∧ vv'.ownBlock = some k) := by
 have HRY := hid hRd
 have HOWN := hid ho
 obtain ⟨AR, cR, rfl⟩ := own_any ho
 have HB1 := hid (RB.start (s := s) hg hg3)
 have hle : s.data.toList.length ≤ s.size := HB1.out.len
 have hle0 := Ar.eat_len Ar.entryW (s.data.toList, false)
 have hlr0 : (enA s.data.toList).2.1.length ≤ _ := Ar.rnum_len (Ar.eat Ar.entryW (s.data.toList, false))
 have hle1 := Ar.eat_len [32] (enA s.data.toList).2
 have hlr1 : (enB s.data.toList).2.1.length ≤ _ := Ar.rtext_len (Ar.eat [32] (enA s.data.toList).2)
 have hle2 := Ar.eat_len [32] (enB s.data.toList).2
 have hlr2 : (enC s.data.toList).2.1.length ≤ _ := Ar.rnum_len (Ar.eat [32] (enB s.data.toList).2)
 have HIA : Hid (Ar.inInt (enA s.data.toList).1) := hid (Ar.rnum_b.good _)
 have htl1 : (enB s.data.toList).1.length ≤ 1000000 := by
  have h : (enB s.data.toList).1.length ≤ (Ar.eat [32] (enA s.data.toList).2).1.length := Ar.rtext_b.good _
  simp only at hle0
  omega
 have HIB : Hid ((enB s.data.toList).1.length ≤ 1000000) := hid htl1
 have HIC : Hid (Ar.inInt (enC s.data.toList).1) := hid (Ar.rnum_b.good _)
 have hoo := ho.lt
 have HLT : Hid (∀ k, (Value.slice AR m cR).ownBlock = some k → g + 1 ≤ k ∧ k < w.heap.size) := hid hoo
 clear hoo ho hg hRd
 go_enter Tryz.func141, Tryz.ntmps141
 go_wp2_with fail
 refine (eat_any w.heap.size _ _ _ HB1.out.rd (by simp only; omega)).mono ?_
 rintro e w2 ⟨rfl, hr2, hg2⟩
 rw [show (⟨#[101, 110, 116, 114, 121, 32]⟩ : ByteArray).data.toList = Ar.entryW from rfl] at hr2
 have HB2 := hid ((HB1.out.call hr2 hg2 hle0).below ((Below.refl _ _).alloc (Nat.le_refl _) (.cells #[.int .i64 0, .string ⟨#[]⟩, .int .i64 0] 103)))
 have hB : w.heap.size < w2.heap.size := hr2.lt
 have HK2 := hid (Blk.new w2 103 #[.int .i64 0, .string ⟨#[]⟩, .int .i64 0])
 clear hr2 hg2
 go_wp2_with fail
 refine (number_any w.heap.size _ _ HB2.out.rd (by have := HB2.out.len; omega) (HB2.out.ready HRY.out)).mono ?_
 rintro e wb0 ⟨rfl, hrb0, hgb0⟩
 have HKb0 := hid (HK2.out.grown hgb0 (by intro e; injection e with e; omega))
 have HBb0 := hid ((HB2.out.call hrb0 hgb0 hlr0).out w2.heap.size 0 (.int .i64 (enA s.data.toList).1) hB)
 clear hrb0 hgb0
 change Hid (RB w _ g s.size (enA s.data.toList).2 _) at HBb0
 rw [show (Ar.rnum (Ar.eat Ar.entryW (s.data.toList, false))).1 = (enA s.data.toList).1 from rfl]
 have hfb0 := HKb0.out.frozen 0
 have hcb0 := HKb0.out.cell 0
 rw [show (#[.int .i64 0, .string ⟨#[]⟩, .int .i64 0] : Array Value)[0]? = some (.int .i64 0) from rfl] at hcb0
 have HKc0 := hid (HKb0.out.set_ 0 (.int .i64 (enA s.data.toList).1))
 rw [show (#[.int .i64 0, .string ⟨#[]⟩, .int .i64 0] : Array Value).setIfInBounds 0 (.int .i64 (enA s.data.toList).1) = #[.int .i64 (enA s.data.toList).1, .string ⟨#[]⟩, .int .i64 0] from rfl] at HKc0
 go_wp2_with fail
 refine (eat_any w.heap.size _ _ _ HBb0.out.rd (by have := HBb0.out.len; omega)).mono ?_
 rintro e wa1 ⟨rfl, hra1, hga1⟩
 rw [show (⟨#[32]⟩ : ByteArray).data.toList = [32] from rfl] at hra1
 have HBa1 := hid (HBb0.out.call hra1 hga1 hle1)
 have HKa1 := hid (HKc0.out.grown hga1 (by intro e; injection e with e; omega))
 clear hra1 hga1
 go_wp2_with fail
 refine (text_any w.heap.size _ _ HBa1.out.rd (by have := HBa1.out.len; omega)).mono ?_
 rintro e wb1 ⟨rfl, hrb1, hgb1⟩
 have HKb1 := hid (HKa1.out.grown hgb1 (by intro e; injection e with e; omega))
 have HBb1 := hid ((HBa1.out.call hrb1 hgb1 hlr1).out w2.heap.size 1 (.string (bstr (enB s.data.toList).1)) hB)
 clear hrb1 hgb1
 change Hid (RB w _ g s.size (enB s.data.toList).2 _) at HBb1
 rw [show (Ar.rtext (Ar.eat [32] (enA s.data.toList).2)).1 = (enB s.data.toList).1 from rfl]
 have hfb1 := HKb1.out.frozen 1
 have hcb1 := HKb1.out.cell 1
 rw [show (#[.int .i64 (enA s.data.toList).1, .string ⟨#[]⟩, .int .i64 0] : Array Value)[1]? = some (.string ⟨#[]⟩) from rfl] at hcb1
 have HKc1 := hid (HKb1.out.set_ 1 (.string (bstr (enB s.data.toList).1)))
 rw [show (#[.int .i64 (enA s.data.toList).1, .string ⟨#[]⟩, .int .i64 0] : Array Value).setIfInBounds 1 (.string (bstr (enB s.data.toList).1)) = #[.int .i64 (enA s.data.toList).1, .string (bstr (enB s.data.toList).1), .int .i64 0] from rfl] at HKc1
 go_wp2_with fail
 refine (eat_any w.heap.size _ _ _ HBb1.out.rd (by have := HBb1.out.len; omega)).mono ?_
 rintro e wa2 ⟨rfl, hra2, hga2⟩
 rw [show (⟨#[32]⟩ : ByteArray).data.toList = [32] from rfl] at hra2
 have HBa2 := hid (HBb1.out.call hra2 hga2 hle2)
 have HKa2 := hid (HKc1.out.grown hga2 (by intro e; injection e with e; omega))
 clear hra2 hga2
 go_wp2_with fail
 refine (number_any w.heap.size _ _ HBa2.out.rd (by have := HBa2.out.len; omega) (HBa2.out.ready HRY.out)).mono ?_
 rintro e wb2 ⟨rfl, hrb2, hgb2⟩
 have HKb2 := hid (HKa2.out.grown hgb2 (by intro e; injection e with e; omega))
 have HBb2 := hid ((HBa2.out.call hrb2 hgb2 hlr2).out w2.heap.size 2 (.int .i64 (enC s.data.toList).1) hB)
 clear hrb2 hgb2
 change Hid (RB w _ g s.size (enC s.data.toList).2 _) at HBb2
 rw [show (Ar.rnum (Ar.eat [32] (enB s.data.toList).2)).1 = (enC s.data.toList).1 from rfl]
 have hfb2 := HKb2.out.frozen 2
 have hcb2 := HKb2.out.cell 2
 rw [show (#[.int .i64 (enA s.data.toList).1, .string (bstr (enB s.data.toList).1), .int .i64 0] : Array Value)[2]? = some (.int .i64 0) from rfl] at hcb2
 have HKc2 := hid (HKb2.out.set_ 2 (.int .i64 (enC s.data.toList).1))
 rw [show (#[.int .i64 (enA s.data.toList).1, .string (bstr (enB s.data.toList).1), .int .i64 0] : Array Value).setIfInBounds 2 (.int .i64 (enC s.data.toList).1) = #[.int .i64 (enA s.data.toList).1, .string (bstr (enB s.data.toList).1), .int .i64 (enC s.data.toList).1] from rfl] at HKc2
 have HX : Hid (enX s.data.toList = ((enA s.data.toList).1, (enB s.data.toList).1, (enC s.data.toList).1)) := hid rfl
 have HOK : Hid (enOk s.data.toList = decide ((enC s.data.toList).2.2 = false ∧ Ar.entryLine (enX s.data.toList) = s.data.toList)) := hid rfl
 go_wp2_with fail
 generalize hw8 : wb2.setCell ⟨w2.heap.size, 2, none⟩ (.int .i64 (enC s.data.toList).1) = w8 at *
 clear hfb0 hcb0 hfb1 hcb1 hfb2 hcb2 hle0 hlr0 hle1 hlr1 hle2 hlr2 htl1 hw8
 generalize (enA s.data.toList).1 = xa at *
 generalize (enB s.data.toList).1 = xb at *
 generalize (enC s.data.toList).1 = xc at *
 have hcg := HBb2.out.room.drew.cell 5
 rw [show (#[c0, c1, c2, c3, c4, .slice AR m cR, c6, c7, c8] : Array Value)[5]? = some (.slice AR m cR) from rfl] at hcg
 have hcg2 := (HBb2.out.room.alloc (.cells #[.int .i64 xa, .string (bstr xb), .int .i64 xc] 103)).cell 5
 rw [show (#[c0, c1, c2, c3, c4, .slice AR m cR, c6, c7, c8] : Array Value)[5]? = some (.slice AR m cR) from rfl] at hcg2
 have hk0 := HKc2.out.drew.cell 0
 have hk1 := HKc2.out.drew.cell 1
 have hk2 := HKc2.out.drew.cell 2
 rw [show (#[.int .i64 xa, .string (bstr xb), .int .i64 xc] : Array Value)[0]? = some (.int .i64 xa) from rfl] at hk0
 rw [show (#[.int .i64 xa, .string (bstr xb), .int .i64 xc] : Array Value)[1]? = some (.string (bstr xb)) from rfl] at hk1
 rw [show (#[.int .i64 xa, .string (bstr xb), .int .i64 xc] : Array Value)[2]? = some (.int .i64 xc) from rfl] at hk2
 have HOW8 : Hid (w8.ownsRow (g + 1) 103 3 (.slice AR m cR) m xs) := hid (HOWN.out.kept HBb2.out.grow (.inr (by intro e; have := (HLT.out g e).1; omega)))
 have hs8 := HBb2.out.grow.size
 have hgl := HBb2.out.lt
 go_region_law (first
  | (refine step_appG rowEnt rfl _ _ rfl (w8.drew.alloc (.cells #[.int .i64 xa, .string (bstr xb), .int .i64 xc] 103)) (.slice AR m cR) m xs [.int .i64 xa, .string (bstr xb), .int .i64 xc] (g + 1) ?_ (HOW8.out.drew.alloc _) w8.heap.size 1 1 ?_ rfl (by simp [Value.oneCell']) (fun j u hu => lit_at w8.drew _ [.int .i64 xa, .string (bstr xb), .int .i64 xc] j u hu) (by rw [World.size_alloc]; show g + 1 ≤ w8.heap.size + 1; omega) (by omega) ?_; kernel_rfl; kernel_rfl; intro v9 w9 ho9 hg9 hb9 hwh9; obtain ⟨A9, c9, rfl⟩ := own_any ho9; have hkg9 := (HBb2.out.room.drew.alloc (.cells #[.int .i64 xa, .string (bstr xb), .int .i64 xc] 103)).grown hg9 (by intro e; have := (HLT.out g e.symm).1; omega); have hf9 := hkg9.frozen 5; have hc9 := hkg9.cell 5; rw [show (#[c0, c1, c2, c3, c4, .slice AR m cR, c6, c7, c8] : Array Value)[5]? = some (.slice AR m cR) from rfl] at hc9))
 all_goals
  have HLB : Hid (∀ k, w.heap.size ≤ k → some k ≠ (Value.slice AR m cR).ownBlock) := hid (fun k hk e => by have := (HLT.out k e.symm).2; omega)
  have HRD9 : Hid (RdS (w9.setCell ⟨g, 5, none⟩ (.slice A9 (m + 1) c9)) w.heap.size (enC s.data.toList).2) := hid (((HBb2.out.rd.drew.alloc (.cells #[.int .i64 xa, .string (bstr xb), .int .i64 xc] 103)).grown hg9 (HLB.out _ (Nat.le_refl _))).far (show w.heap.size ≠ g by omega) _)
  have HKR9 : Hid (Blk (w9.setCell ⟨g, 5, none⟩ (.slice A9 (m + 1) c9)) w2.heap.size 103 #[.int .i64 xa, .string (bstr xb), .int .i64 xc]) := hid (((HKc2.out.drew.alloc (.cells #[.int .i64 xa, .string (bstr xb), .int .i64 xc] 103)).grown hg9 (HLB.out _ (by omega))).far (show w2.heap.size ≠ g by omega) _)
  have HKG9 := hid (hkg9.set_ 5 (.slice A9 (m + 1) c9))
  rw [show (#[c0, c1, c2, c3, c4, .slice AR m cR, c6, c7, c8] : Array Value).setIfInBounds 5 (.slice A9 (m + 1) c9) = #[c0, c1, c2, c3, c4, .slice A9 (m + 1) c9, c6, c7, c8] from rfl] at HKG9
  have HOW9 : Hid ((w9.setCell ⟨g, 5, none⟩ (.slice A9 (m + 1) c9)).ownsRow (g + 1) 103 3 (.slice A9 (m + 1) c9) (m + 1) (xs ++ entC (enX s.data.toList))) := hid (by rw [HX.out]; exact own_set ho9 (Nat.lt_succ_self _))
  have HCH9 : Hid (Ch w (w9.setCell ⟨g, 5, none⟩ (.slice A9 (m + 1) c9)) g (Value.slice AR m cR).ownBlock) := hid ((((Ch.of_grown HBb2.out.grow).below (((Below.refl w8.heap.size w8).drew).alloc (Nat.le_refl _) (.cells #[.int .i64 xa, .string (bstr xb), .int .i64 xc] 103))).grown hg9).set 5 _)
  have HWH9 : Hid ((Value.slice A9 (m + 1) c9).ownBlock = (Value.slice AR m cR).ownBlock ∨ ∃ k, w.heap.size ≤ k ∧ (Value.slice A9 (m + 1) c9).ownBlock = some k) := hid (by
   rcases hwh9 with h | h
   ·exact .inl h
   ·exact .inr ⟨_, by rw [World.size_alloc]; exact Nat.le_succ_of_le hs8, h⟩)
  have HFIN : Hid (∀ W, Below (w9.setCell ⟨g, 5, none⟩ (.slice A9 (m + 1) c9)).heap.size (w9.setCell ⟨g, 5, none⟩ (.slice A9 (m + 1) c9)) W → ∃ vv', Blk W g 55 #[c0, c1, c2, c3, c4, vv', c6, c7, c8] ∧ W.ownsRow (g + 1) 103 3 vv' (m + 1) (xs ++ entC (enX s.data.toList)) ∧ Ch w W g (Value.slice AR m cR).ownBlock ∧ (vv'.ownBlock = (Value.slice AR m cR).ownBlock ∨ ∃ k, w.heap.size ≤ k ∧ vv'.ownBlock = some k)) := hid (fun W hW => ⟨_, HKG9.out.below hW HKG9.out.lt, own_below HOW9.out hW (Nat.le_refl _), HCH9.out.below hW, HWH9.out⟩)
  clear hkg9 hf9 hc9 ho9 hg9 hb9 hwh9 hcg hcg2 hk0 hk1 hk2
  generalize hW9 : w9.setCell ⟨g, 5, none⟩ (.slice A9 (m + 1) c9) = W9 at *
  have hb6 := HRD9.out.c1
  have hr0 := HKR9.out.cell 0
  have hr1 := HKR9.out.cell 1
  have hr2 := HKR9.out.cell 2
  rw [show (#[.int .i64 xa, .string (bstr xb), .int .i64 xc] : Array Value)[0]? = some (.int .i64 xa) from rfl] at hr0
  rw [show (#[.int .i64 xa, .string (bstr xb), .int .i64 xc] : Array Value)[1]? = some (.string (bstr xb)) from rfl] at hr1
  rw [show (#[.int .i64 xa, .string (bstr xb), .int .i64 xc] : Array Value)[2]? = some (.int .i64 xc) from rfl] at hr2
  have HQ := hid (fun W => entryline_any xa xb xc W HIA.out HIB.out HIC.out)
  have hcmp : ((bstr (Ar.entryLine (xa, xb, xc))).toList == s.toList) = (Ar.entryLine (xa, xb, xc) == s.data.toList) := by rw [Lib.toList_data s]; exact str_cmp _ _
  by_cases hbad : (enC s.data.toList).2.2 = true
  ·have HO : Hid (enOk s.data.toList = false) := hid (by rw [HOK.out, hbad]; exact decide_eq_false (fun h => by cases h.1))
   rw [hbad] at hb6
   clear hcmp hbad
   go_wp2_with fail
   go_ret
   exact ⟨ret_bool HO.out.symm, HFIN.out _ (Below.refl _ _)⟩
  ·have hbad' : (enC s.data.toList).2.2 = false := by simpa using hbad
   have HO : Hid (enOk s.data.toList = (Ar.entryLine (xa, xb, xc) == s.data.toList)) := hid (by
    rw [HOK.out, hbad', HX.out]
    by_cases he : Ar.entryLine (xa, xb, xc) = s.data.toList
    ·rw [decide_eq_true ⟨rfl, he⟩, he, beq_self_eq_true]
    ·rw [decide_eq_false (fun h => he h.2)]
     exact (beq_eq_false_iff_ne.2 he).symm)
   rw [hbad'] at hb6
   clear hbad hbad'
   generalize Ar.entryLine (xa, xb, xc) = H at *
   go_wp2_with fail
   refine (HQ.out _).mono ?_
   rintro e wz ⟨rfl, hbz⟩
   have HEX9 := hid (HFIN.out _ hbz)
   clear hbz
   cases hcv : (H == s.data.toList) with
   | true =>
    rw [hcv] at hcmp HO
    generalize bstr H = SH at *
    go_wp2_with fail
    go_ret
    exact ⟨ret_bool HO.out.symm, HEX9.out⟩
   | false =>
    rw [hcv] at hcmp HO
    generalize bstr H = SH at *
    go_wp2_with fail
    go_ret
    exact ⟨ret_bool HO.out.symm, HEX9.out⟩
end Go.Proofs.YteadlcncnhbmjaaGreatDoor
/- The text Rd2. -/
namespace Go.Proofs.YteadlcncnhbmjaaGreatDoor
open Go.RowKit Go.Lib
set_option linter.unusedVariables false
set_option linter.unusedSimpArgs false
theorem inforowRec : (Tryz.prog.info? 105).map (fun i => (i.zero, i.size, i.bytes)) = some (some (.agg #[.string ⟨#[]⟩, .int .i64 0, .int .i64 0, .int .i64 0]), 4, 40) := by kernel_rfl
theorem rowRec : RowT 52 105 4 40 := ⟨Tryz.underlying52, ⟨_, inforowRec, rfl⟩, by decide, by decide⟩
def rcA (s : List UInt8) : List UInt8 × Ar.RS := Ar.rtext (Ar.eat Ar.receiptW (s, false))
def rcB (s : List UInt8) : Int × Ar.RS := Ar.rnum (Ar.eat [32] (rcA s).2)
def rcC (s : List UInt8) : Int × Ar.RS := Ar.rnum (Ar.eat [32] (rcB s).2)
def rcD (s : List UInt8) : Int × Ar.RS := Ar.rnum (Ar.eat [32] (rcC s).2)
def rcX (s : List UInt8) : (List UInt8) × (Int) × (Int) × (Int) := ((rcA s).1, (rcB s).1, (rcC s).1, (rcD s).1)
def rcOk (s : List UInt8) : Bool := decide ((rcD s).2.2 = false ∧ Ar.receiptLine (rcX s) = s)
theorem readreceipt_any (s : ByteArray) (g : Nat) (c0 c1 c2 c3 c4 c5 c6 c8 vv : Value) (m : Nat) (xs : List Value) (w : World) (hs : s.size ≤ 100000) (hRd : Ready w) (hg : Blk w g 55 #[c0, c1, c2, c3, c4, c5, c6, vv, c8]) (hg3 : 3 ≤ g) (ho : w.ownsRow (g + 1) 105 4 vv m xs) (hm : m ≤ 1000000) :
  Calls Tryz.prog 142 #[.string s, .pointer (some ⟨g, 0, none⟩)] w fun e w' => e = .returned (.bool (rcOk s.data.toList)) ∧ ∃ vv', Blk w' g 55 #[c0, c1, c2, c3, c4, c5, c6, vv', c8] ∧ w'.ownsRow (g + 1) 105 4 vv' (m + 1) (xs ++ recC (rcX s.data.toList)) ∧ Ch w w' g vv.ownBlock ∧ (vv'.ownBlock = vv.ownBlock ∨ ∃ k, w.heap.size ≤ k ∧ vv'.ownBlock = some k) := by
 have HRY := hid hRd
 have HOWN := hid ho
 obtain ⟨AR, cR, rfl⟩ := own_any ho
 have HB1 := hid (RB.start (s := s) hg hg3)
 have hle : s.data.toList.length ≤ s.size := HB1.out.len
 have hle0 := Ar.eat_len Ar.receiptW (s.data.toList, false)
 have hlr0 : (rcA s.data.toList).2.1.length ≤ _ := Ar.rtext_len (Ar.eat Ar.receiptW (s.data.toList, false))
 have hle1 := Ar.eat_len [32] (rcA s.data.toList).2
 have hlr1 : (rcB s.data.toList).2.1.length ≤ _ := Ar.rnum_len (Ar.eat [32] (rcA s.data.toList).2)
 have hle2 := Ar.eat_len [32] (rcB s.data.toList).2
 have hlr2 : (rcC s.data.toList).2.1.length ≤ _ := Ar.rnum_len (Ar.eat [32] (rcB s.data.toList).2)
 have hle3 := Ar.eat_len [32] (rcC s.data.toList).2
 have hlr3 : (rcD s.data.toList).2.1.length ≤ _ := Ar.rnum_len (Ar.eat [32] (rcC s.data.toList).2)
 have htl0 : (rcA s.data.toList).1.length ≤ 1000000 := by
  have h : (rcA s.data.toList).1.length ≤ (Ar.eat Ar.receiptW (s.data.toList, false)).1.length := Ar.rtext_b.good _
  simp only at hle0
  omega
 have HIA : Hid ((rcA s.data.toList).1.length ≤ 1000000) := hid htl0
 have HIB : Hid (Ar.inInt (rcB s.data.toList).1) := hid (Ar.rnum_b.good _)
 have HIC : Hid (Ar.inInt (rcC s.data.toList).1) := hid (Ar.rnum_b.good _)
 have HID : Hid (Ar.inInt (rcD s.data.toList).1) := hid (Ar.rnum_b.good _)
 have hoo := ho.lt
 have HLT : Hid (∀ k, (Value.slice AR m cR).ownBlock = some k → g + 1 ≤ k ∧ k < w.heap.size) := hid hoo
 clear hoo ho hg hRd
 go_enter Tryz.func142, Tryz.ntmps142
 go_wp2_with fail
 refine (eat_any w.heap.size _ _ _ HB1.out.rd (by simp only; omega)).mono ?_
 rintro e w2 ⟨rfl, hr2, hg2⟩
 rw [show (⟨#[114, 101, 99, 101, 105, 112, 116, 32]⟩ : ByteArray).data.toList = Ar.receiptW from rfl] at hr2
 have HB2 := hid ((HB1.out.call hr2 hg2 hle0).below ((Below.refl _ _).alloc (Nat.le_refl _) (.cells #[.string ⟨#[]⟩, .int .i64 0, .int .i64 0, .int .i64 0] 105)))
 have hB : w.heap.size < w2.heap.size := hr2.lt
 have HK2 := hid (Blk.new w2 105 #[.string ⟨#[]⟩, .int .i64 0, .int .i64 0, .int .i64 0])
 clear hr2 hg2
 go_wp2_with fail
 refine (text_any w.heap.size _ _ HB2.out.rd (by have := HB2.out.len; omega)).mono ?_
 rintro e wb0 ⟨rfl, hrb0, hgb0⟩
 have HKb0 := hid (HK2.out.grown hgb0 (by intro e; injection e with e; omega))
 have HBb0 := hid ((HB2.out.call hrb0 hgb0 hlr0).out w2.heap.size 0 (.string (bstr (rcA s.data.toList).1)) hB)
 clear hrb0 hgb0
 change Hid (RB w _ g s.size (rcA s.data.toList).2 _) at HBb0
 rw [show (Ar.rtext (Ar.eat Ar.receiptW (s.data.toList, false))).1 = (rcA s.data.toList).1 from rfl]
 have hfb0 := HKb0.out.frozen 0
 have hcb0 := HKb0.out.cell 0
 rw [show (#[.string ⟨#[]⟩, .int .i64 0, .int .i64 0, .int .i64 0] : Array Value)[0]? = some (.string ⟨#[]⟩) from rfl] at hcb0
 have HKc0 := hid (HKb0.out.set_ 0 (.string (bstr (rcA s.data.toList).1)))
 rw [show (#[.string ⟨#[]⟩, .int .i64 0, .int .i64 0, .int .i64 0] : Array Value).setIfInBounds 0 (.string (bstr (rcA s.data.toList).1)) = #[.string (bstr (rcA s.data.toList).1), .int .i64 0, .int .i64 0, .int .i64 0] from rfl] at HKc0
 go_wp2_with fail
 refine (eat_any w.heap.size _ _ _ HBb0.out.rd (by have := HBb0.out.len; omega)).mono ?_
 rintro e wa1 ⟨rfl, hra1, hga1⟩
 rw [show (⟨#[32]⟩ : ByteArray).data.toList = [32] from rfl] at hra1
 have HBa1 := hid (HBb0.out.call hra1 hga1 hle1)
 have HKa1 := hid (HKc0.out.grown hga1 (by intro e; injection e with e; omega))
 clear hra1 hga1
 go_wp2_with fail
 refine (number_any w.heap.size _ _ HBa1.out.rd (by have := HBa1.out.len; omega) (HBa1.out.ready HRY.out)).mono ?_
 rintro e wb1 ⟨rfl, hrb1, hgb1⟩
 have HKb1 := hid (HKa1.out.grown hgb1 (by intro e; injection e with e; omega))
 have HBb1 := hid ((HBa1.out.call hrb1 hgb1 hlr1).out w2.heap.size 1 (.int .i64 (rcB s.data.toList).1) hB)
 clear hrb1 hgb1
 change Hid (RB w _ g s.size (rcB s.data.toList).2 _) at HBb1
 rw [show (Ar.rnum (Ar.eat [32] (rcA s.data.toList).2)).1 = (rcB s.data.toList).1 from rfl]
 have hfb1 := HKb1.out.frozen 1
 have hcb1 := HKb1.out.cell 1
 rw [show (#[.string (bstr (rcA s.data.toList).1), .int .i64 0, .int .i64 0, .int .i64 0] : Array Value)[1]? = some (.int .i64 0) from rfl] at hcb1
 have HKc1 := hid (HKb1.out.set_ 1 (.int .i64 (rcB s.data.toList).1))
 rw [show (#[.string (bstr (rcA s.data.toList).1), .int .i64 0, .int .i64 0, .int .i64 0] : Array Value).setIfInBounds 1 (.int .i64 (rcB s.data.toList).1) = #[.string (bstr (rcA s.data.toList).1), .int .i64 (rcB s.data.toList).1, .int .i64 0, .int .i64 0] from rfl] at HKc1
 go_wp2_with fail
 refine (eat_any w.heap.size _ _ _ HBb1.out.rd (by have := HBb1.out.len; omega)).mono ?_
 rintro e wa2 ⟨rfl, hra2, hga2⟩
 rw [show (⟨#[32]⟩ : ByteArray).data.toList = [32] from rfl] at hra2
 have HBa2 := hid (HBb1.out.call hra2 hga2 hle2)
 have HKa2 := hid (HKc1.out.grown hga2 (by intro e; injection e with e; omega))
 clear hra2 hga2
 go_wp2_with fail
 refine (number_any w.heap.size _ _ HBa2.out.rd (by have := HBa2.out.len; omega) (HBa2.out.ready HRY.out)).mono ?_
 rintro e wb2 ⟨rfl, hrb2, hgb2⟩
 have HKb2 := hid (HKa2.out.grown hgb2 (by intro e; injection e with e; omega))
 have HBb2 := hid ((HBa2.out.call hrb2 hgb2 hlr2).out w2.heap.size 2 (.int .i64 (rcC s.data.toList).1) hB)
 clear hrb2 hgb2
 change Hid (RB w _ g s.size (rcC s.data.toList).2 _) at HBb2
 rw [show (Ar.rnum (Ar.eat [32] (rcB s.data.toList).2)).1 = (rcC s.data.toList).1 from rfl]
 have hfb2 := HKb2.out.frozen 2
 have hcb2 := HKb2.out.cell 2
 rw [show (#[.string (bstr (rcA s.data.toList).1), .int .i64 (rcB s.data.toList).1, .int .i64 0, .int .i64 0] : Array Value)[2]? = some (.int .i64 0) from rfl] at hcb2
 have HKc2 := hid (HKb2.out.set_ 2 (.int .i64 (rcC s.data.toList).1))
 rw [show (#[.string (bstr (rcA s.data.toList).1), .int .i64 (rcB s.data.toList).1, .int .i64 0, .int .i64 0] : Array Value).setIfInBounds 2 (.int .i64 (rcC s.data.toList).1) = #[.string (bstr (rcA s.data.toList).1), .int .i64 (rcB s.data.toList).1, .int .i64 (rcC s.data.toList).1, .int .i64 0] from rfl] at HKc2
 go_wp2_with fail
 refine (eat_any w.heap.size _ _ _ HBb2.out.rd (by have := HBb2.out.len; omega)).mono ?_
 rintro e wa3 ⟨rfl, hra3, hga3⟩
 rw [show (⟨#[32]⟩ : ByteArray).data.toList = [32] from rfl] at hra3
 have HBa3 := hid (HBb2.out.call hra3 hga3 hle3)
 have HKa3 := hid (HKc2.out.grown hga3 (by intro e; injection e with e; omega))
 clear hra3 hga3
 go_wp2_with fail
 refine (number_any w.heap.size _ _ HBa3.out.rd (by have := HBa3.out.len; omega) (HBa3.out.ready HRY.out)).mono ?_
 rintro e wb3 ⟨rfl, hrb3, hgb3⟩
 have HKb3 := hid (HKa3.out.grown hgb3 (by intro e; injection e with e; omega))
 have HBb3 := hid ((HBa3.out.call hrb3 hgb3 hlr3).out w2.heap.size 3 (.int .i64 (rcD s.data.toList).1) hB)
 clear hrb3 hgb3
 change Hid (RB w _ g s.size (rcD s.data.toList).2 _) at HBb3
 rw [show (Ar.rnum (Ar.eat [32] (rcC s.data.toList).2)).1 = (rcD s.data.toList).1 from rfl]
 have hfb3 := HKb3.out.frozen 3
 have hcb3 := HKb3.out.cell 3
 rw [show (#[.string (bstr (rcA s.data.toList).1), .int .i64 (rcB s.data.toList).1, .int .i64 (rcC s.data.toList).1, .int .i64 0] : Array Value)[3]? = some (.int .i64 0) from rfl] at hcb3
 have HKc3 := hid (HKb3.out.set_ 3 (.int .i64 (rcD s.data.toList).1))
 rw [show (#[.string (bstr (rcA s.data.toList).1), .int .i64 (rcB s.data.toList).1, .int .i64 (rcC s.data.toList).1, .int .i64 0] : Array Value).setIfInBounds 3 (.int .i64 (rcD s.data.toList).1) = #[.string (bstr (rcA s.data.toList).1), .int .i64 (rcB s.data.toList).1, .int .i64 (rcC s.data.toList).1, .int .i64 (rcD s.data.toList).1] from rfl] at HKc3
 have HX : Hid (rcX s.data.toList = ((rcA s.data.toList).1, (rcB s.data.toList).1, (rcC s.data.toList).1, (rcD s.data.toList).1)) := hid rfl
 have HOK : Hid (rcOk s.data.toList = decide ((rcD s.data.toList).2.2 = false ∧ Ar.receiptLine (rcX s.data.toList) = s.data.toList)) := hid rfl
 go_wp2_with fail
 generalize hw8 : wb3.setCell ⟨w2.heap.size, 3, none⟩ (.int .i64 (rcD s.data.toList).1) = w8 at *
 clear hfb0 hcb0 hfb1 hcb1 hfb2 hcb2 hfb3 hcb3 hle0 hlr0 hle1 hlr1 hle2 hlr2 hle3 hlr3 htl0 hw8
 generalize (rcA s.data.toList).1 = xa at *
 generalize (rcB s.data.toList).1 = xb at *
 generalize (rcC s.data.toList).1 = xc at *
 generalize (rcD s.data.toList).1 = xd at *
 have hcg := HBb3.out.room.drew.cell 7
 rw [show (#[c0, c1, c2, c3, c4, c5, c6, .slice AR m cR, c8] : Array Value)[7]? = some (.slice AR m cR) from rfl] at hcg
 have hcg2 := (HBb3.out.room.alloc (.cells #[.string (bstr xa), .int .i64 xb, .int .i64 xc, .int .i64 xd] 105)).cell 7
 rw [show (#[c0, c1, c2, c3, c4, c5, c6, .slice AR m cR, c8] : Array Value)[7]? = some (.slice AR m cR) from rfl] at hcg2
 have hk0 := HKc3.out.drew.cell 0
 have hk1 := HKc3.out.drew.cell 1
 have hk2 := HKc3.out.drew.cell 2
 have hk3 := HKc3.out.drew.cell 3
 rw [show (#[.string (bstr xa), .int .i64 xb, .int .i64 xc, .int .i64 xd] : Array Value)[0]? = some (.string (bstr xa)) from rfl] at hk0
 rw [show (#[.string (bstr xa), .int .i64 xb, .int .i64 xc, .int .i64 xd] : Array Value)[1]? = some (.int .i64 xb) from rfl] at hk1
 rw [show (#[.string (bstr xa), .int .i64 xb, .int .i64 xc, .int .i64 xd] : Array Value)[2]? = some (.int .i64 xc) from rfl] at hk2
 rw [show (#[.string (bstr xa), .int .i64 xb, .int .i64 xc, .int .i64 xd] : Array Value)[3]? = some (.int .i64 xd) from rfl] at hk3
 have HOW8 : Hid (w8.ownsRow (g + 1) 105 4 (.slice AR m cR) m xs) := hid (HOWN.out.kept HBb3.out.grow (.inr (by intro e; have := (HLT.out g e).1; omega)))
 have hs8 := HBb3.out.grow.size
 have hgl := HBb3.out.lt
 go_region_law (first
  | (refine step_appG rowRec rfl _ _ rfl (w8.drew.alloc (.cells #[.string (bstr xa), .int .i64 xb, .int .i64 xc, .int .i64 xd] 105)) (.slice AR m cR) m xs [.string (bstr xa), .int .i64 xb, .int .i64 xc, .int .i64 xd] (g + 1) ?_ (HOW8.out.drew.alloc _) w8.heap.size 1 1 ?_ rfl (by simp [Value.oneCell']) (fun j u hu => lit_at w8.drew _ [.string (bstr xa), .int .i64 xb, .int .i64 xc, .int .i64 xd] j u hu) (by rw [World.size_alloc]; show g + 1 ≤ w8.heap.size + 1; omega) (by omega) ?_; kernel_rfl; kernel_rfl; intro v9 w9 ho9 hg9 hb9 hwh9; obtain ⟨A9, c9, rfl⟩ := own_any ho9; have hkg9 := (HBb3.out.room.drew.alloc (.cells #[.string (bstr xa), .int .i64 xb, .int .i64 xc, .int .i64 xd] 105)).grown hg9 (by intro e; have := (HLT.out g e.symm).1; omega); have hf9 := hkg9.frozen 7; have hc9 := hkg9.cell 7; rw [show (#[c0, c1, c2, c3, c4, c5, c6, .slice AR m cR, c8] : Array Value)[7]? = some (.slice AR m cR) from rfl] at hc9))
 all_goals
  have HLB : Hid (∀ k, w.heap.size ≤ k → some k ≠ (Value.slice AR m cR).ownBlock) := hid (fun k hk e => by have := (HLT.out k e.symm).2; omega)
  have HRD9 : Hid (RdS (w9.setCell ⟨g, 7, none⟩ (.slice A9 (m + 1) c9)) w.heap.size (rcD s.data.toList).2) := hid (((HBb3.out.rd.drew.alloc (.cells #[.string (bstr xa), .int .i64 xb, .int .i64 xc, .int .i64 xd] 105)).grown hg9 (HLB.out _ (Nat.le_refl _))).far (show w.heap.size ≠ g by omega) _)
  have HKR9 : Hid (Blk (w9.setCell ⟨g, 7, none⟩ (.slice A9 (m + 1) c9)) w2.heap.size 105 #[.string (bstr xa), .int .i64 xb, .int .i64 xc, .int .i64 xd]) := hid (((HKc3.out.drew.alloc (.cells #[.string (bstr xa), .int .i64 xb, .int .i64 xc, .int .i64 xd] 105)).grown hg9 (HLB.out _ (by omega))).far (show w2.heap.size ≠ g by omega) _)
  have HKG9 := hid (hkg9.set_ 7 (.slice A9 (m + 1) c9))
  rw [show (#[c0, c1, c2, c3, c4, c5, c6, .slice AR m cR, c8] : Array Value).setIfInBounds 7 (.slice A9 (m + 1) c9) = #[c0, c1, c2, c3, c4, c5, c6, .slice A9 (m + 1) c9, c8] from rfl] at HKG9
  have HOW9 : Hid ((w9.setCell ⟨g, 7, none⟩ (.slice A9 (m + 1) c9)).ownsRow (g + 1) 105 4 (.slice A9 (m + 1) c9) (m + 1) (xs ++ recC (rcX s.data.toList))) := hid (by rw [HX.out]; exact own_set ho9 (Nat.lt_succ_self _))
  have HCH9 : Hid (Ch w (w9.setCell ⟨g, 7, none⟩ (.slice A9 (m + 1) c9)) g (Value.slice AR m cR).ownBlock) := hid ((((Ch.of_grown HBb3.out.grow).below (((Below.refl w8.heap.size w8).drew).alloc (Nat.le_refl _) (.cells #[.string (bstr xa), .int .i64 xb, .int .i64 xc, .int .i64 xd] 105))).grown hg9).set 7 _)
  have HWH9 : Hid ((Value.slice A9 (m + 1) c9).ownBlock = (Value.slice AR m cR).ownBlock ∨ ∃ k, w.heap.size ≤ k ∧ (Value.slice A9 (m + 1) c9).ownBlock = some k) := hid (by
   rcases hwh9 with h | h
   ·exact .inl h
   ·exact .inr ⟨_, by rw [World.size_alloc]; exact Nat.le_succ_of_le hs8, h⟩)
  have HFIN : Hid (∀ W, Below (w9.setCell ⟨g, 7, none⟩ (.slice A9 (m + 1) c9)).heap.size (w9.setCell ⟨g, 7, none⟩ (.slice A9 (m + 1) c9)) W → ∃ vv', Blk W g 55 #[c0, c1, c2, c3, c4, c5, c6, vv', c8] ∧ W.ownsRow (g + 1) 105 4 vv' (m + 1) (xs ++ recC (rcX s.data.toList)) ∧ Ch w W g (Value.slice AR m cR).ownBlock ∧ (vv'.ownBlock = (Value.slice AR m cR).ownBlock ∨ ∃ k, w.heap.size ≤ k ∧ vv'.ownBlock = some k)) := hid (fun W hW => ⟨_, HKG9.out.below hW HKG9.out.lt, own_below HOW9.out hW (Nat.le_refl _), HCH9.out.below hW, HWH9.out⟩)
  clear hkg9 hf9 hc9 ho9 hg9 hb9 hwh9 hcg hcg2 hk0 hk1 hk2 hk3
  generalize hW9 : w9.setCell ⟨g, 7, none⟩ (.slice A9 (m + 1) c9) = W9 at *
  have hb6 := HRD9.out.c1
  have hr0 := HKR9.out.cell 0
  have hr1 := HKR9.out.cell 1
  have hr2 := HKR9.out.cell 2
  have hr3 := HKR9.out.cell 3
  rw [show (#[.string (bstr xa), .int .i64 xb, .int .i64 xc, .int .i64 xd] : Array Value)[0]? = some (.string (bstr xa)) from rfl] at hr0
  rw [show (#[.string (bstr xa), .int .i64 xb, .int .i64 xc, .int .i64 xd] : Array Value)[1]? = some (.int .i64 xb) from rfl] at hr1
  rw [show (#[.string (bstr xa), .int .i64 xb, .int .i64 xc, .int .i64 xd] : Array Value)[2]? = some (.int .i64 xc) from rfl] at hr2
  rw [show (#[.string (bstr xa), .int .i64 xb, .int .i64 xc, .int .i64 xd] : Array Value)[3]? = some (.int .i64 xd) from rfl] at hr3
  have HQ := hid (fun W => receiptline_any xa xb xc xd W HIA.out HIB.out HIC.out HID.out)
  have hcmp : ((bstr (Ar.receiptLine (xa, xb, xc, xd))).toList == s.toList) = (Ar.receiptLine (xa, xb, xc, xd) == s.data.toList) := by rw [Lib.toList_data s]; exact str_cmp _ _
  by_cases hbad : (rcD s.data.toList).2.2 = true
  ·have HO : Hid (rcOk s.data.toList = false) := hid (by rw [HOK.out, hbad]; exact decide_eq_false (fun h => by cases h.1))
   rw [hbad] at hb6
   clear hcmp hbad
   go_wp2_with fail
   go_ret
   exact ⟨ret_bool HO.out.symm, HFIN.out _ (Below.refl _ _)⟩
  ·have hbad' : (rcD s.data.toList).2.2 = false := by simpa using hbad
   have HO : Hid (rcOk s.data.toList = (Ar.receiptLine (xa, xb, xc, xd) == s.data.toList)) := hid (by
    rw [HOK.out, hbad', HX.out]
    by_cases he : Ar.receiptLine (xa, xb, xc, xd) = s.data.toList
    ·rw [decide_eq_true ⟨rfl, he⟩, he, beq_self_eq_true]
    ·rw [decide_eq_false (fun h => he h.2)]
     exact (beq_eq_false_iff_ne.2 he).symm)
   rw [hbad'] at hb6
   clear hbad hbad'
   generalize Ar.receiptLine (xa, xb, xc, xd) = H at *
   go_wp2_with fail
   refine (HQ.out _).mono ?_
   rintro e wz ⟨rfl, hbz⟩
   have HEX9 := hid (HFIN.out _ hbz)
   clear hbz
   cases hcv : (H == s.data.toList) with
   | true =>
    rw [hcv] at hcmp HO
    generalize bstr H = SH at *
    go_wp2_with fail
    go_ret
    exact ⟨ret_bool HO.out.symm, HEX9.out⟩
   | false =>
    rw [hcv] at hcmp HO
    generalize bstr H = SH at *
    go_wp2_with fail
    go_ret
    exact ⟨ret_bool HO.out.symm, HEX9.out⟩
end Go.Proofs.YteadlcncnhbmjaaGreatDoor
/- The text Rd3. -/
namespace Go.Proofs.YteadlcncnhbmjaaGreatDoor
open Go.RowKit Go.Lib
set_option linter.unusedVariables false
set_option linter.unusedSimpArgs false
theorem inforowTyp : (Tryz.prog.info? 107).map (fun i => (i.zero, i.size, i.bytes)) = some (some (.agg #[.string ⟨#[]⟩, .int .i64 0]), 2, 24) := by kernel_rfl
theorem rowTyp : RowT 53 107 2 24 := ⟨Tryz.underlying53, ⟨_, inforowTyp, rfl⟩, by decide, by decide⟩
def tyA (s : List UInt8) : List UInt8 × Ar.RS := Ar.rtext (Ar.eat Ar.typingW (s, false))
def tyB (s : List UInt8) : Int × Ar.RS := Ar.rnum (Ar.eat [32] (tyA s).2)
def tyX (s : List UInt8) : (List UInt8) × (Int) := ((tyA s).1, (tyB s).1)
def tyOk (s : List UInt8) : Bool := decide ((tyB s).2.2 = false ∧ Ar.typingLine (tyX s) = s)
theorem readtyping_any (s : ByteArray) (g : Nat) (c0 c1 c2 c3 c4 c5 c6 c7 vv : Value) (m : Nat) (xs : List Value) (w : World) (hs : s.size ≤ 100000) (hRd : Ready w) (hg : Blk w g 55 #[c0, c1, c2, c3, c4, c5, c6, c7, vv]) (hg3 : 3 ≤ g) (ho : w.ownsRow (g + 1) 107 2 vv m xs) (hm : m ≤ 1000000) :
  Calls Tryz.prog 143 #[.string s, .pointer (some ⟨g, 0, none⟩)] w fun e w' => e = .returned (.bool (tyOk s.data.toList)) ∧ ∃ vv', Blk w' g 55 #[c0, c1, c2, c3, c4, c5, c6, c7, vv'] ∧ w'.ownsRow (g + 1) 107 2 vv' (m + 1) (xs ++ typC (tyX s.data.toList)) ∧ Ch w w' g vv.ownBlock ∧ (vv'.ownBlock = vv.ownBlock ∨ ∃ k, w.heap.size ≤ k ∧ vv'.ownBlock = some k) := by
 have HRY := hid hRd
 have HOWN := hid ho
 obtain ⟨AR, cR, rfl⟩ := own_any ho
 have HB1 := hid (RB.start (s := s) hg hg3)
 have hle : s.data.toList.length ≤ s.size := HB1.out.len
 have hle0 := Ar.eat_len Ar.typingW (s.data.toList, false)
 have hlr0 : (tyA s.data.toList).2.1.length ≤ _ := Ar.rtext_len (Ar.eat Ar.typingW (s.data.toList, false))
 have hle1 := Ar.eat_len [32] (tyA s.data.toList).2
 have hlr1 : (tyB s.data.toList).2.1.length ≤ _ := Ar.rnum_len (Ar.eat [32] (tyA s.data.toList).2)
 have htl0 : (tyA s.data.toList).1.length ≤ 1000000 := by
  have h : (tyA s.data.toList).1.length ≤ (Ar.eat Ar.typingW (s.data.toList, false)).1.length := Ar.rtext_b.good _
  simp only at hle0
  omega
 have HIA : Hid ((tyA s.data.toList).1.length ≤ 1000000) := hid htl0
 have HIB : Hid (Ar.inInt (tyB s.data.toList).1) := hid (Ar.rnum_b.good _)
 have hoo := ho.lt
 have HLT : Hid (∀ k, (Value.slice AR m cR).ownBlock = some k → g + 1 ≤ k ∧ k < w.heap.size) := hid hoo
 clear hoo ho hg hRd
 go_enter Tryz.func143, Tryz.ntmps143
 go_wp2_with fail
 refine (eat_any w.heap.size _ _ _ HB1.out.rd (by simp only; omega)).mono ?_
 rintro e w2 ⟨rfl, hr2, hg2⟩
 rw [show (⟨#[116, 121, 112, 105, 110, 103, 32]⟩ : ByteArray).data.toList = Ar.typingW from rfl] at hr2
 have HB2 := hid ((HB1.out.call hr2 hg2 hle0).below ((Below.refl _ _).alloc (Nat.le_refl _) (.cells #[.string ⟨#[]⟩, .int .i64 0] 107)))
 have hB : w.heap.size < w2.heap.size := hr2.lt
 have HK2 := hid (Blk.new w2 107 #[.string ⟨#[]⟩, .int .i64 0])
 clear hr2 hg2
 go_wp2_with fail
 refine (text_any w.heap.size _ _ HB2.out.rd (by have := HB2.out.len; omega)).mono ?_
 rintro e wb0 ⟨rfl, hrb0, hgb0⟩
 have HKb0 := hid (HK2.out.grown hgb0 (by intro e; injection e with e; omega))
 have HBb0 := hid ((HB2.out.call hrb0 hgb0 hlr0).out w2.heap.size 0 (.string (bstr (tyA s.data.toList).1)) hB)
 clear hrb0 hgb0
 change Hid (RB w _ g s.size (tyA s.data.toList).2 _) at HBb0
 rw [show (Ar.rtext (Ar.eat Ar.typingW (s.data.toList, false))).1 = (tyA s.data.toList).1 from rfl]
 have hfb0 := HKb0.out.frozen 0
 have hcb0 := HKb0.out.cell 0
 rw [show (#[.string ⟨#[]⟩, .int .i64 0] : Array Value)[0]? = some (.string ⟨#[]⟩) from rfl] at hcb0
 have HKc0 := hid (HKb0.out.set_ 0 (.string (bstr (tyA s.data.toList).1)))
 rw [show (#[.string ⟨#[]⟩, .int .i64 0] : Array Value).setIfInBounds 0 (.string (bstr (tyA s.data.toList).1)) = #[.string (bstr (tyA s.data.toList).1), .int .i64 0] from rfl] at HKc0
 go_wp2_with fail
 refine (eat_any w.heap.size _ _ _ HBb0.out.rd (by have := HBb0.out.len; omega)).mono ?_
 rintro e wa1 ⟨rfl, hra1, hga1⟩
 rw [show (⟨#[32]⟩ : ByteArray).data.toList = [32] from rfl] at hra1
 have HBa1 := hid (HBb0.out.call hra1 hga1 hle1)
 have HKa1 := hid (HKc0.out.grown hga1 (by intro e; injection e with e; omega))
 clear hra1 hga1
 go_wp2_with fail
 refine (number_any w.heap.size _ _ HBa1.out.rd (by have := HBa1.out.len; omega) (HBa1.out.ready HRY.out)).mono ?_
 rintro e wb1 ⟨rfl, hrb1, hgb1⟩
 have HKb1 := hid (HKa1.out.grown hgb1 (by intro e; injection e with e; omega))
 have HBb1 := hid ((HBa1.out.call hrb1 hgb1 hlr1).out w2.heap.size 1 (.int .i64 (tyB s.data.toList).1) hB)
 clear hrb1 hgb1
 change Hid (RB w _ g s.size (tyB s.data.toList).2 _) at HBb1
 rw [show (Ar.rnum (Ar.eat [32] (tyA s.data.toList).2)).1 = (tyB s.data.toList).1 from rfl]
 have hfb1 := HKb1.out.frozen 1
 have hcb1 := HKb1.out.cell 1
 rw [show (#[.string (bstr (tyA s.data.toList).1), .int .i64 0] : Array Value)[1]? = some (.int .i64 0) from rfl] at hcb1
 have HKc1 := hid (HKb1.out.set_ 1 (.int .i64 (tyB s.data.toList).1))
 rw [show (#[.string (bstr (tyA s.data.toList).1), .int .i64 0] : Array Value).setIfInBounds 1 (.int .i64 (tyB s.data.toList).1) = #[.string (bstr (tyA s.data.toList).1), .int .i64 (tyB s.data.toList).1] from rfl] at HKc1
 have HX : Hid (tyX s.data.toList = ((tyA s.data.toList).1, (tyB s.data.toList).1)) := hid rfl
 have HOK : Hid (tyOk s.data.toList = decide ((tyB s.data.toList).2.2 = false ∧ Ar.typingLine (tyX s.data.toList) = s.data.toList)) := hid rfl
 go_wp2_with fail
 generalize hw8 : wb1.setCell ⟨w2.heap.size, 1, none⟩ (.int .i64 (tyB s.data.toList).1) = w8 at *
 clear hfb0 hcb0 hfb1 hcb1 hle0 hlr0 hle1 hlr1 htl0 hw8
 generalize (tyA s.data.toList).1 = xa at *
 generalize (tyB s.data.toList).1 = xb at *
 have hcg := HBb1.out.room.drew.cell 8
 rw [show (#[c0, c1, c2, c3, c4, c5, c6, c7, .slice AR m cR] : Array Value)[8]? = some (.slice AR m cR) from rfl] at hcg
 have hcg2 := (HBb1.out.room.alloc (.cells #[.string (bstr xa), .int .i64 xb] 107)).cell 8
 rw [show (#[c0, c1, c2, c3, c4, c5, c6, c7, .slice AR m cR] : Array Value)[8]? = some (.slice AR m cR) from rfl] at hcg2
 have hk0 := HKc1.out.drew.cell 0
 have hk1 := HKc1.out.drew.cell 1
 rw [show (#[.string (bstr xa), .int .i64 xb] : Array Value)[0]? = some (.string (bstr xa)) from rfl] at hk0
 rw [show (#[.string (bstr xa), .int .i64 xb] : Array Value)[1]? = some (.int .i64 xb) from rfl] at hk1
 have HOW8 : Hid (w8.ownsRow (g + 1) 107 2 (.slice AR m cR) m xs) := hid (HOWN.out.kept HBb1.out.grow (.inr (by intro e; have := (HLT.out g e).1; omega)))
 have hs8 := HBb1.out.grow.size
 have hgl := HBb1.out.lt
 go_region_law (first
  | (refine step_appG rowTyp rfl _ _ rfl (w8.drew.alloc (.cells #[.string (bstr xa), .int .i64 xb] 107)) (.slice AR m cR) m xs [.string (bstr xa), .int .i64 xb] (g + 1) ?_ (HOW8.out.drew.alloc _) w8.heap.size 1 1 ?_ rfl (by simp [Value.oneCell']) (fun j u hu => lit_at w8.drew _ [.string (bstr xa), .int .i64 xb] j u hu) (by rw [World.size_alloc]; show g + 1 ≤ w8.heap.size + 1; omega) (by omega) ?_; kernel_rfl; kernel_rfl; intro v9 w9 ho9 hg9 hb9 hwh9; obtain ⟨A9, c9, rfl⟩ := own_any ho9; have hkg9 := (HBb1.out.room.drew.alloc (.cells #[.string (bstr xa), .int .i64 xb] 107)).grown hg9 (by intro e; have := (HLT.out g e.symm).1; omega); have hf9 := hkg9.frozen 8; have hc9 := hkg9.cell 8; rw [show (#[c0, c1, c2, c3, c4, c5, c6, c7, .slice AR m cR] : Array Value)[8]? = some (.slice AR m cR) from rfl] at hc9))
 all_goals
  have HLB : Hid (∀ k, w.heap.size ≤ k → some k ≠ (Value.slice AR m cR).ownBlock) := hid (fun k hk e => by have := (HLT.out k e.symm).2; omega)
  have HRD9 : Hid (RdS (w9.setCell ⟨g, 8, none⟩ (.slice A9 (m + 1) c9)) w.heap.size (tyB s.data.toList).2) := hid (((HBb1.out.rd.drew.alloc (.cells #[.string (bstr xa), .int .i64 xb] 107)).grown hg9 (HLB.out _ (Nat.le_refl _))).far (show w.heap.size ≠ g by omega) _)
  have HKR9 : Hid (Blk (w9.setCell ⟨g, 8, none⟩ (.slice A9 (m + 1) c9)) w2.heap.size 107 #[.string (bstr xa), .int .i64 xb]) := hid (((HKc1.out.drew.alloc (.cells #[.string (bstr xa), .int .i64 xb] 107)).grown hg9 (HLB.out _ (by omega))).far (show w2.heap.size ≠ g by omega) _)
  have HKG9 := hid (hkg9.set_ 8 (.slice A9 (m + 1) c9))
  rw [show (#[c0, c1, c2, c3, c4, c5, c6, c7, .slice AR m cR] : Array Value).setIfInBounds 8 (.slice A9 (m + 1) c9) = #[c0, c1, c2, c3, c4, c5, c6, c7, .slice A9 (m + 1) c9] from rfl] at HKG9
  have HOW9 : Hid ((w9.setCell ⟨g, 8, none⟩ (.slice A9 (m + 1) c9)).ownsRow (g + 1) 107 2 (.slice A9 (m + 1) c9) (m + 1) (xs ++ typC (tyX s.data.toList))) := hid (by rw [HX.out]; exact own_set ho9 (Nat.lt_succ_self _))
  have HCH9 : Hid (Ch w (w9.setCell ⟨g, 8, none⟩ (.slice A9 (m + 1) c9)) g (Value.slice AR m cR).ownBlock) := hid ((((Ch.of_grown HBb1.out.grow).below (((Below.refl w8.heap.size w8).drew).alloc (Nat.le_refl _) (.cells #[.string (bstr xa), .int .i64 xb] 107))).grown hg9).set 8 _)
  have HWH9 : Hid ((Value.slice A9 (m + 1) c9).ownBlock = (Value.slice AR m cR).ownBlock ∨ ∃ k, w.heap.size ≤ k ∧ (Value.slice A9 (m + 1) c9).ownBlock = some k) := hid (by
   rcases hwh9 with h | h
   ·exact .inl h
   ·exact .inr ⟨_, by rw [World.size_alloc]; exact Nat.le_succ_of_le hs8, h⟩)
  have HFIN : Hid (∀ W, Below (w9.setCell ⟨g, 8, none⟩ (.slice A9 (m + 1) c9)).heap.size (w9.setCell ⟨g, 8, none⟩ (.slice A9 (m + 1) c9)) W → ∃ vv', Blk W g 55 #[c0, c1, c2, c3, c4, c5, c6, c7, vv'] ∧ W.ownsRow (g + 1) 107 2 vv' (m + 1) (xs ++ typC (tyX s.data.toList)) ∧ Ch w W g (Value.slice AR m cR).ownBlock ∧ (vv'.ownBlock = (Value.slice AR m cR).ownBlock ∨ ∃ k, w.heap.size ≤ k ∧ vv'.ownBlock = some k)) := hid (fun W hW => ⟨_, HKG9.out.below hW HKG9.out.lt, own_below HOW9.out hW (Nat.le_refl _), HCH9.out.below hW, HWH9.out⟩)
  clear hkg9 hf9 hc9 ho9 hg9 hb9 hwh9 hcg hcg2 hk0 hk1
  generalize hW9 : w9.setCell ⟨g, 8, none⟩ (.slice A9 (m + 1) c9) = W9 at *
  have hb6 := HRD9.out.c1
  have hr0 := HKR9.out.cell 0
  have hr1 := HKR9.out.cell 1
  rw [show (#[.string (bstr xa), .int .i64 xb] : Array Value)[0]? = some (.string (bstr xa)) from rfl] at hr0
  rw [show (#[.string (bstr xa), .int .i64 xb] : Array Value)[1]? = some (.int .i64 xb) from rfl] at hr1
  have HQ := hid (fun W => typingline_any xa xb W HIA.out HIB.out)
  have hcmp : ((bstr (Ar.typingLine (xa, xb))).toList == s.toList) = (Ar.typingLine (xa, xb) == s.data.toList) := by rw [Lib.toList_data s]; exact str_cmp _ _
  by_cases hbad : (tyB s.data.toList).2.2 = true
  ·have HO : Hid (tyOk s.data.toList = false) := hid (by rw [HOK.out, hbad]; exact decide_eq_false (fun h => by cases h.1))
   rw [hbad] at hb6
   clear hcmp hbad
   go_wp2_with fail
   go_ret
   exact ⟨ret_bool HO.out.symm, HFIN.out _ (Below.refl _ _)⟩
  ·have hbad' : (tyB s.data.toList).2.2 = false := by simpa using hbad
   have HO : Hid (tyOk s.data.toList = (Ar.typingLine (xa, xb) == s.data.toList)) := hid (by
    rw [HOK.out, hbad', HX.out]
    by_cases he : Ar.typingLine (xa, xb) = s.data.toList
    ·rw [decide_eq_true ⟨rfl, he⟩, he, beq_self_eq_true]
    ·rw [decide_eq_false (fun h => he h.2)]
     exact (beq_eq_false_iff_ne.2 he).symm)
   rw [hbad'] at hb6
   clear hbad hbad'
   generalize Ar.typingLine (xa, xb) = H at *
   go_wp2_with fail
   refine (HQ.out _).mono ?_
   rintro e wz ⟨rfl, hbz⟩
   have HEX9 := hid (HFIN.out _ hbz)
   clear hbz
   cases hcv : (H == s.data.toList) with
   | true =>
    rw [hcv] at hcmp HO
    generalize bstr H = SH at *
    go_wp2_with fail
    go_ret
    exact ⟨ret_bool HO.out.symm, HEX9.out⟩
   | false =>
    rw [hcv] at hcmp HO
    generalize bstr H = SH at *
    go_wp2_with fail
    go_ret
    exact ⟨ret_bool HO.out.symm, HEX9.out⟩
end Go.Proofs.YteadlcncnhbmjaaGreatDoor
/- The text Rd4. -/
namespace Go.Proofs.YteadlcncnhbmjaaGreatDoor
open Go.RowKit Go.Lib
set_option linter.unusedVariables false
set_option linter.unusedSimpArgs false
def hsE (s : List UInt8) : Ar.RS := Ar.eat Ar.headsW (s, false)
def hsX (s : List UInt8) : List Int × Ar.RS := Ar.rlistF Ar.rnum ((hsE s).1.length + 1) (hsE s)
def hsOk (s : List UInt8) : Bool := decide ((hsX s).2.2 = false ∧ Ar.headsLine (hsX s).1 = s)
theorem readheads_any (s : ByteArray) (g : Nat) (c0 c1 c2 c3 vH c5 c6 c7 c8 : Value) (w : World) (hs : s.size ≤ 100000) (hRd : Ready w) (hg : Blk w g 55 #[c0, c1, c2, c3, vH, c5, c6, c7, c8]) (hg3 : 3 ≤ g) (h1 : vH.oneCell' = true) :
  Calls Tryz.prog 140 #[.string s, .pointer (some ⟨g, 0, none⟩)] w fun e w' => e = .returned (.bool (hsOk s.data.toList)) ∧ ∃ vH', Blk w' g 55 #[c0, c1, c2, c3, vH', c5, c6, c7, c8] ∧ SlcOf (fun b => w.heap.size ≤ b) w' vH' (hsX s.data.toList).1.length 1 (intL (hsX s.data.toList).1) ∧ w.grownBy w' (some g) := by
 have HRY := hid hRd
 have HB1 := hid (RB.start (s := s) hg hg3)
 have hle : s.data.toList.length ≤ s.size := HB1.out.len
 have hhd : (hsE s.data.toList).1.length ≤ s.data.toList.length := Ar.eat_len Ar.headsW (s.data.toList, false)
 obtain ⟨hx1, hx2, hx3⟩ := Ar.rlist_b Ar.rnum_b (fun _ _ _ _ h => h) Ar.rnum_len ((hsE s.data.toList).1.length + 1) (hsE s.data.toList)
 change ∀ x ∈ (hsX s.data.toList).1, Ar.inInt x at hx1
 change (hsX s.data.toList).1.length + (hsX s.data.toList).2.1.length ≤ _ at hx2
 change (Ar.join [44] ((hsX s.data.toList).1.map Ar.itoa)).length + (hsX s.data.toList).2.1.length ≤ _ at hx3
 have HX1 := hid hx1
 have HX2 : Hid ((hsX s.data.toList).1.length ≤ 1000000) := hid (by omega)
 have HX3 : Hid ((Ar.join [44] ((hsX s.data.toList).1.map Ar.itoa)).length ≤ 100000000) := hid (by omega)
 have HLX : Hid ((hsX s.data.toList).2.1.length ≤ (hsE s.data.toList).1.length) := hid (Ar.rlistF_len Ar.rnum Ar.rnum_len _ _)
 clear hg hRd hx1 hx2 hx3
 go_enter Tryz.func140, Tryz.ntmps140
 go_wp2_with fail
 refine (eat_any w.heap.size _ _ _ HB1.out.rd (by simp only; omega)).mono ?_
 rintro e w2 ⟨rfl, hr2, hg2⟩
 rw [show (⟨#[104, 101, 97, 100, 115, 32]⟩ : ByteArray).data.toList = Ar.headsW from rfl] at hr2
 have HB2 := hid (HB1.out.call hr2 hg2 hhd)
 change Hid (RB w w2 g s.size (hsE s.data.toList) _) at HB2
 have hlt2 := HB2.out.rd.lt
 clear hr2 hg2
 go_wp2_with fail
 refine (list_int w.heap.size _ _ HB2.out.rd (by omega) (HB2.out.ready HRY.out) (by have := HB2.out.lt; have := HB2.out.g3; omega)).mono ?_
 rintro e w3 ⟨⟨v, rfl, ho3⟩, hr3, hg3'⟩
 change w3.ownsRow w2.heap.size _ 1 v (hsX s.data.toList).1.length (intL (hsX s.data.toList).1) at ho3
 change RdS w3 w.heap.size (hsX s.data.toList).2 at hr3
 have hsl3 := SlcOf.of_own ho3
 obtain ⟨AH, cH, rfl⟩ := own_any ho3
 have HB3 := hid (HB2.out.call hr3 hg3' HLX.out)
 have HSL3 := hid hsl3
 clear hr3 hg3' ho3 hsl3
 have hf3 := HB3.out.room.frozen 4
 have hc3 := HB3.out.room.cell 4
 rw [show (#[c0, c1, c2, c3, vH, c5, c6, c7, c8] : Array Value)[4]? = some vH from rfl] at hc3
 have HB4 := hid (HB3.out.set 4 (.slice AH (hsX s.data.toList).1.length cH))
 rw [show (#[c0, c1, c2, c3, vH, c5, c6, c7, c8] : Array Value).setIfInBounds 4 (.slice AH (hsX s.data.toList).1.length cH) = #[c0, c1, c2, c3, .slice AH (hsX s.data.toList).1.length cH, c5, c6, c7, c8] from rfl] at HB4
 have HSL4 : Hid (SlcOf (fun b => w.heap.size ≤ b) (w3.setCell ⟨g, 4, none⟩ (.slice AH (hsX s.data.toList).1.length cH)) (.slice AH (hsX s.data.toList).1.length cH) (hsX s.data.toList).1.length 1 (intL (hsX s.data.toList).1)) := hid (HSL3.out.keep (by decide) (fun b hb _ => ⟨by omega, heap_setCell_other _ _ _ _ (show b ≠ g by have := HB3.out.lt; omega)⟩))
 generalize hw4 : w3.setCell ⟨g, 4, none⟩ (.slice AH (hsX s.data.toList).1.length cH) = w4 at *
 have hcell := HB4.out.room.cell 4
 rw [show (#[c0, c1, c2, c3, .slice AH (hsX s.data.toList).1.length cH, c5, c6, c7, c8] : Array Value)[4]? = some (.slice AH (hsX s.data.toList).1.length cH) from rfl] at hcell
 have hb4 := HB4.out.rd.c1
 have HRD4 : Hid (Rd w4 AH (hsX s.data.toList).1.length (intL (hsX s.data.toList).1)) := hid (by
  obtain ⟨A', c', e, h, _⟩ := HSL4.out
  injection e with e1 e2 e3
  subst e1
  rw [Nat.mul_one] at h
  exact h)
 have HQ := hid (headsline_any AH cH (hsX s.data.toList).1 w4 HRD4.out HX1.out HX2.out HX3.out)
 have hcmp : ((bstr (Ar.headsLine (hsX s.data.toList).1)).toList == s.toList) = (Ar.headsLine (hsX s.data.toList).1 == s.data.toList) := by rw [Lib.toList_data s]; exact str_cmp _ _
 have HEX : Hid (∀ W, Below w4.heap.size w4 W → ∃ vH', Blk W g 55 #[c0, c1, c2, c3, vH', c5, c6, c7, c8] ∧ SlcOf (fun b => w.heap.size ≤ b) W vH' (hsX s.data.toList).1.length 1 (intL (hsX s.data.toList).1) ∧ w.grownBy W (some g)) := hid (fun W hW => ⟨_, (HB4.out.below hW).room, HSL4.out.keep (by decide) (fun b hb hlt => ⟨hb, hW.block b hlt⟩), (HB4.out.below hW).grow⟩)
 have HOK : Hid (hsOk s.data.toList = decide ((hsX s.data.toList).2.2 = false ∧ Ar.headsLine (hsX s.data.toList).1 = s.data.toList)) := hid rfl
 by_cases hbad : (hsX s.data.toList).2.2 = true
 ·have HO : Hid (hsOk s.data.toList = false) := hid (by rw [HOK.out, hbad]; exact decide_eq_false (fun h => by cases h.1))
  rw [hbad] at hb4
  clear hcmp hbad
  go_wp2_with fail
  go_ret
  exact ⟨ret_bool HO.out.symm, HEX.out _ (Below.refl _ _)⟩
 ·have hbad' : (hsX s.data.toList).2.2 = false := by simpa using hbad
  have HO : Hid (hsOk s.data.toList = (Ar.headsLine (hsX s.data.toList).1 == s.data.toList)) := hid (by
   rw [HOK.out, hbad']
   by_cases he : Ar.headsLine (hsX s.data.toList).1 = s.data.toList
   ·rw [decide_eq_true ⟨rfl, he⟩, he, beq_self_eq_true]
   ·rw [decide_eq_false (fun h => he h.2)]
    exact (beq_eq_false_iff_ne.2 he).symm)
  rw [hbad'] at hb4
  clear hbad hbad'
  generalize Ar.headsLine (hsX s.data.toList).1 = H at *
  go_wp2_with fail
  refine HQ.out.mono ?_
  rintro e wz ⟨rfl, hbz⟩
  have HEX9 := hid (HEX.out _ hbz)
  clear hbz
  cases hcv : (H == s.data.toList) with
  | true =>
   rw [hcv] at hcmp HO
   generalize bstr H = SH at *
   go_wp2_with fail
   go_ret
   exact ⟨ret_bool HO.out.symm, HEX9.out⟩
  | false =>
   rw [hcv] at hcmp HO
   generalize bstr H = SH at *
   go_wp2_with fail
   go_ret
   exact ⟨ret_bool HO.out.symm, HEX9.out⟩
end Go.Proofs.YteadlcncnhbmjaaGreatDoor
