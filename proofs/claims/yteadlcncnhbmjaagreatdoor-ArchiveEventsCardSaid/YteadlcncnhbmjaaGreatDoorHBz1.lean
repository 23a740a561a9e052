/- The law's brief, over an event in the heap's words. Written by genbz.py. -/
import Derived.Test.YteadlcncnhbmjaaGreatDoorMda
import Derived.Test.YteadlcncnhbmjaaGreatDoorHBx2
import Derived.Test.YteadlcncnhbmjaaGreatDoorMaq
set_option linter.unusedSimpArgs false
set_option linter.unusedVariables false
namespace Go.Proofs.YteadlcncnhbmjaaGreatDoor
open Go.RowKit Go.Lib
set_option linter.unusedVariables false
set_option maxRecDepth 100000 in
set_option maxHeartbeats 4000000 in
theorem brief_ev (ok : Nat → Prop) (X : Array Value) (e : List Ar.FV) (w : World) (hx : EvOf ok w X e) : Calls Tryz.prog 18 #[.agg X] w fun r w' => (∃ b, r = .returned (.bool b) ∧ (b = true → (∀ v ∈ e, v.WOk) ∧ (Ar.line e).length ≤ 100000)) ∧ Below w.heap.size w w' := by
  obtain ⟨e0, e1, e2, e3, e4, e5, e6, e7, pv, au, t0, n1, n2, f3, t4, al, dn, us, ks, l1, l2, l3, l4, l5, l6, l7, hs, sv, sm, rfl⟩ := ev29 hx.fits
  obtain ⟨_, gx0, rfl⟩ := hx.cell 0 _ rfl
  obtain ⟨_, gx1, rfl⟩ := hx.cell 1 _ rfl
  obtain ⟨_, gx2, rfl⟩ := hx.cell 2 _ rfl
  obtain ⟨_, gx3, rfl⟩ := hx.cell 3 _ rfl
  obtain ⟨_, gx4, rfl⟩ := hx.cell 4 _ rfl
  obtain ⟨_, gx5, rfl⟩ := hx.cell 5 _ rfl
  obtain ⟨_, gx6, rfl⟩ := hx.cell 6 _ rfl
  obtain ⟨_, gx7, rfl⟩ := hx.cell 7 _ rfl
  obtain ⟨_, gx8, Axpv, cxpv, rfl, hxpv, -⟩ := hx.cell 8 _ rfl
  obtain ⟨_, gx9, Axau, cxau, rfl, hxau, -⟩ := hx.cell 9 _ rfl
  obtain ⟨_, gx10, rfl⟩ := hx.cell 10 _ rfl
  obtain ⟨_, gx11, rfl⟩ := hx.cell 11 _ rfl
  obtain ⟨_, gx12, rfl⟩ := hx.cell 12 _ rfl
  obtain ⟨_, gx13, rfl⟩ := hx.cell 13 _ rfl
  obtain ⟨_, gx14, rfl⟩ := hx.cell 14 _ rfl
  obtain ⟨_, gx15, Axal, cxal, rfl, hxal, -⟩ := hx.cell 15 _ rfl
  obtain ⟨_, gx16, Axdn, cxdn, rfl, hxdn, -⟩ := hx.cell 16 _ rfl
  obtain ⟨_, gx17, Axus, cxus, rfl, hxus, -⟩ := hx.cell 17 _ rfl
  obtain ⟨_, gx18, Axks, cxks, rfl, hxks, -⟩ := hx.cell 18 _ rfl
  obtain ⟨_, gx19, rfl⟩ := hx.cell 19 _ rfl
  obtain ⟨_, gx20, rfl⟩ := hx.cell 20 _ rfl
  obtain ⟨_, gx21, rfl⟩ := hx.cell 21 _ rfl
  obtain ⟨_, gx22, rfl⟩ := hx.cell 22 _ rfl
  obtain ⟨_, gx23, rfl⟩ := hx.cell 23 _ rfl
  obtain ⟨_, gx24, rfl⟩ := hx.cell 24 _ rfl
  obtain ⟨_, gx25, rfl⟩ := hx.cell 25 _ rfl
  obtain ⟨_, gx26, rfl⟩ := hx.cell 26 _ rfl
  obtain ⟨_, gx27, rfl⟩ := hx.cell 27 _ rfl
  obtain ⟨_, gx28, rfl⟩ := hx.cell 28 _ rfl
  have EX : X = #[.int .i64 e0, .string (bstr e1), .string (bstr e2), .int .i64 e3, .bool e4, .string (bstr e5), .int .i64 e6, .int .i64 e7, .slice Axpv pv.length cxpv, .slice Axau au.length cxau, .string (bstr t0), .int .i64 n1, .int .i64 n2, .bool f3, .string (bstr t4), .slice Axal al.length cxal, .slice Axdn dn.length cxdn, .slice Axus us.length cxus, .slice Axks ks.length cxks, .int .i64 l1, .int .i64 l2, .int .i64 l3, .int .i64 l4, .int .i64 l5, .int .i64 l6, .int .i64 l7, .int .i64 hs, .string (bstr sv), .int .i64 sm] := by
    apply Array.ext_getElem?
    intro i
    by_cases hi : i < 29
    · match i, hi with
      | 0, _ => exact gx0
      | 1, _ => exact gx1
      | 2, _ => exact gx2
      | 3, _ => exact gx3
      | 4, _ => exact gx4
      | 5, _ => exact gx5
      | 6, _ => exact gx6
      | 7, _ => exact gx7
      | 8, _ => exact gx8
      | 9, _ => exact gx9
      | 10, _ => exact gx10
      | 11, _ => exact gx11
      | 12, _ => exact gx12
      | 13, _ => exact gx13
      | 14, _ => exact gx14
      | 15, _ => exact gx15
      | 16, _ => exact gx16
      | 17, _ => exact gx17
      | 18, _ => exact gx18
      | 19, _ => exact gx19
      | 20, _ => exact gx20
      | 21, _ => exact gx21
      | 22, _ => exact gx22
      | 23, _ => exact gx23
      | 24, _ => exact gx24
      | 25, _ => exact gx25
      | 26, _ => exact gx26
      | 27, _ => exact gx27
      | 28, _ => exact gx28
      | n + 29, hi => exact absurd hi (by omega)
    · rw [Array.getElem?_eq_none (by have := hx.size; omega), Array.getElem?_eq_none (by simp; omega)]
  have k0 := (hx.fits.2 0 _ (.num e0) rfl rfl).2
  have k1 := (hx.fits.2 1 _ (.txt e1) rfl rfl).2
  have k2 := (hx.fits.2 2 _ (.txt e2) rfl rfl).2
  have k3 := (hx.fits.2 3 _ (.num e3) rfl rfl).2
  have k4 := (hx.fits.2 4 _ (.flg e4) rfl rfl).2
  have k5 := (hx.fits.2 5 _ (.txt e5) rfl rfl).2
  have k6 := (hx.fits.2 6 _ (.num e6) rfl rfl).2
  have k7 := (hx.fits.2 7 _ (.num e7) rfl rfl).2
  have k8 := (hx.fits.2 8 _ (.nums pv) rfl rfl).2
  have k9 := (hx.fits.2 9 _ (.nums au) rfl rfl).2
  have k10 := (hx.fits.2 10 _ (.txt t0) rfl rfl).2
  have k11 := (hx.fits.2 11 _ (.num n1) rfl rfl).2
  have k12 := (hx.fits.2 12 _ (.num n2) rfl rfl).2
  have k13 := (hx.fits.2 13 _ (.flg f3) rfl rfl).2
  have k14 := (hx.fits.2 14 _ (.txt t4) rfl rfl).2
  have k15 := (hx.fits.2 15 _ (.txts al) rfl rfl).2
  have k16 := (hx.fits.2 16 _ (.txts dn) rfl rfl).2
  have k17 := (hx.fits.2 17 _ (.usrs us) rfl rfl).2
  have k18 := (hx.fits.2 18 _ (.knds ks) rfl rfl).2
  have k19 := (hx.fits.2 19 _ (.num l1) rfl rfl).2
  have k20 := (hx.fits.2 20 _ (.num l2) rfl rfl).2
  have k21 := (hx.fits.2 21 _ (.num l3) rfl rfl).2
  have k22 := (hx.fits.2 22 _ (.num l4) rfl rfl).2
  have k23 := (hx.fits.2 23 _ (.num l5) rfl rfl).2
  have k24 := (hx.fits.2 24 _ (.num l6) rfl rfl).2
  have k25 := (hx.fits.2 25 _ (.num l7) rfl rfl).2
  have k26 := (hx.fits.2 26 _ (.num hs) rfl rfl).2
  have k27 := (hx.fits.2 27 _ (.txt sv) rfl rfl).2
  have k28 := (hx.fits.2 28 _ (.num sm) rfl rfl).2
  subst EX
  have hv : EvX w #[.int .i64 e0, .string (bstr e1), .string (bstr e2), .int .i64 e3, .bool e4, .string (bstr e5), .int .i64 e6, .int .i64 e7, .slice Axpv pv.length cxpv, .slice Axau au.length cxau, .string (bstr t0), .int .i64 n1, .int .i64 n2, .bool f3, .string (bstr t4), .slice Axal al.length cxal, .slice Axdn dn.length cxdn, .slice Axus us.length cxus, .slice Axks ks.length cxks, .int .i64 l1, .int .i64 l2, .int .i64 l3, .int .i64 l4, .int .i64 l5, .int .i64 l6, .int .i64 l7, .int .i64 hs, .string (bstr sv), .int .i64 sm] [.string (bstr t0), .int .i64 n1, .int .i64 n2, .bool f3, .string (bstr t4), .slice Axal al.length cxal, .slice Axdn dn.length cxdn, .slice Axus us.length cxus, .slice Axks ks.length cxks, .int .i64 l1, .int .i64 l2, .int .i64 l3, .int .i64 l4, .int .i64 l5, .int .i64 l6, .int .i64 l7] (bstr e1) (bstr e2) (bstr e5) (bstr sv) (bstr t0) (bstr t4) Axpv Axau Axal Axdn Axus Axks pv au al dn us ks cxpv cxau cxal cxdn cxus cxks :=
    ⟨rfl, rfl, by simp [Value.oneCell'], fun j v hj => (by
      rcases j with _ | _ | _ | _ | _ | _ | _ | _ | _ | _ | _ | _ | _ | _ | _ | _ | j
      all_goals first | exact hj | (simp at hj)), rfl, rfl, rfl, rfl, rfl, rfl, rfl, rfl, rfl, rfl, rfl, rfl, (by have h := hxal; rw [Nat.mul_one] at h; exact h), (by have h := hxdn; rw [Nat.mul_one] at h; exact h), hxus⟩
  refine (brief_any _ _ _ _ _ _ _ _ _ _ _ _ _ _ _ _ _ _ _ _ _ _ _ _ _ _ w hv).mono ?_
  rintro r w' ⟨⟨b, rfl, hb⟩, hbel⟩
  refine ⟨⟨b, rfl, fun h => ?_⟩, hbel⟩
  obtain ⟨a1, a2, a5, a27, a10, a14, a8, a9, a15, a16, a17, a18, b15, b16, b17⟩ := hb h
  rw [bstr_size] at a1 a2 a5 a27 a10 a14
  exact brief_plain e0 e1 e2 e3 e4 e5 e6 e7 pv au t0 n1 n2 f3 t4 al dn us ks l1 l2 l3 l4 l5 l6 l7 hs sv sm k0 k3 k6 k7 k8 k9 k11 k12 k17 k18 k19 k20 k21 k22 k23 k24 k25 k26 k28 a1 a2 a5 a27 a10 a14 a8 a9 a15 a16 a17 a18 b15 b16 b17
end Go.Proofs.YteadlcncnhbmjaaGreatDoor
