/- The text Bw1. -/
import Derived.Test.YteadlcncnhbmjaaGreatDoorHBv2
import Derived.Test.YteadlcncnhbmjaaGreatDoorHBv3
import Derived.Test.YteadlcncnhbmjaaGreatDoorMaq
set_option linter.unusedSimpArgs false
set_option maxHeartbeats 16000000
set_option maxRecDepth 100000
set_option linter.unusedVariables false
namespace Go.Proofs.YteadlcncnhbmjaaGreatDoor
open Go.RowKit Go.Lib
set_option linter.unusedVariables false
theorem value_any (ok : Nat → Prop) (X : Array Value) (e : List Ar.FV) (w : World) (i : Nat) (v : Ar.FV) (hx : EvOf ok w X e) (hw : ∀ v ∈ e, v.WOk) (hi : e[i]? = some v) : Calls Tryz.prog 52 #[.agg X, .int .i64 (i : Int)] w fun r w' => r = .returned (.string (bstr (Ar.xval v))) ∧ Below w.heap.size w w' := by
 obtain ⟨e0, e1, e2, e3, e4, e5, e6, e7, pv, au, t0, n1, n2, f3, t4, al, dn, us, ks, l1, l2, l3, l4, l5, l6, l7, hs, sv, sm, rfl⟩ := ev29 hx.fits
 obtain ⟨_, gx0, rfl⟩ := hx.cell 0 _ rfl
 obtain ⟨_, gx1, rfl⟩ := hx.cell 1 _ rfl
 obtain ⟨_, gx2, rfl⟩ := hx.cell 2 _ rfl
 obtain ⟨_, gx3, rfl⟩ := hx.cell 3 _ rfl
 obtain ⟨_, gx4, rfl⟩ := hx.cell 4 _ rfl
 obtain ⟨_, gx5, rfl⟩ := hx.cell 5 _ rfl
 obtain ⟨_, gx6, rfl⟩ := hx.cell 6 _ rfl
 obtain ⟨_, gx7, rfl⟩ := hx.cell 7 _ rfl
 obtain ⟨_, gx8, Axpv, cxpv, rfl, hxpv, -⟩ := hx.cell 8 _ rfl
 obtain ⟨_, gx9, Axau, cxau, rfl, hxau, -⟩ := hx.cell 9 _ rfl
 obtain ⟨_, gx10, rfl⟩ := hx.cell 10 _ rfl
 obtain ⟨_, gx11, rfl⟩ := hx.cell 11 _ rfl
 obtain ⟨_, gx12, rfl⟩ := hx.cell 12 _ rfl
 obtain ⟨_, gx13, rfl⟩ := hx.cell 13 _ rfl
 obtain ⟨_, gx14, rfl⟩ := hx.cell 14 _ rfl
 obtain ⟨_, gx15, Axal, cxal, rfl, hxal, -⟩ := hx.cell 15 _ rfl
 obtain ⟨_, gx16, Axdn, cxdn, rfl, hxdn, -⟩ := hx.cell 16 _ rfl
 obtain ⟨_, gx17, Axus, cxus, rfl, hxus, -⟩ := hx.cell 17 _ rfl
 obtain ⟨_, gx18, Axks, cxks, rfl, hxks, -⟩ := hx.cell 18 _ rfl
 obtain ⟨_, gx19, rfl⟩ := hx.cell 19 _ rfl
 obtain ⟨_, gx20, rfl⟩ := hx.cell 20 _ rfl
 obtain ⟨_, gx21, rfl⟩ := hx.cell 21 _ rfl
 obtain ⟨_, gx22, rfl⟩ := hx.cell 22 _ rfl
 obtain ⟨_, gx23, rfl⟩ := hx.cell 23 _ rfl
 obtain ⟨_, gx24, rfl⟩ := hx.cell 24 _ rfl
 obtain ⟨_, gx25, rfl⟩ := hx.cell 25 _ rfl
 obtain ⟨_, gx26, rfl⟩ := hx.cell 26 _ rfl
 obtain ⟨_, gx27, rfl⟩ := hx.cell 27 _ rfl
 obtain ⟨_, gx28, rfl⟩ := hx.cell 28 _ rfl
 have EX : X = #[.int .i64 e0, .string (bstr e1), .string (bstr e2), .int .i64 e3, .bool e4, .string (bstr e5), .int .i64 e6, .int .i64 e7, .slice Axpv pv.length cxpv, .slice Axau au.length cxau, .string (bstr t0), .int .i64 n1, .int .i64 n2, .bool f3, .string (bstr t4), .slice Axal al.length cxal, .slice Axdn dn.length cxdn, .slice Axus us.length cxus, .slice Axks ks.length cxks, .int .i64 l1, .int .i64 l2, .int .i64 l3, .int .i64 l4, .int .i64 l5, .int .i64 l6, .int .i64 l7, .int .i64 hs, .string (bstr sv), .int .i64 sm] := by
  apply Array.ext_getElem?
  intro i
  by_cases hi : i < 29
  ·match i, hi with
   | 0, _ => exact gx0
   | 1, _ => exact gx1
   | 2, _ => exact gx2
   | 3, _ => exact gx3
   | 4, _ => exact gx4
   | 5, _ => exact gx5
   | 6, _ => exact gx6
   | 7, _ => exact gx7
   | 8, _ => exact gx8
   | 9, _ => exact gx9
   | 10, _ => exact gx10
   | 11, _ => exact gx11
   | 12, _ => exact gx12
   | 13, _ => exact gx13
   | 14, _ => exact gx14
   | 15, _ => exact gx15
   | 16, _ => exact gx16
   | 17, _ => exact gx17
   | 18, _ => exact gx18
   | 19, _ => exact gx19
   | 20, _ => exact gx20
   | 21, _ => exact gx21
   | 22, _ => exact gx22
   | 23, _ => exact gx23
   | 24, _ => exact gx24
   | 25, _ => exact gx25
   | 26, _ => exact gx26
   | 27, _ => exact gx27
   | 28, _ => exact gx28
   | n + 29, hi => exact absurd hi (by omega)
  ·rw [Array.getElem?_eq_none (by have := hx.size; omega), Array.getElem?_eq_none (by simp; omega)]
 have k0 := hw (.num e0) (List.mem_of_getElem? (i := 0) rfl)
 have k1 := hw (.txt e1) (List.mem_of_getElem? (i := 1) rfl)
 have k2 := hw (.txt e2) (List.mem_of_getElem? (i := 2) rfl)
 have k3 := hw (.num e3) (List.mem_of_getElem? (i := 3) rfl)
 have k4 := hw (.flg e4) (List.mem_of_getElem? (i := 4) rfl)
 have k5 := hw (.txt e5) (List.mem_of_getElem? (i := 5) rfl)
 have k6 := hw (.num e6) (List.mem_of_getElem? (i := 6) rfl)
 have k7 := hw (.num e7) (List.mem_of_getElem? (i := 7) rfl)
 have k8 := hw (.nums pv) (List.mem_of_getElem? (i := 8) rfl)
 have k9 := hw (.nums au) (List.mem_of_getElem? (i := 9) rfl)
 have k10 := hw (.txt t0) (List.mem_of_getElem? (i := 10) rfl)
 have k11 := hw (.num n1) (List.mem_of_getElem? (i := 11) rfl)
 have k12 := hw (.num n2) (List.mem_of_getElem? (i := 12) rfl)
 have k13 := hw (.flg f3) (List.mem_of_getElem? (i := 13) rfl)
 have k14 := hw (.txt t4) (List.mem_of_getElem? (i := 14) rfl)
 have k15 := hw (.txts al) (List.mem_of_getElem? (i := 15) rfl)
 have k16 := hw (.txts dn) (List.mem_of_getElem? (i := 16) rfl)
 have k17 := hw (.usrs us) (List.mem_of_getElem? (i := 17) rfl)
 have k18 := hw (.knds ks) (List.mem_of_getElem? (i := 18) rfl)
 have k19 := hw (.num l1) (List.mem_of_getElem? (i := 19) rfl)
 have k20 := hw (.num l2) (List.mem_of_getElem? (i := 20) rfl)
 have k21 := hw (.num l3) (List.mem_of_getElem? (i := 21) rfl)
 have k22 := hw (.num l4) (List.mem_of_getElem? (i := 22) rfl)
 have k23 := hw (.num l5) (List.mem_of_getElem? (i := 23) rfl)
 have k24 := hw (.num l6) (List.mem_of_getElem? (i := 24) rfl)
 have k25 := hw (.num l7) (List.mem_of_getElem? (i := 25) rfl)
 have k26 := hw (.num hs) (List.mem_of_getElem? (i := 26) rfl)
 have k27 := hw (.txt sv) (List.mem_of_getElem? (i := 27) rfl)
 have k28 := hw (.num sm) (List.mem_of_getElem? (i := 28) rfl)
 subst EX
 have VO := value_oth w e0 (bstr e1) e1 (hid ⟨rfl, k1.2.2⟩) (bstr e2) e2 (hid ⟨rfl, k2.2.2⟩) e3 e4 (bstr e5) e5 (hid ⟨rfl, k5.2.2⟩) e6 e7 Axpv pv cxpv (hid ⟨by have h := hxpv; rw [Nat.mul_one] at h; exact h, k8.1, k8.2.2, k8.2.1⟩) Axau au cxau (hid ⟨by have h := hxau; rw [Nat.mul_one] at h; exact h, k9.1, k9.2.2, k9.2.1⟩) (bstr t0) t0 (hid ⟨rfl, k10.2.2⟩) n1 n2 f3 (bstr t4) t4 (hid ⟨rfl, k14.2.2⟩) Axal al cxal (hid ⟨by have h := hxal; rw [Nat.mul_one] at h; exact h, k15.2.2.2, k15.2.2.1, k15.2.1⟩) Axdn dn cxdn (hid ⟨by have h := hxdn; rw [Nat.mul_one] at h; exact h, k16.2.2.2, k16.2.2.1, k16.2.1⟩) Axus us cxus (hid ⟨hxus, fun x h => ⟨k17.2.2.2 x h, k17.1 x h⟩, k17.2.2.1, k17.2.1⟩) Axks ks cxks (hid ⟨hxks, fun x h => k18.1 x h, k18.2.2, k18.2.1⟩) l1 l2 l3 l4 l5 l6 l7 hs (bstr sv) sv (hid ⟨rfl, k27.2.2⟩) sm
 have VN := value_num e0 (bstr e1) (bstr e2) e3 e4 (bstr e5) e6 e7 Axpv pv.length cxpv Axau au.length cxau (bstr t0) n1 n2 f3 (bstr t4) Axal al.length cxal Axdn dn.length cxdn Axus us.length cxus Axks ks.length cxks l1 l2 l3 l4 l5 l6 l7 hs (bstr sv) sm w
 have hlt : i < 29 := (List.getElem?_eq_some_iff.1 hi).1
 match i, hlt, hi with
 | 0, _, hi =>
  injection hi with hi
  subst hi
  refine (VN 0 0 (Or.inl ⟨rfl, rfl⟩) (fun n hn => by injection hn with hn; injection hn with _ hn; rw [← hn]; exact k0.1)).mono ?_
  rintro r w' ⟨⟨n, hn, rfl⟩, hb⟩
  injection hn with hn
  injection hn with _ hn
  rw [hn]
  exact ⟨rfl, hb⟩
 | 1, _, hi => injection hi with hi; subst hi; exact VO 1 _ (Or.inl ⟨rfl, rfl⟩)
 | 2, _, hi => injection hi with hi; subst hi; exact VO 2 _ (Or.inr (Or.inl ⟨rfl, rfl⟩))
 | 3, _, hi =>
  injection hi with hi
  subst hi
  refine (VN 3 3 (Or.inr (Or.inl ⟨rfl, rfl⟩)) (fun n hn => by injection hn with hn; injection hn with _ hn; rw [← hn]; exact k3.1)).mono ?_
  rintro r w' ⟨⟨n, hn, rfl⟩, hb⟩
  injection hn with hn
  injection hn with _ hn
  rw [hn]
  exact ⟨rfl, hb⟩
 | 4, _, hi => injection hi with hi; subst hi; exact VO 4 _ (Or.inr (Or.inr (Or.inl ⟨rfl, rfl⟩)))
 | 5, _, hi => injection hi with hi; subst hi; exact VO 5 _ (Or.inr (Or.inr (Or.inr (Or.inl ⟨rfl, rfl⟩))))
 | 6, _, hi =>
  injection hi with hi
  subst hi
  refine (VN 6 6 (Or.inr (Or.inr (Or.inl ⟨rfl, rfl⟩))) (fun n hn => by injection hn with hn; injection hn with _ hn; rw [← hn]; exact k6.1)).mono ?_
  rintro r w' ⟨⟨n, hn, rfl⟩, hb⟩
  injection hn with hn
  injection hn with _ hn
  rw [hn]
  exact ⟨rfl, hb⟩
 | 7, _, hi =>
  injection hi with hi
  subst hi
  refine (VN 7 7 (Or.inr (Or.inr (Or.inr (Or.inl ⟨rfl, rfl⟩)))) (fun n hn => by injection hn with hn; injection hn with _ hn; rw [← hn]; exact k7.1)).mono ?_
  rintro r w' ⟨⟨n, hn, rfl⟩, hb⟩
  injection hn with hn
  injection hn with _ hn
  rw [hn]
  exact ⟨rfl, hb⟩
 | 8, _, hi => injection hi with hi; subst hi; exact VO 8 _ (Or.inr (Or.inr (Or.inr (Or.inr (Or.inl ⟨rfl, rfl⟩)))))
 | 9, _, hi => injection hi with hi; subst hi; exact VO 9 _ (Or.inr (Or.inr (Or.inr (Or.inr (Or.inr (Or.inl ⟨rfl, rfl⟩))))))
 | 10, _, hi => injection hi with hi; subst hi; exact VO 10 _ (Or.inr (Or.inr (Or.inr (Or.inr (Or.inr (Or.inr (Or.inl ⟨rfl, rfl⟩)))))))
 | 11, _, hi =>
  injection hi with hi
  subst hi
  refine (VN 11 11 (Or.inr (Or.inr (Or.inr (Or.inr (Or.inl ⟨rfl, rfl⟩))))) (fun n hn => by injection hn with hn; injection hn with _ hn; rw [← hn]; exact k11.1)).mono ?_
  rintro r w' ⟨⟨n, hn, rfl⟩, hb⟩
  injection hn with hn
  injection hn with _ hn
  rw [hn]
  exact ⟨rfl, hb⟩
 | 12, _, hi =>
  injection hi with hi
  subst hi
  refine (VN 12 12 (Or.inr (Or.inr (Or.inr (Or.inr (Or.inr (Or.inl ⟨rfl, rfl⟩)))))) (fun n hn => by injection hn with hn; injection hn with _ hn; rw [← hn]; exact k12.1)).mono ?_
  rintro r w' ⟨⟨n, hn, rfl⟩, hb⟩
  injection hn with hn
  injection hn with _ hn
  rw [hn]
  exact ⟨rfl, hb⟩
 | 13, _, hi => injection hi with hi; subst hi; exact VO 13 _ (Or.inr (Or.inr (Or.inr (Or.inr (Or.inr (Or.inr (Or.inr (Or.inl ⟨rfl, rfl⟩))))))))
 | 14, _, hi => injection hi with hi; subst hi; exact VO 14 _ (Or.inr (Or.inr (Or.inr (Or.inr (Or.inr (Or.inr (Or.inr (Or.inr (Or.inl ⟨rfl, rfl⟩)))))))))
 | 15, _, hi => injection hi with hi; subst hi; exact VO 15 _ (Or.inr (Or.inr (Or.inr (Or.inr (Or.inr (Or.inr (Or.inr (Or.inr (Or.inr (Or.inl ⟨rfl, rfl⟩))))))))))
 | 16, _, hi => injection hi with hi; subst hi; exact VO 16 _ (Or.inr (Or.inr (Or.inr (Or.inr (Or.inr (Or.inr (Or.inr (Or.inr (Or.inr (Or.inr (Or.inl ⟨rfl, rfl⟩)))))))))))
 | 17, _, hi => injection hi with hi; subst hi; exact VO 17 _ (Or.inr (Or.inr (Or.inr (Or.inr (Or.inr (Or.inr (Or.inr (Or.inr (Or.inr (Or.inr (Or.inr (Or.inl ⟨rfl, rfl⟩))))))))))))
 | 18, _, hi => injection hi with hi; subst hi; exact VO 18 _ (Or.inr (Or.inr (Or.inr (Or.inr (Or.inr (Or.inr (Or.inr (Or.inr (Or.inr (Or.inr (Or.inr (Or.inr (Or.inl ⟨rfl, rfl⟩)))))))))))))
 | 19, _, hi =>
  injection hi with hi
  subst hi
  refine (VN 19 19 (Or.inr (Or.inr (Or.inr (Or.inr (Or.inr (Or.inr (Or.inl ⟨rfl, rfl⟩))))))) (fun n hn => by injection hn with hn; injection hn with _ hn; rw [← hn]; exact k19.1)).mono ?_
  rintro r w' ⟨⟨n, hn, rfl⟩, hb⟩
  injection hn with hn
  injection hn with _ hn
  rw [hn]
  exact ⟨rfl, hb⟩
 | 20, _, hi =>
  injection hi with hi
  subst hi
  refine (VN 20 20 (Or.inr (Or.inr (Or.inr (Or.inr (Or.inr (Or.inr (Or.inr (Or.inl ⟨rfl, rfl⟩)))))))) (fun n hn => by injection hn with hn; injection hn with _ hn; rw [← hn]; exact k20.1)).mono ?_
  rintro r w' ⟨⟨n, hn, rfl⟩, hb⟩
  injection hn with hn
  injection hn with _ hn
  rw [hn]
  exact ⟨rfl, hb⟩
 | 21, _, hi =>
  injection hi with hi
  subst hi
  refine (VN 21 21 (Or.inr (Or.inr (Or.inr (Or.inr (Or.inr (Or.inr (Or.inr (Or.inr (Or.inl ⟨rfl, rfl⟩))))))))) (fun n hn => by injection hn with hn; injection hn with _ hn; rw [← hn]; exact k21.1)).mono ?_
  rintro r w' ⟨⟨n, hn, rfl⟩, hb⟩
  injection hn with hn
  injection hn with _ hn
  rw [hn]
  exact ⟨rfl, hb⟩
 | 22, _, hi =>
  injection hi with hi
  subst hi
  refine (VN 22 22 (Or.inr (Or.inr (Or.inr (Or.inr (Or.inr (Or.inr (Or.inr (Or.inr (Or.inr (Or.inl ⟨rfl, rfl⟩)))))))))) (fun n hn => by injection hn with hn; injection hn with _ hn; rw [← hn]; exact k22.1)).mono ?_
  rintro r w' ⟨⟨n, hn, rfl⟩, hb⟩
  injection hn with hn
  injection hn with _ hn
  rw [hn]
  exact ⟨rfl, hb⟩
 | 23, _, hi =>
  injection hi with hi
  subst hi
  refine (VN 23 23 (Or.inr (Or.inr (Or.inr (Or.inr (Or.inr (Or.inr (Or.inr (Or.inr (Or.inr (Or.inr (Or.inl ⟨rfl, rfl⟩))))))))))) (fun n hn => by injection hn with hn; injection hn with _ hn; rw [← hn]; exact k23.1)).mono ?_
  rintro r w' ⟨⟨n, hn, rfl⟩, hb⟩
  injection hn with hn
  injection hn with _ hn
  rw [hn]
  exact ⟨rfl, hb⟩
 | 24, _, hi =>
  injection hi with hi
  subst hi
  refine (VN 24 24 (Or.inr (Or.inr (Or.inr (Or.inr (Or.inr (Or.inr (Or.inr (Or.inr (Or.inr (Or.inr (Or.inr (Or.inl ⟨rfl, rfl⟩)))))))))))) (fun n hn => by injection hn with hn; injection hn with _ hn; rw [← hn]; exact k24.1)).mono ?_
  rintro r w' ⟨⟨n, hn, rfl⟩, hb⟩
  injection hn with hn
  injection hn with _ hn
  rw [hn]
  exact ⟨rfl, hb⟩
 | 25, _, hi =>
  injection hi with hi
  subst hi
  refine (VN 25 25 (Or.inr (Or.inr (Or.inr (Or.inr (Or.inr (Or.inr (Or.inr (Or.inr (Or.inr (Or.inr (Or.inr (Or.inr (Or.inl ⟨rfl, rfl⟩))))))))))))) (fun n hn => by injection hn with hn; injection hn with _ hn; rw [← hn]; exact k25.1)).mono ?_
  rintro r w' ⟨⟨n, hn, rfl⟩, hb⟩
  injection hn with hn
  injection hn with _ hn
  rw [hn]
  exact ⟨rfl, hb⟩
 | 26, _, hi =>
  injection hi with hi
  subst hi
  refine (VN 26 26 (Or.inr (Or.inr (Or.inr (Or.inr (Or.inr (Or.inr (Or.inr (Or.inr (Or.inr (Or.inr (Or.inr (Or.inr (Or.inr (Or.inl ⟨rfl, rfl⟩)))))))))))))) (fun n hn => by injection hn with hn; injection hn with _ hn; rw [← hn]; exact k26.1)).mono ?_
  rintro r w' ⟨⟨n, hn, rfl⟩, hb⟩
  injection hn with hn
  injection hn with _ hn
  rw [hn]
  exact ⟨rfl, hb⟩
 | 27, _, hi => injection hi with hi; subst hi; exact VO 27 _ (Or.inr (Or.inr (Or.inr (Or.inr (Or.inr (Or.inr (Or.inr (Or.inr (Or.inr (Or.inr (Or.inr (Or.inr (Or.inr (⟨rfl, rfl⟩))))))))))))))
 | 28, _, hi =>
  injection hi with hi
  subst hi
  refine (VN 28 28 (Or.inr (Or.inr (Or.inr (Or.inr (Or.inr (Or.inr (Or.inr (Or.inr (Or.inr (Or.inr (Or.inr (Or.inr (Or.inr (Or.inr (⟨rfl, rfl⟩))))))))))))))) (fun n hn => by injection hn with hn; injection hn with _ hn; rw [← hn]; exact k28.1)).mono ?_
  rintro r w' ⟨⟨n, hn, rfl⟩, hb⟩
  injection hn with hn
  injection hn with _ hn
  rw [hn]
  exact ⟨rfl, hb⟩
 | n + 29, hlt, _ => exact absurd hlt (by omega)
end Go.Proofs.YteadlcncnhbmjaaGreatDoor
