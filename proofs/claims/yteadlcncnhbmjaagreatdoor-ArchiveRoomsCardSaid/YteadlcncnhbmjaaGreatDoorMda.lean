/- The texts Bz0, Bzb, Ba1, Bb0 of this proof, one behind the other. -/
import Derived.Test.YteadlcncnhbmjaaGreatDoorMam
import Derived.Test.YteadlcncnhbmjaaGreatDoorMaj
import Derived.Test.YteadlcncnhbmjaaGreatDoorMal
import Derived.Test.YteadlcncnhbmjaaGreatDoorMbb
import Derived.Test.YteadlcncnhbmjaaGreatDoorMaq
set_option linter.unusedSimpArgs false
set_option maxHeartbeats 16000000
set_option maxRecDepth 100000
set_option linter.unusedVariables false
/- The text Bz0. -/
namespace Ar
theorem text_num (n : Int) (h : inInt n) : (FV.num n).text.length ≤ 20 := by
 show (if n = 0 then [] else itoa n).length ≤ 20
 split
 ·exact Nat.zero_le _
 ·exact Go.Proofs.YteadlcncnhbmjaaGreatDoor.itoa_len n h
theorem text_txt (s : Str) (M : Nat) (h : s.length ≤ M) : (FV.txt s).text.length ≤ 4 * M + 2 := by
 show (if s = [] then [] else quote s).length ≤ _
 split
 ·exact Nat.zero_le _
 ·have := quote_len s; omega
theorem text_nums (l : List Int) (h : ∀ n ∈ l, inInt n) (hl : l.length ≤ 40) : (FV.nums l).text.length ≤ 840 := by
 have h1 := join_le [44] 20 (l.map itoa) (fun x hx => by obtain ⟨n, hn, rfl⟩ := List.mem_map.1 hx; exact Go.Proofs.YteadlcncnhbmjaaGreatDoor.itoa_len n (h n hn))
 rw [List.length_map] at h1
 show (join [44] (l.map itoa)).length ≤ 840
 have h2 := Nat.mul_le_mul_right (20 + [44].length) hl
 simp only [List.length_singleton] at h1 h2
 omega
theorem text_txts (l : List Str) (h : ∀ s ∈ l, s.length ≤ 100) (hl : l.length ≤ 40) : (FV.txts l).text.length ≤ 16120 := by
 have h1 := join_le [44] 402 (l.map quote) (fun x hx => by obtain ⟨s, hs, rfl⟩ := List.mem_map.1 hx; have := quote_len s; have := h s hs; omega)
 rw [List.length_map] at h1
 show (join [44] (l.map quote)).length ≤ 16120
 have h2 := Nat.mul_le_mul_right (402 + [44].length) hl
 simp only [List.length_singleton] at h1 h2
 omega
theorem text_usrs (l : List (Str × Int)) (h : ∀ p ∈ l, p.1.length ≤ 100) (h0 : ∀ p ∈ l, inInt p.2) (hl : l.length ≤ 40) : (FV.usrs l).text.length ≤ 16960 := by
 have h1 := join_le [44] 423 (l.map usrT) (fun x hx => by
  obtain ⟨p, hp, rfl⟩ := List.mem_map.1 hx
  have h2 := quote_len p.1
  have h3 := h p hp
  have h4 := Go.Proofs.YteadlcncnhbmjaaGreatDoor.itoa_len p.2 (h0 p hp)
  unfold usrT
  rw [List.length_append, List.length_cons]
  omega)
 rw [List.length_map] at h1
 show (join [44] (l.map usrT)).length ≤ 16960
 have h2 := Nat.mul_le_mul_right (423 + [44].length) hl
 simp only [List.length_singleton] at h1 h2
 omega
theorem text_knds (l : List (Int × Int)) (h : ∀ p ∈ l, inInt p.1 ∧ inInt p.2) (hl : l.length ≤ 20) : (FV.knds l).text.length ≤ 840 := by
 have h1 := join_le [44] 41 (l.map kndT) (fun x hx => by
  obtain ⟨p, hp, rfl⟩ := List.mem_map.1 hx
  have h3 := Go.Proofs.YteadlcncnhbmjaaGreatDoor.itoa_len p.1 (h p hp).1
  have h4 := Go.Proofs.YteadlcncnhbmjaaGreatDoor.itoa_len p.2 (h p hp).2
  unfold kndT
  rw [List.length_append, List.length_cons]
  omega)
 rw [List.length_map] at h1
 show (join [44] (l.map kndT)).length ≤ 840
 have h2 := Nat.mul_le_mul_right (41 + [44].length) hl
 simp only [List.length_singleton] at h1 h2
 omega
theorem item_len (nm : Str) (v : FV) : (item nm v).length ≤ nm.length + v.text.length + 1 := by
 by_cases hf : isFlg v.kind = true
 ·cases v with
  | flg b => cases b with
   | false => exact Nat.zero_le _
   | true => show nm.length ≤ _; omega
  | _ => cases hf
 ·rw [item_other nm (by simpa using hf)]
  split
  ·exact Nat.zero_le _
  ·rw [List.length_append, List.length_cons]; omega
theorem restL_sum : ∀ (q : List (Str × FK)) (b : List FV), (restL q b).length ≤ (List.zipWith (fun nk v => nk.1.length + v.text.length + 2) q b).sum
 | [], b => by simp [restL, items, join]
 | nk :: q, [] => by simp [restL, items, join]
 | (nm, k) :: q, v :: b => by
  have ih := restL_sum q b
  rw [List.zipWith_cons_cons, List.sum_cons]
  by_cases hi : item nm v = []
  ·have e1 : restL ((nm, k) :: q) (v :: b) = restL q b := by unfold restL; rw [items_cons, if_pos hi]
   rw [e1]
   omega
  ·rw [restL_cons nm k q v b hi, List.length_append]
   have h1 := item_len nm v
   have h2 : (tailOf (restL q b)).length ≤ (restL q b).length + 1 := by unfold tailOf; split; exact Nat.zero_le _; simp
   simp only
   omega
theorem line_sum (e : List FV) : (line e).length ≤ (List.zipWith (fun nk v => nk.1.length + v.text.length + 2) NK e).sum := restL_sum NK e
end Ar
/- The text Bzb. -/
namespace Go.Proofs.YteadlcncnhbmjaaGreatDoor
set_option linter.unusedVariables false
theorem brief_line9 (e0 : Int) (e1 : List UInt8) (e2 : List UInt8) (e3 : Int) (e4 : Bool) (e5 : List UInt8) (e6 : Int) (e7 : Int) (pv : List Int) (au : List Int) (t0 : List UInt8) (n1 : Int) (n2 : Int) (f3 : Bool) (t4 : List UInt8) (al : List (List UInt8)) (dn : List (List UInt8)) (us : List (List UInt8 × Int)) (ks : List (Int × Int)) (l1 : Int) (l2 : Int) (l3 : Int) (l4 : Int) (l5 : Int) (l6 : Int) (l7 : Int) (hs : Int) (sv : List UInt8) (sm : Int) (y0 : (Ar.FV.num e0).text.length ≤ 20) (y1 : (Ar.FV.txt e1).text.length ≤ 402) (y2 : (Ar.FV.txt e2).text.length ≤ 402) (y3 : (Ar.FV.num e3).text.length ≤ 20) (y4 : (Ar.FV.flg e4).text.length ≤ 0) (y5 : (Ar.FV.txt e5).text.length ≤ 402) (y6 : (Ar.FV.num e6).text.length ≤ 20) (y7 : (Ar.FV.num e7).text.length ≤ 20) (y8 : (Ar.FV.nums pv).text.length ≤ 840) (y9 : (Ar.FV.nums au).text.length ≤ 840) (y10 : (Ar.FV.txt t0).text.length ≤ 2002) (y11 : (Ar.FV.num n1).text.length ≤ 20) (y12 : (Ar.FV.num n2).text.length ≤ 20) (y13 : (Ar.FV.flg f3).text.length ≤ 0) (y14 : (Ar.FV.txt t4).text.length ≤ 402) (y15 : (Ar.FV.txts al).text.length ≤ 16120) (y16 : (Ar.FV.txts dn).text.length ≤ 16120) (y17 : (Ar.FV.usrs us).text.length ≤ 16960) (y18 : (Ar.FV.knds ks).text.length ≤ 840) (y19 : (Ar.FV.num l1).text.length ≤ 20) (y20 : (Ar.FV.num l2).text.length ≤ 20) (y21 : (Ar.FV.num l3).text.length ≤ 20) (y22 : (Ar.FV.num l4).text.length ≤ 20) (y23 : (Ar.FV.num l5).text.length ≤ 20) (y24 : (Ar.FV.num l6).text.length ≤ 20) (y25 : (Ar.FV.num l7).text.length ≤ 20) (y26 : (Ar.FV.num hs).text.length ≤ 20) (y27 : (Ar.FV.txt sv).text.length ≤ 402) (y28 : (Ar.FV.num sm).text.length ≤ 20) : (Ar.line [.num e0, .txt e1, .txt e2, .num e3, .flg e4, .txt e5, .num e6, .num e7, .nums pv, .nums au, .txt t0, .num n1, .num n2, .flg f3, .txt t4, .txts al, .txts dn, .usrs us, .knds ks, .num l1, .num l2, .num l3, .num l4, .num l5, .num l6, .num l7, .num hs, .txt sv, .num sm]).length ≤ 90000 := by
 have hsum := Ar.line_sum [.num e0, .txt e1, .txt e2, .num e3, .flg e4, .txt e5, .num e6, .num e7, .nums pv, .nums au, .txt t0, .num n1, .num n2, .flg f3, .txt t4, .txts al, .txts dn, .usrs us, .knds ks, .num l1, .num l2, .num l3, .num l4, .num l5, .num l6, .num l7, .num hs, .txt sv, .num sm]
 simp only [Ar.NK, List.zipWith_cons_cons, List.zipWith_nil_left, List.sum_cons, List.sum_nil] at hsum
 exact Nat.le_trans hsum (Nat.le_trans (Nat.add_le_add (Nat.add_le_add_right (Nat.add_le_add_left y0 _) 2) (Nat.add_le_add (Nat.add_le_add_right (Nat.add_le_add_left y1 _) 2) (Nat.add_le_add (Nat.add_le_add_right (Nat.add_le_add_left y2 _) 2) (Nat.add_le_add (Nat.add_le_add_right (Nat.add_le_add_left y3 _) 2) (Nat.add_le_add (Nat.add_le_add_right (Nat.add_le_add_left y4 _) 2) (Nat.add_le_add (Nat.add_le_add_right (Nat.add_le_add_left y5 _) 2) (Nat.add_le_add (Nat.add_le_add_right (Nat.add_le_add_left y6 _) 2) (Nat.add_le_add (Nat.add_le_add_right (Nat.add_le_add_left y7 _) 2) (Nat.add_le_add (Nat.add_le_add_right (Nat.add_le_add_left y8 _) 2) (Nat.add_le_add (Nat.add_le_add_right (Nat.add_le_add_left y9 _) 2) (Nat.add_le_add (Nat.add_le_add_right (Nat.add_le_add_left y10 _) 2) (Nat.add_le_add (Nat.add_le_add_right (Nat.add_le_add_left y11 _) 2) (Nat.add_le_add (Nat.add_le_add_right (Nat.add_le_add_left y12 _) 2) (Nat.add_le_add (Nat.add_le_add_right (Nat.add_le_add_left y13 _) 2) (Nat.add_le_add (Nat.add_le_add_right (Nat.add_le_add_left y14 _) 2) (Nat.add_le_add (Nat.add_le_add_right (Nat.add_le_add_left y15 _) 2) (Nat.add_le_add (Nat.add_le_add_right (Nat.add_le_add_left y16 _) 2) (Nat.add_le_add (Nat.add_le_add_right (Nat.add_le_add_left y17 _) 2) (Nat.add_le_add (Nat.add_le_add_right (Nat.add_le_add_left y18 _) 2) (Nat.add_le_add (Nat.add_le_add_right (Nat.add_le_add_left y19 _) 2) (Nat.add_le_add (Nat.add_le_add_right (Nat.add_le_add_left y20 _) 2) (Nat.add_le_add (Nat.add_le_add_right (Nat.add_le_add_left y21 _) 2) (Nat.add_le_add (Nat.add_le_add_right (Nat.add_le_add_left y22 _) 2) (Nat.add_le_add (Nat.add_le_add_right (Nat.add_le_add_left y23 _) 2) (Nat.add_le_add (Nat.add_le_add_right (Nat.add_le_add_left y24 _) 2) (Nat.add_le_add (Nat.add_le_add_right (Nat.add_le_add_left y25 _) 2) (Nat.add_le_add (Nat.add_le_add_right (Nat.add_le_add_left y26 _) 2) (Nat.add_le_add (Nat.add_le_add_right (Nat.add_le_add_left y27 _) 2) (Nat.add_le_add (Nat.add_le_add_right (Nat.add_le_add_left y28 _) 2) (Nat.le_refl 0)))))))))))))))))))))))))))))) (by decide))
theorem brief_plain9 (e0 : Int) (e1 : List UInt8) (e2 : List UInt8) (e3 : Int) (e4 : Bool) (e5 : List UInt8) (e6 : Int) (e7 : Int) (pv : List Int) (au : List Int) (t0 : List UInt8) (n1 : Int) (n2 : Int) (f3 : Bool) (t4 : List UInt8) (al : List (List UInt8)) (dn : List (List UInt8)) (us : List (List UInt8 × Int)) (ks : List (Int × Int)) (l1 : Int) (l2 : Int) (l3 : Int) (l4 : Int) (l5 : Int) (l6 : Int) (l7 : Int) (hs : Int) (sv : List UInt8) (sm : Int) (k0 : Ar.inInt e0) (k3 : Ar.inInt e3) (k6 : Ar.inInt e6) (k7 : Ar.inInt e7) (k8 : ∀ n ∈ pv, Ar.inInt n) (k9 : ∀ n ∈ au, Ar.inInt n) (k11 : Ar.inInt n1) (k12 : Ar.inInt n2) (k17 : ∀ p ∈ us, Ar.inInt p.2) (k18 : ∀ p ∈ ks, Ar.inInt p.1 ∧ Ar.inInt p.2) (k19 : Ar.inInt l1) (k20 : Ar.inInt l2) (k21 : Ar.inInt l3) (k22 : Ar.inInt l4) (k23 : Ar.inInt l5) (k24 : Ar.inInt l6) (k25 : Ar.inInt l7) (k26 : Ar.inInt hs) (k28 : Ar.inInt sm) (a1 : e1.length ≤ 100) (a2 : e2.length ≤ 100) (a5 : e5.length ≤ 100) (a27 : sv.length ≤ 100) (a10 : t0.length ≤ 500) (a14 : t4.length ≤ 100) (a8 : pv.length ≤ 40) (a9 : au.length ≤ 40) (a15 : al.length ≤ 40) (a16 : dn.length ≤ 40) (a17 : us.length ≤ 40) (a18 : ks.length ≤ 20) (b15 : ∀ s ∈ al, s.length ≤ 100) (b16 : ∀ s ∈ dn, s.length ≤ 100) (b17 : ∀ s ∈ us, s.1.length ≤ 100) :
  (∀ v ∈ ([.num e0, .txt e1, .txt e2, .num e3, .flg e4, .txt e5, .num e6, .num e7, .nums pv, .nums au, .txt t0, .num n1, .num n2, .flg f3, .txt t4, .txts al, .txts dn, .usrs us, .knds ks, .num l1, .num l2, .num l3, .num l4, .num l5, .num l6, .num l7, .num hs, .txt sv, .num sm] : List Ar.FV), v.WOk) ∧ (Ar.line [.num e0, .txt e1, .txt e2, .num e3, .flg e4, .txt e5, .num e6, .num e7, .nums pv, .nums au, .txt t0, .num n1, .num n2, .flg f3, .txt t4, .txts al, .txts dn, .usrs us, .knds ks, .num l1, .num l2, .num l3, .num l4, .num l5, .num l6, .num l7, .num hs, .txt sv, .num sm]).length ≤ 90000 := by
 have y0 := Ar.text_num e0 k0
 have y1 := Ar.text_txt e1 100 a1
 have y2 := Ar.text_txt e2 100 a2
 have y3 := Ar.text_num e3 k3
 have y4 : (Ar.FV.flg e4).text.length ≤ 0 := Nat.le_refl _
 have y5 := Ar.text_txt e5 100 a5
 have y6 := Ar.text_num e6 k6
 have y7 := Ar.text_num e7 k7
 have y8 := Ar.text_nums pv k8 a8
 have y9 := Ar.text_nums au k9 a9
 have y10 := Ar.text_txt t0 500 a10
 have y11 := Ar.text_num n1 k11
 have y12 := Ar.text_num n2 k12
 have y13 : (Ar.FV.flg f3).text.length ≤ 0 := Nat.le_refl _
 have y14 := Ar.text_txt t4 100 a14
 have y15 := Ar.text_txts al b15 a15
 have y16 := Ar.text_txts dn b16 a16
 have y17 := Ar.text_usrs us b17 k17 a17
 have y18 := Ar.text_knds ks k18 a18
 have y19 := Ar.text_num l1 k19
 have y20 := Ar.text_num l2 k20
 have y21 := Ar.text_num l3 k21
 have y22 := Ar.text_num l4 k22
 have y23 := Ar.text_num l5 k23
 have y24 := Ar.text_num l6 k24
 have y25 := Ar.text_num l7 k25
 have y26 := Ar.text_num hs k26
 have y27 := Ar.text_txt sv 100 a27
 have y28 := Ar.text_num sm k28
 refine ⟨fun v hv => ?_, brief_line9 e0 e1 e2 e3 e4 e5 e6 e7 pv au t0 n1 n2 f3 t4 al dn us ks l1 l2 l3 l4 l5 l6 l7 hs sv sm y0 y1 y2 y3 y4 y5 y6 y7 y8 y9 y10 y11 y12 y13 y14 y15 y16 y17 y18 y19 y20 y21 y22 y23 y24 y25 y26 y27 y28⟩
 simp only [List.mem_cons, List.not_mem_nil, or_false] at hv
 rcases hv with rfl | rfl | rfl | rfl | rfl | rfl | rfl | rfl | rfl | rfl | rfl | rfl | rfl | rfl | rfl | rfl | rfl | rfl | rfl | rfl | rfl | rfl | rfl | rfl | rfl | rfl | rfl | rfl | rfl
 ·exact ⟨k0, Nat.le_trans y0 (by decide), trivial⟩
 ·exact ⟨trivial, Nat.le_trans y1 (by decide), Nat.le_trans a1 (by decide)⟩
 ·exact ⟨trivial, Nat.le_trans y2 (by decide), Nat.le_trans a2 (by decide)⟩
 ·exact ⟨k3, Nat.le_trans y3 (by decide), trivial⟩
 ·exact ⟨trivial, Nat.zero_le _, trivial⟩
 ·exact ⟨trivial, Nat.le_trans y5 (by decide), Nat.le_trans a5 (by decide)⟩
 ·exact ⟨k6, Nat.le_trans y6 (by decide), trivial⟩
 ·exact ⟨k7, Nat.le_trans y7 (by decide), trivial⟩
 ·exact ⟨k8, Nat.le_trans y8 (by decide), Nat.le_trans a8 (by decide)⟩
 ·exact ⟨k9, Nat.le_trans y9 (by decide), Nat.le_trans a9 (by decide)⟩
 ·exact ⟨trivial, Nat.le_trans y10 (by decide), Nat.le_trans a10 (by decide)⟩
 ·exact ⟨k11, Nat.le_trans y11 (by decide), trivial⟩
 ·exact ⟨k12, Nat.le_trans y12 (by decide), trivial⟩
 ·exact ⟨trivial, Nat.zero_le _, trivial⟩
 ·exact ⟨trivial, Nat.le_trans y14 (by decide), Nat.le_trans a14 (by decide)⟩
 ·exact ⟨trivial, Nat.le_trans y15 (by decide), ⟨Nat.le_trans a15 (by decide), fun x hx => Nat.le_trans (b15 x hx) (by decide)⟩⟩
 ·exact ⟨trivial, Nat.le_trans y16 (by decide), ⟨Nat.le_trans a16 (by decide), fun x hx => Nat.le_trans (b16 x hx) (by decide)⟩⟩
 ·exact ⟨k17, Nat.le_trans y17 (by decide), ⟨Nat.le_trans a17 (by decide), fun x hx => Nat.le_trans (b17 x hx) (by decide)⟩⟩
 ·exact ⟨k18, Nat.le_trans y18 (by decide), Nat.le_trans a18 (by decide)⟩
 ·exact ⟨k19, Nat.le_trans y19 (by decide), trivial⟩
 ·exact ⟨k20, Nat.le_trans y20 (by decide), trivial⟩
 ·exact ⟨k21, Nat.le_trans y21 (by decide), trivial⟩
 ·exact ⟨k22, Nat.le_trans y22 (by decide), trivial⟩
 ·exact ⟨k23, Nat.le_trans y23 (by decide), trivial⟩
 ·exact ⟨k24, Nat.le_trans y24 (by decide), trivial⟩
 ·exact ⟨k25, Nat.le_trans y25 (by decide), trivial⟩
 ·exact ⟨k26, Nat.le_trans y26 (by decide), trivial⟩
 ·exact ⟨trivial, Nat.le_trans y27 (by decide), Nat.le_trans a27 (by decide)⟩
 ·exact ⟨k28, Nat.le_trans y28 (by decide), trivial⟩
end Go.Proofs.YteadlcncnhbmjaaGreatDoor
/- The text Ba1. -/
namespace Ar
theorem join_snocB (sep : Str) : ∀ (l : List Str) (x : Str), l ≠ [] → join sep (l ++ [x]) = join sep l ++ sep ++ x
 | [], x, h => absurd rfl h
 | [a], x, _ => rfl
 | a :: b :: r, x, _ => by
  have ih := join_snocB sep (b :: r) x (by simp)
  show a ++ sep ++ join sep ((b :: r) ++ [x]) = a ++ sep ++ join sep (b :: r) ++ sep ++ x
  rw [ih]
  simp
theorem join_pre (sep : Str) : ∀ (b a : List Str), (join sep a).length ≤ (join sep (a ++ b)).length
 | [], a => by simp
 | x :: b, a => by
  have ih := join_pre sep b (a ++ [x])
  rw [List.append_assoc, List.singleton_append] at ih
  refine Nat.le_trans ?_ ih
  by_cases h : a = []
  ·subst h; exact Nat.zero_le _
  ·rw [join_snocB sep a x h]; simp only [List.length_append]; omega
theorem join_take (sep : Str) (l : List Str) (k : Nat) : (join sep (l.take k)).length ≤ (join sep l).length := by
 have := join_pre sep (l.drop k) (l.take k)
 rwa [List.take_append_drop] at this
end Ar
namespace Go.Proofs.YteadlcncnhbmjaaGreatDoor
open Go.RowKit Go.Lib
set_option linter.unusedVariables false
theorem join_next {α : Type} (tx : α → List UInt8) (l : List α) (k : Nat) (x : α) (h : l[k]? = some x) (hk : k ≠ 0) : Ar.join [44] ((l.take (k + 1)).map tx) = Ar.join [44] ((l.take k).map tx) ++ [44] ++ tx x := by
 rw [map_take_snoc h]
 refine Ar.join_snocB _ _ _ (fun e => ?_)
 have h1 := congrArg List.length e
 have h2 := (List.getElem?_eq_some_iff.1 h).1
 rw [List.length_map, List.length_take] at h1
 simp only [List.length_nil] at h1
 omega
theorem join_zero {α : Type} (tx : α → List UInt8) (l : List α) (x : α) (h : l[0]? = some x) : Ar.join [44] ((l.take (0 + 1)).map tx) = tx x := by
 rw [map_take_snoc h]
 rfl
theorem join_bound {α : Type} (tx : α → List UInt8) (l : List α) (M : Nat) (h : (Ar.join [44] (l.map tx)).length ≤ M) (k : Nat) : (Ar.join [44] ((l.take k).map tx)).length ≤ M := by
 rw [List.map_take]
 exact Nat.le_trans (Ar.join_take _ _ _) h
theorem nil_str (x : ByteArray) : (⟨#[]⟩ : ByteArray) ++ x = x := str_eq (by simp)
theorem comma_str (x y : List UInt8) : bstr x ++ (⟨#[44]⟩ : ByteArray) ++ bstr y = bstr (x ++ [44] ++ y) := str_eq (by simp [bstr])
theorem ret4_assoc (a b c d e : ByteArray) : Value.string (a ++ b ++ c ++ d ++ e) = Value.string (a ++ b ++ (c ++ d ++ e)) := by
 congr 1
 exact str_eq (by simp)
theorem rints_any (A : Option Addr) (cap : Nat) (xs : List Int) (w : World) (hR : Rd w A xs.length (intL xs)) (hx : ∀ x ∈ xs, Ar.inInt x) (hl : xs.length ≤ 1000000) (hj : (Ar.join [44] (xs.map Ar.itoa)).length ≤ 100000000) :
  Calls Tryz.prog 117 #[.slice A xs.length cap] w fun e w' => e = .returned (.string (bstr (Ar.join [44] (xs.map Ar.itoa)))) ∧ Below w.heap.size w w' := by
 have HR := hid hR
 have HX := hid hx
 have HJ := hid (join_bound Ar.itoa xs _ hj)
 clear hR hx hj
 go_enter Tryz.func117, Tryz.ntmps117
 go_wp2_with fail
 go_loopw [3, 4] (fun out ix wr => ∃ k : Nat, k ≤ xs.length ∧ ix = .int .i64 k ∧ out = .string (bstr (Ar.join [44] ((xs.take k).map Ar.itoa))) ∧ Below w.heap.size w wr) (fun _ ix _ => xs.length - (RowKit.intOf ix).toNat)
 case atStart => exact ⟨0, by omega, rfl, rfl, Below.refl _ _⟩
 case round =>
  obtain ⟨k, hk, rfl, rfl, hb⟩ := hrel
  have HB := hid hb
  have hbs := hb.size
  clear hb
  by_cases hlt : k < xs.length
  ·obtain ⟨ba, oa, x, rfl, hx, hc0⟩ := (HR.out.below HB.out).int_at hlt
   have HXK := hid hx
   have HXO := hid (HX.out x (List.mem_of_getElem? hx))
   have hq0 : (bstr (Ar.join [44] ((xs.take k).map Ar.itoa))).size ≤ 100000000 := by rw [bstr_size]; exact HJ.out k
   have HQ2 : Hid ((Ar.itoa x).length ≤ 100000000) := hid (by
    have h1 := HJ.out (k + 1)
    rcases Nat.eq_zero_or_pos k with e0 | e0
    ·subst e0; rw [join_zero _ _ _ HXK.out] at h1; exact h1
    ·rw [join_next _ _ _ _ HXK.out (by omega)] at h1; simp only [List.length_append] at h1; omega)
   have hp1 : (bstr (Ar.itoa x)).size ≤ 100000000 := by rw [bstr_size]; exact HQ2.out
   have hs2 : ¬ 9223372036854775807 < (bstr (Ar.join [44] ((xs.take k).map Ar.itoa))).size + 1 + (bstr (Ar.itoa x)).size := by omega
   clear hx
   rcases Nat.eq_zero_or_pos k with e0 | e0
   ·subst e0
    have HN := hid (join_zero Ar.itoa xs x HXK.out)
    have hz : (bstr (Ar.join [44] ((xs.take 0).map Ar.itoa))) = ⟨#[]⟩ := rfl
    rw [hz]
    have hz0 : (⟨#[]⟩ : ByteArray).size = 0 := rfl
    simp only [Nat.add_zero] at hc0
    have HC1 := hid (fun W => rtext_any x W HXO.out)
    generalize hP1 : bstr (Ar.itoa x) = P1 at *
    go_wp2_with fail
    refine (HC1.out _).mono ?_
    rintro e w2 ⟨rfl, hb2⟩
    have HB2 := hid (HB.out.trans (hb2.mono hbs))
    clear hb2
    go_wp2_with fail
    go_roundw
    case rel => exact ⟨0 + 1, by omega, by go_num, by rw [HN.out, hP1, nil_str], HB2.out⟩
    case measure => simp [RowKit.intOf]; omega
   ·have HN := hid (join_next Ar.itoa xs k x HXK.out (by omega))
    have hpos : (0 : Int) < (k : Int) := by omega
    have hq1 : ¬ 9223372036854775807 < (bstr (Ar.join [44] ((xs.take k).map Ar.itoa))).size + 1 := by omega
    have HCM := hid (comma_str (Ar.join [44] ((xs.take k).map Ar.itoa)) (Ar.itoa x))
    generalize hJK : bstr (Ar.join [44] ((xs.take k).map Ar.itoa)) = JK at *
    have HC1 := hid (fun W => rtext_any x W HXO.out)
    generalize hP1 : bstr (Ar.itoa x) = P1 at *
    go_wp2_with fail
    refine (HC1.out _).mono ?_
    rintro e w2 ⟨rfl, hb2⟩
    have HB2 := hid (HB.out.trans (hb2.mono hbs))
    clear hb2
    go_wp2_with fail
    go_roundw
    case rel => exact ⟨k + 1, by omega, by go_num, by rw [HN.out, ← HCM.out], HB2.out⟩
    case measure => simp [RowKit.intOf]; omega
  ·obtain rfl : k = xs.length := by omega
   have HE : Hid ((xs.take xs.length).map Ar.itoa = xs.map Ar.itoa) := hid (by rw [List.take_length])
   rw [HE.out]
   go_wp2_with fail
   go_ret
   exact ⟨rfl, HB.out⟩
theorem rtexts_any (A : Option Addr) (cap : Nat) (xs : List (List UInt8)) (w : World) (hR : Rd w A xs.length (strL xs)) (hx : ∀ x ∈ xs, x.length ≤ 1000000) (hl : xs.length ≤ 1000000) (hj : (Ar.join [44] (xs.map Ar.quote)).length ≤ 100000000) :
  Calls Tryz.prog 118 #[.slice A xs.length cap] w fun e w' => e = .returned (.string (bstr (Ar.join [44] (xs.map Ar.quote)))) ∧ Below w.heap.size w w' := by
 have HR := hid hR
 have HX := hid hx
 have HJ := hid (join_bound Ar.quote xs _ hj)
 clear hR hx hj
 go_enter Tryz.func118, Tryz.ntmps118
 go_wp2_with fail
 go_loopw [3, 4] (fun out ix wr => ∃ k : Nat, k ≤ xs.length ∧ ix = .int .i64 k ∧ out = .string (bstr (Ar.join [44] ((xs.take k).map Ar.quote))) ∧ Below w.heap.size w wr) (fun _ ix _ => xs.length - (RowKit.intOf ix).toNat)
 case atStart => exact ⟨0, by omega, rfl, rfl, Below.refl _ _⟩
 case round =>
  obtain ⟨k, hk, rfl, rfl, hb⟩ := hrel
  have HB := hid hb
  have hbs := hb.size
  clear hb
  by_cases hlt : k < xs.length
  ·obtain ⟨ba, oa, x, rfl, hx, hc0⟩ := (HR.out.below HB.out).str_at hlt
   have HXK := hid hx
   have HXO := hid (HX.out x (List.mem_of_getElem? hx))
   have hq0 : (bstr (Ar.join [44] ((xs.take k).map Ar.quote))).size ≤ 100000000 := by rw [bstr_size]; exact HJ.out k
   have HQ2 : Hid ((Ar.quote x).length ≤ 100000000) := hid (by
    have h1 := HJ.out (k + 1)
    rcases Nat.eq_zero_or_pos k with e0 | e0
    ·subst e0; rw [join_zero _ _ _ HXK.out] at h1; exact h1
    ·rw [join_next _ _ _ _ HXK.out (by omega)] at h1; simp only [List.length_append] at h1; omega)
   have hp1 : (bstr (Ar.quote x)).size ≤ 100000000 := by rw [bstr_size]; exact HQ2.out
   have hs2 : ¬ 9223372036854775807 < (bstr (Ar.join [44] ((xs.take k).map Ar.quote))).size + 1 + (bstr (Ar.quote x)).size := by omega
   clear hx
   rcases Nat.eq_zero_or_pos k with e0 | e0
   ·subst e0
    have HN := hid (join_zero Ar.quote xs x HXK.out)
    have hz : (bstr (Ar.join [44] ((xs.take 0).map Ar.quote))) = ⟨#[]⟩ := rfl
    rw [hz]
    have hz0 : (⟨#[]⟩ : ByteArray).size = 0 := rfl
    simp only [Nat.add_zero] at hc0
    have HC1 := hid (fun W => rquote_any (bstr x) W (by rw [bstr_size]; exact HXO.out))
    rw [show (bstr x).data.toList = x from rfl] at HC1
    generalize hP1 : bstr (Ar.quote x) = P1 at *
    generalize bstr x = S0 at *
    go_wp2_with fail
    refine (HC1.out _).mono ?_
    rintro e w2 ⟨rfl, hb2⟩
    have HB2 := hid (HB.out.trans (hb2.mono hbs))
    clear hb2
    go_wp2_with fail
    go_roundw
    case rel => exact ⟨0 + 1, by omega, by go_num, by rw [HN.out, hP1, nil_str], HB2.out⟩
    case measure => simp [RowKit.intOf]; omega
   ·have HN := hid (join_next Ar.quote xs k x HXK.out (by omega))
    have hpos : (0 : Int) < (k : Int) := by omega
    have hq1 : ¬ 9223372036854775807 < (bstr (Ar.join [44] ((xs.take k).map Ar.quote))).size + 1 := by omega
    have HCM := hid (comma_str (Ar.join [44] ((xs.take k).map Ar.quote)) (Ar.quote x))
    generalize hJK : bstr (Ar.join [44] ((xs.take k).map Ar.quote)) = JK at *
    have HC1 := hid (fun W => rquote_any (bstr x) W (by rw [bstr_size]; exact HXO.out))
    rw [show (bstr x).data.toList = x from rfl] at HC1
    generalize hP1 : bstr (Ar.quote x) = P1 at *
    generalize bstr x = S0 at *
    go_wp2_with fail
    refine (HC1.out _).mono ?_
    rintro e w2 ⟨rfl, hb2⟩
    have HB2 := hid (HB.out.trans (hb2.mono hbs))
    clear hb2
    go_wp2_with fail
    go_roundw
    case rel => exact ⟨k + 1, by omega, by go_num, by rw [HN.out, ← HCM.out], HB2.out⟩
    case measure => simp [RowKit.intOf]; omega
  ·obtain rfl : k = xs.length := by omega
   have HE : Hid ((xs.take xs.length).map Ar.quote = xs.map Ar.quote) := hid (by rw [List.take_length])
   rw [HE.out]
   go_wp2_with fail
   go_ret
   exact ⟨rfl, HB.out⟩
theorem rusers_any (A : Option Addr) (cap : Nat) (xs : List (List UInt8 × Int)) (w : World) (hR : Rd w A (xs.length * 2) (usrL xs)) (hx : ∀ x ∈ xs, x.1.length ≤ 1000000 ∧ Ar.inInt x.2) (hl : xs.length ≤ 1000000) (hj : (Ar.join [44] (xs.map Ar.usrT)).length ≤ 100000000) :
  Calls Tryz.prog 119 #[.slice A xs.length cap] w fun e w' => e = .returned (.string (bstr (Ar.join [44] (xs.map Ar.usrT)))) ∧ Below w.heap.size w w' := by
 have HR := hid hR
 have HX := hid hx
 have HJ := hid (join_bound Ar.usrT xs _ hj)
 clear hR hx hj
 go_enter Tryz.func119, Tryz.ntmps119
 go_wp2_with fail
 go_loopw [3, 4] (fun out ix wr => ∃ k : Nat, k ≤ xs.length ∧ ix = .int .i64 k ∧ out = .string (bstr (Ar.join [44] ((xs.take k).map Ar.usrT))) ∧ Below w.heap.size w wr) (fun _ ix _ => xs.length - (RowKit.intOf ix).toNat)
 case atStart => exact ⟨0, by omega, rfl, rfl, Below.refl _ _⟩
 case round =>
  obtain ⟨k, hk, rfl, rfl, hb⟩ := hrel
  have HB := hid hb
  have hbs := hb.size
  clear hb
  by_cases hlt : k < xs.length
  ·obtain ⟨ba, oa, x, rfl, hx, hc0, hc1⟩ := (HR.out.below HB.out).usr_at hlt
   have HXK := hid hx
   have HXO := hid (HX.out x (List.mem_of_getElem? hx))
   have hq0 : (bstr (Ar.join [44] ((xs.take k).map Ar.usrT))).size ≤ 100000000 := by rw [bstr_size]; exact HJ.out k
   have HQ2 : Hid ((Ar.usrT x).length ≤ 100000000) := hid (by
    have h1 := HJ.out (k + 1)
    rcases Nat.eq_zero_or_pos k with e0 | e0
    ·subst e0; rw [join_zero _ _ _ HXK.out] at h1; exact h1
    ·rw [join_next _ _ _ _ HXK.out (by omega)] at h1; simp only [List.length_append] at h1; omega)
   have hp12 : (bstr (Ar.quote x.1)).size + 1 + (bstr (Ar.itoa x.2)).size ≤ 100000000 := by have h1 := HQ2.out; rw [bstr_size, bstr_size]; simp only [Ar.usrT, List.length_append, List.length_cons] at h1; omega
   have HUT := hid (usrT_eq x.1 x.2)
   have hs00 : ¬ 9223372036854775807 < (bstr (Ar.quote x.1)).size := by omega
   have hs0 : ¬ 9223372036854775807 < (bstr (Ar.quote x.1)).size + 1 := by omega
   have hs1 : ¬ 9223372036854775807 < (bstr (Ar.quote x.1)).size + 1 + (bstr (Ar.itoa x.2)).size := by omega
   have hs2 : ¬ 9223372036854775807 < (bstr (Ar.join [44] ((xs.take k).map Ar.usrT))).size + 1 + (bstr (Ar.quote x.1)).size := by omega
   have hs3 : ¬ 9223372036854775807 < (bstr (Ar.join [44] ((xs.take k).map Ar.usrT))).size + 1 + (bstr (Ar.quote x.1)).size + 1 := by omega
   have hs4 : ¬ 9223372036854775807 < (bstr (Ar.join [44] ((xs.take k).map Ar.usrT))).size + 1 + (bstr (Ar.quote x.1)).size + 1 + (bstr (Ar.itoa x.2)).size := by omega
   clear hx
   obtain ⟨s0, n⟩ := x
   simp only at *
   rcases Nat.eq_zero_or_pos k with e0 | e0
   ·subst e0
    have HN := hid (join_zero Ar.usrT xs (s0, n) HXK.out)
    have hz : (bstr (Ar.join [44] ((xs.take 0).map Ar.usrT))) = ⟨#[]⟩ := rfl
    rw [hz]
    have hz0 : (⟨#[]⟩ : ByteArray).size = 0 := rfl
    simp only [Nat.zero_mul, Nat.add_zero] at hc0 hc1
    have HC1 := hid (fun W => rquote_any (bstr s0) W (by rw [bstr_size]; exact HXO.out.1))
    have HC2 := hid (fun W => rtext_any n W HXO.out.2)
    rw [show (bstr s0).data.toList = s0 from rfl] at HC1
    generalize hP1 : bstr (Ar.quote s0) = P1 at *
    generalize hP2 : bstr (Ar.itoa n) = P2 at *
    generalize bstr s0 = S0 at *
    have hB := HB.out
    have hzz : (⟨#[58]⟩ : ByteArray).size = 1 := rfl
    go_wp2_with fail
    go_region_held3 (fun W => W.cell? ⟨ba, oa, none⟩ = some (.string S0) ∧ W.cell? ⟨ba, oa + 1, none⟩ = some (.int .i64 n) ∧ Below w.heap.size w W) (first | with_reducible exact ⟨hc0, hc1, hB⟩ | with_reducible exact ⟨keep_drew hc0, keep_drew hc1, hB.drew⟩ | (go_split_ands; with_reducible exact ⟨keep_b (by assumption) (by assumption), keep_b (by assumption) (by assumption), below_b (by assumption) (by assumption)⟩)) (first | (go_at_call_of 16 (Value.string S0); refine (HC1.out _).mono ?_; rintro e wA ⟨rfl, hbA⟩; replace hbA : Nx _ _ := hbA) | (go_at_call_of 122 (Value.int .i64 n); refine (HC2.out _).mono ?_; rintro e wB ⟨rfl, hbB⟩; replace hbB : Nx _ _ := hbB))
    all_goals
     go_wp2_with fail
     go_roundw
     case rel => go_split_ands; exact ⟨0 + 1, by omega, by go_num, by rw [HN.out, ← HUT.out, nil_str], by assumption⟩
     case measure => simp [RowKit.intOf]; omega
   ·have HN := hid (join_next Ar.usrT xs k (s0, n) HXK.out (by omega))
    have hpos : (0 : Int) < (k : Int) := by omega
    have hq1 : ¬ 9223372036854775807 < (bstr (Ar.join [44] ((xs.take k).map Ar.usrT))).size + 1 := by omega
    have HCM := hid (comma_str (Ar.join [44] ((xs.take k).map Ar.usrT)) (Ar.usrT (s0, n)))
    generalize hJK : bstr (Ar.join [44] ((xs.take k).map Ar.usrT)) = JK at *
    have HC1 := hid (fun W => rquote_any (bstr s0) W (by rw [bstr_size]; exact HXO.out.1))
    have HC2 := hid (fun W => rtext_any n W HXO.out.2)
    rw [show (bstr s0).data.toList = s0 from rfl] at HC1
    generalize hP1 : bstr (Ar.quote s0) = P1 at *
    generalize hP2 : bstr (Ar.itoa n) = P2 at *
    generalize bstr s0 = S0 at *
    have hB := HB.out
    have hzz : (⟨#[58]⟩ : ByteArray).size = 1 := rfl
    go_wp2_with fail
    go_region_held3 (fun W => W.cell? ⟨ba, oa + k * 2, none⟩ = some (.string S0) ∧ W.cell? ⟨ba, oa + k * 2 + 1, none⟩ = some (.int .i64 n) ∧ Below w.heap.size w W) (first | with_reducible exact ⟨hc0, hc1, hB⟩ | with_reducible exact ⟨keep_drew hc0, keep_drew hc1, hB.drew⟩ | (go_split_ands; with_reducible exact ⟨keep_b (by assumption) (by assumption), keep_b (by assumption) (by assumption), below_b (by assumption) (by assumption)⟩)) (first | (go_at_call_of 16 (Value.string S0); refine (HC1.out _).mono ?_; rintro e wA ⟨rfl, hbA⟩; replace hbA : Nx _ _ := hbA) | (go_at_call_of 122 (Value.int .i64 n); refine (HC2.out _).mono ?_; rintro e wB ⟨rfl, hbB⟩; replace hbB : Nx _ _ := hbB))
    all_goals
     go_wp2_with fail
     go_roundw
     case rel => go_split_ands; exact ⟨k + 1, by omega, by go_num, by rw [HN.out, ← HCM.out, ← HUT.out]; exact ret4_assoc _ _ _ _ _, by assumption⟩
     case measure => simp [RowKit.intOf]; omega
  ·obtain rfl : k = xs.length := by omega
   have HE : Hid ((xs.take xs.length).map Ar.usrT = xs.map Ar.usrT) := hid (by rw [List.take_length])
   rw [HE.out]
   go_wp2_with fail
   go_ret
   exact ⟨rfl, HB.out⟩
theorem rkinds_any (A : Option Addr) (cap : Nat) (xs : List (Int × Int)) (w : World) (hR : Rd w A (xs.length * 2) (kndL xs)) (hx : ∀ x ∈ xs, Ar.inInt x.1 ∧ Ar.inInt x.2) (hl : xs.length ≤ 1000000) (hj : (Ar.join [44] (xs.map Ar.kndT)).length ≤ 100000000) :
  Calls Tryz.prog 120 #[.slice A xs.length cap] w fun e w' => e = .returned (.string (bstr (Ar.join [44] (xs.map Ar.kndT)))) ∧ Below w.heap.size w w' := by
 have HR := hid hR
 have HX := hid hx
 have HJ := hid (join_bound Ar.kndT xs _ hj)
 clear hR hx hj
 go_enter Tryz.func120, Tryz.ntmps120
 go_wp2_with fail
 go_loopw [3, 4] (fun out ix wr => ∃ k : Nat, k ≤ xs.length ∧ ix = .int .i64 k ∧ out = .string (bstr (Ar.join [44] ((xs.take k).map Ar.kndT))) ∧ Below w.heap.size w wr) (fun _ ix _ => xs.length - (RowKit.intOf ix).toNat)
 case atStart => exact ⟨0, by omega, rfl, rfl, Below.refl _ _⟩
 case round =>
  obtain ⟨k, hk, rfl, rfl, hb⟩ := hrel
  have HB := hid hb
  have hbs := hb.size
  clear hb
  by_cases hlt : k < xs.length
  ·obtain ⟨ba, oa, x, rfl, hx, hc0, hc1⟩ := (HR.out.below HB.out).knd_at hlt
   have HXK := hid hx
   have HXO := hid (HX.out x (List.mem_of_getElem? hx))
   have hq0 : (bstr (Ar.join [44] ((xs.take k).map Ar.kndT))).size ≤ 100000000 := by rw [bstr_size]; exact HJ.out k
   have HQ2 : Hid ((Ar.kndT x).length ≤ 100000000) := hid (by
    have h1 := HJ.out (k + 1)
    rcases Nat.eq_zero_or_pos k with e0 | e0
    ·subst e0; rw [join_zero _ _ _ HXK.out] at h1; exact h1
    ·rw [join_next _ _ _ _ HXK.out (by omega)] at h1; simp only [List.length_append] at h1; omega)
   have hp12 : (bstr (Ar.itoa x.1)).size + 1 + (bstr (Ar.itoa x.2)).size ≤ 100000000 := by have h1 := HQ2.out; rw [bstr_size, bstr_size]; simp only [Ar.kndT, List.length_append, List.length_cons] at h1; omega
   have HUT := hid (kndT_eq x.1 x.2)
   have hs00 : ¬ 9223372036854775807 < (bstr (Ar.itoa x.1)).size := by omega
   have hs0 : ¬ 9223372036854775807 < (bstr (Ar.itoa x.1)).size + 1 := by omega
   have hs1 : ¬ 9223372036854775807 < (bstr (Ar.itoa x.1)).size + 1 + (bstr (Ar.itoa x.2)).size := by omega
   have hs2 : ¬ 9223372036854775807 < (bstr (Ar.join [44] ((xs.take k).map Ar.kndT))).size + 1 + (bstr (Ar.itoa x.1)).size := by omega
   have hs3 : ¬ 9223372036854775807 < (bstr (Ar.join [44] ((xs.take k).map Ar.kndT))).size + 1 + (bstr (Ar.itoa x.1)).size + 1 := by omega
   have hs4 : ¬ 9223372036854775807 < (bstr (Ar.join [44] ((xs.take k).map Ar.kndT))).size + 1 + (bstr (Ar.itoa x.1)).size + 1 + (bstr (Ar.itoa x.2)).size := by omega
   clear hx
   obtain ⟨m, n⟩ := x
   simp only at *
   rcases Nat.eq_zero_or_pos k with e0 | e0
   ·subst e0
    have HN := hid (join_zero Ar.kndT xs (m, n) HXK.out)
    have hz : (bstr (Ar.join [44] ((xs.take 0).map Ar.kndT))) = ⟨#[]⟩ := rfl
    rw [hz]
    have hz0 : (⟨#[]⟩ : ByteArray).size = 0 := rfl
    simp only [Nat.zero_mul, Nat.add_zero] at hc0 hc1
    have HC1 := hid (fun W => rtext_any m W HXO.out.1)
    have HC2 := hid (fun W => rtext_any n W HXO.out.2)
    generalize hP1 : bstr (Ar.itoa m) = P1 at *
    generalize hP2 : bstr (Ar.itoa n) = P2 at *
    have hB := HB.out
    have hzz : (⟨#[58]⟩ : ByteArray).size = 1 := rfl
    go_wp2_with fail
    go_region_held3 (fun W => W.cell? ⟨ba, oa, none⟩ = some (.int .i64 m) ∧ W.cell? ⟨ba, oa + 1, none⟩ = some (.int .i64 n) ∧ Below w.heap.size w W) (first | with_reducible exact ⟨hc0, hc1, hB⟩ | with_reducible exact ⟨keep_drew hc0, keep_drew hc1, hB.drew⟩ | (go_split_ands; with_reducible exact ⟨keep_b (by assumption) (by assumption), keep_b (by assumption) (by assumption), below_b (by assumption) (by assumption)⟩)) (first | (go_at_call_of 122 (Value.int .i64 m); refine (HC1.out _).mono ?_; rintro e wA ⟨rfl, hbA⟩; replace hbA : Nx _ _ := hbA) | (go_at_call_of 122 (Value.int .i64 n); refine (HC2.out _).mono ?_; rintro e wB ⟨rfl, hbB⟩; replace hbB : Nx _ _ := hbB))
    all_goals
     go_wp2_with fail
     go_roundw
     case rel => go_split_ands; exact ⟨0 + 1, by omega, by go_num, by rw [HN.out, ← HUT.out, nil_str], by assumption⟩
     case measure => simp [RowKit.intOf]; omega
   ·have HN := hid (join_next Ar.kndT xs k (m, n) HXK.out (by omega))
    have hpos : (0 : Int) < (k : Int) := by omega
    have hq1 : ¬ 9223372036854775807 < (bstr (Ar.join [44] ((xs.take k).map Ar.kndT))).size + 1 := by omega
    have HCM := hid (comma_str (Ar.join [44] ((xs.take k).map Ar.kndT)) (Ar.kndT (m, n)))
    generalize hJK : bstr (Ar.join [44] ((xs.take k).map Ar.kndT)) = JK at *
    have HC1 := hid (fun W => rtext_any m W HXO.out.1)
    have HC2 := hid (fun W => rtext_any n W HXO.out.2)
    generalize hP1 : bstr (Ar.itoa m) = P1 at *
    generalize hP2 : bstr (Ar.itoa n) = P2 at *
    have hB := HB.out
    have hzz : (⟨#[58]⟩ : ByteArray).size = 1 := rfl
    go_wp2_with fail
    go_region_held3 (fun W => W.cell? ⟨ba, oa + k * 2, none⟩ = some (.int .i64 m) ∧ W.cell? ⟨ba, oa + k * 2 + 1, none⟩ = some (.int .i64 n) ∧ Below w.heap.size w W) (first | with_reducible exact ⟨hc0, hc1, hB⟩ | with_reducible exact ⟨keep_drew hc0, keep_drew hc1, hB.drew⟩ | (go_split_ands; with_reducible exact ⟨keep_b (by assumption) (by assumption), keep_b (by assumption) (by assumption), below_b (by assumption) (by assumption)⟩)) (first | (go_at_call_of 122 (Value.int .i64 m); refine (HC1.out _).mono ?_; rintro e wA ⟨rfl, hbA⟩; replace hbA : Nx _ _ := hbA) | (go_at_call_of 122 (Value.int .i64 n); refine (HC2.out _).mono ?_; rintro e wB ⟨rfl, hbB⟩; replace hbB : Nx _ _ := hbB))
    all_goals
     go_wp2_with fail
     go_roundw
     case rel => go_split_ands; exact ⟨k + 1, by omega, by go_num, by rw [HN.out, ← HCM.out, ← HUT.out]; exact ret4_assoc _ _ _ _ _, by assumption⟩
     case measure => simp [RowKit.intOf]; omega
  ·obtain rfl : k = xs.length := by omega
   have HE : Hid ((xs.take xs.length).map Ar.kndT = xs.map Ar.kndT) := hid (by rw [List.take_length])
   rw [HE.out]
   go_wp2_with fail
   go_ret
   exact ⟨rfl, HB.out⟩
theorem eq_str (x : List UInt8) : (⟨#[61]⟩ : ByteArray) ++ bstr x = bstr (61 :: x) := str_eq (by simp [bstr])
def sgnT (t : List UInt8) : List UInt8 := if t = [] then [] else 61 :: t
theorem rtextf_any (s : List UInt8) (w : World) (hs : s.length ≤ 1000000) : Calls Tryz.prog 114 #[.string (bstr s)] w fun e w' => e = .returned (.string (bstr (if s = [] then [] else 61 :: Ar.quote s))) ∧ Below w.heap.size w w' := by
 have hem := bstr_empty s
 by_cases h : s = []
 ·have h1 : (bstr s).toList.isEmpty = true := by rw [hem, h]; rfl
  rw [if_pos h]
  have hr : (bstr []) = (⟨#[]⟩ : ByteArray) := rfl
  rw [hr]
  clear hem
  generalize bstr s = S at *
  go_enter Tryz.func114, Tryz.ntmps114
  go_wp2_with fail
  go_ret
  exact ⟨rfl, Below.refl _ _⟩
 ·have h1 : (bstr s).toList.isEmpty = false := by rw [hem]; cases s with
   | nil => exact absurd rfl h
   | cons c r => rfl
  have HQ := hid (fun W => rquote_any (bstr s) W (by rw [bstr_size]; exact hs))
  rw [show (bstr s).data.toList = s from rfl] at HQ
  have HE := hid (eq_str (Ar.quote s))
  have hl : (bstr (Ar.quote s)).size ≤ 100000000 := by rw [bstr_size]; have := qk_len s s.length; unfold qk at this; rw [List.take_length] at this; unfold Ar.quote; simp only [List.length_append, List.length_cons, List.length_nil] at this ⊢; omega
  have hs1 : ¬ 9223372036854775807 < 1 + (bstr (Ar.quote s)).size := by omega
  rw [if_neg h, ← HE.out]
  clear hem
  generalize bstr s = S at *
  generalize bstr (Ar.quote s) = QS at *
  go_enter Tryz.func114, Tryz.ntmps114
  go_wp2_with fail
  refine (HQ.out _).mono ?_
  rintro e w2 ⟨rfl, hb2⟩
  have HB2 := hid hb2
  clear hb2
  go_wp2_with fail
  go_ret
  exact ⟨rfl, HB2.out⟩
theorem rlist_any (s : List UInt8) (w : World) (hs : s.length ≤ 100000000) : Calls Tryz.prog 116 #[.string (bstr s)] w fun e w' => e = .returned (.string (bstr (sgnT s))) ∧ w' = w := by
 have hem := bstr_empty s
 by_cases h : s = []
 ·have h1 : (bstr s).toList.isEmpty = true := by rw [hem, h]; rfl
  have hr : (bstr (sgnT s)) = (⟨#[]⟩ : ByteArray) := by unfold sgnT; rw [if_pos h]; rfl
  rw [hr]
  clear hem hr
  generalize bstr s = S at *
  go_enter Tryz.func116, Tryz.ntmps116
  go_wp2_with fail
  go_ret
  exact ⟨rfl, rfl⟩
 ·have h1 : (bstr s).toList.isEmpty = false := by rw [hem]; cases s with
   | nil => exact absurd rfl h
   | cons c r => rfl
  have HE := hid (eq_str s)
  have hl : (bstr s).size ≤ 100000000 := by rw [bstr_size]; exact hs
  have hs1 : ¬ 9223372036854775807 < 1 + (bstr s).size := by omega
  have hr : bstr (sgnT s) = (⟨#[61]⟩ : ByteArray) ++ bstr s := by unfold sgnT; rw [if_neg h, HE.out]
  rw [hr]
  clear hem hr
  generalize bstr s = S at *
  go_enter Tryz.func116, Tryz.ntmps116
  go_wp2_with fail
  go_ret
  exact ⟨rfl, rfl⟩
theorem rtruth_any (b : Bool) (w : World) : Calls Tryz.prog 115 #[.bool b] w fun e w' => e = .returned (.string (if b then ⟨#[32]⟩ else ⟨#[]⟩)) ∧ w' = w := by
 cases b
 all_goals
  go_enter Tryz.func115, Tryz.ntmps115
  go_wp2_with fail
  go_ret
  exact ⟨rfl, rfl⟩
end Go.Proofs.YteadlcncnhbmjaaGreatDoor
/- The text Bb0. -/
namespace Ar
def xval : FV → Str
 | .flg b => if b then [32] else []
 | v => if v.text = [] then [] else 61 :: v.text
theorem xval_other {v : FV} (h : isFlg v.kind = false) : xval v = if v.text = [] then [] else 61 :: v.text := by
 cases v <;> first | rfl | cases h
theorem xval_cases (nm : Str) (v : FV) (h0 : nm ≠ []) :
  (xval v = [] ∧ item nm v = []) ∨ (xval v = [32] ∧ item nm v = nm) ∨ (xval v ≠ [] ∧ xval v ≠ [32] ∧ item nm v = nm ++ xval v) := by
 by_cases hf : isFlg v.kind = true
 ·cases v with
  | flg b => cases b with
   | false => exact .inl ⟨rfl, rfl⟩
   | true => exact .inr (.inl ⟨rfl, rfl⟩)
  | _ => cases hf
 ·have hf' : isFlg v.kind = false := by simpa using hf
  rw [xval_other hf', item_other nm hf']
  by_cases ht : v.text = []
  ·rw [if_pos ht, if_pos ht]; exact .inl ⟨rfl, rfl⟩
  ·rw [if_neg ht, if_neg ht]
   refine .inr (.inr ⟨by simp, fun e => ?_, rfl⟩)
   injection e with e1 e2
   exact absurd e1 (by decide)
theorem xval_len (v : FV) (h : v.text.length ≤ 100000000) : (xval v).length ≤ 100000001 := by
 by_cases hf : isFlg v.kind = true
 ·cases v with
  | flg b => cases b <;> decide
  | _ => cases hf
 ·rw [xval_other (by simpa using hf)]
  split
  ·exact Nat.zero_le _
  ·simp only [List.length_cons]; omega
def lineK (e : List FV) (k : Nat) : Str := join [32] (itemsK e k)
theorem lineK_zero (e : List FV) : lineK e 0 = [] := by unfold lineK itemsK; rw [List.take_zero]; rfl
theorem lineK_all (e : List FV) (h : e.length = 29) : lineK e 29 = line e := by unfold lineK; rw [itemsK_all e h]; rfl
theorem itemsK_ne (e : List FV) (k : Nat) : ∀ x ∈ itemsK e k, x ≠ [] := by
 intro x hx
 unfold itemsK at hx
 have := (List.mem_filter.1 hx).2
 simpa using this
theorem join_ne {sep : Str} {l : List Str} (h : ∀ x ∈ l, x ≠ []) (hl : l ≠ []) : join sep l ≠ [] := by
 cases l with
 | nil => exact absurd rfl hl
 | cons x r =>
  have hx := h x (by simp)
  cases r with
  | nil => exact hx
  | cons y r => show x ++ sep ++ join sep (y :: r) ≠ []; simp [hx]
theorem lineK_skip {e : List FV} {k : Nat} {nk : Str × FK} {v : FV} (h1 : NK[k]? = some nk) (h2 : e[k]? = some v) (h : item nk.1 v = []) : lineK e (k + 1) = lineK e k := by
 unfold lineK
 rw [itemsK_next e k nk v h1 h2, if_pos h]
theorem lineK_add {e : List FV} {k : Nat} {nk : Str × FK} {v : FV} (h1 : NK[k]? = some nk) (h2 : e[k]? = some v) (h : item nk.1 v ≠ []) : lineK e (k + 1) = if lineK e k = [] then item nk.1 v else lineK e k ++ [32] ++ item nk.1 v := by
 unfold lineK
 rw [itemsK_next e k nk v h1 h2, if_neg h]
 by_cases h3 : itemsK e k = []
 ·rw [h3]; rfl
 ·rw [join_snocB _ _ _ h3, if_neg (join_ne (itemsK_ne e k) h3)]
theorem lineK_len (e : List FV) (k : Nat) (h : e.length = 29) : (lineK e k).length ≤ (line e).length := by
 rw [← lineK_all e h]
 by_cases hk : k ≤ 29
 ·have e1 : itemsK e 29 = itemsK e k ++ (((List.zipWith (fun nk v => item nk.1 v) NK e).take 29).drop k).filter (fun x => decide (x ≠ [])) := by
   unfold itemsK
   rw [← List.filter_append]
   congr 1
   rw [show (List.zipWith (fun nk v => item nk.1 v) NK e).take k = ((List.zipWith (fun nk v => item nk.1 v) NK e).take 29).take k from by rw [List.take_take, Nat.min_eq_left hk], List.take_append_drop]
  unfold lineK
  rw [e1]
  exact join_pre _ _ _
 ·have e1 : itemsK e k = itemsK e 29 := by
   unfold itemsK
   rw [List.take_of_length_le (by rw [List.length_zipWith, h]; exact Nat.le_trans (by decide : min NK.length 29 ≤ 29) (by omega)), List.take_of_length_le (by rw [List.length_zipWith, h]; exact (by decide : min NK.length 29 ≤ 29))]
  unfold lineK
  rw [e1]
  exact Nat.le_refl _
end Ar
